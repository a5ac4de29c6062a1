/- Table: copies whose cells are not frozen, and marks on them. -/
import Derived.Test.YtlmiadeaiiehaaaSTable
import Derived.Test.YtlmiadeaiiehaaaFromU
namespace Go.Proofs.Ytlmiadeaiiehaaa
open Go Go.RowKit

theorem rdV_sc : ∀ m c x, rdV m c x → rdSc V 2 m c x := fun _ _ _ h j hj => by
  obtain ⟨h0, h1⟩ := h
  rcases (by omega : j = 0 ∨ j = 1) with rfl | rfl
  · exact ⟨_, h0, trivial⟩
  · exact ⟨_, h1, trivial⟩
def rdRowSc : Rd (List V) := rdSlice (rdSc V 2) 2
theorem rdRow_sc : ∀ m c x, rdRow m c x → rdRowSc m c x := fun _ _ _ h => by
  obtain ⟨B, c, h0, h1, h2⟩ := h
  exact ⟨B, c, h0, h1.sc rdV_sc, h2⟩
theorem RdSl.rowsSc {m : Mv} {A : Option Addr} {rows : List (List V)} (h : RdSl rdRow m 1 A rows) : RdSl rdRowSc m 1 A rows := fun hne => by
  obtain ⟨b, o, hA, hc⟩ := h hne
  exact ⟨b, o, hA, fun i hi => rdRow_sc _ _ _ (hc i hi)⟩
theorem KI.rows {lo hi : Nat} {w w' : World} (hk : KI lo hi w w') {A : Option Addr} {rows : List (List V)} (h : RdSl rdRowSc (inU w lo hi) 1 A rows) : RdSl rdRowSc (inU w' lo hi) 1 A rows := fun hne => by
  obtain ⟨b, o, hA, hc⟩ := h hne
  refine ⟨b, o, hA, fun i hi => ?_⟩
  obtain ⟨B, c, h0, h1, h2⟩ := hc i hi
  refine ⟨B, c, ?_, hk.sc h1, h2⟩
  rcases hk _ _ h0 with h3 | ⟨hs, _⟩
  · exact h3
  · cases hs
theorem RdSl.rowSc {lo hi : Nat} {w : World} {A : Option Addr} {rows : List (List V)} (h : RdSl rdRowSc (inU w lo hi) 1 A rows) {k : Nat} (hk : k < rows.length) :
    ∃ b o B c, A = some ⟨b, o, none⟩ ∧ w.cell? ⟨b, o + k, none⟩ = some (.slice B rows[k].length c) ∧ RdSl (rdSc V 2) (inU w lo hi) 2 B rows[k] := by
  obtain ⟨b, o, hA, B, c, h0, h1, _⟩ := h.at_ hk
  exact ⟨b, o, B, c, hA, by have := inU_cell _ _ h0; simpa using this, h1⟩
def totR (rows : List (List V)) : Nat := (rows.map List.length).sum
theorem totR_take {rows : List (List V)} {k : Nat} (hk : k < rows.length) : totR (rows.take (k + 1)) = totR (rows.take k) + rows[k].length := by
  unfold totR
  rw [List.take_succ_eq_append_getElem hk, List.map_append, List.sum_append]
  simp
theorem totR_take_le {rows : List (List V)} {k : Nat} : totR (rows.take k) ≤ totR rows := by
  conv => rhs; rw [← List.take_append_drop k rows]
  unfold totR
  rw [List.map_append, List.sum_append]
  omega
theorem szL_tot : ∀ (rows : List (List V)) (left : Int), 0 ≤ left → (szL left rows = -1 ∨ (totR rows : Int) ≤ left)
  | [], left, h => .inr (by simpa [totR] using h)
  | r :: s, left, h => by
    unfold szL
    by_cases hl : left < (r.length : Int)
    · left; rw [if_pos hl]
    · rw [if_neg hl]
      rcases szL_tot s (left - r.length) (by omega) with h1 | h1
      · exact .inl h1
      · right
        have : totR (r :: s) = r.length + totR s := by simp [totR]
        rw [this]; omega
theorem szT_ways {rows : List (List V)} {left : Int} (h0 : 0 ≤ left) (h1 : left ≤ 1048576) : szSS left rows = -1 ∨ (0 ≤ szSS left rows ∧ szSS left rows ≤ 1048576 ∧ SmallR rows ∧ totR rows ≤ 1048576) := by
  rcases szSS_facts (rows := rows) h0 h1 with h | ⟨h2, h3, h4⟩
  · exact .inl h
  · by_cases hl : left < (rows.length : Int)
    · left; unfold szSS; rw [if_pos hl]
    · rcases szL_tot rows (left - rows.length) (by omega) with h5 | h5
      · left; unfold szSS; rw [if_neg hl]; exact h5
      · exact .inr ⟨h2, by omega, h4, by omega⟩
theorem toVSU (A : Option Addr) (cap : Nat) (xs : List V) (w : World) (hx : RdSl rdV w.cell? 2 A xs) (hl : xs.length ≤ 1048576) :
    Calls Try.prog 52 #[.slice A xs.length cap] w fun e w' => ∃ g, e = .returned (.slice (some ⟨g, 0, none⟩) xs.length xs.length) ∧ RdSl rdV (fromU w' w.heap.size) 2 (some ⟨g, 0, none⟩) xs ∧ Fr w w' :=
  (toVS A cap xs w hx hl).mono fun _ _ ⟨g, _, h1, h2, hB, _, h5, h6⟩ => ⟨g, h1, h5.toU rdV_flat hB h2, h6⟩
set_option maxRecDepth 100000 in
theorem toVSSU (A : Option Addr) (cap : Nat) (rows : List (List V)) (w : World) (hx : RdSl rdRow w.cell? 1 A rows) (hl : SmallR rows) :
    Calls Try.prog 27 #[.slice A rows.length cap] w fun e w' => ∃ g, e = .returned (.slice (some ⟨g, 0, none⟩) rows.length rows.length) ∧ RdSl rdRow (fromU w' w.heap.size) 1 (some ⟨g, 0, none⟩) rows ∧ Fr w w' := by
  have H := hid hx
  have HL := hid hl
  have hl := hl.1
  clear hx
  have hmk := mk_row (P := Try.prog) 30 61 (.slice none 0 0) 1 24 Try.underlying30 (by kernel_rfl) rows.length (by omega) (by omega)
  go_enter Try.func27, Try.ntmps27
  go_wp2
  go_loopw [4] (fun t wr => ∃ (k : Nat) (cs : Array Value), k ≤ rows.length ∧ t = .int .i64 k ∧ Fr w wr ∧ Blk wr w.heap.size 61 cs ∧ cs.size = rows.length ∧
      Hid (∀ i (h : i < rows.length), i < k → ∃ g, cs[i]? = some (.slice (some ⟨g, 0, none⟩) rows[i].length rows[i].length) ∧ RdSl rdV (fromU wr (w.heap.size + 1)) 2 (some ⟨g, 0, none⟩) rows[i])) (fun t _ => rows.length - (intOf t).toNat)
  case atStart => exact ⟨0, _, by omega, rfl, by (repeat (first | with_reducible exact Fr.refl _ | with_reducible assumption | with_reducible refine Fr.alloc ?_ _ | with_reducible refine Fr.drew ?_ | with_reducible refine Fr.drewN ?_ _ | (with_reducible refine Fr.setNew2 ?_ ?_ _; · (simp <;> omega)) | with_reducible refine Fr.trans ?_ (by assumption))), Blk.new _ _ _, by simp [made_size], hid fun i h h' => absurd h' (by omega)⟩
  case round =>
    obtain ⟨k, cs, hk, rfl, hf, hB, hz, HV⟩ := hrel
    have HZ := hid hz
    clear hz
    by_cases hlt : k < rows.length
    · obtain ⟨b, o, B, c, hA, c0, r0, m0, _⟩ := H.out.row hlt
      subst hA
      replace c0 := hf.cell c0
      have R0 := hid (r0.fr rdV_mono hf)
      clear r0
      have hs := hB.lt
      go_wp2_with fail
      refine (toVSU _ _ _ _ R0.out (HL.out.2 k hlt)).mono ?_
      rintro e w1 ⟨g, rfl, x1, b1⟩
      have X1 := hid x1
      clear x1
      have hB1 := hB.fr b1
      obtain ⟨u0, d0⟩ := hB1.cell_some (i := k) (by have := HZ.out; omega)
      have f0 := hB1.frozen k
      go_wp2
      go_roundw
      case rel =>
        have C1 : Ch (· = w.heap.size) w1 (w1.setCell ⟨w.heap.size, k, none⟩ (.slice (some ⟨g, 0, none⟩) rows[k].length rows[k].length)) := Ch.set (S := (· = w.heap.size)) (Ch.refl w1) (.inl rfl) _
        refine ⟨k + 1, _, by omega, by go_num, (hf.trans b1).setNew (Nat.le_refl _) _, hB1.set_ _ _, by simpa using HZ.out, hid fun i h hi => ?_⟩
        have hz := HZ.out
        by_cases e : i = k
        · subst e
          refine ⟨g, by rw [Array.getElem?_setIfInBounds, if_pos rfl, if_pos (by omega)], (X1.out.mono rdV_mono (fromU_lo (by omega))).mono rdV_mono (C1.mle_u (fun k hk => by omega))⟩
        · obtain ⟨g', h1, h2⟩ := HV.out i h (by omega)
          refine ⟨g', by rw [Array.getElem?_setIfInBounds, if_neg (by omega)]; exact h1, h2.mono rdV_mono ((b1.mle_u _).trans (C1.mle_u (fun k hk => by omega)))⟩
      case measure => simp [intOf]; omega
    · obtain rfl : k = rows.length := by omega
      go_wp2
      go_ret
      refine ⟨_, rfl, fun hne => ⟨_, 0, rfl, fun i h => ?_⟩, hf⟩
      obtain ⟨g, h1, h2⟩ := HV.out i h h
      refine ⟨_, _, ?_, h2.mono rdV_mono (fromU_lo (by omega)), by have := HL.out.2 i h; unfold maxLen; omega, Nat.le_refl _⟩
      have := hB.u (lo := w.heap.size) (Nat.le_refl _) i
      simp only [Nat.mul_one, Nat.zero_add, Nat.add_zero]
      rw [this]
      exact h1
set_option maxHeartbeats 1000000 in
theorem toTableU (wd : Int) (A0 : Option Addr) (c0 : Nat) (rows : List (List V)) (w : World) (hx0 : RdSl rdRow w.cell? 1 A0 rows) (hl0 : SmallR rows) :
    Calls Try.prog 7 #[.agg #[.int .i64 wd, .slice A0 rows.length c0]] w fun e w' => ∃ g0, e = .returned (.agg #[.int .i64 wd, .slice (some ⟨g0, 0, none⟩) rows.length rows.length]) ∧ RdSl rdRow (fromU w' w.heap.size) 1 (some ⟨g0, 0, none⟩) rows ∧ Fr w w' := by
  have HX0 := hid hx0
  clear hx0
  go_enter Try.func7, Try.ntmps7
  go_wp2_with fail
  refine absW fun W0 hW0 => ?_
  have BR0 : Blk W0 (w.heap.size + 1) 32 #[.int .i64 0, .slice none 0 0] := by
    have := Blk.new (w.alloc (.cells #[.int .i64 wd, .slice A0 rows.length c0] 24)) 32 #[.int .i64 0, .slice none 0 0]
    rw [World.size_alloc] at this
    rw [hW0]; exact this.alloc _
  have BL0 : Blk W0 (w.heap.size + 2) 32 #[.int .i64 wd, .slice none 0 0] := by
    have := Blk.new ((w.alloc (.cells #[.int .i64 wd, .slice A0 rows.length c0] 24)).alloc (.cells #[.int .i64 0, .slice none 0 0] 32)) 32 #[.int .i64 wd, .slice none 0 0]
    rw [World.size_alloc, World.size_alloc] at this
    rw [hW0]; exact this
  have F0 : Fr w W0 := by rw [hW0]; (repeat (first | with_reducible exact Fr.refl _ | with_reducible assumption | with_reducible refine Fr.alloc ?_ _ | with_reducible refine Fr.drew ?_ | with_reducible refine Fr.drewN ?_ _ | (with_reducible refine Fr.setNew2 ?_ ?_ _; · (simp <;> omega)) | with_reducible refine Fr.trans ?_ (by assumption)))
  clear hW0
  have s0 := BL0.lt
  refine (toVSSU _ _ _ _ (HX0.out.fr rdRow_mono F0) hl0).mono ?_
  rintro e w0 ⟨g0, rfl, x0, b0⟩
  have X0 := hid x0; clear x0
  obtain ⟨p0, p1, f0, f1⟩ := (BL0.fr b0).pair
  obtain ⟨d0, d1, e0, e1⟩ := (BR0.fr b0).pair
  go_wp2
  have RR := ((((BR0.fr b0).far (p := ⟨w.heap.size + 1 + 1, 1, none⟩) (by simp) (.slice (some ⟨g0, 0, none⟩) rows.length rows.length)).set_ 0 (.int .i64 wd)).set_ 1 (.slice (some ⟨g0, 0, none⟩) rows.length rows.length)).pair
  have s1 : w.heap.size + 2 < w0.heap.size := (BL0.fr b0).lt
  have sb0 := b0.size
  have C : Ch (fun k => k = w.heap.size + 1 ∨ k = w.heap.size + 2) w0 (((w0.setCell ⟨w.heap.size + 1 + 1, 1, none⟩ (.slice (some ⟨g0, 0, none⟩) rows.length rows.length)).setCell ⟨w.heap.size + 1, 0, none⟩ (.int .i64 wd)).setCell ⟨w.heap.size + 1, 1, none⟩ (.slice (some ⟨g0, 0, none⟩) rows.length rows.length)) := Ch.set (Ch.set (Ch.set (Ch.refl _) (.inl (.inr rfl)) _) (.inl (.inl rfl)) _) (.inl (.inl rfl)) _
  have L0 := C.mle_u (lo := W0.heap.size) (fun k hk => by omega)
  refine bodyPost_ret (v := .agg #[.int .i64 wd, .slice (some ⟨g0, 0, none⟩) rows.length rows.length]) ?_ rfl ⟨g0, rfl, (X0.out.mono rdRow_mono L0).mono rdRow_mono (fromU_lo (by omega)), C.fr (fun k hk => by omega) (F0.trans b0)⟩
  obtain ⟨r0, r1, _⟩ := RR
  simp [results, Try.results7, go_sem, r0, r1]
set_option maxRecDepth 100000 in
set_option maxHeartbeats 1000000 in
theorem markVSU (A : Option Addr) (cap : Nat) (xs : List V) (k lo hi : Nat) (w : World) (hx : RdSl (rdSc V 2) (inU w lo hi) 2 A xs) (hl : xs.length ≤ 1048576) (hk : k ≤ 1099511627776) :
    Calls Try.prog 57 #[.slice A xs.length cap, .int .i64 k] w fun e w' => e = .returned (.int .i64 ((k + xs.length * 2 : Nat) : Int)) ∧ Ch (Inn lo hi) w w' ∧ KI lo hi w w' := by
  have HX := hid hx
  clear hx
  go_enter Try.func57, Try.ntmps57
  go_wp2
  go_loopw [1, 5] (fun kv iv wr => ∃ (i : Nat), i ≤ xs.length ∧ iv = .int .i64 i ∧ kv = .int .i64 ((k + i * 2 : Nat) : Int) ∧ Ch (Inn lo hi) w wr ∧ KI lo hi w wr) (fun _ iv _ => xs.length - (intOf iv).toNat)
  case atStart => exact ⟨0, by omega, rfl, by simp, Ch.refl _, KI.refl _⟩
  case round =>
    obtain ⟨i, hi', rfl, rfl, hC, hK⟩ := hrel
    by_cases hlt : i < xs.length
    · obtain ⟨b, o, hA, hc⟩ := (hK.sc HX.out).sc_at hlt
      subst hA
      obtain ⟨u0, s0, j0⟩ := hc 0 (by omega)
      obtain ⟨u1, s1, j1⟩ := hc 1 (by omega)
      simp only [Nat.add_zero] at j0 j1
      have c0 := inU_cell _ _ j0
      have f0 := (inU_some j0).2.2.1
      have c1 := inU_cell _ _ j1
      have f1 := (inU_some j1).2.2.1
      clear hc
      go_wp2
      go_roundw
      case rel => exact ⟨i + 1, by omega, by go_num, by go_num, ((hC.set (p := ⟨b, o + i * 2, none⟩) (.inl (inn j0)) _).set (p := ⟨b, o + i * 2 + 1, none⟩) (.inl (inn j1)) _), ((hK.set j0 s0 (by exact trivial)).set ((inU_far (by simp)).trans j1) s1 (by exact trivial))⟩
      case measure => simp [intOf]; omega
    · obtain rfl : i = xs.length := by omega
      go_wp2
      go_ret
      exact ⟨rfl, hC, hK⟩
set_option maxRecDepth 100000 in
set_option maxHeartbeats 1000000 in
theorem markVSSU (A : Option Addr) (cap : Nat) (rows : List (List V)) (k lo hi : Nat) (w : World) (hx : RdSl rdRowSc (inU w lo hi) 1 A rows) (hl : SmallR rows) (ht : totR rows ≤ 1048576) (hk : k ≤ 1000000000) :
    Calls Try.prog 30 #[.slice A rows.length cap, .int .i64 k] w fun e w' => e = .returned (.int .i64 ((k + totR rows * 2 : Nat) : Int)) ∧ Ch (Inn lo hi) w w' ∧ KI lo hi w w' := by
  have HX := hid hx
  have HL := hid hl
  have hl := hl.1
  clear hx
  go_enter Try.func30, Try.ntmps30
  go_wp2
  go_loopw [1, 5] (fun kv iv wr => ∃ (i K : Nat), i ≤ rows.length ∧ iv = .int .i64 i ∧ kv = .int .i64 (K : Int) ∧ Hid (K = k + totR (rows.take i) * 2) ∧ Ch (Inn lo hi) w wr ∧ KI lo hi w wr) (fun _ iv _ => rows.length - (intOf iv).toNat)
  case atStart => exact ⟨0, k, by omega, rfl, rfl, hid (by simp [totR]), Ch.refl _, KI.refl _⟩
  case round =>
    obtain ⟨i, K, hi', rfl, rfl, HK, hC, hK⟩ := hrel
    have hKb : K ≤ 1010000000 := by have := HK.out; have := totR_take_le (rows := rows) (k := i); omega
    by_cases hlt : i < rows.length
    · obtain ⟨b, o, B, c, hA, c0, r0⟩ := (hK.rows HX.out).rowSc hlt
      subst hA
      have R0 := hid r0
      have hln := HL.out.2 i hlt
      clear r0
      obtain ⟨r, er⟩ : ∃ r, rows[i] = r := ⟨_, rfl⟩
      have ER := hid er
      rw [er] at c0 R0 hln
      clear er
      go_wp2_with fail
      refine (markVSU B c r K lo hi _ R0.out hln (by omega)).mono ?_
      rintro e w1 ⟨rfl, C1, K1⟩
      have HK2 := hid (show K + r.length * 2 = k + totR (rows.take (i + 1)) * 2 by rw [totR_take hlt, HK.out, ER.out]; omega)
      have C2 := hid (hC.trans C1)
      have K2 := hid (hK.trans K1)
      clear hC hK C1 K1 R0 c0
      obtain ⟨K', eK⟩ : ∃ K', K + r.length * 2 = K' := ⟨_, rfl⟩
      rw [eK] at HK2 ⊢
      clear eK
      go_wp2
      go_roundw
      case rel => exact ⟨i + 1, K', by omega, by go_num, rfl, HK2, C2.out, K2.out⟩
      case measure => simp [intOf]; omega
    · obtain rfl : i = rows.length := by omega
      have e := HK.out
      rw [List.take_length] at e
      have E := hid e
      clear e HK
      go_wp2
      go_ret
      rw [← E.out]
      exact ⟨rfl, hC, hK⟩
set_option maxHeartbeats 1000000 in
theorem markTableU (wd : Int) (A0 : Option Addr) (c0 : Nat) (rows : List (List V)) (k lo hi : Nat) (w : World) (hx : RdSl rdRowSc (inU w lo hi) 1 A0 rows) (hl : SmallR rows) (ht : totR rows ≤ 1048576) (hk : k ≤ 1000000000) :
    Calls Try.prog 11 #[.agg #[.int .i64 wd, .slice A0 rows.length c0], .int .i64 k] w fun e w' => e = .returned (.int .i64 ((k + totR rows * 2 : Nat) : Int)) ∧ Ch (Inn lo hi) w w' ∧ KI lo hi w w' := by
  have HX := hid hx
  clear hx
  have F1 : Fr w (w.alloc (.cells #[.int .i64 wd, .slice A0 rows.length c0] 32)) := (Fr.refl _).alloc _
  go_enter Try.func11, Try.ntmps11
  go_wp2_with fail
  refine (markVSSU _ _ rows k lo hi _ (F1.ki.rows HX.out) hl ht hk).mono ?_
  rintro r w2 ⟨rfl, C2, K2⟩
  obtain ⟨K, eK⟩ : ∃ K, k + totR rows * 2 = K := ⟨_, rfl⟩
  have EK := hid eK
  rw [eK]
  clear eK
  go_wp2
  go_ret
  rw [EK.out]
  exact ⟨rfl, F1.ch.trans C2, F1.ki.trans K2⟩
end Go.Proofs.Ytlmiadeaiiehaaa
