/- Lists of rows ([][]Value): reading, size, copy, comparison. -/
import Derived.Test.YtlmiadeaiiehaaaTValue
import Derived.Test.YtlmiadeaiiehaaaMemQ
import Derived.Test.YtlmiadeaiiehaaaMem
namespace Go.Proofs.Ytlmiadeaiiehaaa
open Go Go.RowKit

abbrev rdRow : Rd (List V) := rdSlice rdV 2
theorem rdRow_mono : RdMono rdRow := rdSlice_mono rdV_mono
def SmallR (rows : List (List V)) : Prop := rows.length ≤ 1048576 ∧ ∀ i (h : i < rows.length), rows[i].length ≤ 1048576
theorem RdSl.row {m : Mv} {A : Option Addr} {rows : List (List V)} (h : RdSl rdRow m 1 A rows) {k : Nat} (hk : k < rows.length) :
    ∃ b o B c, A = some ⟨b, o, none⟩ ∧ m ⟨b, o + k, none⟩ = some (.slice B rows[k].length c) ∧ RdSl rdV m 2 B rows[k] ∧ rows[k].length ≤ maxLen ∧ rows[k].length ≤ c := by
  obtain ⟨b, o, hA, B, c, h0, h1, h2, h3⟩ := h.at_ hk
  exact ⟨b, o, B, c, hA, by simpa using h0, h1, h2, h3⟩

def szL (left : Int) : List (List V) → Int
  | [] => left
  | r :: s => if left < (r.length : Int) then -1 else szL (left - r.length) s
def szSS (left : Int) (rows : List (List V)) : Int := if left < (rows.length : Int) then -1 else szL (left - rows.length) rows
theorem szL_at {rows : List (List V)} {k : Nat} (hk : k < rows.length) (left : Int) : szL left (rows.drop k) = if left < (rows[k].length : Int) then -1 else szL (left - rows[k].length) (rows.drop (k + 1)) := by
  rw [List.drop_eq_getElem_cons hk]; rfl
theorem szL_facts : ∀ (rows : List (List V)) (left : Int), 0 ≤ left → (szL left rows = -1 ∨ (0 ≤ szL left rows ∧ szL left rows ≤ left ∧ ∀ r ∈ rows, (r.length : Int) ≤ left))
  | [], left, h => .inr ⟨h, Int.le_refl _, fun r hr => by simp at hr⟩
  | r :: s, left, h => by
    unfold szL
    by_cases hl : left < (r.length : Int)
    · left; rw [if_pos hl]
    · rw [if_neg hl]
      rcases szL_facts s (left - r.length) (by omega) with h1 | ⟨h1, h2, h3⟩
      · exact .inl h1
      · refine .inr ⟨h1, by omega, fun x hx => ?_⟩
        rcases List.mem_cons.1 hx with rfl | hx
        · omega
        · have := h3 x hx; omega
theorem szSS_facts {rows : List (List V)} {left : Int} (h0 : 0 ≤ left) (h1 : left ≤ 1048576) : szSS left rows = -1 ∨ (0 ≤ szSS left rows ∧ szSS left rows ≤ left ∧ SmallR rows) := by
  unfold szSS
  by_cases hl : left < (rows.length : Int)
  · left; rw [if_pos hl]
  · rw [if_neg hl]
    rcases szL_facts rows (left - rows.length) (by omega) with h | ⟨h2, h3, h4⟩
    · exact .inl h
    · exact .inr ⟨h2, by omega, by omega, fun i hi => by have := h4 _ (List.getElem_mem hi); omega⟩

set_option maxRecDepth 100000 in
theorem szVSS (A : Option Addr) (cap : Nat) (rows : List (List V)) (left : Int) (w : World) (hx : RdSl rdRow w.cell? 1 A rows) (hn : rows.length ≤ maxLen) (h0 : 0 ≤ left) (h1 : left ≤ 1048576) :
    Calls Try.prog 24 #[.slice A rows.length cap, .int .i64 left] w fun e w' => e = .returned (.int .i64 (szSS left rows)) ∧ w = w' := by
  have HX := hid hx
  clear hx
  unfold maxLen at hn
  by_cases hl : left < (rows.length : Int)
  · have R := hid (show szSS left rows = -1 from if_pos hl)
    go_enter Try.func24, Try.ntmps24
    go_wp2
    go_ret
    exact ⟨ret_int R.out.symm, rfl⟩
  · have R := hid (show szSS left rows = szL (left - rows.length) rows from if_neg hl)
    have d0 : decide (left - (rows.length : Int) < 0) = false := by simp; omega
    go_enter Try.func24, Try.ntmps24
    go_wp2
    clear d0
    go_loopw [1, 5] (fun l t wr => ∃ (k : Nat) (L : Int), k ≤ rows.length ∧ t = .int .i64 k ∧ l = .int .i64 L ∧ 0 ≤ L ∧ L ≤ 1048576 ∧ w = wr ∧ Hid (szSS left rows = szL L (rows.drop k))) (fun _ t _ => rows.length - (intOf t).toNat)
    case atStart => exact ⟨0, _, by omega, rfl, rfl, by omega, by omega, rfl, R⟩
    case round =>
      obtain ⟨k, L, hk, rfl, rfl, l0, l1, rfl, hv⟩ := hrel
      by_cases hlt : k < rows.length
      · obtain ⟨b, o, B, c, hA, c0, r0, m0, _⟩ := HX.out.row hlt
        subst hA
        have hv' := hid (hv.out.trans (szL_at hlt L))
        have M0 := hid m0
        unfold maxLen at m0
        clear r0
        by_cases hq : L < (rows[k].length : Int)
        · have e1 : (if L < (rows[k].length : Int) then (-1 : Int) else L - rows[k].length) = -1 := by rw [if_pos hq]
          have R1 := hid (show szSS left rows = -1 by rw [hv'.out, if_pos hq])
          go_wp2_with fail
          refine (szVS _ _ _ _ _ M0.out l0 l1).mono ?_
          rintro e w' ⟨rfl, rfl⟩
          rw [e1]
          go_wp2
          go_ret
          exact ⟨ret_int R1.out.symm, rfl⟩
        · have e1 : (if L < (rows[k].length : Int) then (-1 : Int) else L - rows[k].length) = L - rows[k].length := by rw [if_neg hq]
          have d0 : decide (L - (rows[k].length : Int) < 0) = false := by simp; omega
          have R1 := hid (show szSS left rows = szL (L - rows[k].length) (rows.drop (k + 1)) by rw [hv'.out, if_neg hq])
          go_wp2_with fail
          refine (szVS _ _ _ _ _ M0.out l0 l1).mono ?_
          rintro e w' ⟨rfl, rfl⟩
          rw [e1]
          go_wp2
          go_roundw
          case rel => exact ⟨k + 1, _, by omega, by go_num, rfl, by omega, by omega, trivial, R1⟩
          case measure => simp [intOf]; omega
      · have R1 := hid (show szSS left rows = L by rw [hv.out, List.drop_eq_nil_of_le (by omega)]; rfl)
        go_wp2
        go_ret
        exact ⟨ret_int R1.out.symm, rfl⟩
set_option maxRecDepth 100000 in
theorem toVSSB (A : Option Addr) (cap : Nat) (rows : List (List V)) (w : World) (hx : RdSl rdRow w.cell? 1 A rows) (hl : SmallR rows) :
    Calls Try.prog 27 #[.slice A rows.length cap] w fun e w' => ∃ g, e = .returned (.slice (some ⟨g, 0, none⟩) rows.length rows.length) ∧ RdSl rdRow (fromB w' w.heap.size) 1 (some ⟨g, 0, none⟩) rows ∧ Fr w w' := by
  have H := hid hx
  have HL := hid hl
  have hl := hl.1
  clear hx
  have hmk := mk_row (P := Try.prog) 30 61 (.slice none 0 0) 1 24 Try.underlying30 (by kernel_rfl) rows.length (by omega) (by omega)
  go_enter Try.func27, Try.ntmps27
  go_wp2
  go_loopw [4] (fun t wr => ∃ (k : Nat) (cs : Array Value), k ≤ rows.length ∧ t = .int .i64 k ∧ Fr w wr ∧ Blk wr w.heap.size 61 cs ∧ cs.size = rows.length ∧
      Hid (∀ i (h : i < rows.length), i < k → ∃ g, cs[i]? = some (.slice (some ⟨g, 0, none⟩) rows[i].length rows[i].length) ∧ RdSl rdV (fromB wr (w.heap.size + 1)) 2 (some ⟨g, 0, none⟩) rows[i])) (fun t _ => rows.length - (intOf t).toNat)
  case atStart => exact ⟨0, _, by omega, rfl, by (repeat (first | with_reducible exact Fr.refl _ | with_reducible assumption | with_reducible refine Fr.alloc ?_ _ | with_reducible refine Fr.drew ?_ | with_reducible refine Fr.drewN ?_ _ | (with_reducible refine Fr.setNew2 ?_ ?_ _; · (simp <;> omega)) | with_reducible refine Fr.trans ?_ (by assumption))), Blk.new _ _ _, by simp [made_size], hid fun i h h' => absurd h' (by omega)⟩
  case round =>
    obtain ⟨k, cs, hk, rfl, hf, hB, hz, HV⟩ := hrel
    have HZ := hid hz
    clear hz
    by_cases hlt : k < rows.length
    · obtain ⟨b, o, B, c, hA, c0, r0, m0, _⟩ := H.out.row hlt
      subst hA
      replace c0 := hf.cell c0
      have R0 := hid (r0.fr rdV_mono hf)
      clear r0
      have hs := hB.lt
      go_wp2_with fail
      refine (toVSB _ _ _ _ R0.out (HL.out.2 k hlt)).mono ?_
      rintro e w1 ⟨g, rfl, x1, b1⟩
      have X1 := hid x1
      clear x1
      have hB1 := hB.fr b1
      obtain ⟨u0, d0⟩ := hB1.cell_some (i := k) (by have := HZ.out; omega)
      have f0 := hB1.frozen k
      go_wp2
      go_roundw
      case rel =>
        have C1 : Ch (· = w.heap.size) w1 (w1.setCell ⟨w.heap.size, k, none⟩ (.slice (some ⟨g, 0, none⟩) rows[k].length rows[k].length)) := Ch.set (S := (· = w.heap.size)) (Ch.refl w1) (.inl rfl) _
        refine ⟨k + 1, _, by omega, by go_num, (hf.trans b1).setNew (Nat.le_refl _) _, hB1.set_ _ _, by simpa using HZ.out, hid fun i h hi => ?_⟩
        have hz := HZ.out
        by_cases e : i = k
        · subst e
          refine ⟨g, by rw [Array.getElem?_setIfInBounds, if_pos rfl, if_pos (by omega)], X1.out.mono rdV_mono ((C1.mle_from (fun k hk => by omega)).trans (fromB_lo (by omega)))⟩
        · obtain ⟨g', h1, h2⟩ := HV.out i h (by omega)
          refine ⟨g', by rw [Array.getElem?_setIfInBounds, if_neg (by omega)]; exact h1, h2.mono rdV_mono ((b1.mle_from _).trans (C1.mle_from (fun k hk => by omega)))⟩
      case measure => simp [intOf]; omega
    · obtain rfl : k = rows.length := by omega
      go_wp2
      go_ret
      refine ⟨_, rfl, fun hne => ⟨_, 0, rfl, fun i h => ?_⟩, hf⟩
      obtain ⟨g, h1, h2⟩ := HV.out i h h
      refine ⟨_, _, ?_, h2.mono rdV_mono (fromB_lo (by omega)), by have := HL.out.2 i h; unfold maxLen; omega, Nat.le_refl _⟩
      show (if w.heap.size ≤ w.heap.size then _ else none) = _
      rw [if_pos (Nat.le_refl _)]
      simp only [Nat.mul_one, Nat.zero_add, Nat.add_zero, hB.cell]
      exact h1
set_option maxRecDepth 100000 in
set_option maxHeartbeats 1000000 in
theorem eqVSS (A A' : Option Addr) (cap cap' : Nat) (xs ys : List (List V)) (w : World) (hx : RdSl rdRow w.cell? 1 A xs) (hy : RdSl rdRow w.cell? 1 A' ys) (hl : SmallR xs) (hl' : SmallR ys) :
    Calls Try.prog 29 #[.slice A xs.length cap, .slice A' ys.length cap'] w fun e w' => e = .returned (.bool (decide (xs = ys))) ∧ Fr w w' := by
  have HX := hid hx
  have HY := hid hy
  have SX := hid hl
  have SY := hid hl'
  have hl := hl.1
  have hl' := hl'.1
  clear hx hy
  by_cases hlen : xs.length = ys.length
  · have HL := hid hlen
    have e1 : (((xs.length : Int)) != ((ys.length : Int))) = false := by simp [hlen]
    clear hlen
    go_enter Try.func29, Try.ntmps29
    go_wp2
    go_loopw [5] (fun t wr => ∃ (k : Nat), k ≤ xs.length ∧ t = .int .i64 k ∧ Fr w wr ∧ ∀ i (h : i < xs.length) (h' : i < ys.length), i < k → xs[i] = ys[i]) (fun t _ => xs.length - (intOf t).toNat)
    case atStart => exact ⟨0, by omega, rfl, by (repeat (first | with_reducible exact Fr.refl _ | with_reducible assumption | with_reducible refine Fr.alloc ?_ _ | with_reducible refine Fr.drew ?_ | with_reducible refine Fr.drewN ?_ _ | (with_reducible refine Fr.setNew2 ?_ ?_ _; · (simp <;> omega)) | with_reducible refine Fr.trans ?_ (by assumption))), fun i h h' h'' => absurd h'' (by omega)⟩
    case round =>
      obtain ⟨k, hk, rfl, hf, hv⟩ := hrel
      have HV := hid hv
      clear hv
      by_cases hlt : k < xs.length
      · have hlt' : k < ys.length := by rw [← HL.out]; exact hlt
        obtain ⟨b, o, B, c, hA, c0, r0, _, _⟩ := HX.out.row hlt
        obtain ⟨b', o', B', c', hA', c0', r0', _, _⟩ := HY.out.row hlt'
        subst hA hA'
        replace c0 := hf.cell c0
        replace c0' := hf.cell c0'
        have R0 := hid (r0.fr rdV_mono hf)
        have R0' := hid (r0'.fr rdV_mono hf)
        clear r0 r0'
        cases hE : decide (xs[k] = ys[k])
        · go_wp2_with fail
          (refine wp_region_quietC (fun w' => Fr _ w') (by kernel_rfl) (by kernel_rfl) (Fr.refl _).drew ?_; (repeat go_big_quiet_step (first | exact fun _ => rfl | exact fun _ => ⟨rfl, rfl⟩ | (intro hw'; replace c0 := hw'.cell c0; replace c0' := hw'.cell c0'; go_simp; first | done | exact rfl | exact ⟨rfl, rfl⟩) | (intro hw'; go_at_call 56; refine (eqVS _ _ _ _ _ _ _ (R0.out.fr rdV_mono hw') (R0'.out.fr rdV_mono hw') (SX.out.2 k hlt) (SY.out.2 k hlt')).mono ?_; rintro e w1 ⟨rfl, b1⟩; exact ⟨rfl, hw'.trans b1⟩))); refine wpQuiet_nil ?_; intro wq hq)
          go_wp2
          go_ret
          refine ⟨ret_bool ?_, hf.trans hq⟩
          symm
          rw [decide_eq_false_iff_not] at hE ⊢
          intro e
          exact hE (by subst e; rfl)
        · go_wp2_with fail
          (refine wp_region_quietC (fun w' => Fr _ w') (by kernel_rfl) (by kernel_rfl) (Fr.refl _).drew ?_; (repeat go_big_quiet_step (first | exact fun _ => rfl | exact fun _ => ⟨rfl, rfl⟩ | (intro hw'; replace c0 := hw'.cell c0; replace c0' := hw'.cell c0'; go_simp; first | done | exact rfl | exact ⟨rfl, rfl⟩) | (intro hw'; go_at_call 56; refine (eqVS _ _ _ _ _ _ _ (R0.out.fr rdV_mono hw') (R0'.out.fr rdV_mono hw') (SX.out.2 k hlt) (SY.out.2 k hlt')).mono ?_; rintro e w1 ⟨rfl, b1⟩; exact ⟨rfl, hw'.trans b1⟩))); refine wpQuiet_nil ?_; intro wq hq)
          go_wp2
          go_roundw
          case rel => exact ⟨k + 1, by omega, by go_num, hf.trans hq, fun i h h' hi => by
            by_cases e : i = k
            · subst e; exact of_decide_eq_true hE
            · exact HV.out i h h' (by omega)⟩
          case measure => simp [intOf]; omega
      · go_wp2
        go_ret
        refine ⟨ret_bool ?_, hf⟩
        symm
        rw [decide_eq_true_iff]
        exact List.ext_getElem HL.out fun i h h' => HV.out i h h' (by omega)
  · have e1 : (((xs.length : Int)) != ((ys.length : Int))) = true := by simp; omega
    go_enter Try.func29, Try.ntmps29
    go_wp2
    go_ret
    refine ⟨ret_bool ?_, Fr.refl _⟩
    symm
    rw [decide_eq_false_iff_not]
    intro e
    exact hlen (by rw [e])
end Go.Proofs.Ytlmiadeaiiehaaa
