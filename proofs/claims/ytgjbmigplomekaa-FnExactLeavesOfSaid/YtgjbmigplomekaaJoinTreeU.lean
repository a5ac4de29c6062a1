/- JoinTree: copies whose cells are not frozen, and marks on them. -/
import Derived.Test.YtgjbmigplomekaaRJoinTree
import Derived.Test.YtgjbmigplomekaaFromU
namespace Go.Proofs.Ytgjbmigplomekaa
open Go Go.RowKit

def jtToU (n : Nat) : Prop := ∀ (A : Option Addr) (cap : Nat) (xs : List JT) (w : World), RdSl (rdJT n) w.cell? 2 A xs → jtSm n xs →
    Calls Try.prog 42 #[.slice A xs.length cap] w fun e w' => ∃ g, e = .returned (.slice (some ⟨g, 0, none⟩) xs.length xs.length) ∧ RdSl (rdJT n) (fromU w' w.heap.size) 2 (some ⟨g, 0, none⟩) xs ∧ Fr w w'
set_option maxHeartbeats 1000000 in
theorem toJTU {n : Nat} (hS : jtToU n) (e : JT) (A : Option Addr) (cap : Nat) (w : World) (hx : RdSl (rdJT n) w.cell? 2 A e.kids) (hm : jtSm n e.kids) :
    Calls Try.prog 14 #[.agg #[.int .i64 e.leaf, .slice A e.kids.length cap]] w fun r w' => ∃ g, r = .returned (.agg #[.int .i64 e.leaf, .slice (some ⟨g, 0, none⟩) e.kids.length e.kids.length]) ∧ RdSl (rdJT n) (fromU w' w.heap.size) 2 (some ⟨g, 0, none⟩) e.kids ∧ Fr w w' := by
  have HX := hid hx
  have HS := hid hS
  clear hx hS
  go_enter Try.func14, Try.ntmps14
  go_wp2_with fail
  refine absW fun W0 hW0 => ?_
  have BR0 : Blk W0 (w.heap.size + 1) 29 #[.int .i64 0, .slice none 0 0] := by
    have := Blk.new (w.alloc (.cells #[.int .i64 e.leaf, .slice A e.kids.length cap] 41)) 29 #[.int .i64 0, .slice none 0 0]
    rw [World.size_alloc] at this
    rw [hW0]; exact this.alloc _
  have BL0 : Blk W0 (w.heap.size + 2) 29 #[.int .i64 e.leaf, .slice none 0 0] := by
    have := Blk.new ((w.alloc (.cells #[.int .i64 e.leaf, .slice A e.kids.length cap] 41)).alloc (.cells #[.int .i64 0, .slice none 0 0] 29)) 29 #[.int .i64 e.leaf, .slice none 0 0]
    rw [World.size_alloc, World.size_alloc] at this
    rw [hW0]; exact this
  have F0 : Fr w W0 := by rw [hW0]; (repeat (first | with_reducible exact Fr.refl _ | with_reducible assumption | with_reducible refine Fr.alloc ?_ _ | with_reducible refine Fr.drew ?_ | with_reducible refine Fr.drewN ?_ _ | (with_reducible refine Fr.setNew2 ?_ ?_ _; · (simp <;> omega)) | with_reducible refine Fr.trans ?_ (by assumption)))
  clear hW0
  have s0 := BL0.lt
  refine (HS.out _ _ _ _ (HX.out.fr (rdJT_mono n) F0) hm).mono ?_
  rintro r w1 ⟨g, rfl, x1, b1⟩
  have X1 := hid x1
  clear x1
  obtain ⟨p0, p1, f0, f1⟩ := (BL0.fr b1).pair
  obtain ⟨d0, d1, e0, e1⟩ := (BR0.fr b1).pair
  go_wp2
  have RR := ((((BR0.fr b1).far (p := ⟨w.heap.size + 1 + 1, 1, none⟩) (by simp) (.slice (some ⟨g, 0, none⟩) e.kids.length e.kids.length)).set_ 0 (.int .i64 e.leaf)).set_ 1 (.slice (some ⟨g, 0, none⟩) e.kids.length e.kids.length)).pair
  have s1 : w.heap.size + 2 < w1.heap.size := (BL0.fr b1).lt
  have C : Ch (fun k => k = w.heap.size + 1 ∨ k = w.heap.size + 2) w1 (((w1.setCell ⟨w.heap.size + 1 + 1, 1, none⟩ (.slice (some ⟨g, 0, none⟩) e.kids.length e.kids.length)).setCell ⟨w.heap.size + 1, 0, none⟩ (.int .i64 e.leaf)).setCell ⟨w.heap.size + 1, 1, none⟩ (.slice (some ⟨g, 0, none⟩) e.kids.length e.kids.length)) := Ch.set (Ch.set (Ch.set (Ch.refl _) (.inl (.inr rfl)) _) (.inl (.inl rfl)) _) (.inl (.inl rfl)) _
  have L1 := C.mle_u (lo := W0.heap.size) (fun k hk => by omega)
  refine bodyPost_ret (v := .agg #[.int .i64 e.leaf, .slice (some ⟨g, 0, none⟩) e.kids.length e.kids.length]) ?_ rfl ⟨g, rfl, (X1.out.mono (rdJT_mono n) L1).mono (rdJT_mono n) (fromU_lo (by omega)), C.fr (fun k hk => by omega) (F0.trans b1)⟩
  obtain ⟨r0, r1, _⟩ := RR
  simp [results, Try.results14, go_sem, r0, r1]
set_option maxRecDepth 100000 in
set_option maxHeartbeats 1000000 in
theorem toJTSU (n : Nat) : jtToU n := by
  induction n using Nat.strongRecOn with
  | _ n ih =>
    intro A cap xs w hx hm
    have HX := hid hx
    have IH := hid ih
    have hl := jtSm_len hm
    have HM := hid hm
    clear hx ih hm
    have hmk := mk_row (P := Try.prog) 27 29 (.agg #[.int .i64 0, .slice none 0 0]) 2 32 Try.underlying27 (by kernel_rfl) xs.length (by omega) (by omega)
    go_enter Try.func42, Try.ntmps42
    go_wp2
    go_loopw [4] (fun t wr => ∃ (k : Nat) (cs : Array Value), k ≤ xs.length ∧ t = .int .i64 k ∧ Fr w wr ∧ Blk wr w.heap.size 29 cs ∧ cs.size = xs.length * 2 ∧
        Hid (∀ i (h : i < xs.length), i < k → ∃ g, cs[i * 2]? = some (.int .i64 xs[i].leaf) ∧ cs[i * 2 + 1]? = some (.slice (some ⟨g, 0, none⟩) xs[i].kids.length xs[i].kids.length) ∧ ∃ n', n = n' + 1 ∧ RdSl (rdJT n') (fromU wr (w.heap.size + 1)) 2 (some ⟨g, 0, none⟩) xs[i].kids)) (fun t _ => xs.length - (intOf t).toNat)
    case atStart => exact ⟨0, _, by omega, rfl, by (repeat (first | with_reducible exact Fr.refl _ | with_reducible assumption | with_reducible refine Fr.alloc ?_ _ | with_reducible refine Fr.drew ?_ | with_reducible refine Fr.drewN ?_ _ | (with_reducible refine Fr.setNew2 ?_ ?_ _; · (simp <;> omega)) | with_reducible refine Fr.trans ?_ (by assumption))), Blk.new _ _ _, by simp [made_size], hid fun i h h' => absurd h' (by omega)⟩
    case round =>
      obtain ⟨k, cs, hk, rfl, hf, hB, hz, HV⟩ := hrel
      have HZ := hid hz
      clear hz
      by_cases hlt : k < xs.length
      · cases n with
        | zero => exfalso; rw [HX.out.jt0] at hlt; simp at hlt
        | succ n =>
          obtain ⟨b, o, B, c, hA, d0, cK, rK, _⟩ := HX.out.jt hlt
          subst hA
          have RK := hid (rK.fr (rdJT_mono n) hf)
          clear rK
          replace d0 := hf.cell d0
          replace cK := hf.cell cK
          have hs := hB.lt
          go_wp2_with fail
          refine (toJTU (IH.out n (by omega)) _ _ _ _ RK.out (HM.out.2 k hlt)).mono ?_
          rintro r w1 ⟨g, rfl, x1, b1⟩
          have X1 := hid x1
          clear x1 d0 cK
          have hB1 := hB.fr b1
          obtain ⟨u0, d0⟩ := hB1.cell_some (i := k * 2) (by have := HZ.out; omega)
          have f0 := hB1.frozen (k * 2)
          obtain ⟨u1, d1⟩ := hB1.cell_some (i := k * 2 + 1) (by have := HZ.out; omega)
          have f1 := hB1.frozen (k * 2 + 1)
          go_wp2
          go_roundw
          case rel =>
            have C1 : Ch (· = w.heap.size) w1 ((w1.setCell ⟨w.heap.size, k * 2, none⟩ (.int .i64 xs[k].leaf)).setCell ⟨w.heap.size, k * 2 + 1, none⟩ (.slice (some ⟨g, 0, none⟩) xs[k].kids.length xs[k].kids.length)) := Ch.set (S := (· = w.heap.size)) (Ch.set (S := (· = w.heap.size)) (Ch.refl w1) (.inl rfl) _) (.inl rfl) _
            refine ⟨k + 1, _, by omega, by go_num, (((hf.trans b1).setNew (Nat.le_refl _) _).setNew (Nat.le_refl _) _), ((hB1.set_ _ _).set_ _ _), by simpa using HZ.out, hid fun i h hi => ?_⟩
            have hz := HZ.out
            by_cases e : i = k
            · subst e
              refine ⟨g, by simp only [Array.getElem?_setIfInBounds, Array.size_setIfInBounds]; simp; omega, by simp only [Array.getElem?_setIfInBounds, Array.size_setIfInBounds]; simp; omega, n, rfl, X1.out.mono (rdJT_mono n) ((C1.mle_u (fun k hk => by omega)).trans (fromU_lo (by omega)))⟩
            · obtain ⟨g', q0, hK, n', hn', h2⟩ := HV.out i h (by omega)
              refine ⟨g', by simp only [Array.getElem?_setIfInBounds, Array.size_setIfInBounds]; (repeat rw [if_neg (by omega)]); exact q0, by simp only [Array.getElem?_setIfInBounds, Array.size_setIfInBounds]; (repeat rw [if_neg (by omega)]); exact hK, n', by omega, h2.mono (rdJT_mono n') ((b1.mle_u _).trans (C1.mle_u (fun k hk => by omega)))⟩
          case measure => simp [intOf]; omega
      · obtain rfl : k = xs.length := by omega
        go_wp2
        go_ret
        refine ⟨_, rfl, fun hne => ⟨_, 0, rfl, fun i h => ?_⟩, hf⟩
        obtain ⟨g, q0, hK, n', rfl, h2⟩ := HV.out i h h
        have cell : ∀ j, (fun j => fromU wr w.heap.size ⟨w.heap.size, 0 + i * 2 + j, none⟩) j = cs[i * 2 + j]? := fun j => by
          show fromU wr w.heap.size ⟨w.heap.size, 0 + i * 2 + j, none⟩ = _
          rw [hB.u (Nat.le_refl _), Nat.zero_add]
        refine ⟨(cell 0).trans q0, _, _, (cell 1).trans hK, h2.mono (rdJT_mono n') (fromU_lo (by omega)), ?_, Nat.le_refl _⟩
        have := jtSm_len (HM.out.2 i h)
        unfold maxLen; omega

/-- How many parts a list of trees has. -/
def jsum (f : JT → Nat) : List JT → Nat
  | [] => 0
  | x :: r => f x + jsum f r
def jtot : Nat → List JT → Nat
  | 0, xs => xs.length
  | n + 1, xs => xs.length + jsum (fun x => jtot n x.kids) xs
theorem jtSzL_tot {f : Int → JT → Int} {t : JT → Nat} (hf : ∀ l e, 0 ≤ l → l ≤ 1048576 → f l e = -1 ∨ (0 ≤ f l e ∧ f l e = l - t e)) : ∀ (xs : List JT) (l : Int), 0 ≤ l → l ≤ 1048576 → jtSzL f l xs = -1 ∨ (0 ≤ jtSzL f l xs ∧ jtSzL f l xs = l - jsum t xs)
  | [], l, h, _ => .inr ⟨h, by simp [jtSzL, jsum]⟩
  | x :: r, l, h, h' => by
    unfold jtSzL
    rcases hf l x h h' with h1 | ⟨h1, h2⟩
    · left; rw [if_pos (by omega)]
    · rw [if_neg (by omega)]
      rcases jtSzL_tot hf r (f l x) h1 (by omega) with h4 | ⟨h4, h5⟩
      · exact .inl h4
      · exact .inr ⟨h4, by rw [h5, h2]; simp only [jsum]; omega⟩
theorem jtSz_tot : ∀ (n : Nat) (left : Int) (xs : List JT), 0 ≤ left → left ≤ 1048576 → jtSz n left xs = -1 ∨ (0 ≤ jtSz n left xs ∧ jtSz n left xs = left - jtot n xs)
  | 0, left, xs, h, h' => by
    unfold jtSz jtot
    by_cases hl : left < (xs.length : Int)
    · left; rw [if_pos hl]
    · right; rw [if_neg hl]; omega
  | n + 1, left, xs, h, h' => by
    unfold jtSz jtot
    by_cases hl : left < (xs.length : Int)
    · left; rw [if_pos hl]
    · rw [if_neg hl]
      rcases jtSzL_tot (t := fun e => jtot n e.kids) (fun l e h1 h2 => jtSz_tot n l e.kids h1 h2) xs (left - xs.length) (by omega) (by omega) with h1 | ⟨h1, h2⟩
      · exact .inl h1
      · exact .inr ⟨h1, by omega⟩
theorem jsum_take {f : JT → Nat} {xs : List JT} {k : Nat} (hk : k < xs.length) : jsum f (xs.take (k + 1)) = jsum f (xs.take k) + f xs[k] := by
  induction xs generalizing k with
  | nil => simp at hk
  | cons x r ih =>
    cases k with
    | zero => simp [jsum]
    | succ k =>
      simp only [List.length_cons] at hk
      simp only [List.take_succ_cons, jsum, List.getElem_cons_succ]
      rw [ih (by omega)]; omega
theorem jsum_le {f : JT → Nat} {xs : List JT} (k : Nat) : jsum f (xs.take k) ≤ jsum f xs := by
  induction xs generalizing k with
  | nil => simp
  | cons x r ih =>
    cases k with
    | zero => simp [jsum]
    | succ k =>
      simp only [List.take_succ_cons, jsum]
      have := ih k
      omega
theorem jtSz_ways {n : Nat} {xs : List JT} {left : Int} (h : 0 ≤ left) (h' : left ≤ 1048576) : jtSz n left xs = -1 ∨ (0 ≤ jtSz n left xs ∧ jtSz n left xs ≤ 1048576 ∧ jtSm n xs ∧ jtot n xs ≤ 1048576) := by
  rcases jtSz_facts n left xs h h' with h1 | ⟨h1, h2, h3⟩
  · exact .inl h1
  · rcases jtSz_tot n left xs h h' with h4 | ⟨h4, h5⟩
    · exact .inl h4
    · exact .inr ⟨h1, by omega, h3, by omega⟩
def jtotAt : Nat → List JT → Nat → Nat
  | 0, _, i => i
  | n + 1, xs, i => i + jsum (fun x => jtot n x.kids) (xs.take i)
theorem jtotAt_le (n : Nat) (xs : List JT) {i : Nat} (hi : i ≤ xs.length) : jtotAt n xs i ≤ jtot n xs := by
  cases n with
  | zero => exact hi
  | succ n => simp only [jtotAt, jtot]; have := jsum_le (f := fun x => jtot n x.kids) (xs := xs) i; omega
theorem jtotAt_end (n : Nat) (xs : List JT) : jtotAt n xs xs.length = jtot n xs := by
  cases n with
  | zero => rfl
  | succ n => simp only [jtotAt, jtot, List.take_length]
theorem jtotAt_step (n : Nat) (xs : List JT) {i : Nat} (hi : i < xs.length) : jtotAt (n + 1) xs (i + 1) = jtotAt (n + 1) xs i + 1 + jtot n xs[i].kids := by
  simp only [jtotAt, jsum_take hi]; omega
/-- The shape of a tree: a number, and the kids. -/
def rdShp : Nat → Rd JT
  | 0 => fun _ _ _ => False
  | n + 1 => fun m c e => (∃ u, c 0 = some u ∧ scalar u) ∧ ∃ B k, c 1 = some (.slice B e.kids.length k) ∧ RdSl (rdShp n) m 2 B e.kids
theorem rdShp_mono : ∀ n, RdMono (rdShp n)
  | 0 => fun _ _ _ _ _ _ _ h => h
  | n + 1 => fun m m' _ _ _ hm hc h => by
    obtain ⟨⟨u, h1, h2⟩, B, k, h3, h4⟩ := h
    exact ⟨⟨u, hc _ _ h1, h2⟩, B, k, hc _ _ h3, h4.mono (rdShp_mono n) hm⟩
theorem shp_of : ∀ {n : Nat} {m : Mv} {A : Option Addr} {xs : List JT}, RdSl (rdJT n) m 2 A xs → RdSl (rdShp n) m 2 A xs
  | 0, _, _, xs, h => by rw [h.jt0]; exact RdSl.nil
  | n + 1, m, A, xs, h => fun hne => by
    obtain ⟨b, o, hA, hc⟩ := h hne
    refine ⟨b, o, hA, fun i hi => ?_⟩
    obtain ⟨g0, B, c, h0, h1, _, _⟩ := hc i hi
    exact ⟨⟨_, g0, trivial⟩, B, c, h0, shp_of h1⟩
theorem KI.shp {lo hi : Nat} {w w' : World} (hk : KI lo hi w w') : ∀ {n : Nat} {A : Option Addr} {xs : List JT}, RdSl (rdShp n) (inU w lo hi) 2 A xs → RdSl (rdShp n) (inU w' lo hi) 2 A xs
  | 0, _, xs, h => by
    cases xs with
    | nil => exact RdSl.nil
    | cons a r => obtain ⟨b, o, hA, hc⟩ := h (by simp); exact (hc 0 (by simp)).elim
  | n + 1, A, xs, h => fun hne => by
    obtain ⟨b, o, hA, hc⟩ := h hne
    refine ⟨b, o, hA, fun i hi => ?_⟩
    obtain ⟨⟨u, h1, h2⟩, B, c, h3, h4⟩ := hc i hi
    refine ⟨?_, B, c, ?_, hk.shp h4⟩
    · rcases hk _ _ h1 with h5 | ⟨_, v', h5, h6⟩
      · exact ⟨u, h5, h2⟩
      · exact ⟨v', h6, h5⟩
    · rcases hk _ _ h3 with h5 | ⟨h5, _⟩
      · exact h5
      · exact h5.elim
def MarkJ (n : Nat) : Prop := ∀ (A : Option Addr) (cap : Nat) (xs : List JT) (k lo hi : Nat) (w : World), RdSl (rdShp n) (inU w lo hi) 2 A xs → k + jtot n xs ≤ 1099511627776 →
    Calls Try.prog 46 #[.slice A xs.length cap, .int .i64 k] w fun r w' => r = .returned (.int .i64 ((k + jtot n xs : Nat) : Int)) ∧ Ch (Inn lo hi) w w' ∧ KI lo hi w w'
theorem jtot_len (n : Nat) (xs : List JT) : xs.length ≤ jtot n xs := by cases n <;> simp only [jtot] <;> omega
set_option maxRecDepth 100000 in
set_option maxHeartbeats 1000000 in
theorem markJS (n : Nat) : MarkJ n := by
  induction n using Nat.strongRecOn with
  | _ n ih =>
    intro A cap xs k lo hi w hsh hk
    have HS := hid hsh
    have IH := hid ih
    have htl := jtot_len n xs
    clear hsh ih
    have T0 : jtotAt n xs 0 = 0 := by cases n <;> simp [jtotAt, jsum]
    go_enter Try.func46, Try.ntmps46
    go_wp2
    go_loopw [1, 5] (fun kv iv wr => ∃ (i : Nat), i ≤ xs.length ∧ iv = .int .i64 i ∧ kv = .int .i64 ((k + jtotAt n xs i : Nat) : Int) ∧ Ch (Inn lo hi) w wr ∧ KI lo hi w wr) (fun _ iv _ => xs.length - (intOf iv).toNat)
    case atStart => exact ⟨0, by omega, rfl, by rw [T0]; rfl, Ch.refl _, KI.refl _⟩
    case round =>
      obtain ⟨i, hi', rfl, rfl, hC, hK⟩ := hrel
      have hle := jtotAt_le n xs hi'
      by_cases hlt : i < xs.length
      · cases n with
        | zero => exfalso; obtain ⟨_, _, _, hc⟩ := HS.out.at_ hlt; exact hc
        | succ n =>
          have hst := jtotAt_step n xs hlt
          have hle2 := jtotAt_le (n + 1) xs (show i + 1 ≤ xs.length by omega)
          obtain ⟨b, o, hA, ⟨u, j0, s0⟩, B, c, j1, h4⟩ := (hK.shp HS.out).at_ hlt
          subst hA
          simp only [Nat.add_zero] at j0
          obtain ⟨K0, hK0⟩ : ∃ K0, k + jtotAt (n + 1) xs i = K0 := ⟨_, rfl⟩
          have c0 := inU_cell _ _ j0
          have f0 := (inU_some j0).2.2.1
          have c1 := inU_cell _ _ j1
          have HH4 := hid h4
          have HST := hid hst
          have hK1 : K0 + 1 + jtot n xs[i].kids ≤ 1099511627776 := by omega
          have HK0 := hid hK0
          rw [hK0]
          clear h4 hst hle hle2 hK0
          have W1 := hid (show Ch (Inn lo hi) w (wr.setCell ⟨b, o + i * 2, none⟩ (.int .i64 K0)) ∧ KI lo hi wr (wr.setCell ⟨b, o + i * 2, none⟩ (.int .i64 K0)) from ⟨hC.set (p := ⟨b, o + i * 2, none⟩) (.inl (inn j0)) _, (KI.refl wr).set j0 s0 trivial⟩)
          go_wp2_with fail
          rw [show ((K0 : Int) + 1) = ((K0 + 1 : Nat) : Int) by omega]
          refine (IH.out n (by omega) B c xs[i].kids (K0 + 1) lo hi _ (W1.out.2.shp HH4.out) hK1).mono ?_
          rintro r w2 ⟨rfl, g4, g5⟩
          go_wp2
          go_roundw
          case rel => exact ⟨i + 1, by omega, by go_num, by
            have h1 := HST.out
            have h2 := HK0.out
            congr 1
            omega, W1.out.1.trans g4, (hK.trans W1.out.2).trans g5⟩
          case measure => simp [intOf]; omega
      · obtain rfl : i = xs.length := by omega
        rw [jtotAt_end]
        go_wp2
        go_ret
        exact ⟨rfl, hC, hK⟩
set_option maxHeartbeats 1000000 in
theorem markJT (n : Nat) (e : JT) (A : Option Addr) (c : Nat) (k lo hi : Nat) (w : World) (hsh : RdSl (rdShp n) (inU w lo hi) 2 A e.kids) (hk : k + jtot n e.kids ≤ 1099511627776) :
    Calls Try.prog 19 #[.agg #[.int .i64 e.leaf, .slice A e.kids.length c], .int .i64 k] w fun r w' => r = .returned (.int .i64 ((k + jtot n e.kids : Nat) : Int)) ∧ Ch (Inn lo hi) w w' ∧ KI lo hi w w' := by
  have HS := hid hsh
  clear hsh
  have F1 : Fr w (w.alloc (.cells #[.int .i64 e.leaf, .slice A e.kids.length c] 29)) := (Fr.refl _).alloc _
  go_enter Try.func19, Try.ntmps19
  go_wp2_with fail
  refine (markJS n A c e.kids k lo hi _ (F1.ki.shp HS.out) hk).mono ?_
  rintro r w2 ⟨rfl, g4, g5⟩
  go_wp2
  go_ret
  exact ⟨rfl, F1.ch.trans g4, F1.ki.trans g5⟩
end Go.Proofs.Ytgjbmigplomekaa
