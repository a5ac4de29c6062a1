/- The parts of a conjunction, on the program's side: the closure that copies a part into the list. -/
import Derived.Test.YtfillcjpdnpaiaaCopyK
import Derived.Test.YtfillcjpdnpaiaaExprV
namespace Go.Proofs.Ytfillcjpdnpaiaa
open Go Go.RowKit

theorem kids_le {m n : Nat} (hmn : m ≤ n) {mem : Mv} {x : Ex × Option Addr × Nat} (h : KidsOk m mem x) : KidsOk n mem x := by
  induction hmn with
  | refl => exact h
  | step _ ih => exact kids_up ih
theorem parts_le {wd : Int} : ∀ {n deep : Nat} {e : Ex}, vE wd n deep e = true → parts n e + 1 ≤ 2 ^ (deep + 1)
  | 0, deep, e, _ => by
    have := Nat.two_pow_pos deep
    simp only [parts, Nat.pow_succ]; omega
  | n + 1, deep, e, hv => by
    have h2 := vE_two hv
    have hp := Nat.two_pow_pos deep
    have hs : 2 ^ (deep + 1) = 2 ^ deep * 2 := Nat.pow_succ ..
    unfold parts
    match hks : e.kids, h2 with
    | [], _ => simp only [sumN]; omega
    | [a], _ =>
      obtain ⟨d, rfl, h0⟩ := vE_down hv (i := 0) (by rw [hks]; simp)
      have l0 := parts_le h0
      simp only [hks, List.getElem_cons_zero] at l0
      simp only [sumN]; omega
    | [a, b], _ =>
      obtain ⟨d, rfl, h0⟩ := vE_down hv (i := 0) (by rw [hks]; simp)
      obtain ⟨d', hd', h1⟩ := vE_down hv (i := 1) (by rw [hks]; simp)
      obtain rfl : d = d' := by omega
      have l0 := parts_le h0
      have l1 := parts_le h1
      simp only [hks, List.getElem_cons_zero, List.getElem_cons_succ] at l0 l1
      simp only [sumN]; omega
    | _ :: _ :: _ :: _, h2 => simp at h2
/-- The lists of a row's expressions lie in blocks of their own, none of them the row's block. -/
def RowT (N : Nat) (w : World) (lo : Nat) (v : Value) (q : List (Ex × Option Addr × Nat)) : Prop := ∃ T : Nat → Nat → Prop, (∀ i j k, T i k → T j k → i = j) ∧ (∀ i k, T i k → lo ≤ k ∧ k < w.heap.size ∧ v.ownBlock ≠ some k) ∧ ∀ i (h : i < q.length), ShS N w (T i) q[i].2.1 q[i].1.kids
theorem RowT.nil {N : Nat} {w : World} {lo : Nat} {v : Value} : RowT N w lo v [] := ⟨fun _ _ => False, fun _ _ _ h => h.elim, fun _ _ h => h.elim, fun _ h => by simp at h⟩
theorem RowT.lo {N : Nat} {w : World} {lo lo' : Nat} {v : Value} {q : List (Ex × Option Addr × Nat)} (h : RowT N w lo v q) (hl : lo' ≤ lo) : RowT N w lo' v q := by
  obtain ⟨T, h1, h2, h3⟩ := h
  exact ⟨T, h1, fun i k hk => by have := h2 i k hk; exact ⟨by omega, this.2⟩, h3⟩
theorem RowT.ch {N : Nat} {D : Nat → Prop} {w w' : World} {lo : Nat} {v : Value} {q : List (Ex × Option Addr × Nat)} (h : RowT N w lo v q) (hc : Ch D w w') (hd : ∀ k, D k → k < lo ∨ v.ownBlock = some k) : RowT N w' lo v q := by
  obtain ⟨T, h1, h2, h3⟩ := h
  have hs := hc.size
  refine ⟨T, h1, fun i k hk => by have := h2 i k hk; exact ⟨this.1, by omega, this.2.2⟩, fun i hi => (h3 i hi).keep (hc.keepS fun k hk hk' => ?_)⟩
  have := h2 i k hk
  rcases hd k hk' with h | h
  · omega
  · exact this.2.2 h
theorem RowT.push {N : Nat} {w w3 w5 : World} {lo : Nat} {v v5 : Value} {q : List (Ex × Option Addr × Nat)} {x : Ex × Option Addr × Nat} (h : RowT N w lo v q) (hf : Fr w w3) (hx : ∃ S : Nat → Prop, ShS N w3 S x.2.1 x.1.kids ∧ ∀ k, S k → w.heap.size ≤ k ∧ k < w3.heap.size)
    (hg : w3.grownBy w5 v.ownBlock) (hw : Wh w3 v v5) (hlo : lo ≤ w.heap.size) (hv : ∀ k, v.ownBlock = some k → k < w.heap.size) : RowT N w5 lo v5 (q ++ [x]) := by
  obtain ⟨T, h1, h2, h3⟩ := h
  obtain ⟨S, s1, s2⟩ := hx
  have hs := hf.size
  have hs5 := hg.size
  have hown : ∀ k, (w.heap.size ≤ k ∧ k < w3.heap.size ∨ k < w.heap.size ∧ v.ownBlock ≠ some k) → v5.ownBlock ≠ some k := fun k hk e => by
    rcases hw k e with h | h
    · rcases hk with hk | hk
      · have := hv k h; omega
      · exact hk.2 h
    · omega
  have hkeep : ∀ S' : Nat → Prop, (∀ k, S' k → w.heap.size ≤ k ∧ k < w3.heap.size ∨ k < w.heap.size ∧ v.ownBlock ≠ some k) → KeepS S' w3 w5 := fun S' hS k cs hk hB => by
    refine (hg.block k hB.lt fun e => ?_).trans hB
    rcases hS k hk with h | h
    · have := hv k e.symm; omega
    · exact h.2 e.symm
  refine ⟨fun i k => (i < q.length ∧ T i k) ∨ (i = q.length ∧ S k), ?_, ?_, fun i hi => ?_⟩
  · rintro i j k (⟨a1, a2⟩ | ⟨a1, a2⟩) (⟨b1, b2⟩ | ⟨b1, b2⟩)
    · exact h1 i j k a2 b2
    · have := h2 i k a2; have := s2 k b2; omega
    · have := h2 j k b2; have := s2 k a2; omega
    · omega
  · rintro i k (⟨a1, a2⟩ | ⟨a1, a2⟩)
    · have := h2 i k a2
      exact ⟨this.1, by omega, hown k (.inr ⟨this.2.1, this.2.2⟩)⟩
    · have := s2 k a2
      exact ⟨by omega, by omega, hown k (.inl this)⟩
  · by_cases e : i < q.length
    · rw [List.getElem_append_left e]
      exact (((h3 i e).keep hf.keepS).keep (hkeep (T i) fun k hk => .inr (h2 i k hk).2)).sub fun k hk => .inl ⟨e, hk⟩
    · have ei : i = q.length := by simp at hi; omega
      subst ei
      rw [List.getElem_append_right (Nat.le_refl _)]
      simp only [Nat.sub_self, List.getElem_cons_zero]
      exact (s1.keep (hkeep S fun k hk => .inl (s2 k hk))).sub fun k hk => .inr ⟨by simp, hk⟩
/-- The row as a whole. -/
theorem RowT.shS {N : Nat} {w : World} {lo n c : Nat} {A : Option Addr} {q : List (Ex × Option Addr × Nat)} (hR : RowE N w lo (.slice A n c) q) (hT : RowT N w lo (.slice A n c) q) : ∃ S : Nat → Prop, ShS (N + 1) w S A (q.map (·.1)) ∧ ∀ k, S k → lo ≤ k ∧ k < w.heap.size := by
  by_cases hq : q = []
  · subst hq; exact ⟨fun _ => False, ShS.nil, fun _ h => h.elim⟩
  have hp : 0 < q.length := List.length_pos_iff.2 hq
  obtain ⟨T, h1, h2, h3⟩ := hT
  have ho := hR.own
  obtain ⟨g, cap, cs, hv, hg, hB, hs⟩ := own_form2 ho hp
  rw [hv] at ho h2
  injection hv with hA
  have hB' : Blk w g 33 cs := hB
  refine ⟨fun k => k = g ∨ ∃ i, T i k, fun _ => ⟨g, cs, T, hA, .inl rfl, hB, by rw [List.length_map]; exact hs, fun i k hk => ⟨.inr ⟨i, hk⟩, fun e => (h2 i k hk).2.2 (by rw [e]; rfl)⟩, h1, fun i hi => ?_⟩, ?_⟩
  · rw [List.length_map] at hi
    refine ⟨q[i].2.1, q[i].2.2, ?_, by simpa using h3 i hi⟩
    have hu := flatMap_get (f := cellsE) (sz := 5) (fun _ => rfl) q i hi 4 (by omega) (by simp [cellsE])
    have hc := own_cells ho (i * 5 + 4) _ hu
    rw [hB'.cell] at hc
    rw [hc]
    simp [cellsE]
  · rintro k (rfl | ⟨i, hk⟩)
    · exact ⟨hg, hB.lt⟩
    · have := h2 i k hk; exact ⟨this.1, this.2.1⟩
/-- The list so far: the variable lies in block Lb, the list and the copies in it behind. -/
structure CjInv (W0 : World) (Lb N : Nat) (w : World) (q : List (Ex × Option Addr × Nat)) (v : Value) : Prop where
  fr : Fr W0 w
  lo : W0.heap.size ≤ Lb
  var : Blk w Lb 31 #[v]
  row : RowE N w (Lb + 1) v q
  tr : RowT N w (Lb + 1) v q
theorem own_put {w : World} {base e sz g n cap i : Nat} {xs : List Value} (h : w.ownsRow base e sz (.slice (some ⟨g, 0, none⟩) n cap) n xs) (u : Value) : (w.setCell ⟨g, i, none⟩ u).ownsRow base e sz (.slice (some ⟨g, 0, none⟩) n cap) n (xs.set i u) := by
  obtain ⟨hl, h | ⟨g', cap', cur, hv, hg, hh, hnc, hcm, hcs, ht⟩⟩ := h
  · cases h.1
  · injection hv with hA _ hc
    injection hA with hA
    injection hA with hA _ _
    subst hA hc
    refine ⟨by rw [List.length_set]; exact hl, .inr ⟨g, cap, _, rfl, hg, (show Blk w g e cur from hh).set_ i u, hnc, hcm, by simpa using hcs, ?_⟩⟩
    rw [← ht]
    simp [List.take_set]
theorem own_other {w : World} {base e sz n : Nat} {v : Value} {xs : List Value} (h : w.ownsRow base e sz v n xs) {p : Addr} (hp : p.block < base) (u : Value) : (w.setCell p u).ownsRow base e sz v n xs := by
  refine ⟨h.1, ?_⟩
  rcases h.2 with h | ⟨g, cap, cur, hv, hg, hh, hrest⟩
  · exact .inl h
  · exact .inr ⟨g, cap, cur, hv, hg, (show Blk w g e cur from hh).far (by omega) u, hrest⟩
theorem set5 (P : List Value) {k : Nat} (hk : P.length = k) (a b c d e z0 z1 z2 z3 z4 : Value) : (((((P ++ [z0, z1, z2, z3, z4]).set k a).set (k + 1) b).set (k + 2) c).set (k + 3) d).set (k + 4) e = P ++ [a, b, c, d, e] := by
  subst hk
  simp
theorem off_row {w : World} {lo g n cap : Nat} {p : Addr} (hp : p.block = g) (u : Value) : Mle (offR w lo (.slice (some ⟨g, 0, none⟩) n cap)) (offR (w.setCell p u) lo (.slice (some ⟨g, 0, none⟩) n cap)) := off_blk fun k _ _ h3 => ⟨Below.heap_setCell w p u k (by rintro rfl; exact h3 (by simp [Value.ownBlock, hp])), h3⟩
theorem off_out {w : World} {lo : Nat} {v : Value} {p : Addr} (hp : p.block < lo) (u : Value) : Mle (offR w lo v) (offR (w.setCell p u) lo v) := off_blk fun k h1 _ h3 => ⟨Below.heap_setCell w p u k (by rintro rfl; omega), h3⟩
def e0 : Ex := .mk 0 0 ⟨false, 0⟩ []
def put5 (w : World) (g k : Nat) (x : Ex × Option Addr × Nat) : World := ((((w.setCell ⟨g, k, none⟩ (.int .i64 x.1.kind)).setCell ⟨g, k + 1, none⟩ (.int .i64 x.1.col)).setCell ⟨g, k + 2, none⟩ (.bool x.1.val.null)).setCell ⟨g, k + 3, none⟩ (.int .i64 x.1.val.n)).setCell ⟨g, k + 4, none⟩ (.slice x.2.1 x.1.kids.length x.2.2)
theorem ch_put5 {w : World} {g k : Nat} {q : Ex × Option Addr × Nat} : Ch (· = g) w (put5 w g k q) := chSet (chSet (chSet (chSet (chSet (Ch.refl w)))))
theorem off_put5 {w : World} {lo g k n cap : Nat} {x : Ex × Option Addr × Nat} : Mle (offR w lo (.slice (some ⟨g, 0, none⟩) n cap)) (offR (put5 w g k x) lo (.slice (some ⟨g, 0, none⟩) n cap)) := by
  unfold put5
  refine Mle.trans ?_ (off_row (p := ⟨g, k + 4, none⟩) rfl _)
  refine Mle.trans ?_ (off_row (p := ⟨g, k + 3, none⟩) rfl _)
  refine Mle.trans ?_ (off_row (p := ⟨g, k + 2, none⟩) rfl _)
  refine Mle.trans ?_ (off_row (p := ⟨g, k + 1, none⟩) rfl _)
  exact off_row (p := ⟨g, k, none⟩) rfl _
theorem row_put5 {N : Nat} {w : World} {lo g cap : Nat} {q : List (Ex × Option Addr × Nat)} {x : Ex × Option Addr × Nat} (ho : w.ownsRow lo 33 5 (.slice (some ⟨g, 0, none⟩) (q.length + 1) cap) (q.length + 1) (q.flatMap cellsE ++ [(e0, (none : Option Addr), 0)].flatMap cellsE)) (hk : ∀ y ∈ q ++ [x], KidsOk N (offR w lo (.slice (some ⟨g, 0, none⟩) (q.length + 1) cap)) y) : RowE N (put5 w g (q.length * 5) x) lo (.slice (some ⟨g, 0, none⟩) (q.length + 1) cap) (q ++ [x]) := by
  refine ⟨?_, fun y hy => (hk y hy).mono off_put5⟩
  have h := own_put (i := q.length * 5 + 4) (own_put (i := q.length * 5 + 3) (own_put (i := q.length * 5 + 2) (own_put (i := q.length * 5 + 1) (own_put (i := q.length * 5) ho (.int .i64 x.1.kind)) (.int .i64 x.1.col)) (.bool x.1.val.null)) (.int .i64 x.1.val.n)) (.slice x.2.1 x.1.kids.length x.2.2)
  rw [show [(e0, (none : Option Addr), 0)].flatMap cellsE = [.int .i64 0, .int .i64 0, .bool false, .int .i64 0, .slice none 0 0] by rfl, set5 _ (cellsE_len q)] at h
  rw [List.length_append, List.length_singleton, List.flatMap_append]
  exact h
theorem RowE.out {N : Nat} {w : World} {lo : Nat} {v : Value} {q : List (Ex × Option Addr × Nat)} (h : RowE N w lo v q) {p : Addr} (hp : p.block < lo) (u : Value) : RowE N (w.setCell p u) lo v q := ⟨own_other h.own hp u, fun y hy => (h.kids y hy).mono (off_out hp u)⟩
/-- What stands behind the append, ahead of the stores. -/
structure Mid (W0 : World) (Lb N : Nat) (w5 : World) (q : List (Ex × Option Addr × Nat)) (x : Ex × Option Addr × Nat) (g cap : Nat) (v : Value) : Prop where
  fr : Fr W0 w5
  lo : W0.heap.size ≤ Lb
  var : Blk w5 Lb 31 #[v]
  own : w5.ownsRow (Lb + 1) 33 5 (.slice (some ⟨g, 0, none⟩) (q.length + 1) cap) (q.length + 1) (q.flatMap cellsE ++ [(e0, (none : Option Addr), 0)].flatMap cellsE)
  kids : ∀ y ∈ q ++ [x], KidsOk N (offR w5 (Lb + 1) (.slice (some ⟨g, 0, none⟩) (q.length + 1) cap)) y
  glo : Lb + 1 ≤ g
  tr : RowT N w5 (Lb + 1) (.slice (some ⟨g, 0, none⟩) (q.length + 1) cap) (q ++ [x])
theorem CjInv.mid {W0 : World} {Lb N n : Nat} {w w3 w5 : World} {q : List (Ex × Option Addr × Nat)} {v : Value} (hI : CjInv W0 Lb N w q v) (hn : n ≤ N) (hf : Fr w w3) {x : Ex × Option Addr × Nat} {lo' g cap : Nat} (hlo : w.heap.size ≤ lo') (hx : KidsOk n (fromB w3 lo') x) (hx2 : ∃ S : Nat → Prop, ShS n w3 S x.2.1 x.1.kids ∧ ∀ k, S k → w.heap.size ≤ k ∧ k < w3.heap.size)
    (ho : w5.ownsRow (Lb + 1) 33 5 (.slice (some ⟨g, 0, none⟩) (q.length + 1) cap) (q.length + 1) (q.flatMap cellsE ++ [(e0, (none : Option Addr), 0)].flatMap cellsE)) (hg : w3.grownBy w5 v.ownBlock) (hw : Wh w3 v (.slice (some ⟨g, 0, none⟩) (q.length + 1) cap)) : Mid W0 Lb N w5 q x g cap v := by
  have hL := hI.var.lt
  have hrow := own_lt hI.row.own
  have hsz := hf.size
  refine ⟨Below.grown (hI.fr.trans hf) hg (hI.fr.trans hf).size (fun k hk => by have := hrow k hk; have := hI.lo; omega), hI.lo, ?_, ho, fun y hy => ?_, own_blk ho g rfl, hI.tr.push hf (by obtain ⟨S, q1, q2⟩ := hx2; exact ⟨S, q1.le hn, q2⟩) hg hw (by omega) (fun k hk => (hrow k hk).2)⟩
  · exact (hg.block Lb (by omega) (fun e => by have := hrow Lb e.symm; omega)).trans (hI.var.fr hf)
  · rcases List.mem_append.1 hy with hy | hy
    · exact (hI.row.kids y hy).mono ((off_fr hf).trans (off_grown hg hw))
    · have hyx : y = x := by simpa using hy
      subst hyx
      exact (kids_le hn hx).mono ((off_from (by omega) (fun k hk => by have := hrow k hk; omega)).trans (off_grown hg hw))
theorem Mid.a {W0 : World} {Lb N : Nat} {w5 : World} {q : List (Ex × Option Addr × Nat)} {x : Ex × Option Addr × Nat} {g cap : Nat} {v : Value} (h : Mid W0 Lb N w5 q x g cap v) : CjInv W0 Lb N ((put5 w5 g (q.length * 5) x).setCell ⟨Lb, 0, none⟩ (.slice (some ⟨g, 0, none⟩) (q.length + 1) cap)) (q ++ [x]) (.slice (some ⟨g, 0, none⟩) (q.length + 1) cap) := by
  have hlo := h.lo
  have hg := h.glo
  refine ⟨((((((h.fr.setNew (p := ⟨g, _, none⟩) (by show W0.heap.size ≤ g; omega) _).setNew (p := ⟨g, _, none⟩) (by show W0.heap.size ≤ g; omega) _).setNew (p := ⟨g, _, none⟩) (by show W0.heap.size ≤ g; omega) _).setNew (p := ⟨g, _, none⟩) (by show W0.heap.size ≤ g; omega) _).setNew (p := ⟨g, _, none⟩) (by show W0.heap.size ≤ g; omega) _)).setNew hlo _, hlo, ?_, (row_put5 h.own h.kids).out (by show Lb < Lb + 1; omega) _, (h.tr.ch (ch_put5 (q := x) (k := q.length * 5) (w := w5)) (fun k hk => .inr (by rw [hk]; rfl))).ch (D := (· = Lb)) (chSet (Ch.refl _)) (fun k hk => .inl (by omega))⟩
  have hB : Blk (put5 w5 g (q.length * 5) x) Lb 31 #[v] := ((((h.var.far (p := ⟨g, _, none⟩) (by show Lb ≠ g; omega) _).far (p := ⟨g, _, none⟩) (by show Lb ≠ g; omega) _).far (p := ⟨g, _, none⟩) (by show Lb ≠ g; omega) _).far (p := ⟨g, _, none⟩) (by show Lb ≠ g; omega) _).far (p := ⟨g, _, none⟩) (by show Lb ≠ g; omega) _
  exact hB.set_ 0 _
theorem Mid.b {W0 : World} {Lb N : Nat} {w5 : World} {q : List (Ex × Option Addr × Nat)} {x : Ex × Option Addr × Nat} {g cap : Nat} {v : Value} (h : Mid W0 Lb N w5 q x g cap v) : CjInv W0 Lb N (put5 (w5.setCell ⟨Lb, 0, none⟩ (.slice (some ⟨g, 0, none⟩) (q.length + 1) cap)) g (q.length * 5) x) (q ++ [x]) (.slice (some ⟨g, 0, none⟩) (q.length + 1) cap) := by
  have hlo := h.lo
  have hg := h.glo
  have F := h.fr.setNew (p := ⟨Lb, 0, none⟩) hlo (.slice (some ⟨g, 0, none⟩) (q.length + 1) cap)
  refine ⟨(((((F.setNew (p := ⟨g, _, none⟩) (by show W0.heap.size ≤ g; omega) _).setNew (p := ⟨g, _, none⟩) (by show W0.heap.size ≤ g; omega) _).setNew (p := ⟨g, _, none⟩) (by show W0.heap.size ≤ g; omega) _).setNew (p := ⟨g, _, none⟩) (by show W0.heap.size ≤ g; omega) _).setNew (p := ⟨g, _, none⟩) (by show W0.heap.size ≤ g; omega) _), hlo, ?_, ?_, ((h.tr.ch (D := (· = Lb)) (chSet (Ch.refl _)) (fun k hk => .inl (by omega))).ch (ch_put5 (q := x) (k := q.length * 5)) (fun k hk => .inr (by rw [hk]; rfl)))⟩
  · have hB := h.var.set_ 0 (.slice (some ⟨g, 0, none⟩) (q.length + 1) cap)
    exact ((((hB.far (p := ⟨g, _, none⟩) (by show Lb ≠ g; omega) _).far (p := ⟨g, _, none⟩) (by show Lb ≠ g; omega) _).far (p := ⟨g, _, none⟩) (by show Lb ≠ g; omega) _).far (p := ⟨g, _, none⟩) (by show Lb ≠ g; omega) _).far (p := ⟨g, _, none⟩) (by show Lb ≠ g; omega) _
  · exact row_put5 (own_other h.own (by show Lb < Lb + 1; omega) _) (fun y hy => (h.kids y hy).mono (off_out (by show Lb < Lb + 1; omega) _))
theorem Mid.a' {W0 : World} {Lb N : Nat} {w5 : World} {q : List (Ex × Option Addr × Nat)} {e : Ex} {A' : Option Addr} {c' g cap : Nat} {v : Value} (h : Mid W0 Lb N w5 q (e, A', c') g cap v) : ∃ x v', x.1 = e ∧ CjInv W0 Lb N ((((((w5.setCell ⟨g, q.length * 5, none⟩ (.int .i64 e.kind)).setCell ⟨g, q.length * 5 + 1, none⟩ (.int .i64 e.col)).setCell ⟨g, q.length * 5 + 2, none⟩ (.bool e.val.null)).setCell ⟨g, q.length * 5 + 3, none⟩ (.int .i64 e.val.n)).setCell ⟨g, q.length * 5 + 4, none⟩ (.slice A' e.kids.length c')).setCell ⟨Lb, 0, none⟩ (.slice (some ⟨g, 0, none⟩) (q.length + 1) cap)) (q ++ [x]) v' := ⟨(e, A', c'), _, rfl, h.a⟩
theorem Mid.b' {W0 : World} {Lb N : Nat} {w5 : World} {q : List (Ex × Option Addr × Nat)} {e : Ex} {A' : Option Addr} {c' g cap : Nat} {v : Value} (h : Mid W0 Lb N w5 q (e, A', c') g cap v) : ∃ x v', x.1 = e ∧ CjInv W0 Lb N ((((((w5.setCell ⟨Lb, 0, none⟩ (.slice (some ⟨g, 0, none⟩) (q.length + 1) cap)).setCell ⟨g, q.length * 5, none⟩ (.int .i64 e.kind)).setCell ⟨g, q.length * 5 + 1, none⟩ (.int .i64 e.col)).setCell ⟨g, q.length * 5 + 2, none⟩ (.bool e.val.null)).setCell ⟨g, q.length * 5 + 3, none⟩ (.int .i64 e.val.n)).setCell ⟨g, q.length * 5 + 4, none⟩ (.slice A' e.kids.length c')) (q ++ [x]) v' := ⟨(e, A', c'), _, rfl, h.b⟩
attribute [-go_sem] Builtin.append_
set_option maxRecDepth 100000 in
set_option maxHeartbeats 2000000 in
theorem addPart (W0 : World) (Lb N n : Nat) (hn : n ≤ N) (e : Ex) (b o : Nat) (q : List (Ex × Option Addr × Nat)) (v : Value) (w : World) (hr : rdEx (n + 1) W0.cell? (fun j => W0.cell? ⟨b, o + j, none⟩) e) (hs : exSm n e.kids) (hp : parts n e ≤ 1048576) (hI : CjInv W0 Lb N w q v) (hq : q.length ≤ 1000) :
    Calls Try.prog 46 #[.pointer (some ⟨b, o, none⟩), .pointer (some ⟨Lb, 0, none⟩)] w fun r w' => r = .returned (.tuple #[]) ∧ ∃ x v', x.1 = e ∧ CjInv W0 Lb N w' (q ++ [x]) v' := by
  have CP := hid (fun (W : World) (hW : Fr W0 W) => implCopied2 n e b o W (rdEx_mono (n + 1) _ _ _ (fun j => W.cell? ⟨b, o + j, none⟩) _ hW.mle (fun j u hu => hW.cell hu) hr) hs hp)
  clear hr hs hp
  obtain ⟨VA, vc, rfl⟩ := own_form hI.row.own
  have HI := hid hI
  have c0 : w.cell? ⟨Lb, 0, none⟩ = some (.slice VA q.length vc) := hI.var.cell 0
  have FW := hI.fr
  clear hI
  go_enter Try.func46, Try.ntmps46
  go_wp2_with fail
  have hrl := own_lt HI.out.row.own
  have hLb := HI.out.var.lt
  have cz : (w.alloc (.cells #[.int .i64 0, .int .i64 0, .bool false, .int .i64 0, .slice none 0 0] 33)).cell? ⟨Lb, 0, none⟩ = some (.slice VA q.length vc) := ((Fr.refl w).alloc _).cell c0
  go_region_with (first
      | (go_at_call 47; refine (CP.out _ ?_).mono ?_; (· exact FW.trans (by (repeat (first | with_reducible exact Fr.refl _ | with_reducible assumption | with_reducible refine Fr.alloc ?_ _ | with_reducible refine Fr.drew ?_ | with_reducible refine Fr.drewN ?_ _ | (with_reducible refine Fr.setNew2 ?_ ?_ _; · (simp <;> omega)) | with_reducible refine Fr.trans ?_ (by assumption))))); rintro r wa ⟨A', c', rfl, hK, bwa, hSx⟩; have HSx := hid (show ∃ S : Nat → Prop, ShS n wa S A' e.kids ∧ ∀ k, S k → w.heap.size ≤ k ∧ k < wa.heap.size from by obtain ⟨S, q1, q2⟩ := hSx; exact ⟨S, q1, fun k hk => ⟨Nat.le_trans (show w.heap.size ≤ _ from Fr.size (by (repeat (first | with_reducible exact Fr.refl _ | with_reducible assumption | with_reducible refine Fr.alloc ?_ _ | with_reducible refine Fr.drew ?_ | with_reducible refine Fr.drewN ?_ _ | (with_reducible refine Fr.setNew2 ?_ ?_ _; · (simp <;> omega)) | with_reducible refine Fr.trans ?_ (by assumption))))) (Nat.le_of_lt (q2 k hk).1), (q2 k hk).2⟩⟩); clear hSx; have HK := hid (hK.mono (fromB_lo (show w.heap.size ≤ _ from Fr.size (by (repeat (first | with_reducible exact Fr.refl _ | with_reducible assumption | with_reducible refine Fr.alloc ?_ _ | with_reducible refine Fr.drew ?_ | with_reducible refine Fr.drewN ?_ _ | (with_reducible refine Fr.setNew2 ?_ ?_ _; · (simp <;> omega)) | with_reducible refine Fr.trans ?_ (by assumption))))))); clear hK; have Fwa : Fr w wa := Fr.trans (by (repeat (first | with_reducible exact Fr.refl _ | with_reducible assumption | with_reducible refine Fr.alloc ?_ _ | with_reducible refine Fr.drew ?_ | with_reducible refine Fr.drewN ?_ _ | (with_reducible refine Fr.setNew2 ?_ ?_ _; · (simp <;> omega)) | with_reducible refine Fr.trans ?_ (by assumption)))) bwa; have ca := Fwa.cell c0; have caz : (wa.alloc (.cells #[.int .i64 0, .int .i64 0, .bool false, .int .i64 0, .slice none 0 0] 33)).cell? ⟨Lb, 0, none⟩ = some (.slice VA q.length vc) := ((Fr.refl wa).alloc _).cell ca; have hswa := Fwa.size; (first | (have BZ : Blk wa w.heap.size 33 (cellsE (e0, none, 0)).toArray := (Blk.new w.drew _ _).fr bwa) | skip))
      | (refine upon_appW (Lb + 1) _ q.length (q.flatMap cellsE) ?own ?n1 ?base _ 1 1 [(e0, none, 0)] rfl ?n2 ?hB ?_; (case own => exact own_fr HI.out.row.own (by (repeat (first | with_reducible exact Fr.refl _ | with_reducible assumption | with_reducible refine Fr.alloc ?_ _ | with_reducible refine Fr.drew ?_ | with_reducible refine Fr.drewN ?_ _ | (with_reducible refine Fr.setNew2 ?_ ?_ _; · (simp <;> omega)) | with_reducible refine Fr.trans ?_ (by assumption))))); (case n1 => omega); (case base => first | omega | (simp; omega)); (case n2 => omega); (case hB => first | exact blk_cells (blk_new rfl) | exact blk_cells ⟨_, BZ⟩); intro v5 w5 hO5 hg5 hw5; obtain ⟨g5, cap5, cur5, rfl, hgl5, hB5, hsz5⟩ := own_form2 hO5 (by omega); (first | have MID := hid (HI.out.mid hn (Fwa.alloc _) (Nat.le_refl _) (HK.out.mono (((Fr.refl wa).alloc _).mle_from _)) (by obtain ⟨S, q1, q2⟩ := HSx.out; exact ⟨S, q1.keep ((Fr.refl wa).alloc _).keepS, fun k hk => ⟨(q2 k hk).1, Nat.lt_of_lt_of_le (q2 k hk).2 ((Fr.refl wa).alloc _).size⟩⟩) hO5 hg5 hw5) | have MID := hid (HI.out.mid hn Fwa (Nat.le_refl _) HK.out HSx.out hO5 hg5 hw5)); obtain ⟨z0, s0⟩ := hB5.cell_some (i := q.length * 5) (by omega); obtain ⟨z1, s1⟩ := hB5.cell_some (i := q.length * 5 + 1) (by omega); obtain ⟨z2, s2⟩ := hB5.cell_some (i := q.length * 5 + 2) (by omega); obtain ⟨z3, s3⟩ := hB5.cell_some (i := q.length * 5 + 3) (by omega); obtain ⟨z4, s4⟩ := hB5.cell_some (i := q.length * 5 + 4) (by omega); have f0 := hB5.frozen (q.length * 5); have f1 := hB5.frozen (q.length * 5 + 1); have f2 := hB5.frozen (q.length * 5 + 2); have f3 := hB5.frozen (q.length * 5 + 3); have f4 := hB5.frozen (q.length * 5 + 4); have cL := MID.out.var.cell 0; have fL := MID.out.var.frozen 0; have hne : ¬ Lb = g5 := (by omega); have hne2 : ¬ g5 = Lb := (by omega); have hq5 : (q.length : Int) < ((q.length : Int) + 1) := (by omega))
      | fail)
  all_goals clear s0 s1 s2 s3 s4 f0 f1 f2 f3 f4 cL fL hO5 hB5
  all_goals go_wp2
  all_goals go_end0
  all_goals first | with_reducible exact ⟨rfl, Mid.a' MID.out⟩ | with_reducible exact ⟨rfl, Mid.b' MID.out⟩
end Go.Proofs.Ytfillcjpdnpaiaa
