/- The matcher of the reference in memory; the walk of fits. -/
import Derived.Test.YtahclhldpcboeaaGreatDoorHomP
import Derived.Test.YtahclhldpcboeaaGreatDoorMem2
import Derived.Test.YtahclhldpcboeaaGreatDoorMemQ
import Derived.BigQuiet
import Derived.Deep.QuietTactic
import Derived.StillTailTactics
import Derived.Deep.RegionWith
namespace Go.Proofs.YtahclhldpcboeaaGreatDoor
open Go Go.RowKit

/-- Numbers at the head of a block. -/
def IAt (cs : Array Value) (m : List Int) : Prop := ∀ i (h : i < m.length), cs[i]? = some (.int .i64 m[i])
theorem IAt.set {cs : Array Value} {m : List Int} {j : Nat} {x : Int} (h : IAt cs m) (hs : m.length ≤ cs.size) : IAt (cs.setIfInBounds j (.int .i64 x)) (m.set j x) := fun i hi => by
  simp only [List.length_set] at hi
  rw [List.getElem_set, Array.getElem?_setIfInBounds]
  by_cases e : j = i
  · rw [if_pos e, if_pos e, if_pos (by omega)]
  · rw [if_neg e, if_neg e]; exact h i hi
theorem mrow_ne {w : World} {base e sz n g : Nat} {t : TypeId} {v : Value} {xs : List Value} {cs : Array Value} (h : w.ownsRow base e sz v n xs) (hB : Blk w g t cs) (ht : e ≠ t) : some g ≠ v.ownBlock := fun he => by
  rcases h.2 with ⟨rfl, _⟩ | ⟨g', cap, cur, rfl, _, hh, _⟩
  · cases he
  · simp only [Value.ownBlock, Option.some.injEq] at he
    subst he
    unfold Blk at hB
    rw [hB] at hh
    injection hh with hh
    injection hh with _ hh _
    exact ht hh.symm
theorem mrow_set {w : World} {base e sz n g o : Nat} {v u : Value} {xs : List Value} (h : w.ownsRow base e sz v n xs) (hn : some g ≠ v.ownBlock) : (w.setCell ⟨g, o, none⟩ u).ownsRow base e sz v n xs := by
  refine ⟨h.1, ?_⟩
  rcases h.2 with h | ⟨g', cap, cur, rfl, hg, hh, hrest⟩
  · exact .inl h
  · refine .inr ⟨g', cap, cur, rfl, hg, ?_, hrest⟩
    exact Blk.far (show Blk w g' e cur from hh) (fun e => hn (by simp [Value.ownBlock, e])) u
theorem blk_type {w : World} {g g' : Nat} {t t' : TypeId} {cs cs' : Array Value} (h : Blk w g t cs) (h' : Blk w g' t' cs') (ht : t ≠ t') : g ≠ g' := fun e => by
  subst e
  unfold Blk at h h'
  rw [h] at h'
  injection h' with h'
  injection h' with _ h' _
  exact ht h'
/-- One found row: its block and capacity. -/
def cellsR (n : Nat) (p : Nat × Nat) : Value := .slice (some ⟨p.1, 0, none⟩) n p.2
def RowOk (w : World) (p : Nat × Nat) (xs : List Int) : Prop := ∃ cs, Blk w p.1 3 cs ∧ IAt cs xs
/-- The parts of a matcher that stand: the slices of atoms and facts, and how many are wanted. -/
structure MC where
  B : Option Addr
  bl : Nat
  bc : Nat
  F : Option Addr
  fl : Nat
  fc : Nat
  most : Int
/-- A matcher in block mb, its values m in block vb, its found rows fd. -/
def MSt (W0 : World) (C : MC) (mb vb n : Nat) (w : World) (m : List Int) (fd : List (List Int)) : Prop :=
  ∃ FV vc cs, ∃ rw_ : List (Nat × Nat), Blk w mb 83 #[.slice C.B C.bl C.bc, .slice C.F C.fl C.fc, .slice (some ⟨vb, 0, none⟩) n vc, FV, .int .i64 C.most] ∧ Blk w vb 3 cs ∧ IAt cs m ∧ m.length = n ∧ n ≤ cs.size ∧ n ≤ vc ∧
    w.ownsRow W0.heap.size 23 1 FV rw_.length (rw_.map (cellsR n)) ∧ rw_.length = fd.length ∧ (∀ i (h : i < rw_.length) (h' : i < fd.length), RowOk w rw_[i] fd[i] ∧ rw_[i].1 ≠ vb ∧ fd[i].length = n ∧ n ≤ rw_[i].2 ∧ W0.heap.size ≤ rw_[i].1) ∧ W0.heap.size ≤ vb ∧ W0.heap.size ≤ mb ∧ Fr W0 w
theorem MSt.fr {W0 : World} {C : MC} {mb vb n : Nat} {w w' : World} {m : List Int} {fd : List (List Int)} (h : MSt W0 C mb vb n w m fd) (hf : Fr w w') : MSt W0 C mb vb n w' m fd := by
  obtain ⟨FV, vc, cs, rw_, h1, h2, h3, h4, h5, h6, h7, h8, h9, h10, h11, h12⟩ := h
  exact ⟨FV, vc, cs, rw_, h1.fr hf, h2.fr hf, h3, h4, h5, h6, own_fr h7 hf, h8, fun i a b => by obtain ⟨⟨c, k1, k2⟩, k3⟩ := h9 i a b; exact ⟨⟨c, k1.fr hf, k2⟩, k3⟩, h10, h11, h12.trans hf⟩
/-- A value written anew. -/
theorem MSt.setV {W0 : World} {C : MC} {mb vb n j : Nat} {x : Int} {w : World} {m : List Int} {fd : List (List Int)} (h : MSt W0 C mb vb n w m fd) : MSt W0 C mb vb n (w.setCell ⟨vb, j, none⟩ (.int .i64 x)) (m.set j x) fd := by
  obtain ⟨FV, vc, cs, rw_, h1, h2, h3, h4, h5, h6, h7, h8, h9, h10, h11, h12⟩ := h
  refine ⟨FV, vc, _, rw_, h1.far (by show mb ≠ vb; exact blk_type h1 h2 (by decide)) _, h2.set_ j _, h3.set (by omega), by simpa using h4, by simpa using h5, h6, mrow_set h7 (mrow_ne h7 h2 (by decide)), h8, fun i a b => ?_, h10, h11, h12.setNew h10 _⟩
  obtain ⟨⟨c, k1, k2⟩, k3, k4⟩ := h9 i a b
  exact ⟨⟨c, k1.far (by exact k3) _, k2⟩, k3, k4⟩
/-- The cells that the walks read. -/
theorem MSt.cells {W0 : World} {C : MC} {mb vb n : Nat} {w : World} {m : List Int} {fd : List (List Int)} (h : MSt W0 C mb vb n w m fd) :
    ∃ FA fcap vc, w.cell? ⟨mb, 0, none⟩ = some (.slice C.B C.bl C.bc) ∧ w.cell? ⟨mb, 1, none⟩ = some (.slice C.F C.fl C.fc) ∧ w.cell? ⟨mb, 2, none⟩ = some (.slice (some ⟨vb, 0, none⟩) n vc) ∧ w.cell? ⟨mb, 3, none⟩ = some (.slice FA fd.length fcap) ∧ w.cell? ⟨mb, 4, none⟩ = some (.int .i64 C.most) ∧
      (∀ v : Nat, v < n → w.cell? ⟨vb, v, none⟩ = some (.int .i64 (var m v)) ∧ w.frozen? ⟨vb, v, none⟩ = false) ∧ m.length = n ∧ mb < w.heap.size ∧ vb < w.heap.size := by
  obtain ⟨FV, vc, cs, rw_, h1, h2, h3, h4, h5, h6, h7, h8, _⟩ := h
  obtain ⟨FA, fcap, rfl⟩ := own_form h7
  rw [h8] at h1
  refine ⟨FA, fcap, vc, h1.cell 0, h1.cell 1, h1.cell 2, h1.cell 3, h1.cell 4, fun v hv => ⟨?_, h2.frozen v⟩, h4, h1.lt, h2.lt⟩
  rw [h2.cell, h3 v (by omega)]
  unfold var
  rw [Int.toNat_natCast, getD_at (by omega)]
/-- The first found row. -/
theorem MSt.first {W0 : World} {C : MC} {mb vb n : Nat} {w : World} {m m' : List Int} {fd : List (List Int)} (h : MSt W0 C mb vb n w m (m' :: fd)) :
    ∃ gF fcap g cap cs, w.cell? ⟨mb, 3, none⟩ = some (.slice (some ⟨gF, 0, none⟩) (fd.length + 1) fcap) ∧ w.cell? ⟨gF, 0, none⟩ = some (.slice (some ⟨g, 0, none⟩) n cap) ∧ Blk w g 3 cs ∧ IAt cs m' ∧ m'.length = n ∧ W0.heap.size ≤ g := by
  obtain ⟨FV, vc, cs, rw_, h1, h2, h3, h4, h5, h6, h7, h8, h9, h10, h11, h12⟩ := h
  obtain ⟨FA, fcap, rfl⟩ := own_form h7
  have hl : 0 < rw_.length := by rw [h8]; simp
  obtain ⟨⟨c, k1, k2⟩, k3, k4, k5, k6⟩ := h9 0 hl (by simp)
  have h7' := h7
  rw [h8] at h1
  rcases h7.2 with ⟨_, h0⟩ | ⟨gF, cap', cur, hv, _⟩
  · omega
  · cases hv
    have hcell := own_cells h7' 0 (cellsR n rw_[0]) (by rw [List.getElem?_map, List.getElem?_eq_getElem hl]; rfl)
    exact ⟨gF, _, rw_[0].1, rw_[0].2, c, h1.cell 3, hcell, k1, k2, k4, k6⟩
set_option maxHeartbeats 1000000 in
theorem fitsW {W0 : World} {C : MC} {mb vb n : Nat} {w : World} {m : List Int} {fd : List (List Int)} (h : MSt W0 C mb vb n w m fd) (v : Nat) (x : Int) (hv : v < n) :
    Calls Tryz.prog 57 #[.pointer (some ⟨mb, 0, none⟩), .int .i64 v, .int .i64 x] w fun r w' => r = .returned (.bool (fitV m v x)) ∧ w = w' := by
  obtain ⟨FA, fcap, vc, c0, c1, c2, c3, c4, hval, _⟩ := h.cells
  obtain ⟨v0, _⟩ := hval v hv
  obtain ⟨y, ey⟩ : ∃ y, var m v = y := ⟨_, rfl⟩
  rw [ey] at v0
  have R := hid (show fitV m v x = (decide (y < 0) || y == x) by unfold fitV; rw [ey])
  clear hval h ey
  cases h0 : decide (y < 0)
  · cases h1 : (y == x)
    all_goals go_enter Tryz.func57, Tryz.ntmps57
    all_goals go_wp2
    all_goals go_ret
    all_goals exact ⟨ret_bool (by rw [R.out, h0, h1]; rfl), rfl⟩
  · go_enter Tryz.func57, Tryz.ntmps57
    go_wp2
    go_ret
    exact ⟨ret_bool (by rw [R.out, h0]; rfl), rfl⟩
end Go.Proofs.YtahclhldpcboeaaGreatDoor
