/- Walks of the program's functions that map variables: copied at ints, mapTo. -/
import Derived.Test.YtahclhldpcboeaaHmP
import Derived.Test.YtahclhldpcboeaaExtW
namespace Go.Proofs.Ytahclhldpcboeaa
open Go Go.RowKit

/-- Memory but for one block. -/
def noB (w : World) (g : Nat) : Mv := fun p => if p.block = g then none else w.cell? p
theorem noB_le (w : World) (g : Nat) : Mle (noB w g) w.cell? := fun p v h => by
  unfold noB at h; split at h
  · cases h
  · exact h
theorem noB_ch {w w' : World} {g : Nat} (h : Ch (· = g) w w') : Mle (noB w g) (noB w' g) := fun p v e => by
  unfold noB at e ⊢; split at e
  · cases e
  · rename_i hp; rw [if_neg hp]; exact h.cell hp e
theorem noB_fr {w w' : World} {g : Nat} (h : Fr w w') : Mle (noB w g) (noB w' g) := fun p v e => by
  unfold noB at e ⊢; split at e
  · cases e
  · rename_i hp; rw [if_neg hp]; exact h.cell e
theorem noB_old {w w' : World} {g : Nat} (h : Fr w w') (hg : w.heap.size ≤ g) : Mle w.cell? (noB w' g) := fun p v e => by
  unfold noB
  rw [if_neg (by have := cell_lt e; omega)]
  exact h.cell e
theorem noB_cell {w : World} {g : Nat} {p : Addr} {v : Value} (h : noB w g p = some v) : w.cell? p = some v ∧ p.block ≠ g := by
  unfold noB at h; split at h
  · cases h
  · rename_i hp; exact ⟨h, hp⟩
theorem iAt_map (m : List Int) : IAt (m.map iv).toArray m := fun i h => by simp [iv, h]
theorem fitV_low {B : Int} {m : List Int} {v x : Int} (h : Rng B m) (h0 : 0 ≤ v) (h1 : v < m.length) : fitV m v x = (var m v == -1 || var m v == x) := by
  have := (h.var h0 h1).1
  unfold fitV
  congr 1
  rw [Bool.eq_iff_iff]
  simp
  omega
/-- What mapTo holds at pair k. -/
def MpInv (w : World) (mb mc sz : Nat) (B : Int) (n : Nat) (vs xs m : List Int) (k : Nat) (wr : World) : Prop :=
  ∃ m' cs, Blk wr mb 3 cs ∧ IAt cs m' ∧ cs.size = sz ∧ m'.length = n ∧ Rng B m' ∧ bindH (vs.drop k) (xs.drop k) m' = bindH vs xs m ∧ Ch (· = mb) w wr
end Go.Proofs.Ytahclhldpcboeaa
