/- Walks of the laws' marks on slices of ints: what is written, what is held. -/
import Derived.Test.YtahclhldpcboeaaGreatDoorProg
import Derived.Test.YtahclhldpcboeaaGreatDoorMem
import Derived.WalkKit
import Derived.WalkSpells
import Derived.WalkLawsBesides
import Derived.BigQuiet
import Derived.Deep.QuietTactic
import Derived.StillTailTactics
namespace Go.Proofs.YtahclhldpcboeaaGreatDoor
open Go Go.RowKit

/-- A slice's first n cells lie at the head of a block that may be written. -/
def Mk (w : World) (A : Option Addr) (n : Nat) : Prop := n ≠ 0 → ∃ g t cs, A = some ⟨g, 0, none⟩ ∧ Blk w g t cs ∧ n ≤ cs.size
def AtB (A : Option Addr) : Nat → Prop := fun j => ∃ ad, A = some ad ∧ ad.block = j
theorem atB_self {g o : Nat} : AtB (some ⟨g, o, none⟩) g := ⟨_, rfl, rfl⟩
theorem mk_of_own {w : World} {base e sz n cap : Nat} {A : Option Addr} {xs : List Value} (h : w.ownsRow base e sz (.slice A n cap) n xs) : Mk w A (n * sz) := fun hne => by
  rcases h.2 with ⟨_, h0⟩ | ⟨g, cap', cur, hv, _, hh, hnc, _, hs, _⟩
  · subst h0; simp at hne
  · injection hv with hA
    exact ⟨g, e, cur, hA, hh, by rw [hs]; exact Nat.mul_le_mul_right _ hnc⟩
theorem Mk.fr {w w' : World} {A : Option Addr} {n : Nat} (h : Mk w A n) (hf : Fr w w') : Mk w' A n := fun hne => by
  obtain ⟨g, t, cs, hA, hB, hn⟩ := h hne
  exact ⟨g, t, cs, hA, hB.fr hf, hn⟩
theorem Mk.from_ {S : Nat → Prop} {w w' w'' : World} {A : Option Addr} {n : Nat} (h : Mk w A n) (hf : Fr w w') (hc : Ch S w' w'') (hS : ∀ k, AtB A k → ¬ S k) : Mk w'' A n := fun hne => by
  obtain ⟨g, t, cs, rfl, hB, hn⟩ := h hne
  have h1 := hB.fr hf
  exact ⟨g, t, cs, rfl, (hc.block g h1.lt (hS g atB_self)).trans h1, hn⟩
theorem own_atB {w : World} {base e sz n cap : Nat} {A : Option Addr} {xs : List Value} (h : w.ownsRow base e sz (.slice A n cap) n xs) : ∀ k, AtB A k → base ≤ k := fun k ⟨ad, h1, h2⟩ => by
  rcases h.2 with ⟨hv, _⟩ | ⟨g, cap', cur, hv, hg, _⟩
  · injection hv with hA; rw [hA] at h1; cases h1
  · injection hv with hA; rw [hA] at h1; injection h1 with h1; subst h1; rw [← h2]; exact hg
/-- The numbers from k on. -/
def marks (k n : Nat) : List Int := (List.range n).map fun i => ((k + i : Nat) : Int)

end Go.Proofs.YtahclhldpcboeaaGreatDoor
