/- Value: how it lies in memory, how an argument of it opens, and the walks of its sizes, copies and comparisons. -/
import Derived.Test.YtahclhldpcboeaaGreatDoorProg
import Derived.Test.YtahclhldpcboeaaGreatDoorOpen
import Derived.Test.YtahclhldpcboeaaGreatDoorMem
import Derived.WalkKit
import Derived.WalkSpells
import Derived.WalkLawsBesides
import Derived.Outline
import Derived.BigQuiet
import Derived.Deep.QuietTactic
import Derived.StillTailTactics
import Derived.Test.YtahclhldpcboeaaGreatDoorValW
namespace Go.Proofs.YtahclhldpcboeaaGreatDoor
open Go Go.RowKit

def rdV : Rd V := fun _ c d => c 0 = some (.bool d.null) ∧ c 1 = some (.int .i64 d.n)
theorem rdV_flat : RdFlat rdV := fun _ _ _ _ _ hc h => ⟨hc _ _ h.1, hc _ _ h.2⟩
theorem rdV_mono : RdMono rdV := fun _ _ _ _ _ _ hc h => ⟨hc _ _ h.1, hc _ _ h.2⟩
theorem RdSl.v {m : Mv} {A : Option Addr} {xs : List V} (h : RdSl rdV m 2 A xs) {k : Nat} (hk : k < xs.length) :
    ∃ b o, A = some ⟨b, o, none⟩ ∧ m ⟨b, o + k * 2, none⟩ = some (.bool xs[k].null) ∧ m ⟨b, o + k * 2 + 1, none⟩ = some (.int .i64 xs[k].n) := by
  obtain ⟨b, o, hA, hc⟩ := h.at_ hk
  exact ⟨b, o, hA, hc⟩
section
open Go.ChangeShapes Go.WideShapes
variable {H : Type} {enc : TypeId × Value → H} {W : World}
end
end Go.Proofs.YtahclhldpcboeaaGreatDoor
