/- Fact: how it lies in memory, how an argument of it opens, and the walks of its sizes, copies and comparisons. -/
import Derived.Test.YtahclhldpcboeaaDoorProg
import Derived.Test.YtahclhldpcboeaaDoorOpen
import Derived.Test.YtahclhldpcboeaaDoorMem
import Derived.WalkKit
import Derived.WalkSpells
import Derived.WalkLawsBesides
import Derived.Outline
import Derived.BigQuiet
import Derived.Deep.QuietTactic
import Derived.StillTailTactics
namespace Go.Proofs.YtahclhldpcboeaaDoor
open Go Go.RowKit

structure Fact where
  rel : Int
  x : Int
  y : Int
deriving DecidableEq, Inhabited
abbrev Fact.val (v : Fact) : Value := .agg #[.int .i64 v.rel, .int .i64 v.x, .int .i64 v.y]
def rdFact : Rd Fact := fun _ c d => c 0 = some (.int .i64 d.rel) ∧ c 1 = some (.int .i64 d.x) ∧ c 2 = some (.int .i64 d.y)
theorem rdFact_flat : RdFlat rdFact := fun _ _ _ _ _ hc h => ⟨hc _ _ h.1, hc _ _ h.2.1, hc _ _ h.2.2⟩
theorem rdFact_mono : RdMono rdFact := fun _ _ _ _ _ _ hc h => ⟨hc _ _ h.1, hc _ _ h.2.1, hc _ _ h.2.2⟩
theorem RdSl.fact {m : Mv} {A : Option Addr} {xs : List Fact} (h : RdSl rdFact m 3 A xs) {k : Nat} (hk : k < xs.length) :
    ∃ b o, A = some ⟨b, o, none⟩ ∧ m ⟨b, o + k * 3, none⟩ = some (.int .i64 xs[k].rel) ∧ m ⟨b, o + k * 3 + 1, none⟩ = some (.int .i64 xs[k].x) ∧ m ⟨b, o + k * 3 + 2, none⟩ = some (.int .i64 xs[k].y) := by
  obtain ⟨b, o, hA, hc⟩ := h.at_ hk
  exact ⟨b, o, hA, hc⟩
section
open Go.ChangeShapes Go.WideShapes
variable {H : Type} {enc : TypeId × Value → H} {W : World}
end
end Go.Proofs.YtahclhldpcboeaaDoor
