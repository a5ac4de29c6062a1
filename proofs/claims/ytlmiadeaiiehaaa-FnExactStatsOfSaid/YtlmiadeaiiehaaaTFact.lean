/- Fact: how it lies in memory, how an argument of it opens, and the walks of its sizes, copies and comparisons. -/
import Derived.Test.YtlmiadeaiiehaaaProg
import Derived.Test.YtlmiadeaiiehaaaOpen
import Derived.Test.YtlmiadeaiiehaaaMem
import Derived.WalkKit
import Derived.WalkSpells
import Derived.WalkLawsBesides
import Derived.Outline
import Derived.BigQuiet
import Derived.Deep.QuietTactic
import Derived.StillTailTactics
namespace Go.Proofs.Ytlmiadeaiiehaaa
open Go Go.RowKit

structure Fact where
  rel : Int
  x : Int
  y : Int
deriving DecidableEq, Inhabited
abbrev Fact.val (v : Fact) : Value := .agg #[.int .i64 v.rel, .int .i64 v.x, .int .i64 v.y]
def rdFact : Rd Fact := fun _ c d => c 0 = some (.int .i64 d.rel) ∧ c 1 = some (.int .i64 d.x) ∧ c 2 = some (.int .i64 d.y)
theorem rdFact_flat : RdFlat rdFact := fun _ _ _ _ _ hc h => ⟨hc _ _ h.1, hc _ _ h.2.1, hc _ _ h.2.2⟩
theorem rdFact_mono : RdMono rdFact := fun _ _ _ _ _ _ hc h => ⟨hc _ _ h.1, hc _ _ h.2.1, hc _ _ h.2.2⟩
theorem RdSl.fact {m : Mv} {A : Option Addr} {xs : List Fact} (h : RdSl rdFact m 3 A xs) {k : Nat} (hk : k < xs.length) :
    ∃ b o, A = some ⟨b, o, none⟩ ∧ m ⟨b, o + k * 3, none⟩ = some (.int .i64 xs[k].rel) ∧ m ⟨b, o + k * 3 + 1, none⟩ = some (.int .i64 xs[k].x) ∧ m ⟨b, o + k * 3 + 2, none⟩ = some (.int .i64 xs[k].y) := by
  obtain ⟨b, o, hA, hc⟩ := h.at_ hk
  exact ⟨b, o, hA, hc⟩
section
open Go.ChangeShapes Go.WideShapes
variable {H : Type} {enc : TypeId × Value → H} {W : World}
end
/- Atom: how it lies in memory, how an argument of it opens, and the walks of its sizes, copies and comparisons. -/

structure Atom where
  rel : Int
  x : Int
  y : Int
deriving DecidableEq, Inhabited
abbrev Atom.val (v : Atom) : Value := .agg #[.int .i64 v.rel, .int .i64 v.x, .int .i64 v.y]
def rdAtom : Rd Atom := fun _ c d => c 0 = some (.int .i64 d.rel) ∧ c 1 = some (.int .i64 d.x) ∧ c 2 = some (.int .i64 d.y)
theorem rdAtom_flat : RdFlat rdAtom := fun _ _ _ _ _ hc h => ⟨hc _ _ h.1, hc _ _ h.2.1, hc _ _ h.2.2⟩
theorem rdAtom_mono : RdMono rdAtom := fun _ _ _ _ _ _ hc h => ⟨hc _ _ h.1, hc _ _ h.2.1, hc _ _ h.2.2⟩
theorem RdSl.atom {m : Mv} {A : Option Addr} {xs : List Atom} (h : RdSl rdAtom m 3 A xs) {k : Nat} (hk : k < xs.length) :
    ∃ b o, A = some ⟨b, o, none⟩ ∧ m ⟨b, o + k * 3, none⟩ = some (.int .i64 xs[k].rel) ∧ m ⟨b, o + k * 3 + 1, none⟩ = some (.int .i64 xs[k].x) ∧ m ⟨b, o + k * 3 + 2, none⟩ = some (.int .i64 xs[k].y) := by
  obtain ⟨b, o, hA, hc⟩ := h.at_ hk
  exact ⟨b, o, hA, hc⟩
section
open Go.ChangeShapes Go.WideShapes
variable {H : Type} {enc : TypeId × Value → H} {W : World}
end
/- Edge: how it lies in memory, how an argument of it opens, and the walks of its sizes, copies and comparisons. -/

structure Edge where
  a : Int
  b : Int
  den : Int
deriving DecidableEq, Inhabited
abbrev Edge.val (v : Edge) : Value := .agg #[.int .i64 v.a, .int .i64 v.b, .int .i64 v.den]
def rdEdge : Rd Edge := fun _ c d => c 0 = some (.int .i64 d.a) ∧ c 1 = some (.int .i64 d.b) ∧ c 2 = some (.int .i64 d.den)
theorem rdEdge_flat : RdFlat rdEdge := fun _ _ _ _ _ hc h => ⟨hc _ _ h.1, hc _ _ h.2.1, hc _ _ h.2.2⟩
theorem rdEdge_mono : RdMono rdEdge := fun _ _ _ _ _ _ hc h => ⟨hc _ _ h.1, hc _ _ h.2.1, hc _ _ h.2.2⟩
theorem RdSl.edge {m : Mv} {A : Option Addr} {xs : List Edge} (h : RdSl rdEdge m 3 A xs) {k : Nat} (hk : k < xs.length) :
    ∃ b o, A = some ⟨b, o, none⟩ ∧ m ⟨b, o + k * 3, none⟩ = some (.int .i64 xs[k].a) ∧ m ⟨b, o + k * 3 + 1, none⟩ = some (.int .i64 xs[k].b) ∧ m ⟨b, o + k * 3 + 2, none⟩ = some (.int .i64 xs[k].den) := by
  obtain ⟨b, o, hA, hc⟩ := h.at_ hk
  exact ⟨b, o, hA, hc⟩
section
open Go.ChangeShapes Go.WideShapes
variable {H : Type} {enc : TypeId × Value → H} {W : World}
end
end Go.Proofs.Ytlmiadeaiiehaaa
