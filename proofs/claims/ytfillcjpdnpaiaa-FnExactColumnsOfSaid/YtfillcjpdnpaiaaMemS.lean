/- Helpers for functions that copy structs with slices in them. -/
import Derived.Test.YtfillcjpdnpaiaaMem
import Derived.WalkKit
namespace Go.Proofs.Ytfillcjpdnpaiaa
open Go Go.RowKit
/-- The world at a call, as a variable. -/
theorem absW {P : Program} {f : FuncId} {args : Array Value} {w : World} {post : Ending → World → Prop} (h : ∀ W, W = w → Calls P f args W post) : Calls P f args w post := h w rfl
def RdFlat {X : Type} (rd : Rd X) : Prop := ∀ m m' c c' x, (∀ j v, c j = some v → c' j = some v) → rd m c x → rd m' c' x
theorem RdSl.toB {X : Type} {rd : Rd X} (hfl : RdFlat rd) {w : World} {sz g o lo : Nat} {xs : List X} (h : RdSl rd w.cell? sz (some ⟨g, o, none⟩) xs) (hg : lo ≤ g) : RdSl rd (fromB w lo) sz (some ⟨g, o, none⟩) xs := fun hne => by
  obtain ⟨b, o', hA, hc⟩ := h hne
  injection hA with hA
  injection hA with h1 h2 _
  subst h1 h2
  refine ⟨g, o, rfl, fun i hi => hfl _ _ _ _ _ (fun j v hv => ?_) (hc i hi)⟩
  unfold fromB
  rw [if_pos hg]; exact hv
theorem rdInt_flat : RdFlat rdInt := fun _ _ _ _ _ hc h => hc _ _ h
section
variable {w : World} {g : Nat} {t : TypeId} {a b c d : Value}
theorem Blk.three (h : Blk w g t #[a, b, c]) : w.cell? ⟨g, 0, none⟩ = some a ∧ w.cell? ⟨g, 1, none⟩ = some b ∧ w.cell? ⟨g, 2, none⟩ = some c ∧ w.frozen? ⟨g, 0, none⟩ = false ∧ w.frozen? ⟨g, 1, none⟩ = false ∧ w.frozen? ⟨g, 2, none⟩ = false :=
  ⟨h.cell 0, h.cell 1, h.cell 2, h.frozen 0, h.frozen 1, h.frozen 2⟩
theorem Blk.five {e : Value} (h : Blk w g t #[a, b, c, d, e]) : w.cell? ⟨g, 0, none⟩ = some a ∧ w.cell? ⟨g, 1, none⟩ = some b ∧ w.cell? ⟨g, 2, none⟩ = some c ∧ w.cell? ⟨g, 3, none⟩ = some d ∧ w.cell? ⟨g, 4, none⟩ = some e ∧
    w.frozen? ⟨g, 0, none⟩ = false ∧ w.frozen? ⟨g, 1, none⟩ = false ∧ w.frozen? ⟨g, 2, none⟩ = false ∧ w.frozen? ⟨g, 3, none⟩ = false ∧ w.frozen? ⟨g, 4, none⟩ = false :=
  ⟨h.cell 0, h.cell 1, h.cell 2, h.cell 3, h.cell 4, h.frozen 0, h.frozen 1, h.frozen 2, h.frozen 3, h.frozen 4⟩
theorem Blk.pair (h : Blk w g t #[a, b]) : w.cell? ⟨g, 0, none⟩ = some a ∧ w.cell? ⟨g, 1, none⟩ = some b ∧ w.frozen? ⟨g, 0, none⟩ = false ∧ w.frozen? ⟨g, 1, none⟩ = false :=
  ⟨h.cell 0, h.cell 1, h.frozen 0, h.frozen 1⟩
end
theorem arr5 {cs : Array Value} {a b c d e : Value} (hs : cs.size = 5) (h0 : cs[0]? = some a) (h1 : cs[1]? = some b) (h2 : cs[2]? = some c) (h3 : cs[3]? = some d) (h4 : cs[4]? = some e) : cs = #[a, b, c, d, e] := by
  obtain ⟨l⟩ := cs
  match l, hs with
  | [x, y, z, u, v], _ => simp at h0 h1 h2 h3 h4; subst h0 h1 h2 h3 h4; rfl
end Go.Proofs.Ytfillcjpdnpaiaa
