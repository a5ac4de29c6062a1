/- Walk of extend: the state of its loop. -/
import Derived.Test.YtahclhldpcboeaaExtI
import Derived.Test.YtahclhldpcboeaaTAtom
import Derived.Test.YtahclhldpcboeaaTFact
namespace Go.Proofs.Ytahclhldpcboeaa
open Go Go.RowKit

/-- What the loop over the facts holds at fact k. -/
def XtInv (W0 : World) (C : MC) (mb vb n : Nat) (w : World) (m : List Int) (fd : List (List Int)) (mo : Nat) (fs : List Fact) (st : Fact → List (List Int)) (k : Nat) (wr : World) : Prop :=
  k ≤ fs.length ∧ MSt W0 C mb vb n wr m ((fd ++ (fs.take k).flatMap st).take mo) ∧ Kp w wr
theorem XtInv.skip {W0 : World} {C : MC} {mb vb n : Nat} {w wr : World} {m : List Int} {fd : List (List Int)} {mo : Nat} {fs : List Fact} {st : Fact → List (List Int)} {k : Nat}
    (h : XtInv W0 C mb vb n w m fd mo fs st k wr) (hk : k < fs.length) (hs : st fs[k] = []) {w' : World} (hf : Fr wr w') : XtInv W0 C mb vb n w m fd mo fs st (k + 1) w' := by
  obtain ⟨h1, h2, h3⟩ := h
  refine ⟨by omega, ?_, h3.trans (Kp.fr hf)⟩
  rw [flat_take hk, hs, List.append_nil]
  exact h2.fr hf
theorem XtInv.found {W0 : World} {C : MC} {mb vb n : Nat} {w wr w' : World} {m : List Int} {fd : List (List Int)} {mo : Nat} {fs : List Fact} {st : Fact → List (List Int)} {k : Nat} {L : List (List Int)}
    (h : XtInv W0 C mb vb n w m fd mo fs st k wr) (hk : k < fs.length) (hs : st fs[k] = L) (h' : MSt W0 C mb vb n w' m (((fd ++ (fs.take k).flatMap st).take mo ++ L).take mo)) (hp : Kp wr w') : XtInv W0 C mb vb n w m fd mo fs st (k + 1) w' := by
  obtain ⟨h1, h2, h3⟩ := h
  refine ⟨by omega, ?_, h3.trans hp⟩
  rw [flat_take hk, hs, ← List.append_assoc, ← take_app]
  exact h'
end Go.Proofs.Ytahclhldpcboeaa
