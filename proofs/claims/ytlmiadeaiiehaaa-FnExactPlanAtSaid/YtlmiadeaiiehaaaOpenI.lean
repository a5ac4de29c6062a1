/- A list of ints as an argument, opened. -/
import Derived.Test.YtlmiadeaiiehaaaOpen
import Derived.Test.YtlmiadeaiiehaaaProg
namespace Go.Proofs.Ytlmiadeaiiehaaa
open Go Go.RowKit Go.ChangeShapes Go.WideShapes
set_option maxRecDepth 100000 in
theorem open_intI {H : Type} {enc : TypeId × Value → H} {W : World} {base : Nat} {v : Value} {d : DataW H} {p : List MemPlace} (hv : Value.okWide Try.prog W .any base 26 v) (h : DataW.Trod enc Try.prog W 0 (fun _ => true) true 26 v d p) :
    ∃ A cap xs, v = .slice A xs.length cap ∧ RdSl rdInt W.cell? 1 A xs ∧ xs.length ≤ maxLen ∧ xs.length ≤ cap := by
  obtain ⟨A, cap, xs, h1, h2, h3⟩ := open_sl rdIntB_mono Try.underlying26 (by kernel_rfl) (by decide) (fun _ => op_int Try.underlying3) hv h
  exact ⟨A, cap, xs, h1, (rdInt_of_B h2).1, h3⟩
end Go.Proofs.Ytlmiadeaiiehaaa
