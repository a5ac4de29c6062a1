/- Arguments of the dependency laws, opened. -/
import Derived.Test.YtabbcepdinplfaaOpen
import Derived.Test.YtabbcepdinplfaaDepP
import Derived.Test.YtabbcepdinplfaaLaw
namespace Go.Proofs.Ytabbcepdinplfaa
open Go Go.RowKit Go.ChangeShapes Go.WideShapes
section
variable {H : Type} {enc : TypeId × Value → H} {W : World}
theorem op_dep (n : Nat) : Op enc Try.prog W n 54 2 rdDep := fun cs x h => by
  refine ⟨op_len Try.underlying54 (by kernel_rfl) h, ?_⟩
  obtain ⟨a, ha⟩ := op_field (rd := rdIntB) (i := 0) (off := 0) (sz := 1) rdIntB_mono Try.underlying54 rfl rfl (by kernel_rfl) (fun k _ => op_int Try.underlying3) h
  obtain ⟨b, hb⟩ := op_field (rd := rdIntB) (i := 1) (off := 1) (sz := 1) rdIntB_mono Try.underlying54 rfl rfl (by kernel_rfl) (fun k _ => op_int Try.underlying3) h
  exact ⟨⟨a, b⟩, ha.1, hb.1⟩
theorem open_depS {base : Nat} {v : Value} {d : DataW H} {p : List MemPlace} (hv : Value.okWide Try.prog W .any base 31 v) (h : DataW.Trod enc Try.prog W 0 (fun _ => true) true 31 v d p) :
    ∃ A cap xs, v = .slice A xs.length cap ∧ RdSl rdDep W.cell? 2 A xs ∧ xs.length ≤ maxLen :=
  open_sl rdDep_mono Try.underlying31 (by kernel_rfl) (by decide) op_dep hv h
theorem open_dep {base : Nat} {v : Value} {d : DataW H} {p : List MemPlace} (hv : Value.okWide Try.prog W .any base 54 v) (h : DataW.Trod enc Try.prog W 0 (fun _ => true) true 54 v d p) :
    ∃ x y, v = .agg #[.int .i64 x, .int .i64 y] := by
  obtain ⟨cs, rfl, hsz⟩ := okWide_struct Try.underlying54 hv
  obtain ⟨hs, a, h0, h1⟩ := arg_agg h op_dep
  refine ⟨a.fr, a.to, ?_⟩
  rw [arr2 hs h0 h1]
theorem open_intS {base : Nat} {v : Value} {d : DataW H} {p : List MemPlace} (hv : Value.okWide Try.prog W .any base 38 v) (h : DataW.Trod enc Try.prog W 0 (fun _ => true) true 38 v d p) :
    ∃ A cap xs, v = .slice A xs.length cap ∧ RdSl rdIntB W.cell? 1 A xs ∧ xs.length ≤ maxLen :=
  open_sl rdIntB_mono Try.underlying38 (by kernel_rfl) (by decide) (fun _ => op_int Try.underlying3) hv h
end
end Go.Proofs.Ytabbcepdinplfaa
