/- FnExactPlanAt: for every input the law returns true, and its arguments read as before. No conditions. -/
import Derived.Test.YtlmiadeaiiehaaaLFnExactPlanAt
import Derived.Test.YtlmiadeaiiehaaaLaw
import Derived.Test.YtlmiadeaiiehaaaOpenI
namespace Go.Proofs.Ytlmiadeaiiehaaa.fnExactPlanAt
open Go Go.ChangeShapes Go.WideShapes Go.ChangeAt Go.RowKit

set_option maxRecDepth 100000 in
theorem lifted (os : Os) (started : os.Started) (H : Type) (enc : TypeId × Value → H) :
    ReturnsInHanded {} Try.checked os 4 .any (Rows.fnExactPlanAtSpec.pre6 enc Try.prog Try.f4 Rows.fnExactPlanAtRow.domain false) (Rows.fnExactPlanAtSpec.post enc Try.prog Try.f4 false true false false) := by
  refine returnsInHanded_of_change (C := Try.checked) lawOwn started (by kernel_rfl) Try.func4
    (ChangeSpec.witness6 (enc := enc) (C := Try.checked) false ⟨#[], #[.agg #[.int .i64 0, .int .i64 0, .slice none 0 0, .slice none 0 0, .slice none 0 0], .slice none 0 0], []⟩ 8 (by kernel_rfl) (by kernel_rfl) (by kernel_rfl) (by kernel_rfl)) ?_
  intro W base args ds gs before hval0 hW _ _
  have hval : ∀ (j : Nat) t v, Try.f4.params[j]? = some t → args[j]? = some v → Value.okWide Try.prog W .any base t v := hval0
  have hW' : DataW.Whole enc Try.prog Try.f4.params.toList Rows.fnExactPlanAtSpec.vars false W args.toList ds gs before := hW
  obtain ⟨p, q, hA0, _⟩ := hW
  have hA : DataW.TrodAll enc Try.prog W 0 (fun _ => true) true Try.f4.params.toList args.toList ds p := hA0
  rw [Try.params4] at hA hval
  obtain ⟨v0, vs0, d0, ds0, p0, q0, hargs, rfl, rfl, h0, r00⟩ := trodAll_cons hA
  obtain ⟨v1, vs1, d1, ds1, p1, q1, rfl, rfl, rfl, h1, r10⟩ := trodAll_cons r00
  obtain ⟨rfl, rfl, rfl⟩ := trodAll_nil r10
  obtain rfl : args = #[v0, v1] := by cases args; simp_all
  clear hargs
  obtain ⟨n0, e0, s0, rfl, r0⟩ := open_pl (hval 0 42 v0 rfl rfl) h0
  obtain ⟨A1, c1, x1, rfl, r1, l1, k1⟩ := open_intI (hval 1 26 v1 rfl rfl) h1
  refine (walkFnExactPlanAt n0 e0 s0 A1 c1 x1 W r0 r1 l1).mono fun e W' ⟨he, hg⟩ => ?_
  subst he
  exact ⟨_, rfl, law_post lawLaidOut (show Try.f4.resultTypes = #[4] by kernel_rfl) Try.underlying4 rfl (by kernel_rfl) rfl hW' hg⟩

theorem closed : joinedFacts Try.prog 4 Try.f4 Rows.fnExactPlanAtSpec Rows.fnExactPlanAtRow = true :=
  law_closed (by kernel_rfl) (by kernel_rfl) (by kernel_rfl) (by kernel_rfl) (by kernel_rfl) (by kernel_rfl) (by kernel_rfl) (by kernel_rfl) (by kernel_rfl) (by kernel_rfl) (by kernel_rfl)
theorem named : Try.prog.funcNamed Rows.fnExactPlanAtRow.func = some 4 := by kernel_rfl
theorem proved : Rows.FnExactPlanAtSaid :=
  OpenClaim.holds_of_wide 4 Try.f4 rfl rfl rfl rfl rfl rfl rfl ⟨rfl, rfl, rfl, rfl, rfl⟩ rfl rfl rfl rfl rfl named Try.func4 closed
    (of_decide_eq_true (by kernel_rfl)) (by unfold Func.isWrapper; rw [if_neg (of_decide_eq_false (by kernel_rfl))]; exact ⟨rfl, rfl⟩)
    (fun os started H enc _ => lifted os started H enc)
#print axioms proved
end Go.Proofs.Ytlmiadeaiiehaaa.fnExactPlanAt
