/- FnExactAnswers: for every input the law returns true, and its arguments read as before. No conditions. -/
import Derived.Test.YtahclhldpcboeaaLFnExactAnswers
import Derived.Test.YtahclhldpcboeaaLaw
namespace Go.Proofs.Ytahclhldpcboeaa.fnExactAnswers
open Go Go.ChangeShapes Go.WideShapes Go.ChangeAt Go.RowKit

set_option maxRecDepth 100000 in
theorem lifted (os : Os) (started : os.Started) (H : Type) (enc : TypeId × Value → H) :
    ReturnsInHanded {} Try.checked os 5 .any (Rows.fnExactAnswersSpec.pre6 enc Try.prog Try.f5 Rows.fnExactAnswersRow.domain false) (Rows.fnExactAnswersSpec.post enc Try.prog Try.f5 false true false false) := by
  refine returnsInHanded_of_change (C := Try.checked) lawOwn started (by kernel_rfl) Try.func5
    (ChangeSpec.witness6 (enc := enc) (C := Try.checked) false ⟨#[], #[.agg #[.int .i64 0, .slice none 0 0, .slice none 0 0], .slice none 0 0], []⟩ 8 (by kernel_rfl) (by kernel_rfl) (by kernel_rfl) (by kernel_rfl)) ?_
  intro W base args ds gs before hval0 hW _ _
  have hval : ∀ (j : Nat) t v, Try.f5.params[j]? = some t → args[j]? = some v → Value.okWide Try.prog W .any base t v := hval0
  have hW' : DataW.Whole enc Try.prog Try.f5.params.toList Rows.fnExactAnswersSpec.vars false W args.toList ds gs before := hW
  obtain ⟨p, q, hA0, _⟩ := hW
  have hA : DataW.TrodAll enc Try.prog W 0 (fun _ => true) true Try.f5.params.toList args.toList ds p := hA0
  rw [Try.params5] at hA hval
  obtain ⟨v0, vs0, d0, ds0, p0, q0, hargs, rfl, rfl, h0, r00⟩ := trodAll_cons hA
  obtain ⟨v1, vs1, d1, ds1, p1, q1, rfl, rfl, rfl, h1, r10⟩ := trodAll_cons r00
  obtain ⟨rfl, rfl, rfl⟩ := trodAll_nil r10
  obtain rfl : args = #[v0, v1] := by cases args; simp_all
  clear hargs
  obtain ⟨e0, A0, c0, x0, B0, k0, y0, rfl, r0, s0, l0, m0⟩ := open_rule (hval 0 25 v0 rfl rfl) h0
  obtain ⟨A1, c1, x1, rfl, r1, l1, k1⟩ := open_factS (hval 1 42 v1 rfl rfl) h1
  refine (walkFnExactAnswers e0 A0 c0 x0 B0 k0 y0 A1 c1 x1 W r0 s0 l0 m0 r1 l1).mono fun e W' ⟨he, hg⟩ => ?_
  subst he
  exact ⟨_, rfl, law_post lawLaidOut (show Try.f5.resultTypes = #[4] by kernel_rfl) Try.underlying4 rfl (by kernel_rfl) rfl hW' hg⟩

theorem closed : joinedFacts Try.prog 5 Try.f5 Rows.fnExactAnswersSpec Rows.fnExactAnswersRow = true :=
  law_closed (by kernel_rfl) (by kernel_rfl) (by kernel_rfl) (by kernel_rfl) (by kernel_rfl) (by kernel_rfl) (by kernel_rfl) (by kernel_rfl) (by kernel_rfl) (by kernel_rfl) (by kernel_rfl)
theorem named : Try.prog.funcNamed Rows.fnExactAnswersRow.func = some 5 := by kernel_rfl
theorem proved : Rows.FnExactAnswersSaid :=
  OpenClaim.holds_of_wide 5 Try.f5 rfl rfl rfl rfl rfl rfl rfl ⟨rfl, rfl, rfl, rfl, rfl⟩ rfl rfl rfl rfl rfl named Try.func5 closed
    (of_decide_eq_true (by kernel_rfl)) (by unfold Func.isWrapper; rw [if_neg (of_decide_eq_false (by kernel_rfl))]; exact ⟨rfl, rfl⟩)
    (fun os started H enc _ => lifted os started H enc)
#print axioms proved
end Go.Proofs.Ytahclhldpcboeaa.fnExactAnswers
