/- FnExactCheckHomomorphism: for every input the law returns true, and its arguments read as before. No conditions. -/
import Derived.Test.YtahclhldpcboeaaLFnExactCheckHomomorphism
import Derived.Test.YtahclhldpcboeaaLaw
namespace Go.Proofs.Ytahclhldpcboeaa.fnExactCheckHomomorphism
open Go Go.ChangeShapes Go.WideShapes Go.ChangeAt Go.RowKit

set_option maxRecDepth 100000 in
theorem lifted (os : Os) (started : os.Started) (H : Type) (enc : TypeId × Value → H) :
    ReturnsInHanded {} Try.checked os 3 .any (Rows.fnExactCheckHomomorphismSpec.pre6 enc Try.prog Try.f3 Rows.fnExactCheckHomomorphismRow.domain false) (Rows.fnExactCheckHomomorphismSpec.post enc Try.prog Try.f3 false true false false) := by
  refine returnsInHanded_of_change (C := Try.checked) lawOwn started (by kernel_rfl) Try.func3
    (ChangeSpec.witness6 (enc := enc) (C := Try.checked) false ⟨#[], #[.agg #[.int .i64 0, .slice none 0 0, .slice none 0 0], .agg #[.int .i64 0, .slice none 0 0, .slice none 0 0], .slice none 0 0], []⟩ 8 (by kernel_rfl) (by kernel_rfl) (by kernel_rfl) (by kernel_rfl)) ?_
  intro W base args ds gs before hval0 hW _ _
  have hval : ∀ (j : Nat) t v, Try.f3.params[j]? = some t → args[j]? = some v → Value.okWide Try.prog W .any base t v := hval0
  have hW' : DataW.Whole enc Try.prog Try.f3.params.toList Rows.fnExactCheckHomomorphismSpec.vars false W args.toList ds gs before := hW
  obtain ⟨p, q, hA0, _⟩ := hW
  have hA : DataW.TrodAll enc Try.prog W 0 (fun _ => true) true Try.f3.params.toList args.toList ds p := hA0
  rw [Try.params3] at hA hval
  obtain ⟨v0, vs0, d0, ds0, p0, q0, hargs, rfl, rfl, h0, r00⟩ := trodAll_cons hA
  obtain ⟨v1, vs1, d1, ds1, p1, q1, rfl, rfl, rfl, h1, r10⟩ := trodAll_cons r00
  obtain ⟨v2, vs2, d2, ds2, p2, q2, rfl, rfl, rfl, h2, r20⟩ := trodAll_cons r10
  obtain ⟨rfl, rfl, rfl⟩ := trodAll_nil r20
  obtain rfl : args = #[v0, v1, v2] := by cases args; simp_all
  clear hargs
  obtain ⟨e0, A0, c0, x0, B0, k0, y0, rfl, r0, s0, l0, m0⟩ := open_rule (hval 0 25 v0 rfl rfl) h0
  obtain ⟨e1, A1, c1, x1, B1, k1, y1, rfl, r1, s1, l1, m1⟩ := open_rule (hval 1 25 v1 rfl rfl) h1
  obtain ⟨A2, c2, x2, rfl, r2, l2, k2⟩ := open_intI (hval 2 22 v2 rfl rfl) h2
  refine (walkFnExactCheckHomomorphism e0 A0 c0 x0 B0 k0 y0 e1 A1 c1 x1 B1 k1 y1 A2 c2 x2 W r0 s0 l0 m0 r1 s1 l1 m1 r2 l2).mono fun e W' ⟨he, hg⟩ => ?_
  subst he
  exact ⟨_, rfl, law_post lawLaidOut (show Try.f3.resultTypes = #[4] by kernel_rfl) Try.underlying4 rfl (by kernel_rfl) rfl hW' hg⟩

theorem closed : joinedFacts Try.prog 3 Try.f3 Rows.fnExactCheckHomomorphismSpec Rows.fnExactCheckHomomorphismRow = true :=
  law_closed (by kernel_rfl) (by kernel_rfl) (by kernel_rfl) (by kernel_rfl) (by kernel_rfl) (by kernel_rfl) (by kernel_rfl) (by kernel_rfl) (by kernel_rfl) (by kernel_rfl) (by kernel_rfl)
theorem named : Try.prog.funcNamed Rows.fnExactCheckHomomorphismRow.func = some 3 := by kernel_rfl
theorem proved : Rows.FnExactCheckHomomorphismSaid :=
  OpenClaim.holds_of_wide 3 Try.f3 rfl rfl rfl rfl rfl rfl rfl ⟨rfl, rfl, rfl, rfl, rfl⟩ rfl rfl rfl rfl rfl named Try.func3 closed
    (of_decide_eq_true (by kernel_rfl)) (by unfold Func.isWrapper; rw [if_neg (of_decide_eq_false (by kernel_rfl))]; exact ⟨rfl, rfl⟩)
    (fun os started H enc _ => lifted os started H enc)
#print axioms proved
end Go.Proofs.Ytahclhldpcboeaa.fnExactCheckHomomorphism
