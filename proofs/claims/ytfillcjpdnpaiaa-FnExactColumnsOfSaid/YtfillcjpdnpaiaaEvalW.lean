/- Walks of the small functions that compute values of expressions. -/
import Derived.Test.YtfillcjpdnpaiaaEvalP
import Derived.Test.YtfillcjpdnpaiaaExprV
namespace Go.Proofs.Ytfillcjpdnpaiaa
open Go Go.RowKit

abbrev Vv (v : V) : Value := .agg #[.bool v.null, .int .i64 v.n]
/-- Spec's truths: 0 false, 1 true, 2 unknown. -/
def V.tS (v : V) : Int := if v.null then 2 else if v.n = 0 then 0 else 1
def trS (t : Int) : V := if t = 2 then ⟨true, 0⟩ else ⟨false, t⟩
def notS (t : Int) : Int := if t = 2 then 2 else 1 - t
def andS (a b : Int) : Int := if a = 0 ∨ b = 0 then 0 else if a = 1 ∧ b = 1 then 1 else 2

theorem specTruth (v : V) (w : World) : Calls Try.prog 81 #[Vv v] w fun r w' => r = .returned (.int .i64 v.tS) ∧ Fr w w' := by
  obtain ⟨b, n⟩ := v
  cases b
  · by_cases h : n = 0
    · subst h
      go_enter Try.func81, Try.ntmps81
      go_wp2
      go_ret
      exact ⟨rfl, by (repeat (first | with_reducible exact Fr.refl _ | with_reducible assumption | with_reducible refine Fr.alloc ?_ _ | with_reducible refine Fr.drew ?_ | with_reducible refine Fr.drewN ?_ _ | (with_reducible refine Fr.setNew2 ?_ ?_ _; · (simp <;> omega)) | with_reducible refine Fr.trans ?_ (by assumption)))⟩
    · have e : (n == 0) = false := by simp [h]
      go_enter Try.func81, Try.ntmps81
      go_wp2
      go_ret
      exact ⟨ret_int (by simp [V.tS, h]), by (repeat (first | with_reducible exact Fr.refl _ | with_reducible assumption | with_reducible refine Fr.alloc ?_ _ | with_reducible refine Fr.drew ?_ | with_reducible refine Fr.drewN ?_ _ | (with_reducible refine Fr.setNew2 ?_ ?_ _; · (simp <;> omega)) | with_reducible refine Fr.trans ?_ (by assumption)))⟩
  · go_enter Try.func81, Try.ntmps81
    go_wp2
    go_ret
    exact ⟨rfl, by (repeat (first | with_reducible exact Fr.refl _ | with_reducible assumption | with_reducible refine Fr.alloc ?_ _ | with_reducible refine Fr.drew ?_ | with_reducible refine Fr.drewN ?_ _ | (with_reducible refine Fr.setNew2 ?_ ?_ _; · (simp <;> omega)) | with_reducible refine Fr.trans ?_ (by assumption)))⟩
theorem implTruth (v : V) (w : World) : Calls Try.prog 74 #[Vv v] w fun r w' => r = .returned (.int .i64 v.tr) ∧ Fr w w' := by
  obtain ⟨b, n⟩ := v
  cases b
  · by_cases h : n = 0
    · subst h
      go_enter Try.func74, Try.ntmps74
      go_wp2
      go_ret
      exact ⟨rfl, by (repeat (first | with_reducible exact Fr.refl _ | with_reducible assumption | with_reducible refine Fr.alloc ?_ _ | with_reducible refine Fr.drew ?_ | with_reducible refine Fr.drewN ?_ _ | (with_reducible refine Fr.setNew2 ?_ ?_ _; · (simp <;> omega)) | with_reducible refine Fr.trans ?_ (by assumption)))⟩
    · have e : (n == 0) = false := by simp [h]
      go_enter Try.func74, Try.ntmps74
      go_wp2
      go_ret
      exact ⟨ret_int (by simp [V.tr, h]), by (repeat (first | with_reducible exact Fr.refl _ | with_reducible assumption | with_reducible refine Fr.alloc ?_ _ | with_reducible refine Fr.drew ?_ | with_reducible refine Fr.drewN ?_ _ | (with_reducible refine Fr.setNew2 ?_ ?_ _; · (simp <;> omega)) | with_reducible refine Fr.trans ?_ (by assumption)))⟩
  · go_enter Try.func74, Try.ntmps74
    go_wp2
    go_ret
    exact ⟨rfl, by (repeat (first | with_reducible exact Fr.refl _ | with_reducible assumption | with_reducible refine Fr.alloc ?_ _ | with_reducible refine Fr.drew ?_ | with_reducible refine Fr.drewN ?_ _ | (with_reducible refine Fr.setNew2 ?_ ?_ _; · (simp <;> omega)) | with_reducible refine Fr.trans ?_ (by assumption)))⟩
theorem specNot (t : Int) (w : World) (h0 : 0 ≤ t) (h2 : t ≤ 2) : Calls Try.prog 80 #[.int .i64 t] w fun r w' => r = .returned (.int .i64 (notS t)) ∧ w = w' := by
  go_enter Try.func80, Try.ntmps80
  go_wp2
  all_goals go_ret
  all_goals exact ⟨ret_int (by unfold notS; split <;> simp_all <;> omega), rfl⟩
theorem specAnd (a b : Int) (w : World) : Calls Try.prog 90 #[.int .i64 a, .int .i64 b] w fun r w' => r = .returned (.int .i64 (andS a b)) ∧ w = w' := by
  by_cases a0 : a = 0 <;> by_cases b0 : b = 0 <;> by_cases a1 : a = 1 <;> by_cases b1 : b = 1
  all_goals go_enter Try.func90, Try.ntmps90
  all_goals go_wp2
  all_goals go_ret
  all_goals exact ⟨ret_int (by simp_all [andS]), rfl⟩
theorem specToInt (b : Bool) (w : World) : Calls Try.prog 82 #[.bool b] w fun r w' => r = .returned (.int .i64 (if b then 1 else 0)) ∧ w = w' := by
  cases b
  all_goals go_enter Try.func82, Try.ntmps82
  all_goals go_wp2
  all_goals go_ret
  all_goals exact ⟨rfl, rfl⟩
theorem specOf (t : Int) (w : World) : Calls Try.prog 79 #[.int .i64 t] w fun r w' => r = .returned (Vv (trS t)) ∧ Fr w w' := by
  by_cases h : t = 2
  · subst h
    go_enter Try.func79, Try.ntmps79
    go_wp2
    exact bodyPost_ret (v := .agg #[.bool true, .int .i64 0]) (by simp [results, Try.results79, go_sem]) rfl ⟨rfl, by (repeat (first | with_reducible exact Fr.refl _ | with_reducible assumption | with_reducible refine Fr.alloc ?_ _ | with_reducible refine Fr.drew ?_ | with_reducible refine Fr.drewN ?_ _ | (with_reducible refine Fr.setNew2 ?_ ?_ _; · (simp <;> omega)) | with_reducible refine Fr.trans ?_ (by assumption)))⟩
  · have e : (t == 2) = false := by simp [h]
    have R := hid (show trS t = ⟨false, t⟩ from if_neg h)
    go_enter Try.func79, Try.ntmps79
    go_wp2
    exact bodyPost_ret (v := .agg #[.bool false, .int .i64 t]) (by simp [results, Try.results79, go_sem]) rfl ⟨by rw [R.out], by (repeat (first | with_reducible exact Fr.refl _ | with_reducible assumption | with_reducible refine Fr.alloc ?_ _ | with_reducible refine Fr.drew ?_ | with_reducible refine Fr.drewN ?_ _ | (with_reducible refine Fr.setNew2 ?_ ?_ _; · (simp <;> omega)) | with_reducible refine Fr.trans ?_ (by assumption)))⟩
theorem implNull (w : World) : Calls Try.prog 88 #[] w fun r w' => r = .returned (.agg #[.bool true, .int .i64 0]) ∧ Fr w w' := by
  go_enter Try.func88, Try.ntmps88
  go_wp2
  exact bodyPost_ret (v := .agg #[.bool true, .int .i64 0]) (by simp [results, Try.results88, go_sem]) rfl ⟨rfl, by (repeat (first | with_reducible exact Fr.refl _ | with_reducible assumption | with_reducible refine Fr.alloc ?_ _ | with_reducible refine Fr.drew ?_ | with_reducible refine Fr.drewN ?_ _ | (with_reducible refine Fr.setNew2 ?_ ?_ _; · (simp <;> omega)) | with_reducible refine Fr.trans ?_ (by assumption)))⟩
theorem implNumber (n : Int) (w : World) : Calls Try.prog 50 #[.int .i64 n] w fun r w' => r = .returned (.agg #[.bool false, .int .i64 n]) ∧ Fr w w' := by
  go_enter Try.func50, Try.ntmps50
  go_wp2
  exact bodyPost_ret (v := .agg #[.bool false, .int .i64 n]) (by simp [results, Try.results50, go_sem]) rfl ⟨rfl, by (repeat (first | with_reducible exact Fr.refl _ | with_reducible assumption | with_reducible refine Fr.alloc ?_ _ | with_reducible refine Fr.drew ?_ | with_reducible refine Fr.drewN ?_ _ | (with_reducible refine Fr.setNew2 ?_ ?_ _; · (simp <;> omega)) | with_reducible refine Fr.trans ?_ (by assumption)))⟩
/-- The result's block behind a last call. -/
theorem resBlk {w w1 : World} {t : TypeId} {a b : Value} (b1 : Fr (w.alloc (.cells #[a, b] t)) w1) : Blk w1 w.heap.size t #[a, b] := (Blk.new w t #[a, b]).fr b1
theorem implFlag (b : Bool) (w : World) : Calls Try.prog 76 #[.bool b] w fun r w' => r = .returned (Vv (V.flag b)) ∧ Fr w w' := by
  cases b
  all_goals go_enter Try.func76, Try.ntmps76
  all_goals go_wp2_with fail
  all_goals refine (implNumber _ _).mono ?_
  all_goals rintro r w1 ⟨rfl, b1⟩
  all_goals obtain ⟨d0, d1, f0, f1⟩ := (resBlk b1).pair
  all_goals have F1 : Fr w w1 := ((Fr.refl w).alloc _).trans b1
  all_goals go_wp2
  · exact bodyPost_ret (v := .agg #[.bool false, .int .i64 0]) (by simp [results, Try.results76, go_sem, d0, d1]) rfl ⟨rfl, by (repeat (first | with_reducible exact Fr.refl _ | with_reducible assumption | with_reducible refine Fr.alloc ?_ _ | with_reducible refine Fr.drew ?_ | with_reducible refine Fr.drewN ?_ _ | (with_reducible refine Fr.setNew2 ?_ ?_ _; · (simp <;> omega)) | with_reducible refine Fr.trans ?_ (by assumption)))⟩
  · exact bodyPost_ret (v := .agg #[.bool false, .int .i64 1]) (by simp [results, Try.results76, go_sem, d0, d1]) rfl ⟨rfl, by (repeat (first | with_reducible exact Fr.refl _ | with_reducible assumption | with_reducible refine Fr.alloc ?_ _ | with_reducible refine Fr.drew ?_ | with_reducible refine Fr.drewN ?_ _ | (with_reducible refine Fr.setNew2 ?_ ?_ _; · (simp <;> omega)) | with_reducible refine Fr.trans ?_ (by assumption)))⟩
end Go.Proofs.Ytfillcjpdnpaiaa
