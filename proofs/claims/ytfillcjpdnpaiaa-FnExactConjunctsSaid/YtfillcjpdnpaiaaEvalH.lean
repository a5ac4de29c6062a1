/- combine on both sides, whole. -/
import Derived.Test.YtfillcjpdnpaiaaEvalD
import Derived.Test.YtfillcjpdnpaiaaEvalG
namespace Go.Proofs.Ytfillcjpdnpaiaa
open Go Go.RowKit

set_option maxHeartbeats 1000000 in
theorem specCombN (k : Int) (an : Bool) (a : Int) (bn : Bool) (b : Int) (w : World) (h : (an || bn) = true) (e8 : (k == 8) = false) (e9 : (k == 9) = false) : Calls Try.prog 83 #[.int .i64 k, .agg #[.bool an, .int .i64 a], .agg #[.bool bn, .int .i64 b]] w fun r w' => r = .returned (.agg #[.bool true, .int .i64 0]) ∧ Fr w w' := by
  cases an <;> cases bn
  · simp at h
  · go_enter Try.func83, Try.ntmps83
    go_wp2
    exact bodyPost_ret (v := .agg #[.bool true, .int .i64 0]) (by simp [results, Try.results83, go_sem]) rfl ⟨rfl, by (repeat (first | with_reducible exact Fr.refl _ | with_reducible assumption | with_reducible refine Fr.alloc ?_ _ | with_reducible refine Fr.drew ?_ | with_reducible refine Fr.drewN ?_ _ | (with_reducible refine Fr.setNew2 ?_ ?_ _; · (simp <;> omega)) | with_reducible refine Fr.trans ?_ (by assumption)))⟩
  · go_enter Try.func83, Try.ntmps83
    go_wp2
    exact bodyPost_ret (v := .agg #[.bool true, .int .i64 0]) (by simp [results, Try.results83, go_sem]) rfl ⟨rfl, by (repeat (first | with_reducible exact Fr.refl _ | with_reducible assumption | with_reducible refine Fr.alloc ?_ _ | with_reducible refine Fr.drew ?_ | with_reducible refine Fr.drewN ?_ _ | (with_reducible refine Fr.setNew2 ?_ ?_ _; · (simp <;> omega)) | with_reducible refine Fr.trans ?_ (by assumption)))⟩
  · go_enter Try.func83, Try.ntmps83
    go_wp2
    exact bodyPost_ret (v := .agg #[.bool true, .int .i64 0]) (by simp [results, Try.results83, go_sem]) rfl ⟨rfl, by (repeat (first | with_reducible exact Fr.refl _ | with_reducible assumption | with_reducible refine Fr.alloc ?_ _ | with_reducible refine Fr.drew ?_ | with_reducible refine Fr.drewN ?_ _ | (with_reducible refine Fr.setNew2 ?_ ?_ _; · (simp <;> omega)) | with_reducible refine Fr.trans ?_ (by assumption)))⟩
theorem specComb (k : Int) (a b : V) (w : World) (ha : a.valid = true) (hb : b.valid = true) : Calls Try.prog 83 #[.int .i64 k, Vv a, Vv b] w fun r w' => r = .returned (Vv (comb k a b)) ∧ Fr w w' := by
  obtain ⟨la1, la2⟩ := valid_range ha
  obtain ⟨lb1, lb2⟩ := valid_range hb
  obtain ⟨an, a⟩ := a
  obtain ⟨bn, b⟩ := b
  clear ha hb
  by_cases h8 : k = 8
  · subst h8; exact specComb8 an a bn b w
  by_cases h9 : k = 9
  · subst h9; exact specComb9 an a bn b w
  have e8 : (k == 8) = false := by simp [h8]
  have e9 : (k == 9) = false := by simp [h9]
  by_cases hn : (an || bn) = true
  · have R : comb k ⟨an, a⟩ ⟨bn, b⟩ = ⟨true, 0⟩ := by unfold comb; rw [if_neg h8, if_neg h9, if_pos hn]
    rw [R]; exact specCombN k an a bn b w hn e8 e9
  have h1 : an = false := by cases an <;> simp_all
  have h2 : bn = false := by cases bn <;> simp_all
  subst h1 h2
  by_cases h3 : k = 3
  · subst h3; exact specComb3 a b w la1 la2 lb1 lb2
  by_cases h4 : k = 4
  · subst h4; exact specComb4 a b w la1 la2 lb1 lb2
  by_cases h5 : k = 5
  · subst h5; exact specComb5 a b w la1 la2 lb1 lb2
  by_cases h6 : k = 6
  · subst h6
    have R : comb 6 ⟨false, a⟩ ⟨false, b⟩ = V.flag (a == b) := by
      show V.flag (decide (a = b)) = _
      congr 1
    rw [R]; exact specComb6 a b w
  · have R : comb k ⟨false, a⟩ ⟨false, b⟩ = V.flag (decide (a < b)) := by unfold comb; rw [if_neg h8, if_neg h9, if_neg hn, if_neg h3, if_neg h4, if_neg h5, if_neg h6]
    rw [R]
    exact specComb7 k a b w e8 e9 (by simp [h3]) (by simp [h4]) (by simp [h5]) (by simp [h6])
set_option maxHeartbeats 1000000 in
theorem implCombN (k : Int) (an : Bool) (a : Int) (bn : Bool) (b : Int) (w : World) (h : (an || bn) = true) (e8 : (k == 8) = false) (e9 : (k == 9) = false) : Calls Try.prog 77 #[.int .i64 k, .agg #[.bool an, .int .i64 a], .agg #[.bool bn, .int .i64 b]] w fun r w' => r = .returned (.agg #[.bool true, .int .i64 0]) ∧ Fr w w' := by
  cases an <;> cases bn
  · simp at h
  · go_enter Try.func77, Try.ntmps77
    go_wp2_with fail
    refine absW fun W hW => ?_
    obtain ⟨BA, BB, BR, FW⟩ := cblk hW
    clear hW
    refine (implNull _).mono ?_
    rintro r w1 ⟨rfl, b9⟩
    obtain ⟨d0, d1, f0, f1⟩ := (BR.fr b9).pair
    have FF := FW.trans b9
    go_wp2
    exact bodyPost_ret (v := .agg #[.bool true, .int .i64 0]) (by simp [results, Try.results77, go_sem, d0, d1]) rfl ⟨rfl, by (repeat (first | with_reducible exact Fr.refl _ | with_reducible assumption | with_reducible refine Fr.alloc ?_ _ | with_reducible refine Fr.drew ?_ | with_reducible refine Fr.drewN ?_ _ | (with_reducible refine Fr.setNew2 ?_ ?_ _; · (simp <;> omega)) | with_reducible refine Fr.trans ?_ (by assumption)))⟩
  · go_enter Try.func77, Try.ntmps77
    go_wp2_with fail
    refine absW fun W hW => ?_
    obtain ⟨BA, BB, BR, FW⟩ := cblk hW
    clear hW
    refine (implNull _).mono ?_
    rintro r w1 ⟨rfl, b9⟩
    obtain ⟨d0, d1, f0, f1⟩ := (BR.fr b9).pair
    have FF := FW.trans b9
    go_wp2
    exact bodyPost_ret (v := .agg #[.bool true, .int .i64 0]) (by simp [results, Try.results77, go_sem, d0, d1]) rfl ⟨rfl, by (repeat (first | with_reducible exact Fr.refl _ | with_reducible assumption | with_reducible refine Fr.alloc ?_ _ | with_reducible refine Fr.drew ?_ | with_reducible refine Fr.drewN ?_ _ | (with_reducible refine Fr.setNew2 ?_ ?_ _; · (simp <;> omega)) | with_reducible refine Fr.trans ?_ (by assumption)))⟩
  · go_enter Try.func77, Try.ntmps77
    go_wp2_with fail
    refine absW fun W hW => ?_
    obtain ⟨BA, BB, BR, FW⟩ := cblk hW
    clear hW
    refine (implNull _).mono ?_
    rintro r w1 ⟨rfl, b9⟩
    obtain ⟨d0, d1, f0, f1⟩ := (BR.fr b9).pair
    have FF := FW.trans b9
    go_wp2
    exact bodyPost_ret (v := .agg #[.bool true, .int .i64 0]) (by simp [results, Try.results77, go_sem, d0, d1]) rfl ⟨rfl, by (repeat (first | with_reducible exact Fr.refl _ | with_reducible assumption | with_reducible refine Fr.alloc ?_ _ | with_reducible refine Fr.drew ?_ | with_reducible refine Fr.drewN ?_ _ | (with_reducible refine Fr.setNew2 ?_ ?_ _; · (simp <;> omega)) | with_reducible refine Fr.trans ?_ (by assumption)))⟩
theorem implComb (k : Int) (a b : V) (w : World) (ha : a.valid = true) (hb : b.valid = true) : Calls Try.prog 77 #[.int .i64 k, Vv a, Vv b] w fun r w' => r = .returned (Vv (comb k a b)) ∧ Fr w w' := by
  obtain ⟨la1, la2⟩ := valid_range ha
  obtain ⟨lb1, lb2⟩ := valid_range hb
  obtain ⟨an, a⟩ := a
  obtain ⟨bn, b⟩ := b
  clear ha hb
  by_cases h8 : k = 8
  · subst h8; exact implComb8 an a bn b w
  by_cases h9 : k = 9
  · subst h9; exact implComb9 an a bn b w
  have e8 : (k == 8) = false := by simp [h8]
  have e9 : (k == 9) = false := by simp [h9]
  by_cases hn : (an || bn) = true
  · have R : comb k ⟨an, a⟩ ⟨bn, b⟩ = ⟨true, 0⟩ := by unfold comb; rw [if_neg h8, if_neg h9, if_pos hn]
    rw [R]; exact implCombN k an a bn b w hn e8 e9
  have h1 : an = false := by cases an <;> simp_all
  have h2 : bn = false := by cases bn <;> simp_all
  subst h1 h2
  by_cases h3 : k = 3
  · subst h3; exact implComb3 a b w la1 la2 lb1 lb2
  by_cases h4 : k = 4
  · subst h4; exact implComb4 a b w la1 la2 lb1 lb2
  by_cases h5 : k = 5
  · subst h5; exact implComb5 a b w la1 la2 lb1 lb2
  by_cases h6 : k = 6
  · subst h6
    have R : comb 6 ⟨false, a⟩ ⟨false, b⟩ = V.flag (a == b) := by
      show V.flag (decide (a = b)) = _
      congr 1
    rw [R]; exact implComb6 a b w
  · have R : comb k ⟨false, a⟩ ⟨false, b⟩ = V.flag (decide (a < b)) := by unfold comb; rw [if_neg h8, if_neg h9, if_neg hn, if_neg h3, if_neg h4, if_neg h5, if_neg h6]
    rw [R]
    exact implComb7 k a b w e8 e9 (by simp [h3]) (by simp [h4]) (by simp [h5]) (by simp [h6])
end Go.Proofs.Ytfillcjpdnpaiaa
