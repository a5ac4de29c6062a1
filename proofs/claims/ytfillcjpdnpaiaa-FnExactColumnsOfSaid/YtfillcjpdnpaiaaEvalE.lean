/- impl.combined of two values. -/
import Derived.Test.YtfillcjpdnpaiaaEvalC
namespace Go.Proofs.Ytfillcjpdnpaiaa
open Go Go.RowKit

set_option maxHeartbeats 1000000 in
theorem implComb3 (a b : Int) (w : World) (la1 : -9999 ≤ a) (la2 : a ≤ 9999) (lb1 : -9999 ≤ b) (lb2 : b ≤ 9999) : Calls Try.prog 77 #[.int .i64 3, .agg #[.bool false, .int .i64 a], .agg #[.bool false, .int .i64 b]] w fun r w' => r = .returned (Vv (comb 3 ⟨false, a⟩ ⟨false, b⟩)) ∧ Fr w w' := by
  have R := hid (show comb 3 ⟨false, a⟩ ⟨false, b⟩ = V.ofN (a + b) from rfl)
  go_enter Try.func77, Try.ntmps77
  go_wp2_with fail
  refine absW fun W hW => ?_
  obtain ⟨BA, BB, BR, FW⟩ := cblk hW
  clear hW
  refine (implNum _ _).mono ?_
  rintro r w1 ⟨rfl, b9⟩
  obtain ⟨d0, d1, f0, f1⟩ := (BR.fr b9).pair
  have FF := FW.trans b9
  go_wp2
  exact bodyPost_ret (v := Vv (V.ofN (a + b))) (by simp [results, Try.results77, go_sem, d0, d1]) rfl ⟨by rw [R.out], by (repeat (first | with_reducible exact Fr.refl _ | with_reducible assumption | with_reducible refine Fr.alloc ?_ _ | with_reducible refine Fr.drew ?_ | with_reducible refine Fr.drewN ?_ _ | (with_reducible refine Fr.setNew2 ?_ ?_ _; · (simp <;> omega)) | with_reducible refine Fr.trans ?_ (by assumption)))⟩
set_option maxHeartbeats 1000000 in
theorem implComb4 (a b : Int) (w : World) (la1 : -9999 ≤ a) (la2 : a ≤ 9999) (lb1 : -9999 ≤ b) (lb2 : b ≤ 9999) : Calls Try.prog 77 #[.int .i64 4, .agg #[.bool false, .int .i64 a], .agg #[.bool false, .int .i64 b]] w fun r w' => r = .returned (Vv (comb 4 ⟨false, a⟩ ⟨false, b⟩)) ∧ Fr w w' := by
  have R := hid (show comb 4 ⟨false, a⟩ ⟨false, b⟩ = V.ofN (a - b) from rfl)
  go_enter Try.func77, Try.ntmps77
  go_wp2_with fail
  refine absW fun W hW => ?_
  obtain ⟨BA, BB, BR, FW⟩ := cblk hW
  clear hW
  refine (implNum _ _).mono ?_
  rintro r w1 ⟨rfl, b9⟩
  obtain ⟨d0, d1, f0, f1⟩ := (BR.fr b9).pair
  have FF := FW.trans b9
  go_wp2
  exact bodyPost_ret (v := Vv (V.ofN (a - b))) (by simp [results, Try.results77, go_sem, d0, d1]) rfl ⟨by rw [R.out], by (repeat (first | with_reducible exact Fr.refl _ | with_reducible assumption | with_reducible refine Fr.alloc ?_ _ | with_reducible refine Fr.drew ?_ | with_reducible refine Fr.drewN ?_ _ | (with_reducible refine Fr.setNew2 ?_ ?_ _; · (simp <;> omega)) | with_reducible refine Fr.trans ?_ (by assumption)))⟩
set_option maxHeartbeats 1000000 in
theorem implComb5 (a b : Int) (w : World) (la1 : -9999 ≤ a) (la2 : a ≤ 9999) (lb1 : -9999 ≤ b) (lb2 : b ≤ 9999) : Calls Try.prog 77 #[.int .i64 5, .agg #[.bool false, .int .i64 a], .agg #[.bool false, .int .i64 b]] w fun r w' => r = .returned (Vv (comb 5 ⟨false, a⟩ ⟨false, b⟩)) ∧ Fr w w' := by
  have R := hid (show comb 5 ⟨false, a⟩ ⟨false, b⟩ = V.ofN (a * b) from rfl)
  obtain ⟨m1, m2⟩ := mul_range la1 la2 lb1 lb2
  have ew : IntKind.i64.wrap (a * b) = a * b := IntWalk.i64_in _ (by omega)
  have ew2 : wrap64 (a * b) = a * b := by rw [← IntWalk.i64_left]; exact ew
  go_enter Try.func77, Try.ntmps77
  go_wp2_with fail
  refine absW fun W hW => ?_
  obtain ⟨BA, BB, BR, FW⟩ := cblk hW
  clear hW
  refine (implNum _ _).mono ?_
  rintro r w1 ⟨rfl, b9⟩
  obtain ⟨d0, d1, f0, f1⟩ := (BR.fr b9).pair
  have FF := FW.trans b9
  go_wp2
  exact bodyPost_ret (v := Vv (V.ofN (a * b))) (by simp [results, Try.results77, go_sem, d0, d1]) rfl ⟨by rw [R.out], by (repeat (first | with_reducible exact Fr.refl _ | with_reducible assumption | with_reducible refine Fr.alloc ?_ _ | with_reducible refine Fr.drew ?_ | with_reducible refine Fr.drewN ?_ _ | (with_reducible refine Fr.setNew2 ?_ ?_ _; · (simp <;> omega)) | with_reducible refine Fr.trans ?_ (by assumption)))⟩
set_option maxHeartbeats 1000000 in
theorem implComb6 (a b : Int) (w : World) : Calls Try.prog 77 #[.int .i64 6, .agg #[.bool false, .int .i64 a], .agg #[.bool false, .int .i64 b]] w fun r w' => r = .returned (Vv (V.flag (a == b))) ∧ Fr w w' := by
  cases he : (a == b)
  · have R := hid (show V.flag false = ⟨false, 0⟩ from rfl)
    go_enter Try.func77, Try.ntmps77
    go_wp2_with fail
    refine absW fun W hW => ?_
    obtain ⟨BA, BB, BR, FW⟩ := cblk hW
    clear hW
    refine (implFlag _ _).mono ?_
    rintro r w1 ⟨rfl, b9⟩
    obtain ⟨d0, d1, f0, f1⟩ := (BR.fr b9).pair
    have FF := FW.trans b9
    go_wp2
    exact bodyPost_ret (v := .agg #[.bool false, .int .i64 0]) (by simp [results, Try.results77, go_sem, d0, d1, V.flag]) rfl ⟨by rw [R.out], by (repeat (first | with_reducible exact Fr.refl _ | with_reducible assumption | with_reducible refine Fr.alloc ?_ _ | with_reducible refine Fr.drew ?_ | with_reducible refine Fr.drewN ?_ _ | (with_reducible refine Fr.setNew2 ?_ ?_ _; · (simp <;> omega)) | with_reducible refine Fr.trans ?_ (by assumption)))⟩
  · have R := hid (show V.flag true = ⟨false, 1⟩ from rfl)
    go_enter Try.func77, Try.ntmps77
    go_wp2_with fail
    refine absW fun W hW => ?_
    obtain ⟨BA, BB, BR, FW⟩ := cblk hW
    clear hW
    refine (implFlag _ _).mono ?_
    rintro r w1 ⟨rfl, b9⟩
    obtain ⟨d0, d1, f0, f1⟩ := (BR.fr b9).pair
    have FF := FW.trans b9
    go_wp2
    exact bodyPost_ret (v := .agg #[.bool false, .int .i64 1]) (by simp [results, Try.results77, go_sem, d0, d1, V.flag]) rfl ⟨by rw [R.out], by (repeat (first | with_reducible exact Fr.refl _ | with_reducible assumption | with_reducible refine Fr.alloc ?_ _ | with_reducible refine Fr.drew ?_ | with_reducible refine Fr.drewN ?_ _ | (with_reducible refine Fr.setNew2 ?_ ?_ _; · (simp <;> omega)) | with_reducible refine Fr.trans ?_ (by assumption)))⟩
set_option maxHeartbeats 1000000 in
theorem implComb7 (k : Int) (a b : Int) (w : World) (e8 : (k == 8) = false) (e9 : (k == 9) = false) (e3 : (k == 3) = false) (e4 : (k == 4) = false) (e5 : (k == 5) = false) (e6 : (k == 6) = false) : Calls Try.prog 77 #[.int .i64 k, .agg #[.bool false, .int .i64 a], .agg #[.bool false, .int .i64 b]] w fun r w' => r = .returned (Vv (V.flag (decide (a < b)))) ∧ Fr w w' := by
  cases he : decide (a < b)
  · have R := hid (show V.flag false = ⟨false, 0⟩ from rfl)
    go_enter Try.func77, Try.ntmps77
    go_wp2_with fail
    refine absW fun W hW => ?_
    obtain ⟨BA, BB, BR, FW⟩ := cblk hW
    clear hW
    refine (implFlag _ _).mono ?_
    rintro r w1 ⟨rfl, b9⟩
    obtain ⟨d0, d1, f0, f1⟩ := (BR.fr b9).pair
    have FF := FW.trans b9
    go_wp2
    exact bodyPost_ret (v := .agg #[.bool false, .int .i64 0]) (by simp [results, Try.results77, go_sem, d0, d1, V.flag]) rfl ⟨by rw [R.out], by (repeat (first | with_reducible exact Fr.refl _ | with_reducible assumption | with_reducible refine Fr.alloc ?_ _ | with_reducible refine Fr.drew ?_ | with_reducible refine Fr.drewN ?_ _ | (with_reducible refine Fr.setNew2 ?_ ?_ _; · (simp <;> omega)) | with_reducible refine Fr.trans ?_ (by assumption)))⟩
  · have R := hid (show V.flag true = ⟨false, 1⟩ from rfl)
    go_enter Try.func77, Try.ntmps77
    go_wp2_with fail
    refine absW fun W hW => ?_
    obtain ⟨BA, BB, BR, FW⟩ := cblk hW
    clear hW
    refine (implFlag _ _).mono ?_
    rintro r w1 ⟨rfl, b9⟩
    obtain ⟨d0, d1, f0, f1⟩ := (BR.fr b9).pair
    have FF := FW.trans b9
    go_wp2
    exact bodyPost_ret (v := .agg #[.bool false, .int .i64 1]) (by simp [results, Try.results77, go_sem, d0, d1, V.flag]) rfl ⟨by rw [R.out], by (repeat (first | with_reducible exact Fr.refl _ | with_reducible assumption | with_reducible refine Fr.alloc ?_ _ | with_reducible refine Fr.drew ?_ | with_reducible refine Fr.drewN ?_ _ | (with_reducible refine Fr.setNew2 ?_ ?_ _; · (simp <;> omega)) | with_reducible refine Fr.trans ?_ (by assumption)))⟩
end Go.Proofs.Ytfillcjpdnpaiaa
