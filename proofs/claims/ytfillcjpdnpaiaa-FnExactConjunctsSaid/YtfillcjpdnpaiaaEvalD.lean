/- spec.combine of two values. -/
import Derived.Test.YtfillcjpdnpaiaaEvalC
namespace Go.Proofs.Ytfillcjpdnpaiaa
open Go Go.RowKit

set_option maxHeartbeats 1000000 in
theorem specComb3 (a b : Int) (w : World) (la1 : -9999 ≤ a) (la2 : a ≤ 9999) (lb1 : -9999 ≤ b) (lb2 : b ≤ 9999) : Calls Try.prog 83 #[.int .i64 3, .agg #[.bool false, .int .i64 a], .agg #[.bool false, .int .i64 b]] w fun r w' => r = .returned (Vv (comb 3 ⟨false, a⟩ ⟨false, b⟩)) ∧ Fr w w' := by
  have R := hid (show comb 3 ⟨false, a⟩ ⟨false, b⟩ = V.ofN (a + b) from rfl)
  go_enter Try.func83, Try.ntmps83
  go_wp2_with fail
  refine absW fun W hW => ?_
  obtain ⟨BA, BB, BR, FW⟩ := cblk hW
  clear hW
  refine (specNumber _ _).mono ?_
  rintro r w1 ⟨rfl, b9⟩
  obtain ⟨d0, d1, f0, f1⟩ := (BR.fr b9).pair
  have FF := FW.trans b9
  go_wp2
  exact bodyPost_ret (v := Vv (V.ofN (a + b))) (by simp [results, Try.results83, go_sem, d0, d1]) rfl ⟨by rw [R.out], by (repeat (first | with_reducible exact Fr.refl _ | with_reducible assumption | with_reducible refine Fr.alloc ?_ _ | with_reducible refine Fr.drew ?_ | with_reducible refine Fr.drewN ?_ _ | (with_reducible refine Fr.setNew2 ?_ ?_ _; · (simp <;> omega)) | with_reducible refine Fr.trans ?_ (by assumption)))⟩
set_option maxHeartbeats 1000000 in
theorem specComb4 (a b : Int) (w : World) (la1 : -9999 ≤ a) (la2 : a ≤ 9999) (lb1 : -9999 ≤ b) (lb2 : b ≤ 9999) : Calls Try.prog 83 #[.int .i64 4, .agg #[.bool false, .int .i64 a], .agg #[.bool false, .int .i64 b]] w fun r w' => r = .returned (Vv (comb 4 ⟨false, a⟩ ⟨false, b⟩)) ∧ Fr w w' := by
  have R := hid (show comb 4 ⟨false, a⟩ ⟨false, b⟩ = V.ofN (a - b) from rfl)
  go_enter Try.func83, Try.ntmps83
  go_wp2_with fail
  refine absW fun W hW => ?_
  obtain ⟨BA, BB, BR, FW⟩ := cblk hW
  clear hW
  refine (specNumber _ _).mono ?_
  rintro r w1 ⟨rfl, b9⟩
  obtain ⟨d0, d1, f0, f1⟩ := (BR.fr b9).pair
  have FF := FW.trans b9
  go_wp2
  exact bodyPost_ret (v := Vv (V.ofN (a - b))) (by simp [results, Try.results83, go_sem, d0, d1]) rfl ⟨by rw [R.out], by (repeat (first | with_reducible exact Fr.refl _ | with_reducible assumption | with_reducible refine Fr.alloc ?_ _ | with_reducible refine Fr.drew ?_ | with_reducible refine Fr.drewN ?_ _ | (with_reducible refine Fr.setNew2 ?_ ?_ _; · (simp <;> omega)) | with_reducible refine Fr.trans ?_ (by assumption)))⟩
set_option maxHeartbeats 1000000 in
theorem specComb5 (a b : Int) (w : World) (la1 : -9999 ≤ a) (la2 : a ≤ 9999) (lb1 : -9999 ≤ b) (lb2 : b ≤ 9999) : Calls Try.prog 83 #[.int .i64 5, .agg #[.bool false, .int .i64 a], .agg #[.bool false, .int .i64 b]] w fun r w' => r = .returned (Vv (comb 5 ⟨false, a⟩ ⟨false, b⟩)) ∧ Fr w w' := by
  have R := hid (show comb 5 ⟨false, a⟩ ⟨false, b⟩ = V.ofN (a * b) from rfl)
  obtain ⟨m1, m2⟩ := mul_range la1 la2 lb1 lb2
  have ew : IntKind.i64.wrap (a * b) = a * b := IntWalk.i64_in _ (by omega)
  have ew2 : wrap64 (a * b) = a * b := by rw [← IntWalk.i64_left]; exact ew
  go_enter Try.func83, Try.ntmps83
  go_wp2_with fail
  refine absW fun W hW => ?_
  obtain ⟨BA, BB, BR, FW⟩ := cblk hW
  clear hW
  refine (specNumber _ _).mono ?_
  rintro r w1 ⟨rfl, b9⟩
  obtain ⟨d0, d1, f0, f1⟩ := (BR.fr b9).pair
  have FF := FW.trans b9
  go_wp2
  exact bodyPost_ret (v := Vv (V.ofN (a * b))) (by simp [results, Try.results83, go_sem, d0, d1]) rfl ⟨by rw [R.out], by (repeat (first | with_reducible exact Fr.refl _ | with_reducible assumption | with_reducible refine Fr.alloc ?_ _ | with_reducible refine Fr.drew ?_ | with_reducible refine Fr.drewN ?_ _ | (with_reducible refine Fr.setNew2 ?_ ?_ _; · (simp <;> omega)) | with_reducible refine Fr.trans ?_ (by assumption)))⟩
set_option maxHeartbeats 1000000 in
theorem specComb6 (a b : Int) (w : World) : Calls Try.prog 83 #[.int .i64 6, .agg #[.bool false, .int .i64 a], .agg #[.bool false, .int .i64 b]] w fun r w' => r = .returned (Vv (V.flag (a == b))) ∧ Fr w w' := by
  cases he : (a == b)
  · have R := hid (show V.flag false = ⟨false, 0⟩ from rfl)
    go_enter Try.func83, Try.ntmps83
    go_wp2_with fail
    refine absW fun W hW => ?_
    obtain ⟨BA, BB, BR, FW⟩ := cblk hW
    clear hW
    refine (specToInt _ _).mono ?_
    rintro r w1 ⟨rfl, rfl⟩
    obtain ⟨d0, d1, f0, f1⟩ := (BR.fr (Fr.refl _)).pair
    have FF := FW.trans (Fr.refl _)
    go_wp2
    exact bodyPost_ret (v := .agg #[.bool false, .int .i64 0]) (by simp [results, Try.results83, go_sem, d0, d1]) rfl ⟨by rw [R.out], by (repeat (first | with_reducible exact Fr.refl _ | with_reducible assumption | with_reducible refine Fr.alloc ?_ _ | with_reducible refine Fr.drew ?_ | with_reducible refine Fr.drewN ?_ _ | (with_reducible refine Fr.setNew2 ?_ ?_ _; · (simp <;> omega)) | with_reducible refine Fr.trans ?_ (by assumption)))⟩
  · have R := hid (show V.flag true = ⟨false, 1⟩ from rfl)
    go_enter Try.func83, Try.ntmps83
    go_wp2_with fail
    refine absW fun W hW => ?_
    obtain ⟨BA, BB, BR, FW⟩ := cblk hW
    clear hW
    refine (specToInt _ _).mono ?_
    rintro r w1 ⟨rfl, rfl⟩
    obtain ⟨d0, d1, f0, f1⟩ := (BR.fr (Fr.refl _)).pair
    have FF := FW.trans (Fr.refl _)
    go_wp2
    exact bodyPost_ret (v := .agg #[.bool false, .int .i64 1]) (by simp [results, Try.results83, go_sem, d0, d1]) rfl ⟨by rw [R.out], by (repeat (first | with_reducible exact Fr.refl _ | with_reducible assumption | with_reducible refine Fr.alloc ?_ _ | with_reducible refine Fr.drew ?_ | with_reducible refine Fr.drewN ?_ _ | (with_reducible refine Fr.setNew2 ?_ ?_ _; · (simp <;> omega)) | with_reducible refine Fr.trans ?_ (by assumption)))⟩
set_option maxHeartbeats 1000000 in
theorem specComb7 (k : Int) (a b : Int) (w : World) (e8 : (k == 8) = false) (e9 : (k == 9) = false) (e3 : (k == 3) = false) (e4 : (k == 4) = false) (e5 : (k == 5) = false) (e6 : (k == 6) = false) : Calls Try.prog 83 #[.int .i64 k, .agg #[.bool false, .int .i64 a], .agg #[.bool false, .int .i64 b]] w fun r w' => r = .returned (Vv (V.flag (decide (a < b)))) ∧ Fr w w' := by
  cases he : decide (a < b)
  · have R := hid (show V.flag false = ⟨false, 0⟩ from rfl)
    go_enter Try.func83, Try.ntmps83
    go_wp2_with fail
    refine absW fun W hW => ?_
    obtain ⟨BA, BB, BR, FW⟩ := cblk hW
    clear hW
    refine (specToInt _ _).mono ?_
    rintro r w1 ⟨rfl, rfl⟩
    obtain ⟨d0, d1, f0, f1⟩ := (BR.fr (Fr.refl _)).pair
    have FF := FW.trans (Fr.refl _)
    go_wp2
    exact bodyPost_ret (v := .agg #[.bool false, .int .i64 0]) (by simp [results, Try.results83, go_sem, d0, d1]) rfl ⟨by rw [R.out], by (repeat (first | with_reducible exact Fr.refl _ | with_reducible assumption | with_reducible refine Fr.alloc ?_ _ | with_reducible refine Fr.drew ?_ | with_reducible refine Fr.drewN ?_ _ | (with_reducible refine Fr.setNew2 ?_ ?_ _; · (simp <;> omega)) | with_reducible refine Fr.trans ?_ (by assumption)))⟩
  · have R := hid (show V.flag true = ⟨false, 1⟩ from rfl)
    go_enter Try.func83, Try.ntmps83
    go_wp2_with fail
    refine absW fun W hW => ?_
    obtain ⟨BA, BB, BR, FW⟩ := cblk hW
    clear hW
    refine (specToInt _ _).mono ?_
    rintro r w1 ⟨rfl, rfl⟩
    obtain ⟨d0, d1, f0, f1⟩ := (BR.fr (Fr.refl _)).pair
    have FF := FW.trans (Fr.refl _)
    go_wp2
    exact bodyPost_ret (v := .agg #[.bool false, .int .i64 1]) (by simp [results, Try.results83, go_sem, d0, d1]) rfl ⟨by rw [R.out], by (repeat (first | with_reducible exact Fr.refl _ | with_reducible assumption | with_reducible refine Fr.alloc ?_ _ | with_reducible refine Fr.drew ?_ | with_reducible refine Fr.drewN ?_ _ | (with_reducible refine Fr.setNew2 ?_ ?_ _; · (simp <;> omega)) | with_reducible refine Fr.trans ?_ (by assumption)))⟩
/- impl.combined of two values. -/

set_option maxHeartbeats 1000000 in
theorem implComb3 (a b : Int) (w : World) (la1 : -9999 ≤ a) (la2 : a ≤ 9999) (lb1 : -9999 ≤ b) (lb2 : b ≤ 9999) : Calls Try.prog 77 #[.int .i64 3, .agg #[.bool false, .int .i64 a], .agg #[.bool false, .int .i64 b]] w fun r w' => r = .returned (Vv (comb 3 ⟨false, a⟩ ⟨false, b⟩)) ∧ Fr w w' := by
  have R := hid (show comb 3 ⟨false, a⟩ ⟨false, b⟩ = V.ofN (a + b) from rfl)
  go_enter Try.func77, Try.ntmps77
  go_wp2_with fail
  refine absW fun W hW => ?_
  obtain ⟨BA, BB, BR, FW⟩ := cblk hW
  clear hW
  refine (implNum _ _).mono ?_
  rintro r w1 ⟨rfl, b9⟩
  obtain ⟨d0, d1, f0, f1⟩ := (BR.fr b9).pair
  have FF := FW.trans b9
  go_wp2
  exact bodyPost_ret (v := Vv (V.ofN (a + b))) (by simp [results, Try.results77, go_sem, d0, d1]) rfl ⟨by rw [R.out], by (repeat (first | with_reducible exact Fr.refl _ | with_reducible assumption | with_reducible refine Fr.alloc ?_ _ | with_reducible refine Fr.drew ?_ | with_reducible refine Fr.drewN ?_ _ | (with_reducible refine Fr.setNew2 ?_ ?_ _; · (simp <;> omega)) | with_reducible refine Fr.trans ?_ (by assumption)))⟩
set_option maxHeartbeats 1000000 in
theorem implComb4 (a b : Int) (w : World) (la1 : -9999 ≤ a) (la2 : a ≤ 9999) (lb1 : -9999 ≤ b) (lb2 : b ≤ 9999) : Calls Try.prog 77 #[.int .i64 4, .agg #[.bool false, .int .i64 a], .agg #[.bool false, .int .i64 b]] w fun r w' => r = .returned (Vv (comb 4 ⟨false, a⟩ ⟨false, b⟩)) ∧ Fr w w' := by
  have R := hid (show comb 4 ⟨false, a⟩ ⟨false, b⟩ = V.ofN (a - b) from rfl)
  go_enter Try.func77, Try.ntmps77
  go_wp2_with fail
  refine absW fun W hW => ?_
  obtain ⟨BA, BB, BR, FW⟩ := cblk hW
  clear hW
  refine (implNum _ _).mono ?_
  rintro r w1 ⟨rfl, b9⟩
  obtain ⟨d0, d1, f0, f1⟩ := (BR.fr b9).pair
  have FF := FW.trans b9
  go_wp2
  exact bodyPost_ret (v := Vv (V.ofN (a - b))) (by simp [results, Try.results77, go_sem, d0, d1]) rfl ⟨by rw [R.out], by (repeat (first | with_reducible exact Fr.refl _ | with_reducible assumption | with_reducible refine Fr.alloc ?_ _ | with_reducible refine Fr.drew ?_ | with_reducible refine Fr.drewN ?_ _ | (with_reducible refine Fr.setNew2 ?_ ?_ _; · (simp <;> omega)) | with_reducible refine Fr.trans ?_ (by assumption)))⟩
set_option maxHeartbeats 1000000 in
theorem implComb5 (a b : Int) (w : World) (la1 : -9999 ≤ a) (la2 : a ≤ 9999) (lb1 : -9999 ≤ b) (lb2 : b ≤ 9999) : Calls Try.prog 77 #[.int .i64 5, .agg #[.bool false, .int .i64 a], .agg #[.bool false, .int .i64 b]] w fun r w' => r = .returned (Vv (comb 5 ⟨false, a⟩ ⟨false, b⟩)) ∧ Fr w w' := by
  have R := hid (show comb 5 ⟨false, a⟩ ⟨false, b⟩ = V.ofN (a * b) from rfl)
  obtain ⟨m1, m2⟩ := mul_range la1 la2 lb1 lb2
  have ew : IntKind.i64.wrap (a * b) = a * b := IntWalk.i64_in _ (by omega)
  have ew2 : wrap64 (a * b) = a * b := by rw [← IntWalk.i64_left]; exact ew
  go_enter Try.func77, Try.ntmps77
  go_wp2_with fail
  refine absW fun W hW => ?_
  obtain ⟨BA, BB, BR, FW⟩ := cblk hW
  clear hW
  refine (implNum _ _).mono ?_
  rintro r w1 ⟨rfl, b9⟩
  obtain ⟨d0, d1, f0, f1⟩ := (BR.fr b9).pair
  have FF := FW.trans b9
  go_wp2
  exact bodyPost_ret (v := Vv (V.ofN (a * b))) (by simp [results, Try.results77, go_sem, d0, d1]) rfl ⟨by rw [R.out], by (repeat (first | with_reducible exact Fr.refl _ | with_reducible assumption | with_reducible refine Fr.alloc ?_ _ | with_reducible refine Fr.drew ?_ | with_reducible refine Fr.drewN ?_ _ | (with_reducible refine Fr.setNew2 ?_ ?_ _; · (simp <;> omega)) | with_reducible refine Fr.trans ?_ (by assumption)))⟩
set_option maxHeartbeats 1000000 in
theorem implComb6 (a b : Int) (w : World) : Calls Try.prog 77 #[.int .i64 6, .agg #[.bool false, .int .i64 a], .agg #[.bool false, .int .i64 b]] w fun r w' => r = .returned (Vv (V.flag (a == b))) ∧ Fr w w' := by
  cases he : (a == b)
  · have R := hid (show V.flag false = ⟨false, 0⟩ from rfl)
    go_enter Try.func77, Try.ntmps77
    go_wp2_with fail
    refine absW fun W hW => ?_
    obtain ⟨BA, BB, BR, FW⟩ := cblk hW
    clear hW
    refine (implFlag _ _).mono ?_
    rintro r w1 ⟨rfl, b9⟩
    obtain ⟨d0, d1, f0, f1⟩ := (BR.fr b9).pair
    have FF := FW.trans b9
    go_wp2
    exact bodyPost_ret (v := .agg #[.bool false, .int .i64 0]) (by simp [results, Try.results77, go_sem, d0, d1, V.flag]) rfl ⟨by rw [R.out], by (repeat (first | with_reducible exact Fr.refl _ | with_reducible assumption | with_reducible refine Fr.alloc ?_ _ | with_reducible refine Fr.drew ?_ | with_reducible refine Fr.drewN ?_ _ | (with_reducible refine Fr.setNew2 ?_ ?_ _; · (simp <;> omega)) | with_reducible refine Fr.trans ?_ (by assumption)))⟩
  · have R := hid (show V.flag true = ⟨false, 1⟩ from rfl)
    go_enter Try.func77, Try.ntmps77
    go_wp2_with fail
    refine absW fun W hW => ?_
    obtain ⟨BA, BB, BR, FW⟩ := cblk hW
    clear hW
    refine (implFlag _ _).mono ?_
    rintro r w1 ⟨rfl, b9⟩
    obtain ⟨d0, d1, f0, f1⟩ := (BR.fr b9).pair
    have FF := FW.trans b9
    go_wp2
    exact bodyPost_ret (v := .agg #[.bool false, .int .i64 1]) (by simp [results, Try.results77, go_sem, d0, d1, V.flag]) rfl ⟨by rw [R.out], by (repeat (first | with_reducible exact Fr.refl _ | with_reducible assumption | with_reducible refine Fr.alloc ?_ _ | with_reducible refine Fr.drew ?_ | with_reducible refine Fr.drewN ?_ _ | (with_reducible refine Fr.setNew2 ?_ ?_ _; · (simp <;> omega)) | with_reducible refine Fr.trans ?_ (by assumption)))⟩
set_option maxHeartbeats 1000000 in
theorem implComb7 (k : Int) (a b : Int) (w : World) (e8 : (k == 8) = false) (e9 : (k == 9) = false) (e3 : (k == 3) = false) (e4 : (k == 4) = false) (e5 : (k == 5) = false) (e6 : (k == 6) = false) : Calls Try.prog 77 #[.int .i64 k, .agg #[.bool false, .int .i64 a], .agg #[.bool false, .int .i64 b]] w fun r w' => r = .returned (Vv (V.flag (decide (a < b)))) ∧ Fr w w' := by
  cases he : decide (a < b)
  · have R := hid (show V.flag false = ⟨false, 0⟩ from rfl)
    go_enter Try.func77, Try.ntmps77
    go_wp2_with fail
    refine absW fun W hW => ?_
    obtain ⟨BA, BB, BR, FW⟩ := cblk hW
    clear hW
    refine (implFlag _ _).mono ?_
    rintro r w1 ⟨rfl, b9⟩
    obtain ⟨d0, d1, f0, f1⟩ := (BR.fr b9).pair
    have FF := FW.trans b9
    go_wp2
    exact bodyPost_ret (v := .agg #[.bool false, .int .i64 0]) (by simp [results, Try.results77, go_sem, d0, d1, V.flag]) rfl ⟨by rw [R.out], by (repeat (first | with_reducible exact Fr.refl _ | with_reducible assumption | with_reducible refine Fr.alloc ?_ _ | with_reducible refine Fr.drew ?_ | with_reducible refine Fr.drewN ?_ _ | (with_reducible refine Fr.setNew2 ?_ ?_ _; · (simp <;> omega)) | with_reducible refine Fr.trans ?_ (by assumption)))⟩
  · have R := hid (show V.flag true = ⟨false, 1⟩ from rfl)
    go_enter Try.func77, Try.ntmps77
    go_wp2_with fail
    refine absW fun W hW => ?_
    obtain ⟨BA, BB, BR, FW⟩ := cblk hW
    clear hW
    refine (implFlag _ _).mono ?_
    rintro r w1 ⟨rfl, b9⟩
    obtain ⟨d0, d1, f0, f1⟩ := (BR.fr b9).pair
    have FF := FW.trans b9
    go_wp2
    exact bodyPost_ret (v := .agg #[.bool false, .int .i64 1]) (by simp [results, Try.results77, go_sem, d0, d1, V.flag]) rfl ⟨by rw [R.out], by (repeat (first | with_reducible exact Fr.refl _ | with_reducible assumption | with_reducible refine Fr.alloc ?_ _ | with_reducible refine Fr.drew ?_ | with_reducible refine Fr.drewN ?_ _ | (with_reducible refine Fr.setNew2 ?_ ?_ _; · (simp <;> omega)) | with_reducible refine Fr.trans ?_ (by assumption)))⟩
/- spec.combine of truths. -/
theorem specTruthM (b : Bool) (n : Int) (w : World) : Calls Try.prog 81 #[.agg #[.bool b, .int .i64 n]] w fun r w' => r = .returned (.int .i64 (V.mk b n).tS) ∧ Fr w w' := specTruth ⟨b, n⟩ w
set_option maxHeartbeats 1000000 in
theorem specComb8 (an : Bool) (a : Int) (bn : Bool) (b : Int) (w : World) : Calls Try.prog 83 #[.int .i64 8, .agg #[.bool an, .int .i64 a], .agg #[.bool bn, .int .i64 b]] w fun r w' => r = .returned (Vv (comb 8 ⟨an, a⟩ ⟨bn, b⟩)) ∧ Fr w w' := by
  have R := hid (show comb 8 ⟨an, a⟩ ⟨bn, b⟩ = trS (andS (V.mk an a).tS (V.mk bn b).tS) by rw [and_eq]; rfl)
  go_enter Try.func83, Try.ntmps83
  go_wp2_with fail
  refine absC fun W hW => ?_
  obtain ⟨BA, BB, BR, FW⟩ := cblk hW
  clear hW
  obtain ⟨a0, a1, _⟩ := BA.pair
  obtain ⟨b0, b1, _⟩ := BB.pair
  (refine wp_region_quiet_tail (fun w' => Fr _ w') 6 (by kernel_rfl) (by kernel_rfl) (Fr.refl _).drew ?_; simp only [List.take_succ_cons, List.take_zero, List.drop_succ_cons, List.drop_zero]; (repeat go_big_quiet_step (first | exact fun _ => rfl | exact fun _ => ⟨rfl, rfl⟩ | (intro hw'; replace a0 := hw'.cell a0; replace a1 := hw'.cell a1; replace b0 := hw'.cell b0; replace b1 := hw'.cell b1; go_simp; first | done | exact rfl | exact ⟨rfl, rfl⟩) | (intro hw'; go_at_call 81; refine (specTruthM _ _ _).mono ?_; rintro r w1 ⟨rfl, b9⟩; exact ⟨rfl, hw'.trans b9⟩) | (intro hw'; go_at_call 90; refine (specAnd _ _ _).mono ?_; rintro r w1 ⟨rfl, rfl⟩; exact ⟨rfl, hw'⟩) | (intro hw'; go_at_call 80; refine (specNot _ _ ?_ ?_).mono ?_; (· omega); (· omega); rintro r w1 ⟨rfl, rfl⟩; exact ⟨rfl, hw'⟩) | (intro hw'; go_at_call 79; refine (specOf _ _).mono ?_; rintro r w1 ⟨rfl, b9⟩; exact ⟨rfl, hw'.trans b9⟩))); refine wpQuiet_nil ?_; intro wq hq)
  obtain ⟨d0, d1, f0, f1⟩ := (BR.fr hq).pair
  have FF := FW.trans hq
  go_wp2
  exact bodyPost_ret (v := Vv (trS (andS (V.mk an a).tS (V.mk bn b).tS))) (by simp [results, Try.results83, go_sem, d0, d1]) rfl ⟨by rw [R.out], by (repeat (first | with_reducible exact Fr.refl _ | with_reducible assumption | with_reducible refine Fr.alloc ?_ _ | with_reducible refine Fr.drew ?_ | with_reducible refine Fr.drewN ?_ _ | (with_reducible refine Fr.setNew2 ?_ ?_ _; · (simp <;> omega)) | with_reducible refine Fr.trans ?_ (by assumption)))⟩
set_option maxHeartbeats 1000000 in
theorem specComb9 (an : Bool) (a : Int) (bn : Bool) (b : Int) (w : World) : Calls Try.prog 83 #[.int .i64 9, .agg #[.bool an, .int .i64 a], .agg #[.bool bn, .int .i64 b]] w fun r w' => r = .returned (Vv (comb 9 ⟨an, a⟩ ⟨bn, b⟩)) ∧ Fr w w' := by
  have R := hid (show comb 9 ⟨an, a⟩ ⟨bn, b⟩ = trS (notS (andS (notS (V.mk an a).tS) (notS (V.mk bn b).tS))) by rw [or_eq]; rfl)
  obtain ⟨ra1, ra2⟩ := tS_range (V.mk an a)
  obtain ⟨rb1, rb2⟩ := tS_range (V.mk bn b)
  obtain ⟨an1, an2⟩ := andS_range (notS (V.mk an a).tS) (notS (V.mk bn b).tS)
  go_enter Try.func83, Try.ntmps83
  go_wp2_with fail
  refine absC fun W hW => ?_
  obtain ⟨BA, BB, BR, FW⟩ := cblk hW
  clear hW
  obtain ⟨a0, a1, _⟩ := BA.pair
  obtain ⟨b0, b1, _⟩ := BB.pair
  (refine wp_region_quiet_tail (fun w' => Fr _ w') 9 (by kernel_rfl) (by kernel_rfl) (Fr.refl _).drew ?_; simp only [List.take_succ_cons, List.take_zero, List.drop_succ_cons, List.drop_zero]; (repeat go_big_quiet_step (first | exact fun _ => rfl | exact fun _ => ⟨rfl, rfl⟩ | (intro hw'; replace a0 := hw'.cell a0; replace a1 := hw'.cell a1; replace b0 := hw'.cell b0; replace b1 := hw'.cell b1; go_simp; first | done | exact rfl | exact ⟨rfl, rfl⟩) | (intro hw'; go_at_call 81; refine (specTruthM _ _ _).mono ?_; rintro r w1 ⟨rfl, b9⟩; exact ⟨rfl, hw'.trans b9⟩) | (intro hw'; go_at_call 90; refine (specAnd _ _ _).mono ?_; rintro r w1 ⟨rfl, rfl⟩; exact ⟨rfl, hw'⟩) | (intro hw'; go_at_call 80; refine (specNot _ _ ?_ ?_).mono ?_; (· omega); (· omega); rintro r w1 ⟨rfl, rfl⟩; exact ⟨rfl, hw'⟩) | (intro hw'; go_at_call 79; refine (specOf _ _).mono ?_; rintro r w1 ⟨rfl, b9⟩; exact ⟨rfl, hw'.trans b9⟩))); refine wpQuiet_nil ?_; intro wq hq)
  obtain ⟨d0, d1, f0, f1⟩ := (BR.fr hq).pair
  have FF := FW.trans hq
  go_wp2
  exact bodyPost_ret (v := Vv (trS (notS (andS (notS (V.mk an a).tS) (notS (V.mk bn b).tS))))) (by simp [results, Try.results83, go_sem, d0, d1]) rfl ⟨by rw [R.out], by (repeat (first | with_reducible exact Fr.refl _ | with_reducible assumption | with_reducible refine Fr.alloc ?_ _ | with_reducible refine Fr.drew ?_ | with_reducible refine Fr.drewN ?_ _ | (with_reducible refine Fr.setNew2 ?_ ?_ _; · (simp <;> omega)) | with_reducible refine Fr.trans ?_ (by assumption)))⟩
end Go.Proofs.Ytfillcjpdnpaiaa
