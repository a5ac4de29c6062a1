/- impl.combined of truths. -/
import Derived.Test.YtfillcjpdnpaiaaEvalC
namespace Go.Proofs.Ytfillcjpdnpaiaa
open Go Go.RowKit
theorem implTruthM (b : Bool) (n : Int) (w : World) : Calls Try.prog 74 #[.agg #[.bool b, .int .i64 n]] w fun r w' => r = .returned (.int .i64 (V.mk b n).tr) ∧ Fr w w' := implTruth ⟨b, n⟩ w
set_option maxHeartbeats 2000000 in
theorem implComb8 (an : Bool) (a : Int) (bn : Bool) (b : Int) (w : World) : Calls Try.prog 77 #[.int .i64 8, .agg #[.bool an, .int .i64 a], .agg #[.bool bn, .int .i64 b]] w fun r w' => r = .returned (Vv (comb 8 ⟨an, a⟩ ⟨bn, b⟩)) ∧ Fr w w' := by
  rcases tS_cases (V.mk an a) with ⟨_, ha⟩ | ⟨_, ha⟩ | ⟨_, ha⟩ <;> rcases tS_cases (V.mk bn b) with ⟨_, hb⟩ | ⟨_, hb⟩ | ⟨_, hb⟩
  · have R := hid (show comb 8 ⟨an, a⟩ ⟨bn, b⟩ = trV 1 by show trV (min (V.mk an a).tr (V.mk bn b).tr) = _; rw [ha, hb]; decide)
    go_enter Try.func77, Try.ntmps77
    go_wp2_with fail
    refine absC fun W hW => ?_
    obtain ⟨BA, BB, BR, FW⟩ := cblk hW
    clear hW
    obtain ⟨a0, a1, _⟩ := BA.pair
    obtain ⟨b0, b1, _⟩ := BB.pair
    (refine wp_region_quiet_tail (fun w' => Fr _ w') 6 (by kernel_rfl) (by kernel_rfl) (Fr.refl _).drew ?_; simp only [List.take_succ_cons, List.take_zero, List.drop_succ_cons, List.drop_zero]; (repeat go_big_quiet_step (first | exact fun _ => rfl | exact fun _ => ⟨rfl, rfl⟩ | (intro hw'; replace a0 := hw'.cell a0; replace a1 := hw'.cell a1; replace b0 := hw'.cell b0; replace b1 := hw'.cell b1; go_simp; first | done | exact rfl | exact ⟨rfl, rfl⟩) | (intro hw'; go_at_call 74; refine (implTruthM _ _ _).mono ?_; rintro r w1 ⟨rfl, b9⟩; (first | rw [ha] | rw [hb]); exact ⟨rfl, hw'.trans b9⟩) | (intro hw'; go_at_call 75; refine (implTV _ _).mono ?_; rintro r w1 ⟨rfl, b9⟩; exact ⟨rfl, hw'.trans b9⟩))); refine wpQuiet_nil ?_; intro wq hq)
    obtain ⟨d0, d1, f0, f1⟩ := (BR.fr hq).pair
    have FF := FW.trans hq
    go_wp2
    exact bodyPost_ret (v := Vv (trV 1)) (by simp [results, Try.results77, go_sem, d0, d1]) rfl ⟨by rw [R.out], by (repeat (first | with_reducible exact Fr.refl _ | with_reducible assumption | with_reducible refine Fr.alloc ?_ _ | with_reducible refine Fr.drew ?_ | with_reducible refine Fr.drewN ?_ _ | (with_reducible refine Fr.setNew2 ?_ ?_ _; · (simp <;> omega)) | with_reducible refine Fr.trans ?_ (by assumption)))⟩
  · have R := hid (show comb 8 ⟨an, a⟩ ⟨bn, b⟩ = trV 0 by show trV (min (V.mk an a).tr (V.mk bn b).tr) = _; rw [ha, hb]; decide)
    go_enter Try.func77, Try.ntmps77
    go_wp2_with fail
    refine absC fun W hW => ?_
    obtain ⟨BA, BB, BR, FW⟩ := cblk hW
    clear hW
    obtain ⟨a0, a1, _⟩ := BA.pair
    obtain ⟨b0, b1, _⟩ := BB.pair
    (refine wp_region_quiet_tail (fun w' => Fr _ w') 6 (by kernel_rfl) (by kernel_rfl) (Fr.refl _).drew ?_; simp only [List.take_succ_cons, List.take_zero, List.drop_succ_cons, List.drop_zero]; (repeat go_big_quiet_step (first | exact fun _ => rfl | exact fun _ => ⟨rfl, rfl⟩ | (intro hw'; replace a0 := hw'.cell a0; replace a1 := hw'.cell a1; replace b0 := hw'.cell b0; replace b1 := hw'.cell b1; go_simp; first | done | exact rfl | exact ⟨rfl, rfl⟩) | (intro hw'; go_at_call 74; refine (implTruthM _ _ _).mono ?_; rintro r w1 ⟨rfl, b9⟩; (first | rw [ha] | rw [hb]); exact ⟨rfl, hw'.trans b9⟩) | (intro hw'; go_at_call 75; refine (implTV _ _).mono ?_; rintro r w1 ⟨rfl, b9⟩; exact ⟨rfl, hw'.trans b9⟩))); refine wpQuiet_nil ?_; intro wq hq)
    obtain ⟨d0, d1, f0, f1⟩ := (BR.fr hq).pair
    have FF := FW.trans hq
    go_wp2
    exact bodyPost_ret (v := Vv (trV 0)) (by simp [results, Try.results77, go_sem, d0, d1]) rfl ⟨by rw [R.out], by (repeat (first | with_reducible exact Fr.refl _ | with_reducible assumption | with_reducible refine Fr.alloc ?_ _ | with_reducible refine Fr.drew ?_ | with_reducible refine Fr.drewN ?_ _ | (with_reducible refine Fr.setNew2 ?_ ?_ _; · (simp <;> omega)) | with_reducible refine Fr.trans ?_ (by assumption)))⟩
  · have R := hid (show comb 8 ⟨an, a⟩ ⟨bn, b⟩ = trV 1 by show trV (min (V.mk an a).tr (V.mk bn b).tr) = _; rw [ha, hb]; decide)
    go_enter Try.func77, Try.ntmps77
    go_wp2_with fail
    refine absC fun W hW => ?_
    obtain ⟨BA, BB, BR, FW⟩ := cblk hW
    clear hW
    obtain ⟨a0, a1, _⟩ := BA.pair
    obtain ⟨b0, b1, _⟩ := BB.pair
    (refine wp_region_quiet_tail (fun w' => Fr _ w') 6 (by kernel_rfl) (by kernel_rfl) (Fr.refl _).drew ?_; simp only [List.take_succ_cons, List.take_zero, List.drop_succ_cons, List.drop_zero]; (repeat go_big_quiet_step (first | exact fun _ => rfl | exact fun _ => ⟨rfl, rfl⟩ | (intro hw'; replace a0 := hw'.cell a0; replace a1 := hw'.cell a1; replace b0 := hw'.cell b0; replace b1 := hw'.cell b1; go_simp; first | done | exact rfl | exact ⟨rfl, rfl⟩) | (intro hw'; go_at_call 74; refine (implTruthM _ _ _).mono ?_; rintro r w1 ⟨rfl, b9⟩; (first | rw [ha] | rw [hb]); exact ⟨rfl, hw'.trans b9⟩) | (intro hw'; go_at_call 75; refine (implTV _ _).mono ?_; rintro r w1 ⟨rfl, b9⟩; exact ⟨rfl, hw'.trans b9⟩))); refine wpQuiet_nil ?_; intro wq hq)
    obtain ⟨d0, d1, f0, f1⟩ := (BR.fr hq).pair
    have FF := FW.trans hq
    go_wp2
    exact bodyPost_ret (v := Vv (trV 1)) (by simp [results, Try.results77, go_sem, d0, d1]) rfl ⟨by rw [R.out], by (repeat (first | with_reducible exact Fr.refl _ | with_reducible assumption | with_reducible refine Fr.alloc ?_ _ | with_reducible refine Fr.drew ?_ | with_reducible refine Fr.drewN ?_ _ | (with_reducible refine Fr.setNew2 ?_ ?_ _; · (simp <;> omega)) | with_reducible refine Fr.trans ?_ (by assumption)))⟩
  · have R := hid (show comb 8 ⟨an, a⟩ ⟨bn, b⟩ = trV 0 by show trV (min (V.mk an a).tr (V.mk bn b).tr) = _; rw [ha, hb]; decide)
    go_enter Try.func77, Try.ntmps77
    go_wp2_with fail
    refine absC fun W hW => ?_
    obtain ⟨BA, BB, BR, FW⟩ := cblk hW
    clear hW
    obtain ⟨a0, a1, _⟩ := BA.pair
    obtain ⟨b0, b1, _⟩ := BB.pair
    (refine wp_region_quiet_tail (fun w' => Fr _ w') 6 (by kernel_rfl) (by kernel_rfl) (Fr.refl _).drew ?_; simp only [List.take_succ_cons, List.take_zero, List.drop_succ_cons, List.drop_zero]; (repeat go_big_quiet_step (first | exact fun _ => rfl | exact fun _ => ⟨rfl, rfl⟩ | (intro hw'; replace a0 := hw'.cell a0; replace a1 := hw'.cell a1; replace b0 := hw'.cell b0; replace b1 := hw'.cell b1; go_simp; first | done | exact rfl | exact ⟨rfl, rfl⟩) | (intro hw'; go_at_call 74; refine (implTruthM _ _ _).mono ?_; rintro r w1 ⟨rfl, b9⟩; (first | rw [ha] | rw [hb]); exact ⟨rfl, hw'.trans b9⟩) | (intro hw'; go_at_call 75; refine (implTV _ _).mono ?_; rintro r w1 ⟨rfl, b9⟩; exact ⟨rfl, hw'.trans b9⟩))); refine wpQuiet_nil ?_; intro wq hq)
    obtain ⟨d0, d1, f0, f1⟩ := (BR.fr hq).pair
    have FF := FW.trans hq
    go_wp2
    exact bodyPost_ret (v := Vv (trV 0)) (by simp [results, Try.results77, go_sem, d0, d1]) rfl ⟨by rw [R.out], by (repeat (first | with_reducible exact Fr.refl _ | with_reducible assumption | with_reducible refine Fr.alloc ?_ _ | with_reducible refine Fr.drew ?_ | with_reducible refine Fr.drewN ?_ _ | (with_reducible refine Fr.setNew2 ?_ ?_ _; · (simp <;> omega)) | with_reducible refine Fr.trans ?_ (by assumption)))⟩
  · have R := hid (show comb 8 ⟨an, a⟩ ⟨bn, b⟩ = trV 0 by show trV (min (V.mk an a).tr (V.mk bn b).tr) = _; rw [ha, hb]; decide)
    go_enter Try.func77, Try.ntmps77
    go_wp2_with fail
    refine absC fun W hW => ?_
    obtain ⟨BA, BB, BR, FW⟩ := cblk hW
    clear hW
    obtain ⟨a0, a1, _⟩ := BA.pair
    obtain ⟨b0, b1, _⟩ := BB.pair
    (refine wp_region_quiet_tail (fun w' => Fr _ w') 6 (by kernel_rfl) (by kernel_rfl) (Fr.refl _).drew ?_; simp only [List.take_succ_cons, List.take_zero, List.drop_succ_cons, List.drop_zero]; (repeat go_big_quiet_step (first | exact fun _ => rfl | exact fun _ => ⟨rfl, rfl⟩ | (intro hw'; replace a0 := hw'.cell a0; replace a1 := hw'.cell a1; replace b0 := hw'.cell b0; replace b1 := hw'.cell b1; go_simp; first | done | exact rfl | exact ⟨rfl, rfl⟩) | (intro hw'; go_at_call 74; refine (implTruthM _ _ _).mono ?_; rintro r w1 ⟨rfl, b9⟩; (first | rw [ha] | rw [hb]); exact ⟨rfl, hw'.trans b9⟩) | (intro hw'; go_at_call 75; refine (implTV _ _).mono ?_; rintro r w1 ⟨rfl, b9⟩; exact ⟨rfl, hw'.trans b9⟩))); refine wpQuiet_nil ?_; intro wq hq)
    obtain ⟨d0, d1, f0, f1⟩ := (BR.fr hq).pair
    have FF := FW.trans hq
    go_wp2
    exact bodyPost_ret (v := Vv (trV 0)) (by simp [results, Try.results77, go_sem, d0, d1]) rfl ⟨by rw [R.out], by (repeat (first | with_reducible exact Fr.refl _ | with_reducible assumption | with_reducible refine Fr.alloc ?_ _ | with_reducible refine Fr.drew ?_ | with_reducible refine Fr.drewN ?_ _ | (with_reducible refine Fr.setNew2 ?_ ?_ _; · (simp <;> omega)) | with_reducible refine Fr.trans ?_ (by assumption)))⟩
  · have R := hid (show comb 8 ⟨an, a⟩ ⟨bn, b⟩ = trV 0 by show trV (min (V.mk an a).tr (V.mk bn b).tr) = _; rw [ha, hb]; decide)
    go_enter Try.func77, Try.ntmps77
    go_wp2_with fail
    refine absC fun W hW => ?_
    obtain ⟨BA, BB, BR, FW⟩ := cblk hW
    clear hW
    obtain ⟨a0, a1, _⟩ := BA.pair
    obtain ⟨b0, b1, _⟩ := BB.pair
    (refine wp_region_quiet_tail (fun w' => Fr _ w') 6 (by kernel_rfl) (by kernel_rfl) (Fr.refl _).drew ?_; simp only [List.take_succ_cons, List.take_zero, List.drop_succ_cons, List.drop_zero]; (repeat go_big_quiet_step (first | exact fun _ => rfl | exact fun _ => ⟨rfl, rfl⟩ | (intro hw'; replace a0 := hw'.cell a0; replace a1 := hw'.cell a1; replace b0 := hw'.cell b0; replace b1 := hw'.cell b1; go_simp; first | done | exact rfl | exact ⟨rfl, rfl⟩) | (intro hw'; go_at_call 74; refine (implTruthM _ _ _).mono ?_; rintro r w1 ⟨rfl, b9⟩; (first | rw [ha] | rw [hb]); exact ⟨rfl, hw'.trans b9⟩) | (intro hw'; go_at_call 75; refine (implTV _ _).mono ?_; rintro r w1 ⟨rfl, b9⟩; exact ⟨rfl, hw'.trans b9⟩))); refine wpQuiet_nil ?_; intro wq hq)
    obtain ⟨d0, d1, f0, f1⟩ := (BR.fr hq).pair
    have FF := FW.trans hq
    go_wp2
    exact bodyPost_ret (v := Vv (trV 0)) (by simp [results, Try.results77, go_sem, d0, d1]) rfl ⟨by rw [R.out], by (repeat (first | with_reducible exact Fr.refl _ | with_reducible assumption | with_reducible refine Fr.alloc ?_ _ | with_reducible refine Fr.drew ?_ | with_reducible refine Fr.drewN ?_ _ | (with_reducible refine Fr.setNew2 ?_ ?_ _; · (simp <;> omega)) | with_reducible refine Fr.trans ?_ (by assumption)))⟩
  · have R := hid (show comb 8 ⟨an, a⟩ ⟨bn, b⟩ = trV 1 by show trV (min (V.mk an a).tr (V.mk bn b).tr) = _; rw [ha, hb]; decide)
    go_enter Try.func77, Try.ntmps77
    go_wp2_with fail
    refine absC fun W hW => ?_
    obtain ⟨BA, BB, BR, FW⟩ := cblk hW
    clear hW
    obtain ⟨a0, a1, _⟩ := BA.pair
    obtain ⟨b0, b1, _⟩ := BB.pair
    (refine wp_region_quiet_tail (fun w' => Fr _ w') 6 (by kernel_rfl) (by kernel_rfl) (Fr.refl _).drew ?_; simp only [List.take_succ_cons, List.take_zero, List.drop_succ_cons, List.drop_zero]; (repeat go_big_quiet_step (first | exact fun _ => rfl | exact fun _ => ⟨rfl, rfl⟩ | (intro hw'; replace a0 := hw'.cell a0; replace a1 := hw'.cell a1; replace b0 := hw'.cell b0; replace b1 := hw'.cell b1; go_simp; first | done | exact rfl | exact ⟨rfl, rfl⟩) | (intro hw'; go_at_call 74; refine (implTruthM _ _ _).mono ?_; rintro r w1 ⟨rfl, b9⟩; (first | rw [ha] | rw [hb]); exact ⟨rfl, hw'.trans b9⟩) | (intro hw'; go_at_call 75; refine (implTV _ _).mono ?_; rintro r w1 ⟨rfl, b9⟩; exact ⟨rfl, hw'.trans b9⟩))); refine wpQuiet_nil ?_; intro wq hq)
    obtain ⟨d0, d1, f0, f1⟩ := (BR.fr hq).pair
    have FF := FW.trans hq
    go_wp2
    exact bodyPost_ret (v := Vv (trV 1)) (by simp [results, Try.results77, go_sem, d0, d1]) rfl ⟨by rw [R.out], by (repeat (first | with_reducible exact Fr.refl _ | with_reducible assumption | with_reducible refine Fr.alloc ?_ _ | with_reducible refine Fr.drew ?_ | with_reducible refine Fr.drewN ?_ _ | (with_reducible refine Fr.setNew2 ?_ ?_ _; · (simp <;> omega)) | with_reducible refine Fr.trans ?_ (by assumption)))⟩
  · have R := hid (show comb 8 ⟨an, a⟩ ⟨bn, b⟩ = trV 0 by show trV (min (V.mk an a).tr (V.mk bn b).tr) = _; rw [ha, hb]; decide)
    go_enter Try.func77, Try.ntmps77
    go_wp2_with fail
    refine absC fun W hW => ?_
    obtain ⟨BA, BB, BR, FW⟩ := cblk hW
    clear hW
    obtain ⟨a0, a1, _⟩ := BA.pair
    obtain ⟨b0, b1, _⟩ := BB.pair
    (refine wp_region_quiet_tail (fun w' => Fr _ w') 6 (by kernel_rfl) (by kernel_rfl) (Fr.refl _).drew ?_; simp only [List.take_succ_cons, List.take_zero, List.drop_succ_cons, List.drop_zero]; (repeat go_big_quiet_step (first | exact fun _ => rfl | exact fun _ => ⟨rfl, rfl⟩ | (intro hw'; replace a0 := hw'.cell a0; replace a1 := hw'.cell a1; replace b0 := hw'.cell b0; replace b1 := hw'.cell b1; go_simp; first | done | exact rfl | exact ⟨rfl, rfl⟩) | (intro hw'; go_at_call 74; refine (implTruthM _ _ _).mono ?_; rintro r w1 ⟨rfl, b9⟩; (first | rw [ha] | rw [hb]); exact ⟨rfl, hw'.trans b9⟩) | (intro hw'; go_at_call 75; refine (implTV _ _).mono ?_; rintro r w1 ⟨rfl, b9⟩; exact ⟨rfl, hw'.trans b9⟩))); refine wpQuiet_nil ?_; intro wq hq)
    obtain ⟨d0, d1, f0, f1⟩ := (BR.fr hq).pair
    have FF := FW.trans hq
    go_wp2
    exact bodyPost_ret (v := Vv (trV 0)) (by simp [results, Try.results77, go_sem, d0, d1]) rfl ⟨by rw [R.out], by (repeat (first | with_reducible exact Fr.refl _ | with_reducible assumption | with_reducible refine Fr.alloc ?_ _ | with_reducible refine Fr.drew ?_ | with_reducible refine Fr.drewN ?_ _ | (with_reducible refine Fr.setNew2 ?_ ?_ _; · (simp <;> omega)) | with_reducible refine Fr.trans ?_ (by assumption)))⟩
  · have R := hid (show comb 8 ⟨an, a⟩ ⟨bn, b⟩ = trV 2 by show trV (min (V.mk an a).tr (V.mk bn b).tr) = _; rw [ha, hb]; decide)
    go_enter Try.func77, Try.ntmps77
    go_wp2_with fail
    refine absC fun W hW => ?_
    obtain ⟨BA, BB, BR, FW⟩ := cblk hW
    clear hW
    obtain ⟨a0, a1, _⟩ := BA.pair
    obtain ⟨b0, b1, _⟩ := BB.pair
    (refine wp_region_quiet_tail (fun w' => Fr _ w') 6 (by kernel_rfl) (by kernel_rfl) (Fr.refl _).drew ?_; simp only [List.take_succ_cons, List.take_zero, List.drop_succ_cons, List.drop_zero]; (repeat go_big_quiet_step (first | exact fun _ => rfl | exact fun _ => ⟨rfl, rfl⟩ | (intro hw'; replace a0 := hw'.cell a0; replace a1 := hw'.cell a1; replace b0 := hw'.cell b0; replace b1 := hw'.cell b1; go_simp; first | done | exact rfl | exact ⟨rfl, rfl⟩) | (intro hw'; go_at_call 74; refine (implTruthM _ _ _).mono ?_; rintro r w1 ⟨rfl, b9⟩; (first | rw [ha] | rw [hb]); exact ⟨rfl, hw'.trans b9⟩) | (intro hw'; go_at_call 75; refine (implTV _ _).mono ?_; rintro r w1 ⟨rfl, b9⟩; exact ⟨rfl, hw'.trans b9⟩))); refine wpQuiet_nil ?_; intro wq hq)
    obtain ⟨d0, d1, f0, f1⟩ := (BR.fr hq).pair
    have FF := FW.trans hq
    go_wp2
    exact bodyPost_ret (v := Vv (trV 2)) (by simp [results, Try.results77, go_sem, d0, d1]) rfl ⟨by rw [R.out], by (repeat (first | with_reducible exact Fr.refl _ | with_reducible assumption | with_reducible refine Fr.alloc ?_ _ | with_reducible refine Fr.drew ?_ | with_reducible refine Fr.drewN ?_ _ | (with_reducible refine Fr.setNew2 ?_ ?_ _; · (simp <;> omega)) | with_reducible refine Fr.trans ?_ (by assumption)))⟩
set_option maxHeartbeats 2000000 in
theorem implComb9 (an : Bool) (a : Int) (bn : Bool) (b : Int) (w : World) : Calls Try.prog 77 #[.int .i64 9, .agg #[.bool an, .int .i64 a], .agg #[.bool bn, .int .i64 b]] w fun r w' => r = .returned (Vv (comb 9 ⟨an, a⟩ ⟨bn, b⟩)) ∧ Fr w w' := by
  rcases tS_cases (V.mk an a) with ⟨_, ha⟩ | ⟨_, ha⟩ | ⟨_, ha⟩ <;> rcases tS_cases (V.mk bn b) with ⟨_, hb⟩ | ⟨_, hb⟩ | ⟨_, hb⟩
  · have R := hid (show comb 9 ⟨an, a⟩ ⟨bn, b⟩ = trV 1 by show trV (max (V.mk an a).tr (V.mk bn b).tr) = _; rw [ha, hb]; decide)
    go_enter Try.func77, Try.ntmps77
    go_wp2_with fail
    refine absC fun W hW => ?_
    obtain ⟨BA, BB, BR, FW⟩ := cblk hW
    clear hW
    obtain ⟨a0, a1, _⟩ := BA.pair
    obtain ⟨b0, b1, _⟩ := BB.pair
    (refine wp_region_quiet_tail (fun w' => Fr _ w') 6 (by kernel_rfl) (by kernel_rfl) (Fr.refl _).drew ?_; simp only [List.take_succ_cons, List.take_zero, List.drop_succ_cons, List.drop_zero]; (repeat go_big_quiet_step (first | exact fun _ => rfl | exact fun _ => ⟨rfl, rfl⟩ | (intro hw'; replace a0 := hw'.cell a0; replace a1 := hw'.cell a1; replace b0 := hw'.cell b0; replace b1 := hw'.cell b1; go_simp; first | done | exact rfl | exact ⟨rfl, rfl⟩) | (intro hw'; go_at_call 74; refine (implTruthM _ _ _).mono ?_; rintro r w1 ⟨rfl, b9⟩; (first | rw [ha] | rw [hb]); exact ⟨rfl, hw'.trans b9⟩) | (intro hw'; go_at_call 75; refine (implTV _ _).mono ?_; rintro r w1 ⟨rfl, b9⟩; exact ⟨rfl, hw'.trans b9⟩))); refine wpQuiet_nil ?_; intro wq hq)
    obtain ⟨d0, d1, f0, f1⟩ := (BR.fr hq).pair
    have FF := FW.trans hq
    go_wp2
    exact bodyPost_ret (v := Vv (trV 1)) (by simp [results, Try.results77, go_sem, d0, d1]) rfl ⟨by rw [R.out], by (repeat (first | with_reducible exact Fr.refl _ | with_reducible assumption | with_reducible refine Fr.alloc ?_ _ | with_reducible refine Fr.drew ?_ | with_reducible refine Fr.drewN ?_ _ | (with_reducible refine Fr.setNew2 ?_ ?_ _; · (simp <;> omega)) | with_reducible refine Fr.trans ?_ (by assumption)))⟩
  · have R := hid (show comb 9 ⟨an, a⟩ ⟨bn, b⟩ = trV 1 by show trV (max (V.mk an a).tr (V.mk bn b).tr) = _; rw [ha, hb]; decide)
    go_enter Try.func77, Try.ntmps77
    go_wp2_with fail
    refine absC fun W hW => ?_
    obtain ⟨BA, BB, BR, FW⟩ := cblk hW
    clear hW
    obtain ⟨a0, a1, _⟩ := BA.pair
    obtain ⟨b0, b1, _⟩ := BB.pair
    (refine wp_region_quiet_tail (fun w' => Fr _ w') 6 (by kernel_rfl) (by kernel_rfl) (Fr.refl _).drew ?_; simp only [List.take_succ_cons, List.take_zero, List.drop_succ_cons, List.drop_zero]; (repeat go_big_quiet_step (first | exact fun _ => rfl | exact fun _ => ⟨rfl, rfl⟩ | (intro hw'; replace a0 := hw'.cell a0; replace a1 := hw'.cell a1; replace b0 := hw'.cell b0; replace b1 := hw'.cell b1; go_simp; first | done | exact rfl | exact ⟨rfl, rfl⟩) | (intro hw'; go_at_call 74; refine (implTruthM _ _ _).mono ?_; rintro r w1 ⟨rfl, b9⟩; (first | rw [ha] | rw [hb]); exact ⟨rfl, hw'.trans b9⟩) | (intro hw'; go_at_call 75; refine (implTV _ _).mono ?_; rintro r w1 ⟨rfl, b9⟩; exact ⟨rfl, hw'.trans b9⟩))); refine wpQuiet_nil ?_; intro wq hq)
    obtain ⟨d0, d1, f0, f1⟩ := (BR.fr hq).pair
    have FF := FW.trans hq
    go_wp2
    exact bodyPost_ret (v := Vv (trV 1)) (by simp [results, Try.results77, go_sem, d0, d1]) rfl ⟨by rw [R.out], by (repeat (first | with_reducible exact Fr.refl _ | with_reducible assumption | with_reducible refine Fr.alloc ?_ _ | with_reducible refine Fr.drew ?_ | with_reducible refine Fr.drewN ?_ _ | (with_reducible refine Fr.setNew2 ?_ ?_ _; · (simp <;> omega)) | with_reducible refine Fr.trans ?_ (by assumption)))⟩
  · have R := hid (show comb 9 ⟨an, a⟩ ⟨bn, b⟩ = trV 2 by show trV (max (V.mk an a).tr (V.mk bn b).tr) = _; rw [ha, hb]; decide)
    go_enter Try.func77, Try.ntmps77
    go_wp2_with fail
    refine absC fun W hW => ?_
    obtain ⟨BA, BB, BR, FW⟩ := cblk hW
    clear hW
    obtain ⟨a0, a1, _⟩ := BA.pair
    obtain ⟨b0, b1, _⟩ := BB.pair
    (refine wp_region_quiet_tail (fun w' => Fr _ w') 6 (by kernel_rfl) (by kernel_rfl) (Fr.refl _).drew ?_; simp only [List.take_succ_cons, List.take_zero, List.drop_succ_cons, List.drop_zero]; (repeat go_big_quiet_step (first | exact fun _ => rfl | exact fun _ => ⟨rfl, rfl⟩ | (intro hw'; replace a0 := hw'.cell a0; replace a1 := hw'.cell a1; replace b0 := hw'.cell b0; replace b1 := hw'.cell b1; go_simp; first | done | exact rfl | exact ⟨rfl, rfl⟩) | (intro hw'; go_at_call 74; refine (implTruthM _ _ _).mono ?_; rintro r w1 ⟨rfl, b9⟩; (first | rw [ha] | rw [hb]); exact ⟨rfl, hw'.trans b9⟩) | (intro hw'; go_at_call 75; refine (implTV _ _).mono ?_; rintro r w1 ⟨rfl, b9⟩; exact ⟨rfl, hw'.trans b9⟩))); refine wpQuiet_nil ?_; intro wq hq)
    obtain ⟨d0, d1, f0, f1⟩ := (BR.fr hq).pair
    have FF := FW.trans hq
    go_wp2
    exact bodyPost_ret (v := Vv (trV 2)) (by simp [results, Try.results77, go_sem, d0, d1]) rfl ⟨by rw [R.out], by (repeat (first | with_reducible exact Fr.refl _ | with_reducible assumption | with_reducible refine Fr.alloc ?_ _ | with_reducible refine Fr.drew ?_ | with_reducible refine Fr.drewN ?_ _ | (with_reducible refine Fr.setNew2 ?_ ?_ _; · (simp <;> omega)) | with_reducible refine Fr.trans ?_ (by assumption)))⟩
  · have R := hid (show comb 9 ⟨an, a⟩ ⟨bn, b⟩ = trV 1 by show trV (max (V.mk an a).tr (V.mk bn b).tr) = _; rw [ha, hb]; decide)
    go_enter Try.func77, Try.ntmps77
    go_wp2_with fail
    refine absC fun W hW => ?_
    obtain ⟨BA, BB, BR, FW⟩ := cblk hW
    clear hW
    obtain ⟨a0, a1, _⟩ := BA.pair
    obtain ⟨b0, b1, _⟩ := BB.pair
    (refine wp_region_quiet_tail (fun w' => Fr _ w') 6 (by kernel_rfl) (by kernel_rfl) (Fr.refl _).drew ?_; simp only [List.take_succ_cons, List.take_zero, List.drop_succ_cons, List.drop_zero]; (repeat go_big_quiet_step (first | exact fun _ => rfl | exact fun _ => ⟨rfl, rfl⟩ | (intro hw'; replace a0 := hw'.cell a0; replace a1 := hw'.cell a1; replace b0 := hw'.cell b0; replace b1 := hw'.cell b1; go_simp; first | done | exact rfl | exact ⟨rfl, rfl⟩) | (intro hw'; go_at_call 74; refine (implTruthM _ _ _).mono ?_; rintro r w1 ⟨rfl, b9⟩; (first | rw [ha] | rw [hb]); exact ⟨rfl, hw'.trans b9⟩) | (intro hw'; go_at_call 75; refine (implTV _ _).mono ?_; rintro r w1 ⟨rfl, b9⟩; exact ⟨rfl, hw'.trans b9⟩))); refine wpQuiet_nil ?_; intro wq hq)
    obtain ⟨d0, d1, f0, f1⟩ := (BR.fr hq).pair
    have FF := FW.trans hq
    go_wp2
    exact bodyPost_ret (v := Vv (trV 1)) (by simp [results, Try.results77, go_sem, d0, d1]) rfl ⟨by rw [R.out], by (repeat (first | with_reducible exact Fr.refl _ | with_reducible assumption | with_reducible refine Fr.alloc ?_ _ | with_reducible refine Fr.drew ?_ | with_reducible refine Fr.drewN ?_ _ | (with_reducible refine Fr.setNew2 ?_ ?_ _; · (simp <;> omega)) | with_reducible refine Fr.trans ?_ (by assumption)))⟩
  · have R := hid (show comb 9 ⟨an, a⟩ ⟨bn, b⟩ = trV 0 by show trV (max (V.mk an a).tr (V.mk bn b).tr) = _; rw [ha, hb]; decide)
    go_enter Try.func77, Try.ntmps77
    go_wp2_with fail
    refine absC fun W hW => ?_
    obtain ⟨BA, BB, BR, FW⟩ := cblk hW
    clear hW
    obtain ⟨a0, a1, _⟩ := BA.pair
    obtain ⟨b0, b1, _⟩ := BB.pair
    (refine wp_region_quiet_tail (fun w' => Fr _ w') 6 (by kernel_rfl) (by kernel_rfl) (Fr.refl _).drew ?_; simp only [List.take_succ_cons, List.take_zero, List.drop_succ_cons, List.drop_zero]; (repeat go_big_quiet_step (first | exact fun _ => rfl | exact fun _ => ⟨rfl, rfl⟩ | (intro hw'; replace a0 := hw'.cell a0; replace a1 := hw'.cell a1; replace b0 := hw'.cell b0; replace b1 := hw'.cell b1; go_simp; first | done | exact rfl | exact ⟨rfl, rfl⟩) | (intro hw'; go_at_call 74; refine (implTruthM _ _ _).mono ?_; rintro r w1 ⟨rfl, b9⟩; (first | rw [ha] | rw [hb]); exact ⟨rfl, hw'.trans b9⟩) | (intro hw'; go_at_call 75; refine (implTV _ _).mono ?_; rintro r w1 ⟨rfl, b9⟩; exact ⟨rfl, hw'.trans b9⟩))); refine wpQuiet_nil ?_; intro wq hq)
    obtain ⟨d0, d1, f0, f1⟩ := (BR.fr hq).pair
    have FF := FW.trans hq
    go_wp2
    exact bodyPost_ret (v := Vv (trV 0)) (by simp [results, Try.results77, go_sem, d0, d1]) rfl ⟨by rw [R.out], by (repeat (first | with_reducible exact Fr.refl _ | with_reducible assumption | with_reducible refine Fr.alloc ?_ _ | with_reducible refine Fr.drew ?_ | with_reducible refine Fr.drewN ?_ _ | (with_reducible refine Fr.setNew2 ?_ ?_ _; · (simp <;> omega)) | with_reducible refine Fr.trans ?_ (by assumption)))⟩
  · have R := hid (show comb 9 ⟨an, a⟩ ⟨bn, b⟩ = trV 2 by show trV (max (V.mk an a).tr (V.mk bn b).tr) = _; rw [ha, hb]; decide)
    go_enter Try.func77, Try.ntmps77
    go_wp2_with fail
    refine absC fun W hW => ?_
    obtain ⟨BA, BB, BR, FW⟩ := cblk hW
    clear hW
    obtain ⟨a0, a1, _⟩ := BA.pair
    obtain ⟨b0, b1, _⟩ := BB.pair
    (refine wp_region_quiet_tail (fun w' => Fr _ w') 6 (by kernel_rfl) (by kernel_rfl) (Fr.refl _).drew ?_; simp only [List.take_succ_cons, List.take_zero, List.drop_succ_cons, List.drop_zero]; (repeat go_big_quiet_step (first | exact fun _ => rfl | exact fun _ => ⟨rfl, rfl⟩ | (intro hw'; replace a0 := hw'.cell a0; replace a1 := hw'.cell a1; replace b0 := hw'.cell b0; replace b1 := hw'.cell b1; go_simp; first | done | exact rfl | exact ⟨rfl, rfl⟩) | (intro hw'; go_at_call 74; refine (implTruthM _ _ _).mono ?_; rintro r w1 ⟨rfl, b9⟩; (first | rw [ha] | rw [hb]); exact ⟨rfl, hw'.trans b9⟩) | (intro hw'; go_at_call 75; refine (implTV _ _).mono ?_; rintro r w1 ⟨rfl, b9⟩; exact ⟨rfl, hw'.trans b9⟩))); refine wpQuiet_nil ?_; intro wq hq)
    obtain ⟨d0, d1, f0, f1⟩ := (BR.fr hq).pair
    have FF := FW.trans hq
    go_wp2
    exact bodyPost_ret (v := Vv (trV 2)) (by simp [results, Try.results77, go_sem, d0, d1]) rfl ⟨by rw [R.out], by (repeat (first | with_reducible exact Fr.refl _ | with_reducible assumption | with_reducible refine Fr.alloc ?_ _ | with_reducible refine Fr.drew ?_ | with_reducible refine Fr.drewN ?_ _ | (with_reducible refine Fr.setNew2 ?_ ?_ _; · (simp <;> omega)) | with_reducible refine Fr.trans ?_ (by assumption)))⟩
  · have R := hid (show comb 9 ⟨an, a⟩ ⟨bn, b⟩ = trV 2 by show trV (max (V.mk an a).tr (V.mk bn b).tr) = _; rw [ha, hb]; decide)
    go_enter Try.func77, Try.ntmps77
    go_wp2_with fail
    refine absC fun W hW => ?_
    obtain ⟨BA, BB, BR, FW⟩ := cblk hW
    clear hW
    obtain ⟨a0, a1, _⟩ := BA.pair
    obtain ⟨b0, b1, _⟩ := BB.pair
    (refine wp_region_quiet_tail (fun w' => Fr _ w') 6 (by kernel_rfl) (by kernel_rfl) (Fr.refl _).drew ?_; simp only [List.take_succ_cons, List.take_zero, List.drop_succ_cons, List.drop_zero]; (repeat go_big_quiet_step (first | exact fun _ => rfl | exact fun _ => ⟨rfl, rfl⟩ | (intro hw'; replace a0 := hw'.cell a0; replace a1 := hw'.cell a1; replace b0 := hw'.cell b0; replace b1 := hw'.cell b1; go_simp; first | done | exact rfl | exact ⟨rfl, rfl⟩) | (intro hw'; go_at_call 74; refine (implTruthM _ _ _).mono ?_; rintro r w1 ⟨rfl, b9⟩; (first | rw [ha] | rw [hb]); exact ⟨rfl, hw'.trans b9⟩) | (intro hw'; go_at_call 75; refine (implTV _ _).mono ?_; rintro r w1 ⟨rfl, b9⟩; exact ⟨rfl, hw'.trans b9⟩))); refine wpQuiet_nil ?_; intro wq hq)
    obtain ⟨d0, d1, f0, f1⟩ := (BR.fr hq).pair
    have FF := FW.trans hq
    go_wp2
    exact bodyPost_ret (v := Vv (trV 2)) (by simp [results, Try.results77, go_sem, d0, d1]) rfl ⟨by rw [R.out], by (repeat (first | with_reducible exact Fr.refl _ | with_reducible assumption | with_reducible refine Fr.alloc ?_ _ | with_reducible refine Fr.drew ?_ | with_reducible refine Fr.drewN ?_ _ | (with_reducible refine Fr.setNew2 ?_ ?_ _; · (simp <;> omega)) | with_reducible refine Fr.trans ?_ (by assumption)))⟩
  · have R := hid (show comb 9 ⟨an, a⟩ ⟨bn, b⟩ = trV 2 by show trV (max (V.mk an a).tr (V.mk bn b).tr) = _; rw [ha, hb]; decide)
    go_enter Try.func77, Try.ntmps77
    go_wp2_with fail
    refine absC fun W hW => ?_
    obtain ⟨BA, BB, BR, FW⟩ := cblk hW
    clear hW
    obtain ⟨a0, a1, _⟩ := BA.pair
    obtain ⟨b0, b1, _⟩ := BB.pair
    (refine wp_region_quiet_tail (fun w' => Fr _ w') 6 (by kernel_rfl) (by kernel_rfl) (Fr.refl _).drew ?_; simp only [List.take_succ_cons, List.take_zero, List.drop_succ_cons, List.drop_zero]; (repeat go_big_quiet_step (first | exact fun _ => rfl | exact fun _ => ⟨rfl, rfl⟩ | (intro hw'; replace a0 := hw'.cell a0; replace a1 := hw'.cell a1; replace b0 := hw'.cell b0; replace b1 := hw'.cell b1; go_simp; first | done | exact rfl | exact ⟨rfl, rfl⟩) | (intro hw'; go_at_call 74; refine (implTruthM _ _ _).mono ?_; rintro r w1 ⟨rfl, b9⟩; (first | rw [ha] | rw [hb]); exact ⟨rfl, hw'.trans b9⟩) | (intro hw'; go_at_call 75; refine (implTV _ _).mono ?_; rintro r w1 ⟨rfl, b9⟩; exact ⟨rfl, hw'.trans b9⟩))); refine wpQuiet_nil ?_; intro wq hq)
    obtain ⟨d0, d1, f0, f1⟩ := (BR.fr hq).pair
    have FF := FW.trans hq
    go_wp2
    exact bodyPost_ret (v := Vv (trV 2)) (by simp [results, Try.results77, go_sem, d0, d1]) rfl ⟨by rw [R.out], by (repeat (first | with_reducible exact Fr.refl _ | with_reducible assumption | with_reducible refine Fr.alloc ?_ _ | with_reducible refine Fr.drew ?_ | with_reducible refine Fr.drewN ?_ _ | (with_reducible refine Fr.setNew2 ?_ ?_ _; · (simp <;> omega)) | with_reducible refine Fr.trans ?_ (by assumption)))⟩
  · have R := hid (show comb 9 ⟨an, a⟩ ⟨bn, b⟩ = trV 2 by show trV (max (V.mk an a).tr (V.mk bn b).tr) = _; rw [ha, hb]; decide)
    go_enter Try.func77, Try.ntmps77
    go_wp2_with fail
    refine absC fun W hW => ?_
    obtain ⟨BA, BB, BR, FW⟩ := cblk hW
    clear hW
    obtain ⟨a0, a1, _⟩ := BA.pair
    obtain ⟨b0, b1, _⟩ := BB.pair
    (refine wp_region_quiet_tail (fun w' => Fr _ w') 6 (by kernel_rfl) (by kernel_rfl) (Fr.refl _).drew ?_; simp only [List.take_succ_cons, List.take_zero, List.drop_succ_cons, List.drop_zero]; (repeat go_big_quiet_step (first | exact fun _ => rfl | exact fun _ => ⟨rfl, rfl⟩ | (intro hw'; replace a0 := hw'.cell a0; replace a1 := hw'.cell a1; replace b0 := hw'.cell b0; replace b1 := hw'.cell b1; go_simp; first | done | exact rfl | exact ⟨rfl, rfl⟩) | (intro hw'; go_at_call 74; refine (implTruthM _ _ _).mono ?_; rintro r w1 ⟨rfl, b9⟩; (first | rw [ha] | rw [hb]); exact ⟨rfl, hw'.trans b9⟩) | (intro hw'; go_at_call 75; refine (implTV _ _).mono ?_; rintro r w1 ⟨rfl, b9⟩; exact ⟨rfl, hw'.trans b9⟩))); refine wpQuiet_nil ?_; intro wq hq)
    obtain ⟨d0, d1, f0, f1⟩ := (BR.fr hq).pair
    have FF := FW.trans hq
    go_wp2
    exact bodyPost_ret (v := Vv (trV 2)) (by simp [results, Try.results77, go_sem, d0, d1]) rfl ⟨by rw [R.out], by (repeat (first | with_reducible exact Fr.refl _ | with_reducible assumption | with_reducible refine Fr.alloc ?_ _ | with_reducible refine Fr.drew ?_ | with_reducible refine Fr.drewN ?_ _ | (with_reducible refine Fr.setNew2 ?_ ?_ _; · (simp <;> omega)) | with_reducible refine Fr.trans ?_ (by assumption)))⟩
end Go.Proofs.Ytfillcjpdnpaiaa
