/- Walks of the functions that combine two values. -/
import Derived.Test.YtfillcjpdnpaiaaEvalP
namespace Go.Proofs.Ytfillcjpdnpaiaa
open Go Go.RowKit

theorem implTV (t : Int) (w : World) : Calls Try.prog 75 #[.int .i64 t] w fun r w' => r = .returned (Vv (trV t)) ∧ Fr w w' := by
  by_cases h : t = 1
  · subst h
    go_enter Try.func75, Try.ntmps75
    go_wp2_with fail
    refine (implNull _).mono ?_
    rintro r w1 ⟨rfl, b1⟩
    obtain ⟨d0, d1, f0, f1⟩ := (resBlk b1).pair
    have F1 : Fr w w1 := ((Fr.refl w).alloc _).trans b1
    go_wp2
    exact bodyPost_ret (v := .agg #[.bool true, .int .i64 0]) (by simp [results, Try.results75, go_sem, d0, d1]) rfl ⟨rfl, by (repeat (first | with_reducible exact Fr.refl _ | with_reducible assumption | with_reducible refine Fr.alloc ?_ _ | with_reducible refine Fr.drew ?_ | with_reducible refine Fr.drewN ?_ _ | (with_reducible refine Fr.setNew2 ?_ ?_ _; · (simp <;> omega)) | with_reducible refine Fr.trans ?_ (by assumption)))⟩
  · have e : (t == 1) = false := by simp [h]
    cases e2 : (t == 2)
    · have R := hid (show trV t = ⟨false, 0⟩ by unfold trV; rw [if_neg h, if_neg (by simpa using e2)])
      go_enter Try.func75, Try.ntmps75
      go_wp2_with fail
      refine (implFlag _ _).mono ?_
      rintro r w1 ⟨rfl, b1⟩
      obtain ⟨d0, d1, f0, f1⟩ := (resBlk b1).pair
      have F1 : Fr w w1 := ((Fr.refl w).alloc _).trans b1
      go_wp2
      exact bodyPost_ret (v := .agg #[.bool false, .int .i64 0]) (by simp [results, Try.results75, go_sem, d0, d1, V.flag]) rfl ⟨by rw [R.out], by (repeat (first | with_reducible exact Fr.refl _ | with_reducible assumption | with_reducible refine Fr.alloc ?_ _ | with_reducible refine Fr.drew ?_ | with_reducible refine Fr.drewN ?_ _ | (with_reducible refine Fr.setNew2 ?_ ?_ _; · (simp <;> omega)) | with_reducible refine Fr.trans ?_ (by assumption)))⟩
    · have R := hid (show trV t = ⟨false, 1⟩ by unfold trV; rw [if_neg h, if_pos (by simpa using e2)])
      go_enter Try.func75, Try.ntmps75
      go_wp2_with fail
      refine (implFlag _ _).mono ?_
      rintro r w1 ⟨rfl, b1⟩
      obtain ⟨d0, d1, f0, f1⟩ := (resBlk b1).pair
      have F1 : Fr w w1 := ((Fr.refl w).alloc _).trans b1
      go_wp2
      exact bodyPost_ret (v := .agg #[.bool false, .int .i64 1]) (by simp [results, Try.results75, go_sem, d0, d1, V.flag]) rfl ⟨by rw [R.out], by (repeat (first | with_reducible exact Fr.refl _ | with_reducible assumption | with_reducible refine Fr.alloc ?_ _ | with_reducible refine Fr.drew ?_ | with_reducible refine Fr.drewN ?_ _ | (with_reducible refine Fr.setNew2 ?_ ?_ _; · (simp <;> omega)) | with_reducible refine Fr.trans ?_ (by assumption)))⟩
theorem specNumber (n : Int) (w : World) : Calls Try.prog 91 #[.int .i64 n] w fun r w' => r = .returned (Vv (V.ofN n)) ∧ Fr w w' := by
  by_cases h : -9999 ≤ n ∧ n ≤ 9999
  · have R := hid (show V.ofN n = ⟨false, n⟩ from if_pos h)
    go_enter Try.func91, Try.ntmps91
    go_wp2_with (go_at_call 64; refine (inRange_yes _ _ _ _ h.1 h.2).mono ?_; rintro r w1 ⟨rfl, rfl⟩)
    exact bodyPost_ret (v := .agg #[.bool false, .int .i64 n]) (by simp [results, Try.results91, go_sem]) rfl ⟨by rw [R.out], by (repeat (first | with_reducible exact Fr.refl _ | with_reducible assumption | with_reducible refine Fr.alloc ?_ _ | with_reducible refine Fr.drew ?_ | with_reducible refine Fr.drewN ?_ _ | (with_reducible refine Fr.setNew2 ?_ ?_ _; · (simp <;> omega)) | with_reducible refine Fr.trans ?_ (by assumption)))⟩
  · have R := hid (show V.ofN n = ⟨true, 0⟩ from if_neg h)
    go_enter Try.func91, Try.ntmps91
    go_wp2_with (go_at_call 64; refine (inRange_no _ _ _ _ (by omega)).mono ?_; rintro r w1 ⟨rfl, rfl⟩)
    exact bodyPost_ret (v := .agg #[.bool true, .int .i64 0]) (by simp [results, Try.results91, go_sem]) rfl ⟨by rw [R.out], by (repeat (first | with_reducible exact Fr.refl _ | with_reducible assumption | with_reducible refine Fr.alloc ?_ _ | with_reducible refine Fr.drew ?_ | with_reducible refine Fr.drewN ?_ _ | (with_reducible refine Fr.setNew2 ?_ ?_ _; · (simp <;> omega)) | with_reducible refine Fr.trans ?_ (by assumption)))⟩
theorem implNum (n : Int) (w : World) : Calls Try.prog 89 #[.int .i64 n] w fun r w' => r = .returned (Vv (V.ofN n)) ∧ Fr w w' := by
  by_cases h : -9999 ≤ n ∧ n ≤ 9999
  · have R := hid (show V.ofN n = ⟨false, n⟩ from if_pos h)
    have hv : (V.mk false n).valid = true := by simp [V.valid, h]
    go_enter Try.func89, Try.ntmps89
    go_wp2_with fail
    refine (implNumber _ _).mono ?_
    rintro r w1 ⟨rfl, b1⟩
    have hB := resBlk b1
    have hs := hB.lt
    have F1 : Fr w w1 := ((Fr.refl w).alloc _).trans b1
    go_wp2_with fail
    refine absW fun W2 hW2 => ?_
    have B2 : Blk W2 w1.heap.size 30 #[.bool false, .int .i64 n] := by rw [hW2]; exact Blk.new _ _ _
    have hB2 := hB.fr (show Fr w1 W2 by rw [hW2]; (repeat (first | with_reducible exact Fr.refl _ | with_reducible assumption | with_reducible refine Fr.alloc ?_ _ | with_reducible refine Fr.drew ?_ | with_reducible refine Fr.drewN ?_ _ | (with_reducible refine Fr.setNew2 ?_ ?_ _; · (simp <;> omega)) | with_reducible refine Fr.trans ?_ (by assumption))))
    have F2 : Fr w W2 := by rw [hW2]; (repeat (first | with_reducible exact Fr.refl _ | with_reducible assumption | with_reducible refine Fr.alloc ?_ _ | with_reducible refine Fr.drew ?_ | with_reducible refine Fr.drewN ?_ _ | (with_reducible refine Fr.setNew2 ?_ ?_ _; · (simp <;> omega)) | with_reducible refine Fr.trans ?_ (by assumption)))
    clear hW2
    refine (implValid _ _ _).mono ?_
    rintro r w3 ⟨rfl, b3⟩
    rw [hv]
    obtain ⟨d0, d1, f0, f1⟩ := (hB2.fr b3).pair
    obtain ⟨c0, c1, g0, g1⟩ := (B2.fr b3).pair
    have F3 := F2.trans b3
    go_wp2
    exact bodyPost_ret (v := .agg #[.bool false, .int .i64 n]) (by simp [results, Try.results89, go_sem, d0, d1]) rfl ⟨by rw [R.out], by (repeat (first | with_reducible exact Fr.refl _ | with_reducible assumption | with_reducible refine Fr.alloc ?_ _ | with_reducible refine Fr.drew ?_ | with_reducible refine Fr.drewN ?_ _ | (with_reducible refine Fr.setNew2 ?_ ?_ _; · (simp <;> omega)) | with_reducible refine Fr.trans ?_ (by assumption)))⟩
  · have R := hid (show V.ofN n = ⟨true, 0⟩ from if_neg h)
    have hv : (V.mk false n).valid = false := by simp [V.valid]; omega
    go_enter Try.func89, Try.ntmps89
    go_wp2_with fail
    refine (implNumber _ _).mono ?_
    rintro r w1 ⟨rfl, b1⟩
    have hB := resBlk b1
    have hs := hB.lt
    have F1 : Fr w w1 := ((Fr.refl w).alloc _).trans b1
    go_wp2_with fail
    refine absW fun W2 hW2 => ?_
    have hB2 := hB.fr (show Fr w1 W2 by rw [hW2]; (repeat (first | with_reducible exact Fr.refl _ | with_reducible assumption | with_reducible refine Fr.alloc ?_ _ | with_reducible refine Fr.drew ?_ | with_reducible refine Fr.drewN ?_ _ | (with_reducible refine Fr.setNew2 ?_ ?_ _; · (simp <;> omega)) | with_reducible refine Fr.trans ?_ (by assumption))))
    have F2 : Fr w W2 := by rw [hW2]; (repeat (first | with_reducible exact Fr.refl _ | with_reducible assumption | with_reducible refine Fr.alloc ?_ _ | with_reducible refine Fr.drew ?_ | with_reducible refine Fr.drewN ?_ _ | (with_reducible refine Fr.setNew2 ?_ ?_ _; · (simp <;> omega)) | with_reducible refine Fr.trans ?_ (by assumption)))
    clear hW2
    refine (implValid _ _ _).mono ?_
    rintro r w3 ⟨rfl, b3⟩
    rw [hv]
    have F3 := F2.trans b3
    go_wp2_with fail
    refine (implNull _).mono ?_
    rintro r w4 ⟨rfl, b4⟩
    obtain ⟨d0, d1, f0, f1⟩ := (hB2.fr (b3.trans b4)).pair
    have F4 := F3.trans b4
    go_wp2
    exact bodyPost_ret (v := .agg #[.bool true, .int .i64 0]) (by simp [results, Try.results89, go_sem, d0, d1]) rfl ⟨by rw [R.out], by (repeat (first | with_reducible exact Fr.refl _ | with_reducible assumption | with_reducible refine Fr.alloc ?_ _ | with_reducible refine Fr.drew ?_ | with_reducible refine Fr.drewN ?_ _ | (with_reducible refine Fr.setNew2 ?_ ?_ _; · (simp <;> omega)) | with_reducible refine Fr.trans ?_ (by assumption)))⟩

theorem tS_cases (v : V) : (v.tS = 2 ∧ v.tr = 1) ∨ (v.tS = 0 ∧ v.tr = 0) ∨ (v.tS = 1 ∧ v.tr = 2) := by
  obtain ⟨b, n⟩ := v
  cases b
  · by_cases h : n = 0 <;> simp [V.tS, V.tr, h]
  · simp [V.tS, V.tr]
theorem and_eq (a b : V) : trS (andS a.tS b.tS) = trV (min a.tr b.tr) := by
  rcases tS_cases a with ⟨h1, h2⟩ | ⟨h1, h2⟩ | ⟨h1, h2⟩ <;> rcases tS_cases b with ⟨h3, h4⟩ | ⟨h3, h4⟩ | ⟨h3, h4⟩ <;> rw [h1, h2, h3, h4] <;> decide
theorem or_eq (a b : V) : trS (notS (andS (notS a.tS) (notS b.tS))) = trV (max a.tr b.tr) := by
  rcases tS_cases a with ⟨h1, h2⟩ | ⟨h1, h2⟩ | ⟨h1, h2⟩ <;> rcases tS_cases b with ⟨h3, h4⟩ | ⟨h3, h4⟩ | ⟨h3, h4⟩ <;> rw [h1, h2, h3, h4] <;> decide
theorem tS_range (v : V) : 0 ≤ v.tS ∧ v.tS ≤ 2 := by rcases tS_cases v with ⟨h1, _⟩ | ⟨h1, _⟩ | ⟨h1, _⟩ <;> omega
theorem notS_range {t : Int} (h0 : 0 ≤ t) (h2 : t ≤ 2) : 0 ≤ notS t ∧ notS t ≤ 2 := by unfold notS; split <;> omega
theorem andS_range (a b : Int) : 0 ≤ andS a b ∧ andS a b ≤ 2 := by unfold andS; split <;> (try split) <;> omega

theorem absC {P : Program} {c : Code} {Q : Exit → Act → World → Prop} {a : Act} {w : World} (h : ∀ W, W = w → Code.wp P c Q a W) : Code.wp P c Q a w := h w rfl
theorem valid_range {v : V} (h : v.valid = true) : -9999 ≤ v.n ∧ v.n ≤ 9999 := by
  obtain ⟨b, n⟩ := v
  cases b <;> simp [V.valid] at h <;> (show -9999 ≤ n ∧ n ≤ 9999) <;> omega
theorem mul_range {a b : Int} (h1 : -9999 ≤ a) (h2 : a ≤ 9999) (h3 : -9999 ≤ b) (h4 : b ≤ 9999) : -100000000 ≤ a * b ∧ a * b ≤ 100000000 := by
  have k1 : 0 ≤ (9999 - a) * (9999 - b) := Int.mul_nonneg (by omega) (by omega)
  have k2 : 0 ≤ (9999 + a) * (9999 + b) := Int.mul_nonneg (by omega) (by omega)
  have k3 : 0 ≤ (9999 - a) * (9999 + b) := Int.mul_nonneg (by omega) (by omega)
  have k4 : 0 ≤ (9999 + a) * (9999 - b) := Int.mul_nonneg (by omega) (by omega)
  rw [Int.sub_mul, Int.mul_sub, Int.mul_sub] at k1
  rw [Int.add_mul, Int.mul_add, Int.mul_add] at k2
  rw [Int.sub_mul, Int.mul_add, Int.mul_add] at k3
  rw [Int.add_mul, Int.mul_sub, Int.mul_sub] at k4
  omega
/-- The two boxes and the result of a call with two values. -/
theorem cblk {an bn : Bool} {a b : Int} {w : World} {W : World} (hW : W = ((w.alloc (.cells #[.bool an, .int .i64 a] 30)).alloc (.cells #[.bool bn, .int .i64 b] 30)).alloc (.cells #[.bool false, .int .i64 0] 30)) :
    Blk W w.heap.size 30 #[.bool an, .int .i64 a] ∧ Blk W (w.heap.size + 1) 30 #[.bool bn, .int .i64 b] ∧ Blk W (w.heap.size + 2) 30 #[.bool false, .int .i64 0] ∧ Fr w W := by
  have BB := Blk.new (w.alloc (.cells #[.bool an, .int .i64 a] 30)) 30 #[.bool bn, .int .i64 b]
  have BR := Blk.new ((w.alloc (.cells #[.bool an, .int .i64 a] 30)).alloc (.cells #[.bool bn, .int .i64 b] 30)) 30 #[.bool false, .int .i64 0]
  rw [World.size_alloc] at BB
  rw [World.size_alloc, World.size_alloc] at BR
  subst hW
  exact ⟨((Blk.new _ _ _).alloc _).alloc _, BB.alloc _, BR, (((Fr.refl w).alloc _).alloc _).alloc _⟩
end Go.Proofs.Ytfillcjpdnpaiaa
