/- Walk of the law on the comparison of rows. -/
import Derived.Test.YtdkeblhkdekfjaaRowW
import Derived.Test.YtdkeblhkdekfjaaLaw
namespace Go.Proofs.Ytdkeblhkdekfjaa
open Go Go.RowKit
set_option maxHeartbeats 1000000 in
theorem walkFnExactCompareRows (A : Option Addr) (c : Nat) (xs : List V) (B : Option Addr) (c' : Nat) (ys : List V) (w : World) (hx : RdSl rdV w.cell? 2 A xs) (hm : xs.length ≤ maxLen) (hy : RdSl rdV w.cell? 2 B ys) (hm' : ys.length ≤ maxLen) :
    Calls Try.prog 7 #[.slice A xs.length c, .slice B ys.length c'] w fun e w' => e = .returned (.bool true) ∧ Fr w w' := by
  have HX := hid hx
  have HY := hid hy
  clear hx hy
  by_cases h1 : xs.length ≤ 1048576
  · have e1 : (if (1048576 : Int) < (xs.length : Int) then (-1 : Int) else 1048576 - xs.length) = 1048576 - xs.length := by rw [if_neg (by omega)]
    have d1 : decide ((1048576 : Int) - (xs.length : Int) < 0) = false := by simp; omega
    by_cases h2 : xs.length + ys.length ≤ 1048576
    · have e2 : (if (1048576 : Int) - (xs.length : Int) < (ys.length : Int) then (-1 : Int) else 1048576 - (xs.length : Int) - ys.length) = 1048576 - (xs.length : Int) - ys.length := by rw [if_neg (by omega)]
      have d2 : decide ((1048576 : Int) - (xs.length : Int) - ys.length < 0) = false := by simp; omega
      have h3 : ys.length ≤ 1048576 := by omega
      go_enter Try.func7, Try.ntmps7
      go_wp2_with fail
      refine (szVS _ _ _ _ _ hm (by omega) (by omega)).mono ?_
      rintro e w' ⟨rfl, rfl⟩
      rw [e1]
      go_wp2_with fail
      refine (szVS _ _ _ _ _ hm' (by omega) (by omega)).mono ?_
      rintro e w' ⟨rfl, rfl⟩
      rw [e2]
      go_wp2_with fail
      refine (toVS' _ _ _ _ HX.out h1).mono ?_
      rintro e w1 ⟨g1, rfl, x1, b1⟩
      have X1 := hid x1; clear x1
      go_wp2_with fail
      refine (toVS' _ _ _ _ (HY.out.fr rdV_mono b1) h3).mono ?_
      rintro e w2 ⟨g2, rfl, y2, b2⟩
      have Y2 := hid y2; clear y2
      go_wp2_with fail
      refine (specCompareRows _ _ _ _ _ _ _ (X1.out.fr rdV_mono b2) Y2.out h1 h3).mono ?_
      rintro e w3 ⟨rfl, b3⟩
      have F3 := (b1.trans b2).trans b3
      go_wp2_with fail
      refine (toVS' _ _ _ _ (HX.out.fr rdV_mono F3) h1).mono ?_
      rintro e w4 ⟨g4, rfl, x4, b4⟩
      have X4 := hid x4; clear x4
      go_wp2_with fail
      refine (toVS' _ _ _ _ (HY.out.fr rdV_mono (F3.trans b4)) h3).mono ?_
      rintro e w5 ⟨g5, rfl, y5, b5⟩
      have Y5 := hid y5; clear y5
      go_wp2_with fail
      refine (implCompareRows _ _ _ _ _ _ _ (X4.out.fr rdV_mono b5) Y5.out h1 h3).mono ?_
      rintro e w6 ⟨rfl, b6⟩
      have F6 := ((F3.trans b4).trans b5).trans b6
      have q1 : decide (xs = xs) = true := by simp
      have q2 : decide (ys = ys) = true := by simp
      go_wp2_with fail
      refine (toVS' _ _ _ _ (HX.out.fr rdV_mono F6) h1).mono ?_
      rintro e w7 ⟨g7, rfl, x7, b7⟩
      have X7 := hid x7; clear x7
      go_wp2_with fail
      refine (eqVS _ _ _ _ _ _ _ (X4.out.fr rdV_mono ((b5.trans b6).trans b7)) X7.out h1 h1).mono ?_
      rintro e w8 ⟨rfl, b8⟩
      have F8 := (F6.trans b7).trans b8
      go_wp2_with fail
      refine (toVS' _ _ _ _ (HY.out.fr rdV_mono F8) h3).mono ?_
      rintro e w9 ⟨g9, rfl, y9, b9⟩
      have Y9 := hid y9; clear y9
      go_wp2_with fail
      refine (eqVS _ _ _ _ _ _ _ (Y5.out.fr rdV_mono (((b6.trans b7).trans b8).trans b9)) Y9.out h3 h3).mono ?_
      rintro e w10 ⟨rfl, b10⟩
      go_wp2
      go_ret
      exact ⟨rfl, (F8.trans b9).trans b10⟩
    · have e2 : (if (1048576 : Int) - (xs.length : Int) < (ys.length : Int) then (-1 : Int) else 1048576 - (xs.length : Int) - ys.length) = -1 := by rw [if_pos (by omega)]
      go_enter Try.func7, Try.ntmps7
      go_wp2_with fail
      refine (szVS _ _ _ _ _ hm (by omega) (by omega)).mono ?_
      rintro e w' ⟨rfl, rfl⟩
      rw [e1]
      go_wp2_with fail
      refine (szVS _ _ _ _ _ hm' (by omega) (by omega)).mono ?_
      rintro e w' ⟨rfl, rfl⟩
      rw [e2]
      go_wp2
      go_ret
      exact ⟨rfl, Fr.refl _⟩
  · have e1 : (if (1048576 : Int) < (xs.length : Int) then (-1 : Int) else 1048576 - xs.length) = -1 := by rw [if_pos (by omega)]
    go_enter Try.func7, Try.ntmps7
    go_wp2_with fail
    refine (szVS _ _ _ _ _ hm (by omega) (by omega)).mono ?_
    rintro e w' ⟨rfl, rfl⟩
    rw [e1]
    go_wp2
    go_ret
    exact ⟨rfl, Fr.refl _⟩
end Go.Proofs.Ytdkeblhkdekfjaa
