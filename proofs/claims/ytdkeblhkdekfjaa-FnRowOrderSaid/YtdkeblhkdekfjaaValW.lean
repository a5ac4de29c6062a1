/- Walks of the functions on single values, and of small functions on ints. -/
import Derived.Test.YtdkeblhkdekfjaaProg
import Derived.Test.YtdkeblhkdekfjaaMem
import Derived.WalkKit
import Derived.WalkSpells
import Derived.WalkLawsBesides
import Derived.Laws.StructEq
import Derived.BigQuiet
import Derived.Deep.QuietTactic
import Derived.StillTailTactics
namespace Go.Proofs.Ytdkeblhkdekfjaa
open Go Go.RowKit

structure V where
  null : Bool
  n : Int
deriving DecidableEq
abbrev V.val (v : V) : Value := .agg #[.bool v.null, .int .i64 v.n]
def V.valid (v : V) : Bool := if v.null then v.n == 0 else decide (-9999 ≤ v.n) && decide (v.n ≤ 9999)
def icmp (a b : Int) : Int := if a < b then -1 else if b < a then 1 else 0
def V.cmp (a b : V) : Int := match a.null, b.null with
  | true, true => 0
  | true, false => -1
  | false, true => 1
  | false, false => icmp a.n b.n
def V.cmpS (a b : V) : Int := if a = b then 0 else if a.null || (!b.null && decide (a.n < b.n)) then -1 else 1
theorem V.cmpS_eq {a b : V} (ha : a.valid = true) (hb : b.valid = true) : a.cmpS b = a.cmp b := by
  obtain ⟨an, a⟩ := a
  obtain ⟨bn, b⟩ := b
  cases an <;> cases bn <;> simp_all [V.valid, V.cmpS, V.cmp, icmp]
  · by_cases h : a = b
    · simp [h]
    · rw [if_neg h]
      split <;> rename_i h1
      · rfl
      · rw [if_pos (by omega)]

theorem inRange (n lo hi : Int) (w : World) :
    Calls Try.prog 68 #[.int .i64 n, .int .i64 lo, .int .i64 hi] w fun e w' => e = .returned (.bool (decide (lo ≤ n) && decide (n ≤ hi))) ∧ w = w' := by
  go_enter Try.func68, Try.ntmps68
  go_wp2
  all_goals go_ret
  all_goals exact ⟨ret_bool (by rw [Bool.eq_iff_iff]; simp; try omega), rfl⟩

theorem inRange_yes (n lo hi : Int) (w : World) (h1 : lo ≤ n) (h2 : n ≤ hi) :
    Calls Try.prog 68 #[.int .i64 n, .int .i64 lo, .int .i64 hi] w fun e w' => e = .returned (.bool true) ∧ w = w' :=
  (inRange n lo hi w).mono fun _ _ ⟨he, hw⟩ => ⟨by rw [he]; simp [h1, h2], hw⟩
theorem inRange_no (n lo hi : Int) (w : World) (h : n < lo ∨ hi < n) :
    Calls Try.prog 68 #[.int .i64 n, .int .i64 lo, .int .i64 hi] w fun e w' => e = .returned (.bool false) ∧ w = w' :=
  (inRange n lo hi w).mono fun _ _ ⟨he, hw⟩ => ⟨by rw [he, show (decide (lo ≤ n) && decide (n ≤ hi)) = false by simp; omega], hw⟩
theorem quiet_eq {P : Program} {f : FuncId} {args : Array Value} {w : World} {v : Value} (h : Calls P f args w fun e w' => e = .returned v ∧ w = w') : Calls P f args w fun e w' => e = .returned v ∧ w' = w :=
  h.mono fun _ _ ⟨a, b⟩ => ⟨a, b.symm⟩

theorem implValid (b : Bool) (n : Int) (w : World) :
    Calls Try.prog 95 #[.agg #[.bool b, .int .i64 n]] w fun e w' => e = .returned (.bool (V.mk b n).valid) ∧ Fr w w' := by
  cases b
  all_goals go_enter Try.func95, Try.ntmps95
  all_goals go_wp2
  all_goals go_ret
  all_goals exact ⟨ret_bool (by rw [Bool.eq_iff_iff]; simp [V.valid]; try omega), by (repeat (first | with_reducible exact Fr.refl _ | with_reducible assumption | with_reducible refine Fr.alloc ?_ _ | with_reducible refine Fr.drew ?_ | with_reducible refine Fr.drewN ?_ _ | (with_reducible refine Fr.setNew2 ?_ ?_ _; · (simp <;> omega)) | with_reducible refine Fr.trans ?_ (by assumption)))⟩

theorem specValid (b : Bool) (n : Int) (w : World) :
    Calls Try.prog 124 #[.agg #[.bool b, .int .i64 n]] w fun e w' => e = .returned (.bool (V.mk b n).valid) ∧ Fr w w' := by
  cases b
  all_goals go_enter Try.func124, Try.ntmps124
  all_goals go_wp2_with (go_at_call 68; refine (inRange _ _ _ _).mono ?_; rintro e w' ⟨rfl, rfl⟩)
  all_goals go_ret
  all_goals exact ⟨ret_bool (by rw [Bool.eq_iff_iff]; simp [V.valid]; try omega), by (repeat (first | with_reducible exact Fr.refl _ | with_reducible assumption | with_reducible refine Fr.alloc ?_ _ | with_reducible refine Fr.drew ?_ | with_reducible refine Fr.drewN ?_ _ | (with_reducible refine Fr.setNew2 ?_ ?_ _; · (simp <;> omega)) | with_reducible refine Fr.trans ?_ (by assumption)))⟩

theorem isNaN (n : Int) (w : World) : Calls Try.prog 133 #[.int .i64 n] w fun e w' => e = .returned (.bool false) ∧ w = w' := by
  go_enter Try.func133, Try.ntmps133
  go_wp2
  go_ret
  exact ⟨ret_bool (by simp), rfl⟩

theorem cmpInt (a b : Int) (w : World) : Calls Try.prog 117 #[.int .i64 a, .int .i64 b] w fun e w' => e = .returned (.int .i64 (icmp a b)) ∧ w = w' := by
  go_enter Try.func117, Try.ntmps117
  go_wp2_with (go_at_call 133; refine (isNaN _ _).mono ?_; rintro e w' ⟨rfl, rfl⟩)
  all_goals go_ret
  all_goals exact ⟨ret_int (by unfold icmp; split <;> first | rfl | omega | (split <;> first | rfl | omega)), rfl⟩

theorem implCmp (an : Bool) (a : Int) (bn : Bool) (b : Int) (w : World) :
    Calls Try.prog 96 #[.agg #[.bool an, .int .i64 a], .agg #[.bool bn, .int .i64 b]] w fun e w' => e = .returned (.int .i64 ((V.mk an a).cmp (V.mk bn b))) ∧ Fr w w' := by
  cases an <;> cases bn
  all_goals go_enter Try.func96, Try.ntmps96
  all_goals go_wp2_with (go_at_call 117; refine (cmpInt _ _ _).mono ?_; rintro e w' ⟨rfl, rfl⟩)
  all_goals go_ret
  all_goals exact ⟨rfl, by (repeat (first | with_reducible exact Fr.refl _ | with_reducible assumption | with_reducible refine Fr.alloc ?_ _ | with_reducible refine Fr.drew ?_ | with_reducible refine Fr.drewN ?_ _ | (with_reducible refine Fr.setNew2 ?_ ?_ _; · (simp <;> omega)) | with_reducible refine Fr.trans ?_ (by assumption)))⟩

theorem specCmp (an : Bool) (a : Int) (bn : Bool) (b : Int) (w : World) :
    Calls Try.prog 125 #[.agg #[.bool an, .int .i64 a], .agg #[.bool bn, .int .i64 b]] w fun e w' => e = .returned (.int .i64 ((V.mk an a).cmpS (V.mk bn b))) ∧ Fr w w' := by
  cases an <;> cases bn
  all_goals go_enter Try.func125, Try.ntmps125
  all_goals go_wp2
  all_goals go_ret
  all_goals exact ⟨ret_int (by simp [V.cmpS]; try omega), by (repeat (first | with_reducible exact Fr.refl _ | with_reducible assumption | with_reducible refine Fr.alloc ?_ _ | with_reducible refine Fr.drew ?_ | with_reducible refine Fr.drewN ?_ _ | (with_reducible refine Fr.setNew2 ?_ ?_ _; · (simp <;> omega)) | with_reducible refine Fr.trans ?_ (by assumption)))⟩


def V.cmp2 (a b : V) : Int := if a.valid && b.valid then a.cmp b else 2
def V.cmp2S (a b : V) : Int := if a.valid && b.valid then a.cmpS b else 2
theorem V.cmp2_eq (a b : V) : a.cmp2S b = a.cmp2 b := by
  unfold V.cmp2S V.cmp2
  split
  · rename_i h
    rw [Bool.and_eq_true] at h
    exact V.cmpS_eq h.1 h.2
  · rfl

theorem implCompareValues (an : Bool) (a : Int) (bn : Bool) (b : Int) (w : World) :
    Calls Try.prog 40 #[.agg #[.bool an, .int .i64 a], .agg #[.bool bn, .int .i64 b]] w fun e w' => e = .returned (.int .i64 ((V.mk an a).cmp2 (V.mk bn b))) ∧ Fr w w' := by
  have A0 := (Blk.new w 72 #[.bool an, .int .i64 a]).alloc (.cells #[.bool bn, .int .i64 b] 72)
  have B0 := Blk.new (w.alloc (.cells #[.bool an, .int .i64 a] 72)) 72 #[.bool bn, .int .i64 b]
  have F0 : Fr w ((w.alloc (.cells #[.bool an, .int .i64 a] 72)).alloc (.cells #[.bool bn, .int .i64 b] 72)) := ((Fr.refl _).alloc _).alloc _
  rw [World.size_alloc] at B0
  have HA := hid A0
  have HB := hid B0
  clear A0 B0
  cases ha : (V.mk an a).valid
  · have R : (V.mk an a).cmp2 (V.mk bn b) = 2 := by simp [V.cmp2, ha]
    go_enter Try.func40, Try.ntmps40
    go_wp2_with (go_at_call 95; refine (implValid _ _ _).mono ?_; rintro e w1 ⟨rfl, hb1⟩)
    go_ret
    exact ⟨ret_int R.symm, F0.trans hb1⟩
  · cases hb : (V.mk bn b).valid
    · have R : (V.mk an a).cmp2 (V.mk bn b) = 2 := by simp [V.cmp2, hb]
      go_enter Try.func40, Try.ntmps40
      go_wp2_with fail
      refine (implValid _ _ _).mono ?_
      rintro e w1 ⟨rfl, hb1⟩
      have c0 := HB.out.at_ hb1 (i := 0) rfl
      have c1 := HB.out.at_ hb1 (i := 1) rfl
      go_wp2_with fail
      refine (implValid _ _ _).mono ?_
      rintro e w2 ⟨rfl, hb2⟩
      go_wp2
      go_ret
      exact ⟨ret_int R.symm, (F0.trans hb1).trans hb2⟩
    · have R : (V.mk an a).cmp2 (V.mk bn b) = (V.mk an a).cmp (V.mk bn b) := by simp [V.cmp2, ha, hb]
      go_enter Try.func40, Try.ntmps40
      go_wp2_with fail
      refine (implValid _ _ _).mono ?_
      rintro e w1 ⟨rfl, hb1⟩
      have c0 := HB.out.at_ hb1 (i := 0) rfl
      have c1 := HB.out.at_ hb1 (i := 1) rfl
      go_wp2_with fail
      refine (implValid _ _ _).mono ?_
      rintro e w2 ⟨rfl, hb2⟩
      clear c0 c1
      have c0 := HB.out.at_ (hb1.trans hb2) (i := 0) rfl
      have c1 := HB.out.at_ (hb1.trans hb2) (i := 1) rfl
      have d0 := HA.out.at_ (hb1.trans hb2) (i := 0) rfl
      have d1 := HA.out.at_ (hb1.trans hb2) (i := 1) rfl
      go_wp2_with (go_at_call 96; refine (implCmp _ _ _ _ _).mono ?_; rintro e w3 ⟨rfl, hb3⟩)
      go_ret
      exact ⟨ret_int R.symm, ((F0.trans hb1).trans hb2).trans hb3⟩
end Go.Proofs.Ytdkeblhkdekfjaa
