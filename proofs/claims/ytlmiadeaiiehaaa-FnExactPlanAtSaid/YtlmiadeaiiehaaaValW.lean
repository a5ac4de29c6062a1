/- Walks of the functions on single values, and of small functions on ints. -/
import Derived.Test.YtlmiadeaiiehaaaProg
import Derived.Test.YtlmiadeaiiehaaaMem
import Derived.WalkKit
import Derived.WalkSpells
import Derived.WalkLawsBesides
import Derived.Laws.StructEq
import Derived.BigQuiet
import Derived.Deep.QuietTactic
import Derived.StillTailTactics
namespace Go.Proofs.Ytlmiadeaiiehaaa
open Go Go.RowKit

structure V where
  null : Bool
  n : Int
deriving DecidableEq
abbrev V.val (v : V) : Value := .agg #[.bool v.null, .int .i64 v.n]
def V.valid (v : V) : Bool := if v.null then v.n == 0 else decide (-9999 ≤ v.n) && decide (v.n ≤ 9999)
def icmp (a b : Int) : Int := if a < b then -1 else if b < a then 1 else 0
def V.cmp (a b : V) : Int := match a.null, b.null with
  | true, true => 0
  | true, false => -1
  | false, true => 1
  | false, false => icmp a.n b.n
def V.cmpS (a b : V) : Int := if a = b then 0 else if a.null || (!b.null && decide (a.n < b.n)) then -1 else 1
theorem V.cmpS_eq {a b : V} (ha : a.valid = true) (hb : b.valid = true) : a.cmpS b = a.cmp b := by
  obtain ⟨an, a⟩ := a
  obtain ⟨bn, b⟩ := b
  cases an <;> cases bn <;> simp_all [V.valid, V.cmpS, V.cmp, icmp]
  · by_cases h : a = b
    · simp [h]
    · rw [if_neg h]
      split <;> rename_i h1
      · rfl
      · rw [if_pos (by omega)]

theorem inRange (n lo hi : Int) (w : World) :
    Calls Try.prog 50 #[.int .i64 n, .int .i64 lo, .int .i64 hi] w fun e w' => e = .returned (.bool (decide (lo ≤ n) && decide (n ≤ hi))) ∧ w = w' := by
  go_enter Try.func50, Try.ntmps50
  go_wp2
  all_goals go_ret
  all_goals exact ⟨ret_bool (by rw [Bool.eq_iff_iff]; simp; try omega), rfl⟩

theorem inRange_yes (n lo hi : Int) (w : World) (h1 : lo ≤ n) (h2 : n ≤ hi) :
    Calls Try.prog 50 #[.int .i64 n, .int .i64 lo, .int .i64 hi] w fun e w' => e = .returned (.bool true) ∧ w = w' :=
  (inRange n lo hi w).mono fun _ _ ⟨he, hw⟩ => ⟨by rw [he]; simp [h1, h2], hw⟩
theorem inRange_no (n lo hi : Int) (w : World) (h : n < lo ∨ hi < n) :
    Calls Try.prog 50 #[.int .i64 n, .int .i64 lo, .int .i64 hi] w fun e w' => e = .returned (.bool false) ∧ w = w' :=
  (inRange n lo hi w).mono fun _ _ ⟨he, hw⟩ => ⟨by rw [he, show (decide (lo ≤ n) && decide (n ≤ hi)) = false by simp; omega], hw⟩
theorem quiet_eq {P : Program} {f : FuncId} {args : Array Value} {w : World} {v : Value} (h : Calls P f args w fun e w' => e = .returned v ∧ w = w') : Calls P f args w fun e w' => e = .returned v ∧ w' = w :=
  h.mono fun _ _ ⟨a, b⟩ => ⟨a, b.symm⟩

theorem implValid (b : Bool) (n : Int) (w : World) :
    Calls Try.prog 69 #[.agg #[.bool b, .int .i64 n]] w fun e w' => e = .returned (.bool (V.mk b n).valid) ∧ Fr w w' := by
  cases b
  all_goals go_enter Try.func69, Try.ntmps69
  all_goals go_wp2
  all_goals go_ret
  all_goals exact ⟨ret_bool (by rw [Bool.eq_iff_iff]; simp [V.valid]; try omega), by (repeat (first | with_reducible exact Fr.refl _ | with_reducible assumption | with_reducible refine Fr.alloc ?_ _ | with_reducible refine Fr.drew ?_ | with_reducible refine Fr.drewN ?_ _ | (with_reducible refine Fr.setNew2 ?_ ?_ _; · (simp <;> omega)) | with_reducible refine Fr.trans ?_ (by assumption)))⟩
theorem specValid (b : Bool) (n : Int) (w : World) :
    Calls Try.prog 66 #[.agg #[.bool b, .int .i64 n]] w fun e w' => e = .returned (.bool (V.mk b n).valid) ∧ Fr w w' := by
  cases b
  all_goals go_enter Try.func66, Try.ntmps66
  all_goals go_wp2_with (go_at_call 50; refine (inRange _ _ _ _).mono ?_; rintro e w' ⟨rfl, rfl⟩)
  all_goals go_ret
  all_goals exact ⟨ret_bool (by rw [Bool.eq_iff_iff]; simp [V.valid]; try omega), by (repeat (first | with_reducible exact Fr.refl _ | with_reducible assumption | with_reducible refine Fr.alloc ?_ _ | with_reducible refine Fr.drew ?_ | with_reducible refine Fr.drewN ?_ _ | (with_reducible refine Fr.setNew2 ?_ ?_ _; · (simp <;> omega)) | with_reducible refine Fr.trans ?_ (by assumption)))⟩
theorem isNaN (n : Int) (w : World) : Calls Try.prog 74 #[.int .i64 n] w fun e w' => e = .returned (.bool false) ∧ w = w' := by
  go_enter Try.func74, Try.ntmps74
  go_wp2
  go_ret
  exact ⟨ret_bool (by simp), rfl⟩

theorem cmpInt (a b : Int) (w : World) : Calls Try.prog 73 #[.int .i64 a, .int .i64 b] w fun e w' => e = .returned (.int .i64 (icmp a b)) ∧ w = w' := by
  go_enter Try.func73, Try.ntmps73
  go_wp2_with (go_at_call 74; refine (isNaN _ _).mono ?_; rintro e w' ⟨rfl, rfl⟩)
  all_goals go_ret
  all_goals exact ⟨ret_int (by unfold icmp; split <;> first | rfl | omega | (split <;> first | rfl | omega)), rfl⟩

theorem implCmp (an : Bool) (a : Int) (bn : Bool) (b : Int) (w : World) :
    Calls Try.prog 71 #[.agg #[.bool an, .int .i64 a], .agg #[.bool bn, .int .i64 b]] w fun e w' => e = .returned (.int .i64 ((V.mk an a).cmp (V.mk bn b))) ∧ Fr w w' := by
  cases an <;> cases bn
  all_goals go_enter Try.func71, Try.ntmps71
  all_goals go_wp2_with (go_at_call 73; refine (cmpInt _ _ _).mono ?_; rintro e w' ⟨rfl, rfl⟩)
  all_goals go_ret
  all_goals exact ⟨rfl, by (repeat (first | with_reducible exact Fr.refl _ | with_reducible assumption | with_reducible refine Fr.alloc ?_ _ | with_reducible refine Fr.drew ?_ | with_reducible refine Fr.drewN ?_ _ | (with_reducible refine Fr.setNew2 ?_ ?_ _; · (simp <;> omega)) | with_reducible refine Fr.trans ?_ (by assumption)))⟩

theorem specCmp (an : Bool) (a : Int) (bn : Bool) (b : Int) (w : World) :
    Calls Try.prog 67 #[.agg #[.bool an, .int .i64 a], .agg #[.bool bn, .int .i64 b]] w fun e w' => e = .returned (.int .i64 ((V.mk an a).cmpS (V.mk bn b))) ∧ Fr w w' := by
  cases an <;> cases bn
  all_goals go_enter Try.func67, Try.ntmps67
  all_goals go_wp2
  all_goals go_ret
  all_goals exact ⟨ret_int (by simp [V.cmpS]; try omega), by (repeat (first | with_reducible exact Fr.refl _ | with_reducible assumption | with_reducible refine Fr.alloc ?_ _ | with_reducible refine Fr.drew ?_ | with_reducible refine Fr.drewN ?_ _ | (with_reducible refine Fr.setNew2 ?_ ?_ _; · (simp <;> omega)) | with_reducible refine Fr.trans ?_ (by assumption)))⟩


def V.cmp2 (a b : V) : Int := if a.valid && b.valid then a.cmp b else 2
def V.cmp2S (a b : V) : Int := if a.valid && b.valid then a.cmpS b else 2
theorem V.cmp2_eq (a b : V) : a.cmp2S b = a.cmp2 b := by
  unfold V.cmp2S V.cmp2
  split
  · rename_i h
    rw [Bool.and_eq_true] at h
    exact V.cmpS_eq h.1 h.2
  · rfl

end Go.Proofs.Ytlmiadeaiiehaaa
