/- Walks of the small functions on dependencies. -/
import Derived.Test.YtabbcepdinplfaaProg
import Derived.Test.YtabbcepdinplfaaMem
import Derived.Test.YtabbcepdinplfaaDepP
import Derived.WalkKit
import Derived.WalkSpells
import Derived.WalkLawsBesides
import Derived.Outline
import Derived.BigQuiet
import Derived.Deep.QuietTactic
import Derived.StillTailTactics
namespace Go.Proofs.Ytabbcepdinplfaa
open Go Go.RowKit

theorem toDep (x y : Int) (w : World) :
    Calls Try.prog 36 #[.agg #[.int .i64 x, .int .i64 y]] w fun e w' => e = .returned (.agg #[.int .i64 x, .int .i64 y]) ∧ Fr w w' := by
  go_enter Try.func36, Try.ntmps36
  go_wp2
  exact bodyPost_ret (v := .agg #[.int .i64 x, .int .i64 y]) (by simp [results, Try.results36, go_sem]) rfl ⟨rfl, by (repeat (first | exact Fr.refl _ | assumption | refine Fr.alloc ?_ _ | refine Fr.drew ?_ | refine Fr.drewN ?_ _ | refine Fr.setNew ?_ (by simp <;> omega) _ | refine Fr.trans ?_ (by assumption)))⟩

theorem eqDep (x y x' y' : Int) (w : World) :
    Calls Try.prog 60 #[.agg #[.int .i64 x, .int .i64 y], .agg #[.int .i64 x', .int .i64 y']] w fun e w' => e = .returned (.bool (decide (x = x') && decide (y = y'))) ∧ Fr w w' := by
  go_enter Try.func60, Try.ntmps60
  go_wp2
  all_goals go_ret
  all_goals exact ⟨ret_bool (by rw [Bool.eq_iff_iff]; simp_all), by (repeat (first | exact Fr.refl _ | assumption | refine Fr.alloc ?_ _ | refine Fr.drew ?_ | refine Fr.drewN ?_ _ | refine Fr.setNew ?_ (by simp <;> omega) _ | refine Fr.trans ?_ (by assumption)))⟩

theorem szDepS (A : Option Addr) (n cap : Nat) (left : Int) (w : World) (hn : n ≤ maxLen) (h0 : 0 ≤ left) (h1 : left ≤ 1048576) :
    Calls Try.prog 22 #[.slice A n cap, .int .i64 left] w fun e w' => e = .returned (.int .i64 (if left < n then -1 else left - n)) ∧ w = w' := by
  unfold maxLen at hn
  go_enter Try.func22, Try.ntmps22
  go_wp2
  all_goals go_ret
  all_goals exact ⟨ret_int (by first | rfl | (split <;> omega)), rfl⟩

theorem toDepS (A : Option Addr) (cap : Nat) (xs : List Dep) (w : World) (hx : RdSl rdDep w.cell? 2 A xs) (hl : xs.length ≤ 1048576) :
    Calls Try.prog 24 #[.slice A xs.length cap] w fun e w' => ∃ g cs, e = .returned (.slice (some ⟨g, 0, none⟩) xs.length xs.length) ∧ w.heap.size ≤ g ∧ Blk w' g 56 cs ∧ cs.size = xs.length * 2 ∧ RdSl rdDep w'.cell? 2 (some ⟨g, 0, none⟩) xs ∧ Fr w w' := by
  have H := hid hx
  clear hx
  have hmk := mk_row (P := Try.prog) 34 56 (.agg #[.int .i64 0, .int .i64 0]) 2 16 Try.underlying34 (by kernel_rfl) xs.length (by omega) (by omega)
  go_enter Try.func24, Try.ntmps24
  go_wp2
  go_loopw [4] (fun t wr => ∃ (k : Nat) (cs : Array Value), k ≤ xs.length ∧ t = .int .i64 k ∧ Fr w wr ∧ Blk wr w.heap.size 56 cs ∧ cs.size = xs.length * 2 ∧
      ∀ i (h : i < xs.length), i < k → cs[i * 2]? = some (.int .i64 xs[i].fr) ∧ cs[i * 2 + 1]? = some (.int .i64 xs[i].to)) (fun t _ => xs.length - (intOf t).toNat)
  case atStart => exact ⟨0, _, by omega, rfl, by (repeat (first | exact Fr.refl _ | assumption | refine Fr.alloc ?_ _ | refine Fr.drew ?_ | refine Fr.drewN ?_ _ | refine Fr.setNew ?_ (by simp <;> omega) _ | refine Fr.trans ?_ (by assumption))), Blk.new _ _ _, by simp [made_size], fun i h h' => absurd h' (by omega)⟩
  case round =>
    obtain ⟨k, cs, hk, rfl, hf, hB, hz, hv⟩ := hrel
    have HV := hid hv
    clear hv
    have HZ := hid hz
    clear hz
    by_cases hlt : k < xs.length
    · obtain ⟨b, o, rfl, c0, c1⟩ := H.out.dep hlt
      replace c0 := hf.cell c0
      replace c1 := hf.cell c1
      go_wp2_with (go_at_call 36; refine (toDep _ _ _).mono ?_; rintro e w1 ⟨rfl, hb1⟩; replace hB := hB.fr hb1; clear c0 c1; obtain ⟨u0, d0⟩ := hB.cell_some (i := k * 2) (by have := HZ.out; omega); obtain ⟨u1, d1⟩ := hB.cell_some (i := k * 2 + 1) (by have := HZ.out; omega); have f0 := hB.frozen (k * 2); have f1 := hB.frozen (k * 2 + 1))
      go_roundw
      case rel => exact ⟨k + 1, _, by omega, by go_num, ((hf.trans hb1).setNew (Nat.le_refl _) _).setNew (Nat.le_refl _) _, (hB.set_ _ _).set_ _ _, by simpa using HZ.out, fun i h hi => by
        have hz := HZ.out
        simp only [Array.getElem?_setIfInBounds]
        by_cases e : i = k
        · subst e; simp; omega
        · rw [if_neg (by omega), if_neg (by omega), if_neg (by omega), if_neg (by omega)]; exact HV.out i h (by omega)⟩
      case measure => simp [intOf]; omega
    · obtain rfl : k = xs.length := by omega
      go_wp2
      go_ret
      exact ⟨_, cs, rfl, Nat.le_refl _, hB, HZ.out, fun hne => ⟨_, 0, rfl, fun i h => by
        simp only [rdDep, hB.cell, Nat.zero_add]
        exact HV.out i h h⟩, hf⟩

theorem eqDepS (A A' : Option Addr) (cap cap' : Nat) (xs ys : List Dep) (w : World) (hx : RdSl rdDep w.cell? 2 A xs) (hy : RdSl rdDep w.cell? 2 A' ys) (hl : xs.length ≤ 1048576) (hl' : ys.length ≤ 1048576) :
    Calls Try.prog 26 #[.slice A xs.length cap, .slice A' ys.length cap'] w fun e w' => e = .returned (.bool (decide (xs = ys))) ∧ Fr w w' := by
  have HX := hid hx
  have HY := hid hy
  clear hx hy
  by_cases hlen : xs.length = ys.length
  · have HL := hid hlen
    have e1 : (((xs.length : Int)) != ((ys.length : Int))) = false := by simp [hlen]
    clear hlen
    go_enter Try.func26, Try.ntmps26
    go_wp2
    go_loopw [5] (fun t wr => ∃ (k : Nat), k ≤ xs.length ∧ t = .int .i64 k ∧ Fr w wr ∧ ∀ i (h : i < xs.length) (h' : i < ys.length), i < k → xs[i] = ys[i]) (fun t _ => xs.length - (intOf t).toNat)
    case atStart => exact ⟨0, by omega, rfl, by (repeat (first | exact Fr.refl _ | assumption | refine Fr.alloc ?_ _ | refine Fr.drew ?_ | refine Fr.drewN ?_ _ | refine Fr.setNew ?_ (by simp <;> omega) _ | refine Fr.trans ?_ (by assumption))), fun i h h' h'' => absurd h'' (by omega)⟩
    case round =>
      obtain ⟨k, hk, rfl, hf, hv⟩ := hrel
      have HV := hid hv
      clear hv
      by_cases hlt : k < xs.length
      · have hlt' : k < ys.length := by rw [← HL.out]; exact hlt
        obtain ⟨b, o, rfl, c0, c1⟩ := HX.out.dep hlt
        obtain ⟨b', o', rfl, c0', c1'⟩ := HY.out.dep hlt'
        replace c0 := hf.cell c0
        replace c1 := hf.cell c1
        replace c0' := hf.cell c0'
        replace c1' := hf.cell c1'
        have hd : (decide (xs[k].fr = ys[k].fr) && decide (xs[k].to = ys[k].to)) = decide (xs[k] = ys[k]) := by
          rw [Bool.eq_iff_iff]; cases xs[k]; cases ys[k]; simp
        go_wp2_with fail
        go_still_tail 8, (by kernel_rfl)
        cases hE : decide (xs[k] = ys[k])
        · go_wp2_with (go_at_call 60; refine (eqDep _ _ _ _ _).mono ?_; rintro e w1 ⟨rfl, hb1⟩)
          go_ret
          refine ⟨ret_bool ?_, hf.drew.trans hb1⟩
          symm
          rw [decide_eq_false_iff_not] at hE ⊢
          intro e
          exact hE (by subst e; rfl)
        · go_wp2_with (go_at_call 60; refine (eqDep _ _ _ _ _).mono ?_; rintro e w1 ⟨rfl, hb1⟩)
          go_roundw
          case rel => exact ⟨k + 1, by omega, by go_num, hf.drew.trans hb1, fun i h h' hi => by
            by_cases e : i = k
            · subst e; exact of_decide_eq_true hE
            · exact HV.out i h h' (by omega)⟩
          case measure => simp [intOf]; omega
      · go_wp2
        go_ret
        refine ⟨ret_bool ?_, hf⟩
        symm
        rw [decide_eq_true_iff]
        exact List.ext_getElem HL.out fun i h h' => HV.out i h h' (by omega)
  · have e1 : (((xs.length : Int)) != ((ys.length : Int))) = true := by simp; omega
    go_enter Try.func26, Try.ntmps26
    go_wp2
    go_ret
    refine ⟨ret_bool ?_, Fr.refl _⟩
    symm
    rw [decide_eq_false_iff_not]
    intro e
    exact hlen (by rw [e])
end Go.Proofs.Ytabbcepdinplfaa
