/- Walks: validity of sets and dependencies. -/
import Derived.Test.YtabbcepdinplfaaDepW
import Derived.Test.YtabbcepdinplfaaValW
namespace Go.Proofs.Ytabbcepdinplfaa
open Go Go.RowKit

theorem validWidth (n : Int) (w : World) :
    Calls Try.prog 58 #[.int .i64 n] w fun e w' => e = .returned (.bool (vwd n)) ∧ w = w' := by
  go_enter Try.func58, Try.ntmps58
  go_wp2
  all_goals go_ret
  all_goals exact ⟨ret_bool (by rw [Bool.eq_iff_iff]; simp [vwd]; try omega), rfl⟩

theorem implValidSet (s wd : Int) (w : World) (h1 : 1 ≤ wd) (h2 : wd ≤ 6) :
    Calls Try.prog 67 #[.int .i64 s, .int .i64 wd] w fun e w' => e = .returned (.bool (vset s wd)) ∧ w = w' := by
  have hp := (pow_bd h1 h2).1
  have hq := (pow_bd h1 h2).2
  go_enter Try.func67, Try.ntmps67
  go_wp2
  all_goals go_ret
  all_goals exact ⟨ret_bool (by rw [Bool.eq_iff_iff]; simp [vset]; try omega), rfl⟩

theorem specValidSet (s wd : Int) (w : World) :
    Calls Try.prog 65 #[.int .i64 s, .int .i64 wd] w fun e w' => e = .returned (.bool (vwd wd && vset s wd)) ∧ w = w' := by
  by_cases h : 1 ≤ wd ∧ wd ≤ 6
  · obtain ⟨h1, h2⟩ := h
    have hp := (pow_bd h1 h2).1
    have hq := (pow_bd h1 h2).2
    have e1 : (decide (1 ≤ wd) && decide (wd ≤ 6)) = true := by simp; omega
    go_enter Try.func65, Try.ntmps65
    go_wp2_with (go_at_call 62; refine (inRange _ _ _ _).mono ?_; rintro e w' ⟨rfl, rfl⟩)
    all_goals go_ret
    all_goals exact ⟨ret_bool (by rw [Bool.eq_iff_iff]; simp [vset, vwd]; try omega), rfl⟩
  · have e1 : (decide (1 ≤ wd) && decide (wd ≤ 6)) = false := by simp; omega
    go_enter Try.func65, Try.ntmps65
    go_wp2_with (go_at_call 62; refine (inRange _ _ _ _).mono ?_; rintro e w' ⟨rfl, rfl⟩)
    go_ret
    exact ⟨ret_bool (by unfold vwd; rw [e1]; rfl), rfl⟩

theorem depValid (x y wd : Int) (w : World) (h1 : 1 ≤ wd) (h2 : wd ≤ 6) :
    Calls Try.prog 59 #[.agg #[.int .i64 x, .int .i64 y], .int .i64 wd] w fun e w' => e = .returned (.bool ((Dep.mk x y).valid wd)) ∧ Fr w w' := by
  go_enter Try.func59, Try.ntmps59
  go_wp2_with (go_at_call 67; refine (implValidSet _ _ _ h1 h2).mono ?_; rintro e w' ⟨rfl, rfl⟩)
  all_goals go_ret
  all_goals exact ⟨ret_bool (by rw [Bool.eq_iff_iff]; simp [Dep.valid, *]), by (repeat (first | exact Fr.refl _ | assumption | refine Fr.alloc ?_ _ | refine Fr.drew ?_ | refine Fr.drewN ?_ _ | refine Fr.setNew ?_ (by simp <;> omega) _ | refine Fr.trans ?_ (by assumption)))⟩

theorem implValidDeps (A : Option Addr) (cap : Nat) (xs : List Dep) (wd : Int) (w : World) (hx : RdSl rdDep w.cell? 2 A xs) (hl : xs.length ≤ maxLen) :
    Calls Try.prog 25 #[.slice A xs.length cap, .int .i64 wd] w fun e w' => e = .returned (.bool (vdeps xs wd)) ∧ Fr w w' := by
  unfold maxLen at hl
  have H := hid hx
  clear hx
  by_cases hw : 1 ≤ wd ∧ wd ≤ 6
  · obtain ⟨h1, h2⟩ := hw
    have e1 : vwd wd = true := by simp [vwd]; omega
    by_cases h8 : xs.length ≤ 8
    · have e2 : decide ((8 : Int) < (xs.length : Int)) = false := by simp; omega
      go_enter Try.func25, Try.ntmps25
      go_wp2_with (go_at_call 58; refine (validWidth _ _).mono ?_; rintro e w' ⟨rfl, rfl⟩)
      go_loopw [17] (fun t wr => ∃ k : Nat, k ≤ xs.length ∧ t = .int .i64 k ∧ Fr w wr ∧ (∀ i (h : i < xs.length), i < k → xs[i].valid wd = true)) (fun t _ => xs.length - (intOf t).toNat)
      case atStart => exact ⟨0, by omega, rfl, Fr.refl _, fun i h h' => absurd h' (by omega)⟩
      case round =>
        obtain ⟨k, hk, rfl, hb, hv⟩ := hrel
        have HV := hid hv
        clear hv
        by_cases hlt : k < xs.length
        · obtain ⟨b, o, rfl, c0, c1⟩ := H.out.dep hlt
          replace c0 := hb.cell c0
          replace c1 := hb.cell c1
          cases hval : xs[k].valid wd
          · go_wp2_with (go_at_call 59; refine (depValid _ _ _ _ h1 h2).mono ?_; rintro e w1 ⟨rfl, hb1⟩)
            go_ret
            refine ⟨ret_bool ?_, (hb.alloc _).trans hb1⟩
            symm
            simp only [vdeps, Bool.and_eq_false_iff]
            right
            rw [List.all_eq_false]
            exact ⟨xs[k], List.getElem_mem hlt, by simp [hval]⟩
          · go_wp2_with (go_at_call 59; refine (depValid _ _ _ _ h1 h2).mono ?_; rintro e w1 ⟨rfl, hb1⟩)
            go_roundw
            case rel => exact ⟨k + 1, by omega, by go_num, (hb.alloc _).trans hb1, fun i h hi => by
              by_cases e : i = k
              · subst e; exact hval
              · exact HV.out i h (by omega)⟩
            case measure => simp [intOf]; omega
        · go_wp2
          go_ret
          refine ⟨ret_bool ?_, hb⟩
          symm
          simp only [vdeps, Bool.and_eq_true, e1, true_and, decide_eq_true_eq]
          refine ⟨h8, ?_⟩
          rw [List.all_eq_true]
          intro x hx
          obtain ⟨i, hi, rfl⟩ := List.getElem_of_mem hx
          exact HV.out i hi (by omega)
    · have e2 : decide ((8 : Int) < (xs.length : Int)) = true := by simp; omega
      go_enter Try.func25, Try.ntmps25
      go_wp2_with (go_at_call 58; refine (validWidth _ _).mono ?_; rintro e w' ⟨rfl, rfl⟩)
      go_ret
      exact ⟨ret_bool (by simp [vdeps, h8]), Fr.refl _⟩
  · have e1 : vwd wd = false := by simp [vwd]; omega
    go_enter Try.func25, Try.ntmps25
    go_wp2_with (go_at_call 58; refine (validWidth _ _).mono ?_; rintro e w' ⟨rfl, rfl⟩)
    go_ret
    exact ⟨ret_bool (by simp [vdeps, e1]), Fr.refl _⟩

theorem specValidDeps (A : Option Addr) (cap : Nat) (xs : List Dep) (wd : Int) (w : World) (hx : RdSl rdDep w.cell? 2 A xs) (hl : xs.length ≤ maxLen) :
    Calls Try.prog 57 #[.slice A xs.length cap, .int .i64 wd] w fun e w' => e = .returned (.bool (vdeps xs wd)) ∧ Fr w w' := by
  unfold maxLen at hl
  have H := hid hx
  clear hx
  go_enter Try.func57, Try.ntmps57
  go_wp2
  go_loopw [5] (fun t wr => ∃ k : Nat, k ≤ xs.length ∧ t = .int .i64 k ∧ w = wr ∧ (∀ i (h : i < xs.length), i < k → (vwd wd && xs[i].valid wd) = true)) (fun t _ => xs.length - (intOf t).toNat)
  case atStart => exact ⟨0, by omega, rfl, rfl, fun i h h' => absurd h' (by omega)⟩
  case round =>
    obtain ⟨k, hk, rfl, rfl, hv⟩ := hrel
    have HV := hid hv
    clear hv
    by_cases hlt : k < xs.length
    · obtain ⟨b, o, rfl, c0, c1⟩ := H.out.dep hlt
      cases hf : (vwd wd && vset xs[k].fr wd)
      · go_wp2_with (go_at_call 65; refine (specValidSet _ _ _).mono ?_; rintro e w1 ⟨rfl, rfl⟩)
        go_ret
        refine ⟨ret_bool ?_, Fr.refl _⟩
        symm
        rw [Bool.and_eq_false_iff] at hf
        rcases hf with hf | hf
        · simp [vdeps, hf]
        · simp only [vdeps, Bool.and_eq_false_iff]
          right
          rw [List.all_eq_false]
          exact ⟨xs[k], List.getElem_mem hlt, by simp [Dep.valid, hf]⟩
      · cases ht : (vwd wd && vset xs[k].to wd)
        · go_wp2_with (go_at_call 65; refine (specValidSet _ _ _).mono ?_; rintro e w1 ⟨rfl, rfl⟩)
          go_ret
          refine ⟨ret_bool ?_, Fr.refl _⟩
          symm
          rw [Bool.and_eq_false_iff] at ht
          rcases ht with hf | hf
          · simp [vdeps, hf]
          · simp only [vdeps, Bool.and_eq_false_iff]
            right
            rw [List.all_eq_false]
            exact ⟨xs[k], List.getElem_mem hlt, by simp [Dep.valid, hf]⟩
        · go_wp2_with (go_at_call 65; refine (specValidSet _ _ _).mono ?_; rintro e w1 ⟨rfl, rfl⟩)
          go_roundw
          case rel => exact ⟨k + 1, by omega, by go_num, trivial, fun i h hi => by
            by_cases e : i = k
            · subst e; rw [Bool.and_eq_true] at hf ht; simp [Dep.valid, hf, ht]
            · exact HV.out i h (by omega)⟩
          case measure => simp [intOf]; omega
    · have HA : vwd wd = true → xs.all (·.valid wd) = true := fun _ => by
        rw [List.all_eq_true]
        intro x hx
        obtain ⟨i, hi, rfl⟩ := List.getElem_of_mem hx
        have := HV.out i hi (by omega)
        rw [Bool.and_eq_true] at this
        exact this.2
      have HB := hid HA
      clear HA
      cases hw : vwd wd
      · have e1 : (decide (1 ≤ wd) && decide (wd ≤ 6)) = false := hw
        have HW := hid hw
        clear hw
        go_wp2_with (go_at_call 62; refine (inRange _ _ _ _).mono ?_; rintro e w' ⟨rfl, rfl⟩)
        go_ret
        exact ⟨ret_bool (by simp [vdeps, HW.out]), Fr.refl _⟩
      · have e1 : (decide (1 ≤ wd) && decide (wd ≤ 6)) = true := hw
        have HW := hid hw
        clear hw
        go_wp2_with (go_at_call 62; refine (inRange _ _ _ _).mono ?_; rintro e w' ⟨rfl, rfl⟩)
        go_ret
        exact ⟨ret_bool (by unfold vdeps; rw [HB.out HW.out, HW.out]; simp; omega), Fr.refl _⟩

theorem specValidDependencies (A : Option Addr) (cap : Nat) (xs : List Dep) (wd : Int) (w : World) (hx : RdSl rdDep w.cell? 2 A xs) (hl : xs.length ≤ maxLen) :
    Calls Try.prog 23 #[.slice A xs.length cap, .int .i64 wd] w fun e w' => e = .returned (.bool (vdeps xs wd)) ∧ Fr w w' := by
  have H := hid hx
  clear hx
  go_enter Try.func23, Try.ntmps23
  go_wp2_with (go_at_call 57; refine (specValidDeps _ _ _ _ _ H.out hl).mono ?_; rintro e w1 ⟨rfl, hb1⟩)
  go_ret
  exact ⟨rfl, hb1⟩
end Go.Proofs.Ytabbcepdinplfaa
