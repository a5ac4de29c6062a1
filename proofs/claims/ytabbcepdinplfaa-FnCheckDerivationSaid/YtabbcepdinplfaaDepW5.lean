/- Walks: Derivation, ClosureOf, Implies of both sides. -/
import Derived.Test.YtabbcepdinplfaaDepW4
import Derived.Deep.RegionHeld3
namespace Go.Proofs.Ytabbcepdinplfaa
open Go Go.RowKit

def drvD (xs : List Dep) (wd s : Int) : List Nat := if vdeps xs wd && vset s wd then (drv xs s.toNat).1 else []
def cloD (xs : List Dep) (wd s : Int) : Int := if vdeps xs wd && vset s wd then (drv xs s.toNat).2 else -1
theorem vwd_of {xs : List Dep} {wd : Int} (h : vdeps xs wd = true) : vwd wd = true := by
  simp only [vdeps, Bool.and_eq_true] at h; exact h.1.1
theorem wd_of {wd : Int} (h : vwd wd = true) : 1 ≤ wd ∧ wd ≤ 6 := by simp [vwd] at h; omega
theorem len_of {xs : List Dep} {wd : Int} (h : vdeps xs wd = true) : xs.length ≤ 8 := by
  simp only [vdeps, Bool.and_eq_true, decide_eq_true_eq] at h; exact h.1.2

theorem implClosure (A : Option Addr) (cap : Nat) (xs : List Dep) (s : Nat) (w : World) (hx : RdSl rdDep w.cell? 2 A xs) (hl : xs.length ≤ 1048576) (hd : ∀ d ∈ xs, d.ok) (hs : s < 64) :
    Calls Try.prog 68 #[.slice A xs.length cap, .int .i64 s] w fun e w' => e = .returned (.int .i64 (drv xs s).2) ∧ Fr w w' := by
  have H := hid hx
  have HD := hid hd
  clear hx hd
  go_enter Try.func68, Try.ntmps68
  go_wp2_with (go_at_call 75; refine (implDerived _ _ _ _ _ H.out hl HD.out hs).mono ?_; rintro e w1 ⟨v, rfl, hown, hb1⟩)
  go_ret
  exact ⟨rfl, hb1⟩

/-- What both closures share: validity first. -/
theorem cloD_no {xs : List Dep} {wd s : Int} (h : (vdeps xs wd && vset s wd) = false) : cloD xs wd s = -1 := by simp [cloD, h]
theorem cloD_yes {xs : List Dep} {wd s : Int} (h : (vdeps xs wd && vset s wd) = true) : cloD xs wd s = ((drv xs s.toNat).2 : Int) := by simp [cloD, h]
theorem nat_of_vset {s wd : Int} (h1 : 1 ≤ wd) (h2 : wd ≤ 6) (h : vset s wd = true) : ∃ n : Nat, s = (n : Int) ∧ n < 64 := by
  have := vset_lt h h1 h2
  exact ⟨s.toNat, by omega, by omega⟩

theorem implClosureOf (A : Option Addr) (cap : Nat) (xs : List Dep) (wd s : Int) (w : World) (hx : RdSl rdDep w.cell? 2 A xs) (hl : xs.length ≤ 1048576) :
    Calls Try.prog 34 #[.slice A xs.length cap, .int .i64 wd, .int .i64 s] w fun e w' => e = .returned (.int .i64 (cloD xs wd s)) ∧ Fr w w' := by
  have H := hid hx
  clear hx
  have hl' : xs.length ≤ maxLen := by unfold maxLen; omega
  cases hv : vdeps xs wd
  · have R := hid (cloD_no (s := s) (by rw [hv]; rfl) : cloD xs wd s = -1)
    go_enter Try.func34, Try.ntmps34
    go_wp2_with (go_at_call 25; refine (implValidDeps _ _ _ _ _ H.out hl').mono ?_; rintro e w1 ⟨rfl, hb1⟩)
    go_ret
    exact ⟨ret_int R.out.symm, hb1⟩
  · have HV := hid hv
    obtain ⟨h1, h2⟩ := wd_of (vwd_of hv)
    cases hs : vset s wd
    · have R := hid (cloD_no (s := s) (by rw [hv, hs]; rfl) : cloD xs wd s = -1)
      go_enter Try.func34, Try.ntmps34
      go_wp2_with (first
        | (go_at_call 25; refine (implValidDeps _ _ _ _ _ H.out hl').mono ?_; rintro e w1 ⟨rfl, hb1⟩)
        | (go_at_call 67; refine (implValidSet _ _ _ h1 h2).mono ?_; rintro e w2 ⟨rfl, rfl⟩))
      go_ret
      exact ⟨ret_int R.out.symm, hb1⟩
    · obtain ⟨n, rfl, hn⟩ := nat_of_vset h1 h2 hs
      have R := hid (cloD_yes (by rw [hv, hs]; rfl) : cloD xs wd (n : Int) = _)
      go_enter Try.func34, Try.ntmps34
      go_wp2_with (first
        | (go_at_call 25; refine (implValidDeps _ _ _ _ _ H.out hl').mono ?_; rintro e w1 ⟨rfl, hb1⟩)
        | (go_at_call 67; refine (implValidSet _ _ _ h1 h2).mono ?_; rintro e w2 ⟨rfl, rfl⟩)
        | (go_at_call 68; refine (implClosure _ _ _ _ _ (H.out.fr rdDep_mono hb1) hl (vdeps_ok HV.out) hn).mono ?_; rintro e w2 ⟨rfl, hb2⟩))
      go_ret
      exact ⟨ret_int (by rw [R.out]; simp), hb1.trans hb2⟩
theorem specClosureOf (A : Option Addr) (cap : Nat) (xs : List Dep) (wd s : Int) (w : World) (hx : RdSl rdDep w.cell? 2 A xs) (hl : xs.length ≤ 1048576) :
    Calls Try.prog 33 #[.slice A xs.length cap, .int .i64 wd, .int .i64 s] w fun e w' => e = .returned (.int .i64 (cloD xs wd s)) ∧ Fr w w' := by
  have H := hid hx
  clear hx
  have hl' : xs.length ≤ maxLen := by unfold maxLen; omega
  cases hv : vdeps xs wd
  · have R := hid (cloD_no (s := s) (by rw [hv]; rfl) : cloD xs wd s = -1)
    go_enter Try.func33, Try.ntmps33
    go_wp2_with (go_at_call 57; refine (specValidDeps _ _ _ _ _ H.out hl').mono ?_; rintro e w1 ⟨rfl, hb1⟩)
    go_ret
    exact ⟨ret_int R.out.symm, hb1⟩
  · have HV := hid hv
    obtain ⟨h1, h2⟩ := wd_of (vwd_of hv)
    have hw := vwd_of hv
    cases hs : vset s wd
    · have R := hid (cloD_no (s := s) (by rw [hv, hs]; rfl) : cloD xs wd s = -1)
      go_enter Try.func33, Try.ntmps33
      go_wp2_with (first
        | (go_at_call 57; refine (specValidDeps _ _ _ _ _ H.out hl').mono ?_; rintro e w1 ⟨rfl, hb1⟩)
        | (go_at_call 65; refine (specValidSet _ _ _).mono ?_; rintro e w2 ⟨rfl, rfl⟩))
      go_ret
      exact ⟨ret_int R.out.symm, hb1⟩
    · obtain ⟨n, rfl, hn⟩ := nat_of_vset h1 h2 hs
      have R := hid (cloD_yes (by rw [hv, hs]; rfl) : cloD xs wd (n : Int) = _)
      go_enter Try.func33, Try.ntmps33
      go_wp2_with (first
        | (go_at_call 57; refine (specValidDeps _ _ _ _ _ H.out hl').mono ?_; rintro e w1 ⟨rfl, hb1⟩)
        | (go_at_call 65; refine (specValidSet _ _ _).mono ?_; rintro e w2 ⟨rfl, rfl⟩)
        | (go_at_call 66; refine (specClosure _ _ _ _ _ (H.out.fr rdDep_mono hb1) hl (vdeps_ok HV.out) hn).mono ?_; rintro e w2 ⟨rfl, hb2⟩))
      go_ret
      exact ⟨ret_int (by rw [R.out]; simp), hb1.trans hb2⟩

def impD (xs : List Dep) (wd : Int) (f : Dep) : Bool := vdeps xs wd && (f.valid wd && sub f.t (drv xs f.f).2)

theorem implImplies0 (A : Option Addr) (cap : Nat) (xs : List Dep) (x y : Nat) (w : World) (hx : RdSl rdDep w.cell? 2 A xs) (hl : xs.length ≤ 1048576) (hd : ∀ d ∈ xs, d.ok) (hX : x < 64) (hY : y < 64) :
    Calls Try.prog 70 #[.slice A xs.length cap, .agg #[.int .i64 x, .int .i64 y]] w fun e w' => e = .returned (.bool (sub y (drv xs x).2)) ∧ Fr w w' := by
  have H := hid hx
  have HD := hid hd
  clear hx hd
  have B0 := hid (Blk.new w 56 #[.int .i64 x, .int .i64 y])
  have F0 : Fr w (w.alloc (.cells #[.int .i64 x, .int .i64 y] 56)) := (Fr.refl _).alloc _
  go_enter Try.func70, Try.ntmps70
  go_wp2_with fail
  go_region_held3 (fun w' => w'.cell? ⟨w.heap.size, 0, none⟩ = some (.int .i64 x) ∧ w'.cell? ⟨w.heap.size, 1, none⟩ = some (.int .i64 y) ∧ Fr w w')
    (first
      | (go_split_ands
         refine ⟨hb1.cell ?_, hb1.cell ?_, Fr.trans ?_ hb1⟩ <;> assumption)
      | (refine ⟨?_, ?_, ?_⟩
         · (go_simp; done)
         · (go_simp; done)
         · ((repeat (first | exact Fr.refl _ | assumption | refine Fr.alloc ?_ _ | refine Fr.drew ?_ | refine Fr.drewN ?_ _ | refine Fr.setNew ?_ (by simp <;> omega) _ | refine Fr.trans ?_ (by assumption))); done)))
    (first
      | (go_at_call 68; refine (implClosure _ _ _ _ _ (H.out.fr rdDep_mono (by (repeat (first | exact Fr.refl _ | assumption | refine Fr.alloc ?_ _ | refine Fr.drew ?_ | refine Fr.drewN ?_ _ | refine Fr.setNew ?_ (by simp <;> omega) _ | refine Fr.trans ?_ (by assumption))))) hl HD.out hX).mono ?_; rintro e w1 ⟨rfl, hb1⟩)
      | (go_at_call 71; refine (implContains _ _ _).mono ?_; rintro e w2 ⟨rfl, rfl⟩))
  go_wp2
  go_ret
  exact ⟨ret_bool (i64_andNot _ _ hY (drv_lt HD.out hX)), by go_split_ands; assumption⟩
theorem specImplies0 (A : Option Addr) (cap : Nat) (xs : List Dep) (x y : Nat) (w : World) (hx : RdSl rdDep w.cell? 2 A xs) (hl : xs.length ≤ 1048576) (hd : ∀ d ∈ xs, d.ok) (hX : x < 64) (hY : y < 64) :
    Calls Try.prog 69 #[.slice A xs.length cap, .agg #[.int .i64 x, .int .i64 y]] w fun e w' => e = .returned (.bool (sub y (drv xs x).2)) ∧ Fr w w' := by
  have H := hid hx
  have HD := hid hd
  clear hx hd
  have hZ := drv_lt HD.out hX
  have e1 := i64_and _ _ hZ hY
  have e2 : ((((drv xs x).2 &&& y : Nat) : Int) == (y : Int)) = sub y (drv xs x).2 := by rw [Nat.and_comm]; exact and_eq_sub _ _
  go_enter Try.func69, Try.ntmps69
  go_wp2_with fail
  go_region_held3 (fun w' => w'.cell? ⟨w.heap.size, 0, none⟩ = some (.int .i64 x) ∧ w'.cell? ⟨w.heap.size, 1, none⟩ = some (.int .i64 y) ∧ Fr w w')
    (first
      | (go_split_ands
         refine ⟨hb1.cell ?_, hb1.cell ?_, Fr.trans ?_ hb1⟩ <;> assumption)
      | (refine ⟨?_, ?_, ?_⟩
         · (go_simp; done)
         · (go_simp; done)
         · ((repeat (first | exact Fr.refl _ | assumption | refine Fr.alloc ?_ _ | refine Fr.drew ?_ | refine Fr.drewN ?_ _ | refine Fr.setNew ?_ (by simp <;> omega) _ | refine Fr.trans ?_ (by assumption))); done)))
    (first
      | (go_at_call 66; refine (specClosure _ _ _ _ _ (H.out.fr rdDep_mono (by (repeat (first | exact Fr.refl _ | assumption | refine Fr.alloc ?_ _ | refine Fr.drew ?_ | refine Fr.drewN ?_ _ | refine Fr.setNew ?_ (by simp <;> omega) _ | refine Fr.trans ?_ (by assumption))))) hl HD.out hX).mono ?_; rintro e w1 ⟨rfl, hb1⟩))
  go_wp2
  go_ret
  exact ⟨ret_bool rfl, by go_split_ands; assumption⟩

theorem impD_eq (xs : List Dep) (wd x y : Int) : impD xs wd ⟨x, y⟩ = (vdeps xs wd && ((Dep.mk x y).valid wd && sub y.toNat (drv xs x.toNat).2)) := rfl
theorem dep_nat {x y wd : Int} (h1 : 1 ≤ wd) (h2 : wd ≤ 6) (h : (Dep.mk x y).valid wd = true) : ∃ a b : Nat, x = a ∧ y = b ∧ a < 64 ∧ b < 64 := by
  simp only [Dep.valid, Bool.and_eq_true] at h
  obtain ⟨a, ha, ha'⟩ := nat_of_vset h1 h2 h.1
  obtain ⟨b, hb, hb'⟩ := nat_of_vset h1 h2 h.2
  exact ⟨a, b, ha, hb, ha', hb'⟩

theorem implImplies (A : Option Addr) (cap : Nat) (xs : List Dep) (wd x y : Int) (w : World) (hx : RdSl rdDep w.cell? 2 A xs) (hl : xs.length ≤ 1048576) :
    Calls Try.prog 37 #[.slice A xs.length cap, .int .i64 wd, .agg #[.int .i64 x, .int .i64 y]] w fun e w' => e = .returned (.bool (impD xs wd ⟨x, y⟩)) ∧ Fr w w' := by
  have H := hid hx
  clear hx
  have hl' : xs.length ≤ maxLen := by unfold maxLen; omega
  have F0 : Fr w (w.alloc (.cells #[.int .i64 x, .int .i64 y] 56)) := (Fr.refl _).alloc _
  have HA := hid (Blk.new w 56 #[.int .i64 x, .int .i64 y])
  rw [impD_eq]
  cases hv : vdeps xs wd
  · go_enter Try.func37, Try.ntmps37
    go_wp2_with (go_at_call 25; refine (implValidDeps _ _ _ _ _ (H.out.fr rdDep_mono F0) hl').mono ?_; rintro e w1 ⟨rfl, hb1⟩)
    go_ret
    exact ⟨rfl, F0.trans hb1⟩
  · have HV := hid hv
    obtain ⟨h1, h2⟩ := wd_of (vwd_of hv)
    cases hs : (Dep.mk x y).valid wd
    · go_enter Try.func37, Try.ntmps37
      go_wp2_with (first
        | (go_at_call 25; refine (implValidDeps _ _ _ _ _ (H.out.fr rdDep_mono F0) hl').mono ?_; rintro e w1 ⟨rfl, hb1⟩; have d0 := HA.out.at_ hb1 (i := 0) rfl; have d1 := HA.out.at_ hb1 (i := 1) rfl)
        | (go_at_call 59; refine (depValid _ _ _ _ h1 h2).mono ?_; rintro e w2 ⟨rfl, hb2⟩))
      go_ret
      exact ⟨rfl, (F0.trans hb1).trans hb2⟩
    · obtain ⟨a, b, rfl, rfl, ha, hb⟩ := dep_nat h1 h2 hs
      have R : sub (b : Int).toNat (drv xs (a : Int).toNat).2 = sub b (drv xs a).2 := by simp
      go_enter Try.func37, Try.ntmps37
      go_wp2_with (first
        | (go_at_call 25; refine (implValidDeps _ _ _ _ _ (H.out.fr rdDep_mono F0) hl').mono ?_; rintro e w1 ⟨rfl, hb1⟩; have d0 := HA.out.at_ hb1 (i := 0) rfl; have d1 := HA.out.at_ hb1 (i := 1) rfl)
        | (go_at_call 59; refine (depValid _ _ _ _ h1 h2).mono ?_; rintro e w2 ⟨rfl, hb2⟩; replace d0 := hb2.cell d0; replace d1 := hb2.cell d1)
        | (go_at_call 70; refine (implImplies0 _ _ _ _ _ _ (H.out.fr rdDep_mono ((F0.trans hb1).trans hb2)) hl (vdeps_ok HV.out) ha hb).mono ?_; rintro e w3 ⟨rfl, hb3⟩))
      go_ret
      exact ⟨ret_bool (by simp), ((F0.trans hb1).trans hb2).trans hb3⟩
theorem specImplies (A : Option Addr) (cap : Nat) (xs : List Dep) (wd x y : Int) (w : World) (hx : RdSl rdDep w.cell? 2 A xs) (hl : xs.length ≤ 1048576) :
    Calls Try.prog 35 #[.slice A xs.length cap, .int .i64 wd, .agg #[.int .i64 x, .int .i64 y]] w fun e w' => e = .returned (.bool (impD xs wd ⟨x, y⟩)) ∧ Fr w w' := by
  have H := hid hx
  clear hx
  have hl' : xs.length ≤ maxLen := by unfold maxLen; omega
  have F0 : Fr w (w.alloc (.cells #[.int .i64 x, .int .i64 y] 56)) := (Fr.refl _).alloc _
  have HA := hid (Blk.new w 56 #[.int .i64 x, .int .i64 y])
  rw [impD_eq]
  cases hv : vdeps xs wd
  · go_enter Try.func35, Try.ntmps35
    go_wp2_with (go_at_call 57; refine (specValidDeps _ _ _ _ _ (H.out.fr rdDep_mono F0) hl').mono ?_; rintro e w1 ⟨rfl, hb1⟩)
    go_ret
    exact ⟨rfl, F0.trans hb1⟩
  · have HV := hid hv
    have hw := vwd_of hv
    obtain ⟨h1, h2⟩ := wd_of hw
    have HW := hid hw
    clear hw
    cases hs : (Dep.mk x y).valid wd
    · have hs' : (vwd wd && vset x wd) = false ∨ ((vwd wd && vset x wd) = true ∧ (vwd wd && vset y wd) = false) := by
        rw [HW.out]; simp only [Dep.valid] at hs; revert hs; cases vset x wd <;> cases vset y wd <;> simp
      rcases hs' with hf | ⟨hf, ht⟩
      all_goals
        go_enter Try.func35, Try.ntmps35
        go_wp2_with (first
          | (go_at_call 57; refine (specValidDeps _ _ _ _ _ (H.out.fr rdDep_mono F0) hl').mono ?_; rintro e w1 ⟨rfl, hb1⟩; have d0 := HA.out.at_ hb1 (i := 0) rfl; have d1 := HA.out.at_ hb1 (i := 1) rfl)
          | (go_at_call 65; refine (specValidSet _ _ _).mono ?_; rintro e w2 ⟨rfl, rfl⟩))
        go_ret
        exact ⟨rfl, F0.trans hb1⟩
    · obtain ⟨a, b, rfl, rfl, ha, hb⟩ := dep_nat h1 h2 hs
      have R : sub (b : Int).toNat (drv xs (a : Int).toNat).2 = sub b (drv xs a).2 := by simp
      have hs' := hs
      simp only [Dep.valid, Bool.and_eq_true] at hs'
      have hf : (vwd wd && vset (a : Int) wd) = true := by rw [HW.out, hs'.1]; rfl
      have ht : (vwd wd && vset (b : Int) wd) = true := by rw [HW.out, hs'.2]; rfl
      clear hs'
      go_enter Try.func35, Try.ntmps35
      go_wp2_with (first
        | (go_at_call 57; refine (specValidDeps _ _ _ _ _ (H.out.fr rdDep_mono F0) hl').mono ?_; rintro e w1 ⟨rfl, hb1⟩; have d0 := HA.out.at_ hb1 (i := 0) rfl; have d1 := HA.out.at_ hb1 (i := 1) rfl)
        | (go_at_call 65; refine (specValidSet _ _ _).mono ?_; rintro e w2 ⟨rfl, rfl⟩)
        | (go_at_call 69; refine (specImplies0 _ _ _ _ _ _ (H.out.fr rdDep_mono (F0.trans hb1)) hl (vdeps_ok HV.out) ha hb).mono ?_; rintro e w3 ⟨rfl, hb3⟩))
      go_ret
      exact ⟨ret_bool (by simp), (F0.trans hb1).trans hb3⟩
end Go.Proofs.Ytabbcepdinplfaa
