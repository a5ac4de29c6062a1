/- Walks: CheckDerivation. -/
import Derived.Test.YtabbcepdinplfaaDepW6
namespace Go.Proofs.Ytabbcepdinplfaa
open Go Go.RowKit

set_option maxRecDepth 100000 in
set_option maxHeartbeats 1000000 in
theorem implCheckDerivation (A : Option Addr) (cap : Nat) (xs : List Dep) (wd x y : Int) (A' : Option Addr) (cap' : Nat) (st : List Int) (w : World) (hx : RdSl rdDep w.cell? 2 A xs) (hl : xs.length ≤ 1048576) (hy : RdSl rdInt w.cell? 1 A' st) (hly : st.length ≤ maxLen) :
    Calls Try.prog 40 #[.slice A xs.length cap, .int .i64 wd, .agg #[.int .i64 x, .int .i64 y], .slice A' st.length cap'] w fun e w' => e = .returned (.bool (chkD xs wd ⟨x, y⟩ st)) ∧ Fr w w' := by
  have H := hid hx
  have HY := hid hy
  clear hx hy
  unfold maxLen at hly
  have hl' : xs.length ≤ maxLen := by unfold maxLen; omega
  have F0 : Fr w (w.alloc (.cells #[.int .i64 x, .int .i64 y] 56)) := (Fr.refl _).alloc _
  have HA := hid (Blk.new w 56 #[.int .i64 x, .int .i64 y])
  cases hv : vdeps xs wd
  · go_enter Try.func40, Try.ntmps40
    go_wp2_with (first | (go_at_call 25; refine (implValidDeps _ _ _ _ _ (H.out.fr rdDep_mono F0) hl').mono ?_; rintro e w1 ⟨rfl, hb1⟩; have d0 := HA.out.at_ hb1 (i := 0) rfl; have d1 := HA.out.at_ hb1 (i := 1) rfl))
    go_ret
    exact ⟨ret_bool (by simp [chkD, hv]), F0.trans hb1⟩
  · have HV := hid hv
    have hw := vwd_of hv
    obtain ⟨h1, h2⟩ := wd_of hw
    have HW := hid hw
    clear hw
    cases hs : (Dep.mk x y).valid wd
    · go_enter Try.func40, Try.ntmps40
      go_wp2_with (first | (go_at_call 25; refine (implValidDeps _ _ _ _ _ (H.out.fr rdDep_mono F0) hl').mono ?_; rintro e w1 ⟨rfl, hb1⟩; have d0 := HA.out.at_ hb1 (i := 0) rfl; have d1 := HA.out.at_ hb1 (i := 1) rfl) | (go_at_call 59; refine (depValid _ _ _ _ h1 h2).mono ?_; rintro e w2 ⟨rfl, hb2⟩; replace d0 := hb2.cell d0; replace d1 := hb2.cell d1))
      go_ret
      exact ⟨ret_bool (by simp [chkD, hs]), (F0.trans hb1).trans hb2⟩
    · obtain ⟨a, b, rfl, rfl, ha, hb⟩ := dep_nat h1 h2 hs
      by_cases h40 : st.length ≤ 40
      · have e40 : decide ((40 : Int) < (st.length : Int)) = false := by simp; omega
        have HD := hid (vdeps_ok hv)
        have R : ∀ r, chk xs st a = r → chkD xs wd ⟨(a : Int), (b : Int)⟩ st = (match r with | some s => sub b s | none => false) := by
          intro r hr; rw [chkD_eq, hv, hs, Int.toNat_natCast, Int.toNat_natCast, hr]; cases r <;> simp [h40]
        have HR := hid R
        clear R
        go_enter Try.func40, Try.ntmps40
        go_wp2_with (first | (go_at_call 25; refine (implValidDeps _ _ _ _ _ (H.out.fr rdDep_mono F0) hl').mono ?_; rintro e w1 ⟨rfl, hb1⟩; have d0 := HA.out.at_ hb1 (i := 0) rfl; have d1 := HA.out.at_ hb1 (i := 1) rfl) | (go_at_call 59; refine (depValid _ _ _ _ h1 h2).mono ?_; rintro e w2 ⟨rfl, hb2⟩; replace d0 := hb2.cell d0; replace d1 := hb2.cell d1))
        have F1 := (F0.trans hb1).trans hb2
        have D := hid (And.intro d0 d1)
        clear d0 d1 e40
        go_loopw [9, 31] (fun sv i wr => ∃ (k S : Nat), sv = .int .i64 S ∧ i = .int .i64 k ∧ k ≤ st.length ∧ S < 64 ∧ Fr w wr ∧ Hid (Fr w2 wr) ∧ Hid (chk xs (st.drop k) S = chk xs st a)) (fun _ i _ => st.length - (intOf i).toNat)
        case atStart => exact ⟨0, a, rfl, rfl, by omega, ha, F1, hid (Fr.refl _), hid rfl⟩
        case round =>
          obtain ⟨k, S, rfl, rfl, hk, hS, hf1, hf2, hC⟩ := hrel
          by_cases hlt : k < st.length
          · obtain ⟨b1, o1, rfl, s0⟩ := HY.out.at_ hlt
            have s1 := hf1.cell s0
            simp only [Nat.mul_one, Nat.add_zero] at s1
            clear s0
            have hdr := List.drop_eq_getElem_cons hlt
            have HC2 := hC.out
            rw [hdr] at HC2
            clear hdr
            by_cases hi : 0 ≤ st[k] ∧ st[k] < xs.length
            · obtain ⟨j, hj⟩ : ∃ j : Nat, st[k] = (j : Int) := ⟨st[k].toNat, by omega⟩
              rw [hj] at s1 HC2 hi
              have hjl : j < xs.length := by omega
              have HJ := hid hj
              clear hj hi
              obtain ⟨b2, o2, rfl, c0, c1⟩ := H.out.dep hjl
              replace c0 := hf1.cell c0
              replace c1 := hf1.cell c1
              have hok := HD.out _ (List.getElem_mem hjl)
              obtain ⟨hjf, hjt, ef, et⟩ := Dep.ok_f hok
              rw [ef] at c0
              rw [et] at c1
              have e3 : bits .or .i64 (S : Int) (xs[j].t : Int) = ((S ||| xs[j].t : Nat) : Int) := i64_or _ _ hS hjt
              have hS' := or_lt hS hjt
              have e1 : (bits .andNot .i64 (xs[j].f : Int) (S : Int) == 0) = sub xs[j].f S := i64_andNot _ _ hjf hS
              clear ef et hok hjf hjt
              cases g1 : sub xs[j].f S
              · have HN := hid ((HC2.symm.trans (chk_no hjl g1)))
                clear HC2
                go_wp2_with (go_at_call 71; refine (implContains _ _ _).mono ?_; rintro e w3 ⟨rfl, rfl⟩)
                go_ret
                exact ⟨ret_bool (HR.out _ HN.out).symm, hf1⟩
              · have HN := hid ((chk_yes (is := st.drop (k + 1)) hjl g1).symm.trans HC2)
                clear HC2
                go_wp2_with (go_at_call 71; refine (implContains _ _ _).mono ?_; rintro e w3 ⟨rfl, rfl⟩)
                go_roundw
                case rel => exact ⟨k + 1, _, rfl, by go_num, by omega, hS', hf1, hf2, hid HN.out⟩
                case measure => simp [intOf]; omega
            · have HN := hid (HC2.symm.trans (chk_bad hi))
              clear HC2
              have hi' : st[k] < 0 ∨ (0 ≤ st[k] ∧ (xs.length : Int) ≤ st[k]) := by omega
              clear hi
              rcases hi' with hi | ⟨hi, hi'⟩
              all_goals
                go_wp2
                go_ret
                exact ⟨ret_bool (HR.out _ HN.out).symm, hf1⟩
          · obtain rfl : k = st.length := by omega
            have HN := hC.out
            rw [List.drop_length] at HN
            have HN2 := hid HN.symm
            clear HN
            have d0 := hf2.out.cell D.out.1
            have d1 := hf2.out.cell D.out.2
            go_wp2_with (go_at_call 71; refine (implContains _ _ _).mono ?_; rintro e w3 ⟨rfl, rfl⟩)
            go_ret
            exact ⟨ret_bool ((i64_andNot _ _ hb hS).trans (HR.out _ HN2.out).symm), hf1⟩
      · have e40 : decide ((40 : Int) < (st.length : Int)) = true := by simp; omega
        go_enter Try.func40, Try.ntmps40
        go_wp2_with (first | (go_at_call 25; refine (implValidDeps _ _ _ _ _ (H.out.fr rdDep_mono F0) hl').mono ?_; rintro e w1 ⟨rfl, hb1⟩; have d0 := HA.out.at_ hb1 (i := 0) rfl; have d1 := HA.out.at_ hb1 (i := 1) rfl) | (go_at_call 59; refine (depValid _ _ _ _ h1 h2).mono ?_; rintro e w2 ⟨rfl, hb2⟩; replace d0 := hb2.cell d0; replace d1 := hb2.cell d1))
        go_ret
        exact ⟨ret_bool (by simp [chkD, h40]), (F0.trans hb1).trans hb2⟩
set_option maxRecDepth 100000 in
set_option maxHeartbeats 1000000 in
theorem specCheckDerivation (A : Option Addr) (cap : Nat) (xs : List Dep) (wd x y : Int) (A' : Option Addr) (cap' : Nat) (st : List Int) (w : World) (hx : RdSl rdDep w.cell? 2 A xs) (hl : xs.length ≤ 1048576) (hy : RdSl rdInt w.cell? 1 A' st) (hly : st.length ≤ maxLen) :
    Calls Try.prog 38 #[.slice A xs.length cap, .int .i64 wd, .agg #[.int .i64 x, .int .i64 y], .slice A' st.length cap'] w fun e w' => e = .returned (.bool (chkD xs wd ⟨x, y⟩ st)) ∧ Fr w w' := by
  have H := hid hx
  have HY := hid hy
  clear hx hy
  unfold maxLen at hly
  have hl' : xs.length ≤ maxLen := by unfold maxLen; omega
  have F0 : Fr w (w.alloc (.cells #[.int .i64 x, .int .i64 y] 56)) := (Fr.refl _).alloc _
  have HA := hid (Blk.new w 56 #[.int .i64 x, .int .i64 y])
  cases hv : vdeps xs wd
  · go_enter Try.func38, Try.ntmps38
    go_wp2_with (first | (go_at_call 57; refine (specValidDeps _ _ _ _ _ (H.out.fr rdDep_mono F0) hl').mono ?_; rintro e w1 ⟨rfl, hb1⟩; have d0 := HA.out.at_ hb1 (i := 0) rfl; have d1 := HA.out.at_ hb1 (i := 1) rfl))
    go_ret
    exact ⟨ret_bool (by simp [chkD, hv]), F0.trans hb1⟩
  · have HV := hid hv
    have hw := vwd_of hv
    obtain ⟨h1, h2⟩ := wd_of hw
    have HW := hid hw
    clear hw
    cases hs : (Dep.mk x y).valid wd
    · have hs' : (vwd wd && vset x wd) = false ∨ ((vwd wd && vset x wd) = true ∧ (vwd wd && vset y wd) = false) := by
        rw [HW.out]; simp only [Dep.valid] at hs; revert hs; cases vset x wd <;> cases vset y wd <;> simp
      rcases hs' with hf | ⟨hf, ht⟩
      all_goals
        go_enter Try.func38, Try.ntmps38
        go_wp2_with (first | (go_at_call 57; refine (specValidDeps _ _ _ _ _ (H.out.fr rdDep_mono F0) hl').mono ?_; rintro e w1 ⟨rfl, hb1⟩; have d0 := HA.out.at_ hb1 (i := 0) rfl; have d1 := HA.out.at_ hb1 (i := 1) rfl) | (go_at_call 65; refine (specValidSet _ _ _).mono ?_; rintro e w2 ⟨rfl, rfl⟩))
        go_ret
        exact ⟨ret_bool (by simp [chkD, hs]), F0.trans hb1⟩
    · obtain ⟨a, b, rfl, rfl, ha, hb⟩ := dep_nat h1 h2 hs
      have hs' := hs
      simp only [Dep.valid, Bool.and_eq_true] at hs'
      have hf : (vwd wd && vset (a : Int) wd) = true := by rw [HW.out, hs'.1]; rfl
      have ht : (vwd wd && vset (b : Int) wd) = true := by rw [HW.out, hs'.2]; rfl
      clear hs'
      by_cases h40 : st.length ≤ 40
      · have e40 : decide ((40 : Int) < (st.length : Int)) = false := by simp; omega
        have HD := hid (vdeps_ok hv)
        have R : ∀ r, chk xs st a = r → chkD xs wd ⟨(a : Int), (b : Int)⟩ st = (match r with | some s => sub b s | none => false) := by
          intro r hr; rw [chkD_eq, hv, hs, Int.toNat_natCast, Int.toNat_natCast, hr]; cases r <;> simp [h40]
        have HR := hid R
        clear R
        go_enter Try.func38, Try.ntmps38
        go_wp2_with (first | (go_at_call 57; refine (specValidDeps _ _ _ _ _ (H.out.fr rdDep_mono F0) hl').mono ?_; rintro e w1 ⟨rfl, hb1⟩; have d0 := HA.out.at_ hb1 (i := 0) rfl; have d1 := HA.out.at_ hb1 (i := 1) rfl) | (go_at_call 65; refine (specValidSet _ _ _).mono ?_; rintro e w2 ⟨rfl, rfl⟩))
        have F1 := F0.trans hb1
        have D := hid (And.intro d0 d1)
        clear d0 d1 e40
        go_loopw [9, 10] (fun sv i wr => ∃ (k S : Nat), sv = .int .i64 S ∧ i = .int .i64 k ∧ k ≤ st.length ∧ S < 64 ∧ Fr w wr ∧ Hid (Fr w1 wr) ∧ Hid (chk xs (st.drop k) S = chk xs st a)) (fun _ i _ => st.length - (intOf i).toNat)
        case atStart => exact ⟨0, a, rfl, rfl, by omega, ha, F1, hid (Fr.refl _), hid rfl⟩
        case round =>
          obtain ⟨k, S, rfl, rfl, hk, hS, hf1, hf2, hC⟩ := hrel
          by_cases hlt : k < st.length
          · obtain ⟨b1, o1, rfl, s0⟩ := HY.out.at_ hlt
            have s1 := hf1.cell s0
            simp only [Nat.mul_one, Nat.add_zero] at s1
            clear s0
            have hdr := List.drop_eq_getElem_cons hlt
            have HC2 := hC.out
            rw [hdr] at HC2
            clear hdr
            by_cases hi : 0 ≤ st[k] ∧ st[k] < xs.length
            · obtain ⟨j, hj⟩ : ∃ j : Nat, st[k] = (j : Int) := ⟨st[k].toNat, by omega⟩
              rw [hj] at s1 HC2 hi
              have hjl : j < xs.length := by omega
              have HJ := hid hj
              clear hj hi
              obtain ⟨b2, o2, rfl, c0, c1⟩ := H.out.dep hjl
              replace c0 := hf1.cell c0
              replace c1 := hf1.cell c1
              have hok := HD.out _ (List.getElem_mem hjl)
              obtain ⟨hjf, hjt, ef, et⟩ := Dep.ok_f hok
              rw [ef] at c0
              rw [et] at c1
              have e3 : bits .or .i64 (S : Int) (xs[j].t : Int) = ((S ||| xs[j].t : Nat) : Int) := i64_or _ _ hS hjt
              have hS' := or_lt hS hjt
              have e1 : bits .and .i64 (xs[j].f : Int) (S : Int) = ((xs[j].f &&& S : Nat) : Int) := i64_and _ _ hjf hS
              have e4 := and_ne_sub xs[j].f S
              clear ef et hok hjf hjt
              cases g1 : sub xs[j].f S
              · rw [g1] at e4
                have HN := hid ((HC2.symm.trans (chk_no hjl g1)))
                clear HC2
                go_wp2_with fail
                go_quiet ((go_at_call 62; exact Calls.quiet_of_same (quiet_eq (inRange_yes _ _ _ _ (by omega) (by omega)))))
                go_wp2
                go_ret
                exact ⟨ret_bool (HR.out _ HN.out).symm, hf1.drewN _⟩
              · rw [g1] at e4
                have HN := hid ((chk_yes (is := st.drop (k + 1)) hjl g1).symm.trans HC2)
                clear HC2
                go_wp2_with fail
                go_quiet ((go_at_call 62; exact Calls.quiet_of_same (quiet_eq (inRange_yes _ _ _ _ (by omega) (by omega)))))
                go_wp2
                go_roundw
                case rel => exact ⟨k + 1, _, rfl, by go_num, by omega, hS', hf1.drewN _, hid (hf2.out.drewN _), hid HN.out⟩
                case measure => simp [intOf]; omega
            · have HN := hid (HC2.symm.trans (chk_bad hi))
              clear HC2
              go_wp2_with fail
              go_quiet ((go_at_call 62; exact Calls.quiet_of_same (quiet_eq (inRange_no _ _ _ _ (by omega)))))
              go_wp2
              go_ret
              exact ⟨ret_bool (HR.out _ HN.out).symm, hf1.drewN _⟩
          · obtain rfl : k = st.length := by omega
            have HN := hC.out
            rw [List.drop_length] at HN
            have HN2 := hid HN.symm
            clear HN
            have d0 := hf2.out.cell D.out.1
            have d1 := hf2.out.cell D.out.2
            have e1 := i64_and _ _ hS hb
            have e4 : (((S &&& b : Nat) : Int) == (b : Int)) = sub b S := by rw [Nat.and_comm]; exact and_eq_sub _ _
            go_wp2
            go_ret
            exact ⟨ret_bool (HR.out _ HN2.out).symm, hf1⟩
      · have e40 : decide ((40 : Int) < (st.length : Int)) = true := by simp; omega
        go_enter Try.func38, Try.ntmps38
        go_wp2_with (first | (go_at_call 57; refine (specValidDeps _ _ _ _ _ (H.out.fr rdDep_mono F0) hl').mono ?_; rintro e w1 ⟨rfl, hb1⟩; have d0 := HA.out.at_ hb1 (i := 0) rfl; have d1 := HA.out.at_ hb1 (i := 1) rfl) | (go_at_call 65; refine (specValidSet _ _ _).mono ?_; rintro e w2 ⟨rfl, rfl⟩))
        go_ret
        exact ⟨ret_bool (by simp [chkD, h40]), F0.trans hb1⟩
end Go.Proofs.Ytabbcepdinplfaa
