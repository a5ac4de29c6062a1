/- Walks of the functions on facts. -/
import Derived.Test.YtahclhldpcboeaaGreatDoorRelP
import Derived.Test.YtahclhldpcboeaaGreatDoorMemQ
import Derived.Deep.RegionWith
import Derived.Deep.RegionHeld3
namespace Go.Proofs.YtahclhldpcboeaaGreatDoor
open Go Go.RowKit

theorem factLess (r x y r' x' y' : Int) (w : World) :
    Calls Tryz.prog 65 #[.agg #[.int .i64 r, .int .i64 x, .int .i64 y], .agg #[.int .i64 r', .int .i64 x', .int .i64 y']] w fun e w' => e = .returned (.bool (Fact.less ⟨r, x, y⟩ ⟨r', x', y'⟩)) ∧ Fr w w' := by
  go_enter Tryz.func65, Tryz.ntmps65
  go_wp2
  all_goals go_ret
  all_goals exact ⟨ret_bool (by simp_all [Fact.less]), by (repeat (first | with_reducible exact Fr.refl _ | with_reducible assumption | with_reducible refine Fr.alloc ?_ _ | with_reducible refine Fr.drew ?_ | with_reducible refine Fr.drewN ?_ _ | (with_reducible refine Fr.setNew2 ?_ ?_ _; · (simp <;> omega)) | with_reducible refine Fr.trans ?_ (by assumption)))⟩

set_option maxRecDepth 100000 in
theorem specVFacts (A : Option Addr) (cap : Nat) (xs : List Fact) (w : World) (hx : RdSl rdFact w.cell? 3 A xs) (hl : xs.length ≤ 1048576) :
    Calls Tryz.prog 37 #[.slice A xs.length cap] w fun e w' => e = .returned (.bool (vfacts xs)) ∧ Fr w w' := by
  have H := hid hx
  clear hx
  go_enter Tryz.func37, Tryz.ntmps37
  go_wp2
  go_loopw [3] (fun t wr => ∃ (k : Nat), k ≤ xs.length ∧ t = .int .i64 k ∧ Fr w wr ∧ ∀ i, i < k → factAt xs i = true) (fun t _ => xs.length - (intOf t).toNat)
  case atStart => exact ⟨0, by omega, rfl, by (repeat (first | with_reducible exact Fr.refl _ | with_reducible assumption | with_reducible refine Fr.alloc ?_ _ | with_reducible refine Fr.drew ?_ | with_reducible refine Fr.drewN ?_ _ | (with_reducible refine Fr.setNew2 ?_ ?_ _; · (simp <;> omega)) | with_reducible refine Fr.trans ?_ (by assumption))), fun i h => absurd h (by omega)⟩
  case round =>
    obtain ⟨k, hk, rfl, hf, hv⟩ := hrel
    have HV := hid hv
    clear hv
    by_cases hlt : k < xs.length
    · obtain ⟨b, o, hA, c0, c1, c2⟩ := H.out.fact hlt
      have C0 := hid (And.intro c0 (And.intro c1 c2))
      replace c0 := hf.cell c0
      replace c1 := hf.cell c1
      replace c2 := hf.cell c2
      have NO : factAt xs k = false → vfacts xs = false := fun h => by unfold vfacts; rw [allIx_no hlt h, Bool.and_false]
      have AT : factAt xs k = (xs[k].ok && (k == 0 || (xs.getD (k - 1) default).less xs[k])) := by unfold factAt; rw [getD_at hlt]
      have AT := hid AT
      have NO := hid NO
      have step : ∀ (wr' : World), Fr w wr' → factAt xs k = true → ∃ k' : Nat, k' ≤ xs.length ∧ Value.int .i64 ((k : Int) + 1) = .int .i64 (k' : Int) ∧ Fr w wr' ∧ ∀ i, i < k' → factAt xs i = true := fun wr' hfr hx => ⟨k + 1, by omega, by simp, hfr, fun i hi => by
        by_cases e : i = k
        · subst e; exact hx
        · exact HV.out i (by omega)⟩
      have ST := hid step
      clear step
      by_cases hr : 0 ≤ xs[k].rel ∧ xs[k].rel ≤ 3
      · by_cases hx : 0 ≤ xs[k].x ∧ xs[k].x ≤ 9999
        · by_cases hy : 0 ≤ xs[k].y ∧ xs[k].y ≤ 9999
          · have OK : xs[k].ok = true := by simp [Fact.ok, hr, hx, hy]
            have OK := hid OK
            by_cases h0 : k = 0
            · subst h0
              simp only [Nat.zero_mul, Nat.add_zero] at C0
              subst hA
              go_wp2_with fail
              refine wp_region_quietC (fun w' => Fr w w') (by kernel_rfl) (by kernel_rfl) hf.drew ?_
              clear c0 c1 c2
              repeat go_big_quiet_step (first
                  | exact fun _ => rfl
                  | exact fun _ => ⟨rfl, rfl⟩
                  | (intro hw'; obtain ⟨c0, c1, c2⟩ := C0.out; replace c0 := hw'.cell c0; replace c1 := hw'.cell c1; replace c2 := hw'.cell c2; go_simp; first | done | exact rfl | exact ⟨rfl, rfl⟩)
                  | (intro hw'; go_at_call 53; refine (inRange_yes _ _ _ _ ?_ ?_).mono ?_; (· omega); (· omega); rintro e w1 ⟨rfl, rfl⟩; exact ⟨rfl, hw'⟩))
              refine wpQuiet_nil ?_
              intro w1 hb1
              go_wp2
              go_roundw
              case rel => exact ST.out _ hb1 (by rw [AT.out, OK.out]; simp)
              case measure => simp [intOf]; omega
            · have e0 : decide (0 < k) = true := by simp; omega
              obtain ⟨b', o', hA', d0, d1, d2⟩ := H.out.fact (k := k - 1) (by omega)
              rw [hA] at hA'
              injection hA' with hA'
              injection hA' with hb' ho' _
              subst hb' ho' hA
              have D0 := hid (And.intro d0 (And.intro d1 d2))
              have GD : xs.getD (k - 1) default = xs[k - 1] := getD_at (by omega)
              go_wp2_with fail
              refine wp_region_quietC (fun w' => Fr w w') (by kernel_rfl) (by kernel_rfl) hf.drew ?_
              clear c0 c1 c2
              cases hE : Fact.less ⟨xs[k - 1].rel, xs[k - 1].x, xs[k - 1].y⟩ ⟨xs[k].rel, xs[k].x, xs[k].y⟩
              · repeat go_big_quiet_step (first
                  | exact fun _ => rfl
                  | exact fun _ => ⟨rfl, rfl⟩
                  | (intro hw'; obtain ⟨c0, c1, c2⟩ := C0.out; obtain ⟨d0, d1, d2⟩ := D0.out; replace c0 := hw'.cell c0; replace c1 := hw'.cell c1; replace c2 := hw'.cell c2; replace d0 := hw'.cell d0; replace d1 := hw'.cell d1; replace d2 := hw'.cell d2; go_simp; first | done | exact rfl | exact ⟨rfl, rfl⟩)
                  | (intro hw'; go_at_call 53; refine (inRange_yes _ _ _ _ ?_ ?_).mono ?_; (· omega); (· omega); rintro e w1 ⟨rfl, rfl⟩; exact ⟨rfl, hw'⟩)
                  | (intro hw'; go_at_call 65; refine (factLess _ _ _ _ _ _ _).mono ?_; rintro e w1 ⟨rfl, hb1⟩; exact ⟨rfl, hw'.trans hb1⟩))
                refine wpQuiet_nil ?_
                intro w1 hb1
                go_wp2
                go_ret
                exact ⟨ret_bool (NO.out (by rw [AT.out, OK.out, GD]; simp [h0]; exact hE)).symm, hb1⟩
              · repeat go_big_quiet_step (first
                  | exact fun _ => rfl
                  | exact fun _ => ⟨rfl, rfl⟩
                  | (intro hw'; obtain ⟨c0, c1, c2⟩ := C0.out; obtain ⟨d0, d1, d2⟩ := D0.out; replace c0 := hw'.cell c0; replace c1 := hw'.cell c1; replace c2 := hw'.cell c2; replace d0 := hw'.cell d0; replace d1 := hw'.cell d1; replace d2 := hw'.cell d2; go_simp; first | done | exact rfl | exact ⟨rfl, rfl⟩)
                  | (intro hw'; go_at_call 53; refine (inRange_yes _ _ _ _ ?_ ?_).mono ?_; (· omega); (· omega); rintro e w1 ⟨rfl, rfl⟩; exact ⟨rfl, hw'⟩)
                  | (intro hw'; go_at_call 65; refine (factLess _ _ _ _ _ _ _).mono ?_; rintro e w1 ⟨rfl, hb1⟩; exact ⟨rfl, hw'.trans hb1⟩))
                refine wpQuiet_nil ?_
                intro w1 hb1
                go_wp2
                go_roundw
                case rel => exact ST.out _ hb1 (by rw [AT.out, OK.out, GD]; simp [h0]; exact hE)
                case measure => simp [intOf]; omega
          · have OK : xs[k].ok = false := by simp [Fact.ok]; omega
            subst hA
            go_wp2_with fail
            go_quiet ((first | (go_at_call 53; refine Calls.quiet_of_same (quiet_eq (inRange_yes _ _ _ _ ?_ ?_)) <;> omega) | (go_at_call 53; refine Calls.quiet_of_same (quiet_eq (inRange_no _ _ _ _ ?_)); omega)))
            go_wp2
            go_ret
            exact ⟨ret_bool (NO.out (by rw [AT.out, OK]; rfl)).symm, hf.drewN _⟩
        · have OK : xs[k].ok = false := by simp [Fact.ok]; omega
          subst hA
          go_wp2_with fail
          go_quiet ((first | (go_at_call 53; refine Calls.quiet_of_same (quiet_eq (inRange_yes _ _ _ _ ?_ ?_)) <;> omega) | (go_at_call 53; refine Calls.quiet_of_same (quiet_eq (inRange_no _ _ _ _ ?_)); omega)))
          go_wp2
          go_ret
          exact ⟨ret_bool (NO.out (by rw [AT.out, OK]; rfl)).symm, hf.drewN _⟩
      · have OK : xs[k].ok = false := by simp [Fact.ok]; omega
        subst hA
        go_wp2_with fail
        go_quiet ((first | (go_at_call 53; refine Calls.quiet_of_same (quiet_eq (inRange_yes _ _ _ _ ?_ ?_)) <;> omega) | (go_at_call 53; refine Calls.quiet_of_same (quiet_eq (inRange_no _ _ _ _ ?_)); omega)))
        go_wp2
        go_ret
        exact ⟨ret_bool (NO.out (by rw [AT.out, OK]; rfl)).symm, hf.drewN _⟩
    · have AL : allIx xs.length (factAt xs) = true := allIx_yes fun i hi => HV.out i (by omega)
      go_wp2
      go_ret
      refine ⟨ret_bool ?_, hf⟩
      rw [vfacts, AL, Bool.and_true]
      rw [Bool.eq_iff_iff]; simp; omega

def firstNZ (xs : List Int) : Int := (xs.find? (· != 0)).getD 0
theorem firstNZ_at {xs : List Int} {k : Nat} (hk : k < xs.length) (h0 : ∀ i (h : i < xs.length), i < k → xs[i] = 0) (hn : xs[k] ≠ 0) : firstNZ xs = xs[k] := by
  unfold firstNZ
  rw [List.find?_eq_some_iff_getElem.2 ⟨by simpa using hn, k, hk, rfl, fun j hj => by simpa using h0 j (by omega) hj⟩]
  rfl
theorem firstNZ_none {xs : List Int} (h0 : ∀ i (h : i < xs.length), xs[i] = 0) : firstNZ xs = 0 := by
  unfold firstNZ
  rw [List.find?_eq_none.2 fun x hx => by
    obtain ⟨i, hi, rfl⟩ := List.getElem_of_mem hx
    simp [h0 i hi]]
  rfl
theorem cmpOr (A : Option Addr) (cap : Nat) (xs : List Int) (w : World) (hx : RdSl rdInt w.cell? 1 A xs) (hl : xs.length ≤ 1048576) :
    Calls Tryz.prog 59 #[.slice A xs.length cap] w fun e w' => e = .returned (.int .i64 (firstNZ xs)) ∧ w = w' := by
  have HX := hid hx
  clear hx
  go_enter Tryz.func59, Tryz.ntmps59
  go_wp2
  go_loopw [8] (fun t wr => ∃ (k : Nat), k ≤ xs.length ∧ t = .int .i64 k ∧ w = wr ∧ ∀ i (h : i < xs.length), i < k → xs[i] = 0) (fun t _ => xs.length - (intOf t).toNat)
  case atStart => exact ⟨0, by omega, rfl, rfl, fun i h h' => absurd h' (by omega)⟩
  case round =>
    obtain ⟨k, hk, rfl, rfl, hv⟩ := hrel
    have HV := hid hv
    clear hv
    by_cases hlt : k < xs.length
    · obtain ⟨b, o, rfl, c0⟩ := HX.out.at_ hlt
      simp only [rdInt, Nat.mul_one, Nat.add_zero] at c0
      cases hE : xs[k] != 0
      · go_wp2
        go_roundw
        case rel => exact ⟨k + 1, by omega, by go_num, trivial, fun i h hi => by
          by_cases e : i = k
          · subst e; simpa using hE
          · exact HV.out i h (by omega)⟩
        case measure => simp [intOf]; omega
      · go_wp2
        go_ret
        exact ⟨ret_int (firstNZ_at hlt HV.out (by simpa using hE)).symm, rfl⟩
    · go_wp2
      go_ret
      exact ⟨ret_int (firstNZ_none fun i h => HV.out i h (by omega)).symm, rfl⟩

theorem fnz3 (x y z : Int) : firstNZ [x, y, z] = if x = 0 then (if y = 0 then z else y) else x := by
  unfold firstNZ
  by_cases h1 : x = 0 <;> by_cases h2 : y = 0 <;> by_cases h3 : z = 0 <;> simp [h1, h2, h3]
theorem icmp_zero {a b : Int} : icmp a b = 0 ↔ a = b := by
  unfold icmp
  split
  · constructor <;> intro h <;> omega
  · split
    · constructor <;> intro h <;> omega
    · constructor <;> intro h <;> omega
theorem cmp3 (a b : Fact) : firstNZ [icmp a.rel b.rel, icmp a.x b.x, icmp a.y b.y] = a.cmp b := by
  rw [fnz3]
  simp only [Fact.cmp, icmp_zero]
theorem factCmp (r x y r' x' y' : Int) (w : World) :
    Calls Tryz.prog 28 #[.agg #[.int .i64 r, .int .i64 x, .int .i64 y], .agg #[.int .i64 r', .int .i64 x', .int .i64 y']] w fun e w' => e = .returned (.int .i64 (Fact.cmp ⟨r, x, y⟩ ⟨r', x', y'⟩)) ∧ Fr w w' := by
  have A0 := (Blk.new w 54 #[.int .i64 r, .int .i64 x, .int .i64 y]).alloc (.cells #[.int .i64 r', .int .i64 x', .int .i64 y'] 54)
  have B0 := Blk.new (w.alloc (.cells #[.int .i64 r, .int .i64 x, .int .i64 y] 54)) 54 #[.int .i64 r', .int .i64 x', .int .i64 y']
  have F0 : Fr w ((w.alloc (.cells #[.int .i64 r, .int .i64 x, .int .i64 y] 54)).alloc (.cells #[.int .i64 r', .int .i64 x', .int .i64 y'] 54)) := ((Fr.refl _).alloc _).alloc _
  rw [World.size_alloc] at B0
  have c0 := A0.at_ (Fr.refl _) (i := 0) rfl
  have c1 := A0.at_ (Fr.refl _) (i := 1) rfl
  have c2 := A0.at_ (Fr.refl _) (i := 2) rfl
  have d0 := B0.at_ (Fr.refl _) (i := 0) rfl
  have d1 := B0.at_ (Fr.refl _) (i := 1) rfl
  have d2 := B0.at_ (Fr.refl _) (i := 2) rfl
  clear A0 B0
  go_enter Tryz.func28, Tryz.ntmps28
  go_wp2_with fail
  generalize (w.alloc (.cells #[.int .i64 r, .int .i64 x, .int .i64 y] 54)).alloc (.cells #[.int .i64 r', .int .i64 x', .int .i64 y'] 54) = W at c0 c1 c2 d0 d1 d2 F0 ⊢
  (refine wp_region_quiet_tail (fun w' => Fr _ w') 15 (by kernel_rfl) (by kernel_rfl) (Fr.refl _).drew ?_; simp only [List.take_succ_cons, List.take_zero, List.drop_succ_cons, List.drop_zero]; (repeat go_big_quiet_step (first | exact fun _ => rfl | exact fun _ => ⟨rfl, rfl⟩ | (intro hw'; replace c0 := hw'.cell c0; replace c1 := hw'.cell c1; replace c2 := hw'.cell c2; replace d0 := hw'.cell d0; replace d1 := hw'.cell d1; replace d2 := hw'.cell d2; go_simp; first | done | exact rfl | exact ⟨rfl, rfl⟩) | (intro hw'; go_at_call 60; refine (cmpInt _ _ _).mono ?_; rintro e w1 ⟨rfl, rfl⟩; exact ⟨rfl, hw'⟩))); refine wpQuiet_nil ?_; intro wq hq)
  go_wp2_with fail
  have hB := Blk.new wq 3 #[.int .i64 (icmp r r'), .int .i64 (icmp x x'), .int .i64 (icmp y y')]
  refine (cmpOr (some ⟨wq.heap.size, 0, none⟩) 3 [icmp r r', icmp x x', icmp y y'] _ (fun _ => ⟨_, 0, rfl, fun i hi => ?_⟩) (by simp)).mono ?_
  · have hi' : i < 3 := hi
    rcases i with _ | _ | _ | i
    · exact hB.cell 0
    · exact hB.cell 1
    · exact hB.cell 2
    · omega
  rintro e w1 ⟨rfl, rfl⟩
  go_wp2
  go_ret
  exact ⟨ret_int (cmp3 ⟨r, x, y⟩ ⟨r', x', y'⟩), (F0.trans hq).alloc _⟩

set_option maxRecDepth 100000 in
set_option maxHeartbeats 2000000 in
theorem implVFacts (A : Option Addr) (cap : Nat) (xs : List Fact) (w : World) (hx : RdSl rdFact w.cell? 3 A xs) (hl : xs.length ≤ 1048576) :
    Calls Tryz.prog 9 #[.slice A xs.length cap] w fun e w' => e = .returned (.bool (vfacts xs)) ∧ Fr w w' := by
  have H := hid hx
  clear hx
  by_cases h60 : xs.length ≤ 60
  · have e60 : decide ((60 : Int) < (xs.length : Int)) = false := by simp; omega
    go_enter Tryz.func9, Tryz.ntmps9
    go_wp2
    go_loopw [10] (fun t wr => ∃ (k : Nat), k ≤ xs.length ∧ t = .int .i64 k ∧ Fr w wr ∧ ∀ i, i < k → factAt xs i = true) (fun t _ => xs.length - (intOf t).toNat)
    case atStart => exact ⟨0, by omega, rfl, by (repeat (first | with_reducible exact Fr.refl _ | with_reducible assumption | with_reducible refine Fr.alloc ?_ _ | with_reducible refine Fr.drew ?_ | with_reducible refine Fr.drewN ?_ _ | (with_reducible refine Fr.setNew2 ?_ ?_ _; · (simp <;> omega)) | with_reducible refine Fr.trans ?_ (by assumption))), fun i h => absurd h (by omega)⟩
    case round =>
      obtain ⟨k, hk, rfl, hf, hv⟩ := hrel
      have HV := hid hv
      clear hv
      by_cases hlt : k < xs.length
      · obtain ⟨b, o, hA, c0, c1, c2⟩ := H.out.fact hlt
        have C0 := hid (And.intro c0 (And.intro c1 c2))
        have NO := hid (show factAt xs k = false → vfacts xs = false from fun h => by unfold vfacts; rw [allIx_no hlt h, Bool.and_false])
        have AT := hid (show factAt xs k = (xs[k].ok && (k == 0 || (xs.getD (k - 1) default).less xs[k])) from by unfold factAt; rw [getD_at hlt])
        have ST := hid (show ∀ (wr' : World), Fr w wr' → factAt xs k = true → ∃ k' : Nat, k' ≤ xs.length ∧ Value.int .i64 ((k : Int) + 1) = .int .i64 (k' : Int) ∧ Fr w wr' ∧ ∀ i, i < k' → factAt xs i = true from fun wr' hfr hx => ⟨k + 1, by omega, by simp, hfr, fun i hi => by
          by_cases e : i = k
          · subst e; exact hx
          · exact HV.out i (by omega)⟩)
        have BL := hid (Blk.new wr 54 #[.int .i64 xs[k].rel, .int .i64 xs[k].x, .int .i64 xs[k].y])
        have FA := hid (hf.alloc (.cells #[.int .i64 xs[k].rel, .int .i64 xs[k].x, .int .i64 xs[k].y] 54))
        by_cases hok : xs[k].ok = true
        · have OK := hid hok
          simp only [Fact.ok, Bool.and_eq_true, decide_eq_true_eq] at hok
          obtain ⟨⟨⟨r1, r2⟩, x1, x2⟩, y1, y2⟩ := hok
          by_cases h0 : k = 0
          · subst h0
            simp only [Nat.zero_mul, Nat.add_zero] at c0 c1 c2
            replace c0 := hf.cell c0
            replace c1 := hf.cell c1
            replace c2 := hf.cell c2
            subst hA
            go_wp2_with fail
            go_quiet (fail)
            go_wp2
            go_roundw
            case rel => exact ST.out _ (FA.out.drewN _) (by rw [AT.out, OK.out]; simp)
            case measure => simp [intOf]; omega
          · have e0 : decide (0 < k) = true := by simp; omega
            obtain ⟨b', o', hA', d0, d1, d2⟩ := H.out.fact (k := k - 1) (by omega)
            rw [hA] at hA'
            injection hA' with hA'
            injection hA' with hb' ho' _
            subst hb' ho' hA
            have GD : xs.getD (k - 1) default = xs[k - 1] := getD_at (by omega)
            have CL : decide (0 ≤ Fact.cmp ⟨xs[k - 1].rel, xs[k - 1].x, xs[k - 1].y⟩ ⟨xs[k].rel, xs[k].x, xs[k].y⟩) = !Fact.less ⟨xs[k - 1].rel, xs[k - 1].x, xs[k - 1].y⟩ ⟨xs[k].rel, xs[k].x, xs[k].y⟩ := Fact.cmp_less xs[k - 1] xs[k]
            have FW : Fr wr (wr.alloc (.cells #[.int .i64 xs[k].rel, .int .i64 xs[k].x, .int .i64 xs[k].y] 54)) := (Fr.refl _).alloc _
            have BC := hid (And.intro (BL.out.at_ (Fr.refl _) (i := 0) rfl) (And.intro (BL.out.at_ (Fr.refl _) (i := 1) rfl) (BL.out.at_ (Fr.refl _) (i := 2) rfl)))
            replace c0 := hf.cell c0
            replace c1 := hf.cell c1
            replace c2 := hf.cell c2
            replace d0 := FW.cell (hf.cell d0)
            replace d1 := FW.cell (hf.cell d1)
            replace d2 := FW.cell (hf.cell d2)
            clear FW
            cases hE : Fact.less ⟨xs[k - 1].rel, xs[k - 1].x, xs[k - 1].y⟩ ⟨xs[k].rel, xs[k].x, xs[k].y⟩
            · rw [hE, Bool.not_false] at CL
              go_wp2_with fail
              obtain ⟨c0, c1, c2⟩ := BC.out
              (refine wp_region_quietC (fun w' => Fr _ w') (by kernel_rfl) (by kernel_rfl) (Fr.refl _).drew ?_; (repeat go_big_quiet_step (first | exact fun _ => rfl | exact fun _ => ⟨rfl, rfl⟩ | (intro hw'; replace c0 := hw'.cell c0; replace c1 := hw'.cell c1; replace c2 := hw'.cell c2; replace d0 := hw'.cell d0; replace d1 := hw'.cell d1; replace d2 := hw'.cell d2; go_simp; first | done | exact rfl | exact ⟨rfl, rfl⟩) | (intro hw'; go_at_call 28; refine (factCmp _ _ _ _ _ _ _).mono ?_; rintro e w1 ⟨rfl, hb1⟩; exact ⟨rfl, hw'.trans hb1⟩))); refine wpQuiet_nil ?_; intro wq hq)
              go_wp2
              go_ret
              exact ⟨ret_bool (NO.out (by rw [AT.out, OK.out, GD]; simp [h0]; exact hE)).symm, FA.out.trans hq⟩
            · rw [hE, Bool.not_true] at CL
              go_wp2_with fail
              obtain ⟨c0, c1, c2⟩ := BC.out
              (refine wp_region_quietC (fun w' => Fr _ w') (by kernel_rfl) (by kernel_rfl) (Fr.refl _).drew ?_; (repeat go_big_quiet_step (first | exact fun _ => rfl | exact fun _ => ⟨rfl, rfl⟩ | (intro hw'; replace c0 := hw'.cell c0; replace c1 := hw'.cell c1; replace c2 := hw'.cell c2; replace d0 := hw'.cell d0; replace d1 := hw'.cell d1; replace d2 := hw'.cell d2; go_simp; first | done | exact rfl | exact ⟨rfl, rfl⟩) | (intro hw'; go_at_call 28; refine (factCmp _ _ _ _ _ _ _).mono ?_; rintro e w1 ⟨rfl, hb1⟩; exact ⟨rfl, hw'.trans hb1⟩))); refine wpQuiet_nil ?_; intro wq hq)
              go_wp2
              go_roundw
              case rel => exact ST.out _ (FA.out.trans hq) (by rw [AT.out, OK.out, GD]; simp [h0]; exact hE)
              case measure => simp [intOf]; omega
        · subst hA
          replace c0 := hf.cell c0
          replace c1 := hf.cell c1
          replace c2 := hf.cell c2
          have OK : xs[k].ok = false := by simpa using hok
          have NR := hid (NO.out (by rw [AT.out, OK]; rfl))
          by_cases hr : 0 ≤ xs[k].rel ∧ xs[k].rel ≤ 3
          · by_cases hx : 0 ≤ xs[k].x ∧ xs[k].x ≤ 9999
            · by_cases hy : 0 ≤ xs[k].y ∧ xs[k].y ≤ 9999
              · exact absurd (show xs[k].ok = true by simp [Fact.ok, hr, hx, hy]) (by simp [OK])
              · by_cases hy0 : 0 ≤ xs[k].y
                · have : ¬ xs[k].y ≤ 9999 := fun h => hy ⟨hy0, h⟩
                  obtain ⟨hr1, hr2⟩ := hr
                  obtain ⟨hx1, hx2⟩ := hx
                  go_wp2
                  go_ret
                  exact ⟨ret_bool NR.out.symm, FA.out⟩
                · obtain ⟨hr1, hr2⟩ := hr
                  obtain ⟨hx1, hx2⟩ := hx
                  go_wp2
                  go_ret
                  exact ⟨ret_bool NR.out.symm, FA.out⟩
            · by_cases hx0 : 0 ≤ xs[k].x
              · have : ¬ xs[k].x ≤ 9999 := fun h => hx ⟨hx0, h⟩
                obtain ⟨hr1, hr2⟩ := hr
                go_wp2
                go_ret
                exact ⟨ret_bool NR.out.symm, FA.out⟩
              · obtain ⟨hr1, hr2⟩ := hr
                go_wp2
                go_ret
                exact ⟨ret_bool NR.out.symm, FA.out⟩
          · by_cases hr0 : 0 ≤ xs[k].rel
            · have : ¬ xs[k].rel ≤ 3 := fun h => hr ⟨hr0, h⟩
              go_wp2
              go_ret
              exact ⟨ret_bool NR.out.symm, FA.out⟩
            · go_wp2
              go_ret
              exact ⟨ret_bool NR.out.symm, FA.out⟩
      · have AL : allIx xs.length (factAt xs) = true := allIx_yes fun i hi => HV.out i (by omega)
        go_wp2
        go_ret
        refine ⟨ret_bool ?_, hf⟩
        rw [vfacts, AL, Bool.and_true]
        simp [h60]
  · have e60 : decide ((60 : Int) < (xs.length : Int)) = true := by simp; omega
    go_enter Tryz.func9, Tryz.ntmps9
    go_wp2
    go_ret
    exact ⟨ret_bool (by simp [vfacts, h60]), Fr.refl _⟩
theorem specValidFacts (A : Option Addr) (cap : Nat) (xs : List Fact) (w : World) (hx : RdSl rdFact w.cell? 3 A xs) (hl : xs.length ≤ 1048576) :
    Calls Tryz.prog 13 #[.slice A xs.length cap] w fun e w' => e = .returned (.bool (vfacts xs)) ∧ Fr w w' := by
  have H := hid hx
  clear hx
  go_enter Tryz.func13, Tryz.ntmps13
  go_wp2_with (go_at_call 37; refine (specVFacts _ _ _ _ H.out hl).mono ?_; rintro e w1 ⟨rfl, hb1⟩)
  go_ret
  exact ⟨rfl, hb1⟩
end Go.Proofs.YtahclhldpcboeaaGreatDoor
