/- Walks of the functions on tables. -/
import Derived.Test.YtlmiadeaiiehaaaRowW
import Derived.Test.YtlmiadeaiiehaaaSTable
namespace Go.Proofs.Ytlmiadeaiiehaaa
open Go Go.RowKit

theorem rcmp_all {xs ys : List V} (hx : vrow xs = true) (hy : vrow ys = true) (hl : xs.length = ys.length) : rcmpS xs ys = rcmp xs ys := by
  simp only [vrow, Bool.and_eq_true] at hx hy
  exact rcmpS_eq hx.2 hy.2 hl
theorem rowAt_no {wd : Int} {rows : List (List V)} {k : Nat} (hk : k < rows.length) (h : rowAt wd rows k = false) : vtab wd rows = false := by
  unfold vtab; rw [allIx_no hk h, Bool.and_false]
theorem rowAt_eq {wd : Int} {rows : List (List V)} {k : Nat} (hk : k < rows.length) : rowAt wd rows k = ((vrow rows[k] && decide ((rows[k].length : Int) = wd)) && (k == 0 || decide (rcmp (rows.getD (k - 1) default) rows[k] ≤ 0))) := by
  unfold rowAt; rw [getD_at hk]
theorem rowAt_v {wd : Int} {rows : List (List V)} {k : Nat} (hk : k < rows.length) (h : rowAt wd rows k = true) : vrow rows[k] = true ∧ (rows[k].length : Int) = wd := by
  rw [rowAt_eq hk] at h
  simp only [Bool.and_eq_true, decide_eq_true_eq] at h
  exact h.1

set_option maxRecDepth 100000 in
set_option maxHeartbeats 4000000 in
theorem specVTable (wd : Int) (A0 : Option Addr) (c0 : Nat) (rows : List (List V)) (w : World) (hx0 : RdSl rdRow w.cell? 1 A0 rows) (hl0 : SmallR rows) :
    Calls Try.prog 25 #[.agg #[.int .i64 wd, .slice A0 rows.length c0]] w fun e w' => e = .returned (.bool (vtab wd rows)) ∧ Fr w w' := by
  have HX := hid hx0
  have HL := hid hl0
  have hl := hl0.1
  clear hx0 hl0
  have BA := Blk.new w 32 #[.int .i64 wd, .slice A0 rows.length c0]
  have F1 : Fr w (w.alloc (.cells #[.int .i64 wd, .slice A0 rows.length c0] 32)) := (Fr.refl _).alloc _
  go_enter Try.func25, Try.ntmps25
  go_wp2
  generalize w.alloc (.cells #[.int .i64 wd, .slice A0 rows.length c0] 32) = W1 at BA F1 ⊢
  go_loopw [3] (fun t wr => ∃ (k : Nat), k ≤ rows.length ∧ t = .int .i64 k ∧ Fr W1 wr ∧ ∀ i, i < k → rowAt wd rows i = true) (fun t _ => rows.length - (intOf t).toNat)
  case atStart => exact ⟨0, by omega, rfl, Fr.refl _, fun i h => absurd h (by omega)⟩
  case round =>
    obtain ⟨k, hk, rfl, hf, hv⟩ := hrel
    have HV := hid hv
    clear hv
    obtain ⟨a0, a1, _⟩ := (BA.fr hf).pair
    by_cases hlt : k < rows.length
    · obtain ⟨b, o, B, c, hA, d0, r0, _, _⟩ := HX.out.row hlt
      have R0 := hid (r0.fr rdV_mono (F1.trans hf))
      clear r0
      replace d0 := (F1.trans hf).cell d0
      have AT := hid (rowAt_eq (wd := wd) hlt)
      have NO := hid (fun h => rowAt_no (wd := wd) hlt h)
      have L0 := HL.out.2 k hlt
      have ST := hid (show ∀ (wr' : World), Fr W1 wr' → rowAt wd rows k = true → ∃ k' : Nat, k' ≤ rows.length ∧ Value.int .i64 ((k : Int) + 1) = .int .i64 (k' : Int) ∧ Fr W1 wr' ∧ ∀ i, i < k' → rowAt wd rows i = true from fun wr' hfr hx => ⟨k + 1, by omega, by simp, hfr, fun i hi => by
        by_cases e : i = k
        · subst e; exact hx
        · exact HV.out i (by omega)⟩)
      cases hok : vrow rows[k]
      · have N1 := hid (NO.out (by rw [AT.out, hok]; rfl))
        subst hA
        go_wp2_with fail
        (refine wp_region_quietC (fun w' => Fr _ w') (by kernel_rfl) (by kernel_rfl) (Fr.refl _).drew ?_; (repeat go_big_quiet_step (first | exact fun _ => rfl | exact fun _ => ⟨rfl, rfl⟩ | (intro hw'; replace a0 := hw'.cell a0; replace a1 := hw'.cell a1; replace d0 := hw'.cell d0; go_simp; first | done | exact rfl | exact ⟨rfl, rfl⟩) | (intro hw'; go_at_call 48; refine (specVRow _ _ _ _ (R0.out.fr rdV_mono hw') L0).mono ?_; rintro e w1 ⟨rfl, b1⟩; rw [hok]; exact ⟨rfl, hw'.trans b1⟩))); refine wpQuiet_nil ?_; intro wq hq)
        go_wp2
        go_ret
        exact ⟨ret_bool N1.out.symm, (F1.trans hf).trans hq⟩
      · by_cases hw : (rows[k].length : Int) = wd
        · have ew : ((rows[k].length : Int) != wd) = false := by simp [hw]
          have HW := hid hw
          clear hw
          by_cases h0 : k = 0
          · subst h0
            have OK := hid (show rowAt wd rows 0 = true by rw [AT.out, hok, HW.out]; simp)
            simp only [Nat.add_zero] at d0
            subst hA
            go_wp2_with fail
            (refine wp_region_quietC (fun w' => Fr _ w') (by kernel_rfl) (by kernel_rfl) (Fr.refl _).drew ?_; (repeat go_big_quiet_step (first | exact fun _ => rfl | exact fun _ => ⟨rfl, rfl⟩ | (intro hw'; replace a0 := hw'.cell a0; replace a1 := hw'.cell a1; replace d0 := hw'.cell d0; go_simp; first | done | exact rfl | exact ⟨rfl, rfl⟩) | (intro hw'; go_at_call 48; refine (specVRow _ _ _ _ (R0.out.fr rdV_mono hw') L0).mono ?_; rintro e w1 ⟨rfl, b1⟩; rw [hok]; exact ⟨rfl, hw'.trans b1⟩))); refine wpQuiet_nil ?_; intro wq hq)
            go_wp2
            go_roundw
            case rel => exact ST.out _ (hf.trans hq) OK.out
            case measure => simp [intOf]; omega
          · have e0 : decide (0 < k) = true := by simp; omega
            have hlt1 : k - 1 < rows.length := by omega
            obtain ⟨b', o', B', c', hA', d1, r1, _, _⟩ := HX.out.row hlt1
            rw [hA] at hA'
            injection hA' with hA'
            injection hA' with hb' ho' _
            subst hb' ho' hA
            have R1 := hid (r1.fr rdV_mono (F1.trans hf))
            clear r1
            replace d1 := (F1.trans hf).cell d1
            have L1 := HL.out.2 (k - 1) hlt1
            have GD : rows.getD (k - 1) default = rows[k - 1] := getD_at hlt1
            obtain ⟨p1, p2⟩ := rowAt_v hlt1 (HV.out (k - 1) (by omega))
            have RC : rcmpS rows[k - 1] rows[k] = rcmp rows[k - 1] rows[k] := rcmp_all p1 hok (by have := HW.out; omega)
            have AT' := hid (show rowAt wd rows k = decide (rcmp rows[k - 1] rows[k] ≤ 0) by
              rw [AT.out, hok, GD, show (k == 0) = false by simp [h0]]; simp [HW.out])
            clear p1 p2 GD
            by_cases hc : rcmp rows[k - 1] rows[k] ≤ 0
            · have ec : decide (0 < rcmp rows[k - 1] rows[k]) = false := by simp; omega
              have OK := hid (show rowAt wd rows k = true by rw [AT'.out]; simp [hc])
              clear hc
              go_wp2_with fail
              (refine wp_region_quietC (fun w' => Fr _ w') (by kernel_rfl) (by kernel_rfl) (Fr.refl _).drew ?_; (repeat go_big_quiet_step (first | exact fun _ => rfl | exact fun _ => ⟨rfl, rfl⟩ | (intro hw'; replace a0 := hw'.cell a0; replace a1 := hw'.cell a1; replace d0 := hw'.cell d0; replace d1 := hw'.cell d1; go_simp; first | done | exact rfl | exact ⟨rfl, rfl⟩) | (intro hw'; go_at_call 48; refine (specVRow _ _ _ _ (R0.out.fr rdV_mono hw') L0).mono ?_; rintro e w1 ⟨rfl, b1⟩; rw [hok]; exact ⟨rfl, hw'.trans b1⟩) | (intro hw'; go_at_call 49; refine (specRowCmp _ _ _ _ _ _ _ (R1.out.fr rdV_mono hw') (R0.out.fr rdV_mono hw') L1 L0).mono ?_; rintro e w1 ⟨rfl, b1⟩; rw [RC]; exact ⟨rfl, hw'.trans b1⟩))); refine wpQuiet_nil ?_; intro wq hq)
              go_wp2
              go_roundw
              case rel => exact ST.out _ (hf.trans hq) OK.out
              case measure => simp [intOf]; omega
            · have ec : decide (0 < rcmp rows[k - 1] rows[k]) = true := by simp; omega
              have N1 := hid (NO.out (by rw [AT'.out]; simp; omega))
              clear hc
              go_wp2_with fail
              (refine wp_region_quietC (fun w' => Fr _ w') (by kernel_rfl) (by kernel_rfl) (Fr.refl _).drew ?_; (repeat go_big_quiet_step (first | exact fun _ => rfl | exact fun _ => ⟨rfl, rfl⟩ | (intro hw'; replace a0 := hw'.cell a0; replace a1 := hw'.cell a1; replace d0 := hw'.cell d0; replace d1 := hw'.cell d1; go_simp; first | done | exact rfl | exact ⟨rfl, rfl⟩) | (intro hw'; go_at_call 48; refine (specVRow _ _ _ _ (R0.out.fr rdV_mono hw') L0).mono ?_; rintro e w1 ⟨rfl, b1⟩; rw [hok]; exact ⟨rfl, hw'.trans b1⟩) | (intro hw'; go_at_call 49; refine (specRowCmp _ _ _ _ _ _ _ (R1.out.fr rdV_mono hw') (R0.out.fr rdV_mono hw') L1 L0).mono ?_; rintro e w1 ⟨rfl, b1⟩; rw [RC]; exact ⟨rfl, hw'.trans b1⟩))); refine wpQuiet_nil ?_; intro wq hq)
              go_wp2
              go_ret
              exact ⟨ret_bool N1.out.symm, (F1.trans hf).trans hq⟩
        · have ew : ((rows[k].length : Int) != wd) = true := by simp; omega
          have N1 := hid (NO.out (by rw [AT.out, hok]; simp [hw]))
          subst hA
          go_wp2_with fail
          (refine wp_region_quietC (fun w' => Fr _ w') (by kernel_rfl) (by kernel_rfl) (Fr.refl _).drew ?_; (repeat go_big_quiet_step (first | exact fun _ => rfl | exact fun _ => ⟨rfl, rfl⟩ | (intro hw'; replace a0 := hw'.cell a0; replace a1 := hw'.cell a1; replace d0 := hw'.cell d0; go_simp; first | done | exact rfl | exact ⟨rfl, rfl⟩) | (intro hw'; go_at_call 48; refine (specVRow _ _ _ _ (R0.out.fr rdV_mono hw') L0).mono ?_; rintro e w1 ⟨rfl, b1⟩; rw [hok]; exact ⟨rfl, hw'.trans b1⟩))); refine wpQuiet_nil ?_; intro wq hq)
          go_wp2
          go_ret
          exact ⟨ret_bool N1.out.symm, (F1.trans hf).trans hq⟩
    · have AE := hid (allIx_yes (p := rowAt wd rows) (n := rows.length) fun i hi => HV.out i (by omega))
      clear HV
      go_wp2_with (go_at_call 50; refine (inRange _ _ _ _).mono ?_; rintro e w1 ⟨rfl, rfl⟩)
      all_goals go_ret
      all_goals (refine ⟨ret_bool ?_, F1.trans hf⟩; unfold vtab wid; rw [AE.out, Bool.eq_iff_iff]; simp; try omega)
set_option maxRecDepth 100000 in
set_option maxHeartbeats 4000000 in
theorem implValidTable (wd : Int) (A0 : Option Addr) (c0 : Nat) (rows : List (List V)) (w : World) (hx0 : RdSl rdRow w.cell? 1 A0 rows) (hl0 : SmallR rows) :
    Calls Try.prog 28 #[.agg #[.int .i64 wd, .slice A0 rows.length c0]] w fun e w' => e = .returned (.bool (vtab wd rows)) ∧ Fr w w' := by
  have HX := hid hx0
  have HL := hid hl0
  have hl := hl0.1
  clear hx0 hl0
  have BA := Blk.new w 32 #[.int .i64 wd, .slice A0 rows.length c0]
  have F1 : Fr w (w.alloc (.cells #[.int .i64 wd, .slice A0 rows.length c0] 32)) := (Fr.refl _).alloc _
  cases hwd : wid wd
  · have N0 := hid (show vtab wd rows = false by unfold vtab; rw [hwd]; rfl)
    go_enter Try.func28, Try.ntmps28
    go_wp2_with (go_at_call 53; refine (validWidR _ _).mono ?_; rintro e w1 ⟨rfl, rfl⟩; rw [hwd])
    go_ret
    exact ⟨ret_bool N0.out.symm, F1⟩
  by_cases h400 : rows.length ≤ 400
  · have e400 : decide ((400 : Int) < (rows.length : Int)) = false := by simp; omega
    go_enter Try.func28, Try.ntmps28
    go_wp2_with (go_at_call 53; refine (validWidR _ _).mono ?_; rintro e w1 ⟨rfl, rfl⟩; rw [hwd])
    generalize w.alloc (.cells #[.int .i64 wd, .slice A0 rows.length c0] 32) = W1 at BA F1 ⊢
    go_loopw [18] (fun t wr => ∃ (k : Nat), k ≤ rows.length ∧ t = .int .i64 k ∧ Fr W1 wr ∧ ∀ i, i < k → rowAt wd rows i = true) (fun t _ => rows.length - (intOf t).toNat)
    case atStart => exact ⟨0, by omega, rfl, Fr.refl _, fun i h => absurd h (by omega)⟩
    case round =>
      obtain ⟨k, hk, rfl, hf, hv⟩ := hrel
      have HV := hid hv
      clear hv
      obtain ⟨a0, a1, _⟩ := (BA.fr hf).pair
      by_cases hlt : k < rows.length
      · obtain ⟨b, o, B, c, hA, d0, r0, _, _⟩ := HX.out.row hlt
        have R0 := hid (r0.fr rdV_mono (F1.trans hf))
        clear r0
        replace d0 := (F1.trans hf).cell d0
        have AT := hid (rowAt_eq (wd := wd) hlt)
        have NO := hid (fun h => rowAt_no (wd := wd) hlt h)
        have L0 := HL.out.2 k hlt
        have ST := hid (show ∀ (wr' : World), Fr W1 wr' → rowAt wd rows k = true → ∃ k' : Nat, k' ≤ rows.length ∧ Value.int .i64 ((k : Int) + 1) = .int .i64 (k' : Int) ∧ Fr W1 wr' ∧ ∀ i, i < k' → rowAt wd rows i = true from fun wr' hfr hx => ⟨k + 1, by omega, by simp, hfr, fun i hi => by
          by_cases e : i = k
          · subst e; exact hx
          · exact HV.out i (by omega)⟩)
        by_cases hw : (rows[k].length : Int) = wd
        · have ew : ((rows[k].length : Int) != wd) = false := by simp [hw]
          have HW := hid hw
          clear hw
          cases hok : vrow rows[k]
          · have N1 := hid (NO.out (by rw [AT.out, hok]; rfl))
            subst hA
            go_wp2_with (go_at_call 54; refine (implVRow _ _ _ _ R0.out L0).mono ?_; rintro e w1 ⟨rfl, b1⟩; rw [hok])
            go_ret
            exact ⟨ret_bool N1.out.symm, (F1.trans hf).trans b1⟩
          · by_cases h0 : k = 0
            · subst h0
              have OK := hid (show rowAt wd rows 0 = true by rw [AT.out, hok, HW.out]; simp)
              simp only [Nat.add_zero] at d0
              subst hA
              go_wp2_with (go_at_call 54; refine (implVRow _ _ _ _ R0.out L0).mono ?_; rintro e w1 ⟨rfl, b1⟩; rw [hok])
              go_roundw
              case rel => exact ST.out _ (hf.trans b1) OK.out
              case measure => simp [intOf]; omega
            · have e0 : decide (0 < k) = true := by simp; omega
              have hlt1 : k - 1 < rows.length := by omega
              obtain ⟨b', o', B', c', hA', d1, r1, _, _⟩ := HX.out.row hlt1
              rw [hA] at hA'
              injection hA' with hA'
              injection hA' with hb' ho' _
              subst hb' ho' hA
              have R1 := hid (r1.fr rdV_mono (F1.trans hf))
              clear r1
              replace d1 := (F1.trans hf).cell d1
              have L1 := HL.out.2 (k - 1) hlt1
              have GD : rows.getD (k - 1) default = rows[k - 1] := getD_at hlt1
              have AT' := hid (show rowAt wd rows k = decide (rcmp rows[k - 1] rows[k] ≤ 0) by
                rw [AT.out, hok, GD, show (k == 0) = false by simp [h0]]; simp [HW.out])
              clear GD
              by_cases hc : rcmp rows[k - 1] rows[k] ≤ 0
              · have ec : decide (0 < rcmp rows[k - 1] rows[k]) = false := by simp; omega
                have OK := hid (show rowAt wd rows k = true by rw [AT'.out]; simp [hc])
                clear hc
                go_wp2_with fail
                refine (implVRow _ _ _ _ R0.out L0).mono ?_
                rintro e w1 ⟨rfl, b1⟩
                rw [hok]
                replace a0 := b1.cell a0
                replace a1 := b1.cell a1
                replace d1 := b1.cell d1
                go_wp2_with (go_at_call 55; refine (implRowCmp _ _ _ _ _ _ _ (R1.out.fr rdV_mono b1) (R0.out.fr rdV_mono b1) L1 L0).mono ?_; rintro e w2 ⟨rfl, b2⟩)
                go_roundw
                case rel => exact ST.out _ ((hf.trans b1).trans b2) OK.out
                case measure => simp [intOf]; omega
              · have ec : decide (0 < rcmp rows[k - 1] rows[k]) = true := by simp; omega
                have N1 := hid (NO.out (by rw [AT'.out]; simp; omega))
                clear hc
                go_wp2_with fail
                refine (implVRow _ _ _ _ R0.out L0).mono ?_
                rintro e w1 ⟨rfl, b1⟩
                rw [hok]
                replace a0 := b1.cell a0
                replace a1 := b1.cell a1
                replace d1 := b1.cell d1
                go_wp2_with (go_at_call 55; refine (implRowCmp _ _ _ _ _ _ _ (R1.out.fr rdV_mono b1) (R0.out.fr rdV_mono b1) L1 L0).mono ?_; rintro e w2 ⟨rfl, b2⟩)
                go_ret
                exact ⟨ret_bool N1.out.symm, ((F1.trans hf).trans b1).trans b2⟩
        · have ew : ((rows[k].length : Int) != wd) = true := by simp; omega
          have N1 := hid (NO.out (by rw [AT.out]; simp [hw]))
          subst hA
          go_wp2
          go_ret
          exact ⟨ret_bool N1.out.symm, F1.trans hf⟩
      · have AE := hid (allIx_yes (p := rowAt wd rows) (n := rows.length) fun i hi => HV.out i (by omega))
        clear HV
        go_wp2
        go_ret
        exact ⟨ret_bool (by unfold vtab; rw [AE.out, hwd]; simp [h400]), F1.trans hf⟩
  · have e400 : decide ((400 : Int) < (rows.length : Int)) = true := by simp; omega
    go_enter Try.func28, Try.ntmps28
    go_wp2_with (go_at_call 53; refine (validWidR _ _).mono ?_; rintro e w1 ⟨rfl, rfl⟩; rw [hwd])
    go_ret
    exact ⟨ret_bool (by unfold vtab; simp [h400]), F1⟩
end Go.Proofs.Ytlmiadeaiiehaaa
