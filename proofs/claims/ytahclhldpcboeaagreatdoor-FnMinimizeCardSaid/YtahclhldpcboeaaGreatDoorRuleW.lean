/- Walks of the functions on rules. -/
import Derived.Test.YtahclhldpcboeaaGreatDoorRelP
import Derived.Test.YtahclhldpcboeaaGreatDoorMemQ
import Derived.Test.YtahclhldpcboeaaGreatDoorSRule
namespace Go.Proofs.YtahclhldpcboeaaGreatDoor
open Go Go.RowKit

theorem hasVar (b : Nat) (q x : Int) (w : World) (hc : w.cell? ⟨b, 0, none⟩ = some (.int .i64 q)) :
    Calls Tryz.prog 36 #[.pointer (some ⟨b, 0, none⟩), .int .i64 x] w fun e w' => e = .returned (.bool (hasV q x)) ∧ w = w' := by
  by_cases h0 : 0 ≤ x
  · go_enter Tryz.func36, Tryz.ntmps36
    go_wp2
    go_ret
    exact ⟨ret_bool (by simp [hasV, h0]), rfl⟩
  · go_enter Tryz.func36, Tryz.ntmps36
    go_wp2
    go_ret
    exact ⟨ret_bool (by simp [hasV]; omega), rfl⟩

theorem atomOk_yes {q : Int} {a : Atom} (h : a.ok q = true) : 0 ≤ a.rel ∧ a.rel ≤ 3 ∧ 0 ≤ a.x ∧ a.x < q ∧ 0 ≤ a.y ∧ a.y < q := by
  simp [Atom.ok, hasV] at h; omega
theorem atomOk_no {q : Int} {a : Atom} (h : a.ok q = false) : (a.rel < 0) ∨ (0 ≤ a.rel ∧ 3 < a.rel) ∨ (0 ≤ a.rel ∧ a.rel ≤ 3 ∧ a.x < 0) ∨ (0 ≤ a.rel ∧ a.rel ≤ 3 ∧ 0 ≤ a.x ∧ q ≤ a.x) ∨ (0 ≤ a.rel ∧ a.rel ≤ 3 ∧ 0 ≤ a.x ∧ a.x < q ∧ a.y < 0) ∨ (0 ≤ a.rel ∧ a.rel ≤ 3 ∧ 0 ≤ a.x ∧ a.x < q ∧ 0 ≤ a.y ∧ q ≤ a.y) := by
  simp [Atom.ok, hasV] at h; omega

set_option maxRecDepth 100000 in
set_option maxHeartbeats 2000000 in
theorem specVAtoms (A : Option Addr) (c : Nat) (bd : List Atom) (q : Int) (w : World) (hx : RdSl rdAtom w.cell? 3 A bd) (hl : bd.length ≤ 1048576) (h1 : 1 ≤ q) (h6 : q ≤ 6) :
    Calls Tryz.prog 54 #[.slice A bd.length c, .int .i64 q] w fun e w' => e = .returned (.bool (bd.all (Atom.ok q) && (decide (1 ≤ bd.length) && decide (bd.length ≤ 6)))) ∧ w = w' := by
  have HX := hid hx
  clear hx
  go_enter Tryz.func54, Tryz.ntmps54
  go_wp2
  go_loopw [5] (fun t wr => ∃ (k : Nat), k ≤ bd.length ∧ t = .int .i64 k ∧ w = wr ∧ ∀ i (h1 : i < bd.length), i < k → bd[i].ok q = true) (fun t _ => bd.length - (intOf t).toNat)
  case atStart => exact ⟨0, by omega, rfl, rfl, fun i _ h => absurd h (by omega)⟩
  case round =>
    obtain ⟨k, hk, rfl, rfl, hv⟩ := hrel
    have HV := hid hv
    clear hv
    by_cases hlt : k < bd.length
    · obtain ⟨b, o, hA, d0, d1, d2⟩ := HX.out.atom hlt
      subst hA
      cases hok : bd[k].ok q
      · have NO := hid (show bd.all (Atom.ok q) = false from all_no hlt hok)
        rcases atomOk_no hok with h | ⟨h, h'⟩ | ⟨h, h', h2⟩ | ⟨h, h', h2, h3⟩ | ⟨h, h', h2, h3, h4⟩ | ⟨h, h', h2, h3, h4, h5⟩
        all_goals go_wp2_with (first | (go_at_call 53; refine (inRange_yes _ _ _ _ ?_ ?_).mono ?_; (· omega); (· omega); rintro e w1 ⟨rfl, rfl⟩) | (go_at_call 53; refine (inRange_no _ _ _ _ ?_).mono ?_; (· omega); rintro e w1 ⟨rfl, rfl⟩))
        all_goals go_ret
        all_goals exact ⟨ret_bool (by rw [NO.out]; rfl), rfl⟩
      · obtain ⟨g1, g2, g3, g4, g5, g6⟩ := atomOk_yes hok
        have HO := hid hok
        clear hok
        go_wp2_with (first | (go_at_call 53; refine (inRange_yes _ _ _ _ ?_ ?_).mono ?_; (· omega); (· omega); rintro e w1 ⟨rfl, rfl⟩) | (go_at_call 53; refine (inRange_no _ _ _ _ ?_).mono ?_; (· omega); rintro e w1 ⟨rfl, rfl⟩))
        go_roundw
        case rel => exact ⟨k + 1, by omega, by go_num, trivial, fun i h hi => by
          by_cases e : i = k
          · subst e; exact HO.out
          · exact HV.out i h (by omega)⟩
        case measure => simp [intOf]; omega
    · have AE := hid (all_yes (p := Atom.ok q) fun i hi => HV.out i hi (by omega))
      clear HV
      go_wp2_with (go_at_call 53; refine (inRange _ _ _ _).mono ?_; rintro e w1 ⟨rfl, rfl⟩)
      go_ret
      refine ⟨ret_bool ?_, rfl⟩
      rw [AE.out, Bool.eq_iff_iff]; simp; try omega

theorem any_yes {X : Type} {xs : List X} {p : X → Bool} {k : Nat} (hk : k < xs.length) (h : p xs[k] = true) : xs.any p = true := by
  rw [List.any_eq_true]; exact ⟨_, List.getElem_mem hk, h⟩
theorem any_no {X : Type} {xs : List X} {p : X → Bool} (h : ∀ i (hi : i < xs.length), p xs[i] = false) : xs.any p = false := by
  rw [List.any_eq_false]; intro x hx
  obtain ⟨i, hi, rfl⟩ := List.getElem_of_mem hx
  simp [h i hi]
set_option maxRecDepth 100000 in
set_option maxHeartbeats 2000000 in
theorem occurs (A : Option Addr) (c : Nat) (bd : List Atom) (v : Int) (w : World) (hx : RdSl rdAtom w.cell? 3 A bd) (hl : bd.length ≤ 1048576) :
    Calls Tryz.prog 55 #[.slice A bd.length c, .int .i64 v] w fun e w' => e = .returned (.bool (bd.any (Atom.has v))) ∧ w = w' := by
  have HX := hid hx
  clear hx
  go_enter Tryz.func55, Tryz.ntmps55
  go_wp2
  go_loopw [5] (fun t wr => ∃ (k : Nat), k ≤ bd.length ∧ t = .int .i64 k ∧ w = wr ∧ ∀ i (h1 : i < bd.length), i < k → bd[i].has v = false) (fun t _ => bd.length - (intOf t).toNat)
  case atStart => exact ⟨0, by omega, rfl, rfl, fun i _ h => absurd h (by omega)⟩
  case round =>
    obtain ⟨k, hk, rfl, rfl, hv⟩ := hrel
    have HV := hid hv
    clear hv
    by_cases hlt : k < bd.length
    · obtain ⟨b, o, hA, d0, d1, d2⟩ := HX.out.atom hlt
      subst hA
      cases hX : bd[k].x == v
      · cases hY : bd[k].y == v
        · have HO := hid (show bd[k].has v = false by simp [Atom.has, hX, hY])
          go_wp2
          go_roundw
          case rel => exact ⟨k + 1, by omega, by go_num, trivial, fun i h hi => by
            by_cases e : i = k
            · subst e; exact HO.out
            · exact HV.out i h (by omega)⟩
          case measure => simp [intOf]; omega
        · have HO := hid (any_yes hlt (show bd[k].has v = true by simp [Atom.has, hY]))
          go_wp2
          go_ret
          exact ⟨ret_bool HO.out.symm, rfl⟩
      · have HO := hid (any_yes hlt (show bd[k].has v = true by simp [Atom.has, hX]))
        go_wp2
        go_ret
        exact ⟨ret_bool HO.out.symm, rfl⟩
    · have AE := hid (any_no (p := Atom.has v) fun i hi => HV.out i hi (by omega))
      clear HV
      go_wp2
      go_ret
      exact ⟨ret_bool AE.out.symm, rfl⟩

set_option maxRecDepth 100000 in
set_option maxHeartbeats 2000000 in
theorem specVRule (q : Int) (A0 : Option Addr) (c0 : Nat) (hd : List Int) (A1 : Option Addr) (c1 : Nat) (bd : List Atom) (w : World) (hx0 : RdSl rdInt w.cell? 1 A0 hd) (hx1 : RdSl rdAtom w.cell? 3 A1 bd) (hl0 : hd.length ≤ 1048576) (hl1 : bd.length ≤ 1048576) :
    Calls Tryz.prog 26 #[.agg #[.int .i64 q, .slice A0 hd.length c0, .slice A1 bd.length c1]] w fun e w' => e = .returned (.bool (vrule q hd bd)) ∧ Fr w w' := by
  have HX := hid hx0
  have HY := hid hx1
  clear hx0 hx1
  have BA := Blk.new w 26 #[.int .i64 q, .slice A0 hd.length c0, .slice A1 bd.length c1]
  have F1 : Fr w (w.alloc (.cells #[.int .i64 q, .slice A0 hd.length c0, .slice A1 bd.length c1] 26)) := (Fr.refl _).alloc _
  by_cases hq : 1 ≤ q ∧ q ≤ 6
  · obtain ⟨hq1, hq6⟩ := hq
    cases hat : bd.all (Atom.ok q) && (decide (1 ≤ bd.length) && decide (bd.length ≤ 6))
    · have NO := hid (show vrule q hd bd = false by
        unfold vrule
        rw [Bool.and_assoc, Bool.and_assoc, ← Bool.and_assoc (decide (1 ≤ bd.length) && decide (bd.length ≤ 6)), Bool.and_comm (decide (1 ≤ bd.length) && decide (bd.length ≤ 6)), hat]; simp)
      go_enter Tryz.func26, Tryz.ntmps26
      go_wp2_with (first | (go_at_call 53; refine (inRange_yes _ _ _ _ hq1 hq6).mono ?_; rintro e w1 ⟨rfl, rfl⟩) | (go_at_call 54; refine (specVAtoms _ _ _ _ _ (HY.out.fr rdAtom_mono F1) hl1 hq1 hq6).mono ?_; rintro e w1 ⟨rfl, rfl⟩; rw [hat]))
      go_ret
      exact ⟨ret_bool NO.out.symm, F1⟩
    · by_cases hh : hd.length ≤ 6
      · have eh : decide ((6 : Int) < (hd.length : Int)) = false := by simp; omega
        go_enter Tryz.func26, Tryz.ntmps26
        go_wp2_with (first | (go_at_call 53; refine (inRange_yes _ _ _ _ hq1 hq6).mono ?_; rintro e w1 ⟨rfl, rfl⟩) | (go_at_call 54; refine (specVAtoms _ _ _ _ _ (HY.out.fr rdAtom_mono F1) hl1 hq1 hq6).mono ?_; rintro e w1 ⟨rfl, rfl⟩; rw [hat]))
        have HAT := hid hat
        clear hat
        generalize w.alloc (.cells #[.int .i64 q, .slice A0 hd.length c0, .slice A1 bd.length c1] 26) = W1 at BA F1 ⊢
        go_loopw [3] (fun t wr => ∃ (k : Nat), k ≤ hd.length ∧ t = .int .i64 k ∧ Fr W1 wr ∧ ∀ i (h1 : i < hd.length), i < k → bd.any (Atom.has hd[i]) = true) (fun t _ => hd.length - (intOf t).toNat)
        case atStart => exact ⟨0, by omega, rfl, Fr.refl _, fun i _ h => absurd h (by omega)⟩
        case round =>
          obtain ⟨k, hk, rfl, hf, hv⟩ := hrel
          have HV := hid hv
          clear hv
          obtain ⟨a0, a1, a2, _⟩ := (BA.fr hf).three
          by_cases hlt : k < hd.length
          · obtain ⟨b, o, hA, d0⟩ := HX.out.at_ hlt
            replace d0 := (F1.trans hf).cell d0
            simp only [Nat.mul_one, Nat.add_zero] at d0
            subst hA
            cases hok : bd.any (Atom.has hd[k])
            · have NO := hid (show vrule q hd bd = false by
                unfold vrule
                rw [all_no (p := fun v => bd.any (Atom.has v)) hlt hok, Bool.and_false])
              go_wp2_with fail
              (refine wp_region_quietC (fun w' => Fr _ w') (by kernel_rfl) (by kernel_rfl) (Fr.refl _).drew ?_; (repeat go_big_quiet_step (first | exact fun _ => rfl | exact fun _ => ⟨rfl, rfl⟩ | (intro hw'; replace a0 := hw'.cell a0; replace a1 := hw'.cell a1; replace a2 := hw'.cell a2; replace d0 := hw'.cell d0; go_simp; first | done | exact rfl | exact ⟨rfl, rfl⟩) | (intro hw'; go_at_call 55; refine (occurs _ _ _ _ _ (HY.out.fr rdAtom_mono ((F1.trans hf).trans hw')) hl1).mono ?_; rintro e w1 ⟨rfl, rfl⟩; exact ⟨rfl, hw'⟩))); refine wpQuiet_nil ?_; intro wq hq)
              go_wp2
              go_ret
              exact ⟨ret_bool NO.out.symm, (F1.trans hf).trans hq⟩
            · have HO := hid hok
              go_wp2_with fail
              (refine wp_region_quietC (fun w' => Fr _ w') (by kernel_rfl) (by kernel_rfl) (Fr.refl _).drew ?_; (repeat go_big_quiet_step (first | exact fun _ => rfl | exact fun _ => ⟨rfl, rfl⟩ | (intro hw'; replace a0 := hw'.cell a0; replace a1 := hw'.cell a1; replace a2 := hw'.cell a2; replace d0 := hw'.cell d0; go_simp; first | done | exact rfl | exact ⟨rfl, rfl⟩) | (intro hw'; go_at_call 55; refine (occurs _ _ _ _ _ (HY.out.fr rdAtom_mono ((F1.trans hf).trans hw')) hl1).mono ?_; rintro e w1 ⟨rfl, rfl⟩; exact ⟨rfl, hw'⟩))); refine wpQuiet_nil ?_; intro wq hq)
              go_wp2
              go_roundw
              case rel => exact ⟨k + 1, by omega, by go_num, hf.trans hq, fun i h hi => by
                by_cases e : i = k
                · subst e; exact HO.out
                · exact HV.out i h (by omega)⟩
              case measure => simp [intOf]; omega
          · have AE := hid (all_yes (p := fun v => bd.any (Atom.has v)) fun i hi => HV.out i hi (by omega))
            clear HV
            go_wp2
            go_ret
            refine ⟨ret_bool ?_, F1.trans hf⟩
            have hat := HAT.out
            simp only [Bool.and_eq_true, decide_eq_true_eq] at hat
            unfold vrule
            rw [AE.out, hat.1]
            simp [hq1, hq6, hh, hat.2]
      · have eh : decide ((6 : Int) < (hd.length : Int)) = true := by simp; omega
        have NO := hid (show vrule q hd bd = false by unfold vrule; rw [show decide (hd.length ≤ 6) = false by simp [hh]]; simp)
        go_enter Tryz.func26, Tryz.ntmps26
        go_wp2_with (first | (go_at_call 53; refine (inRange_yes _ _ _ _ hq1 hq6).mono ?_; rintro e w1 ⟨rfl, rfl⟩) | (go_at_call 54; refine (specVAtoms _ _ _ _ _ (HY.out.fr rdAtom_mono F1) hl1 hq1 hq6).mono ?_; rintro e w1 ⟨rfl, rfl⟩; rw [hat]))
        go_ret
        exact ⟨ret_bool NO.out.symm, F1⟩
  · have NO := hid (show vrule q hd bd = false by unfold vrule; rw [show (decide (1 ≤ q) && decide (q ≤ 6)) = false by simp; omega]; rfl)
    go_enter Tryz.func26, Tryz.ntmps26
    go_wp2_with (go_at_call 53; refine (inRange_no _ _ _ _ (by omega)).mono ?_; rintro e w1 ⟨rfl, rfl⟩)
    go_ret
    exact ⟨ret_bool NO.out.symm, F1⟩
end Go.Proofs.YtahclhldpcboeaaGreatDoor
