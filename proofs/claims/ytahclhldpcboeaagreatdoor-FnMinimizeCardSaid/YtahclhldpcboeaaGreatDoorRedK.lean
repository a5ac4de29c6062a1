/- Walk of the program's redundantAtom. -/
import Derived.Test.YtahclhldpcboeaaGreatDoorMapI
import Derived.Test.YtahclhldpcboeaaGreatDoorHmgS
import Derived.Test.YtahclhldpcboeaaGreatDoorRedS
import Derived.Test.YtahclhldpcboeaaGreatDoorInts
import Derived.Test.YtahclhldpcboeaaGreatDoorTFact
import Derived.Test.YtahclhldpcboeaaGreatDoorGrfG
namespace Go.Proofs.YtahclhldpcboeaaGreatDoor
open Go Go.RowKit

theorem RulOut.rd {base : Nat} {q : Int} {hd : List Int} {bd : List Atom} {r : Ending} {w' : World} (h : RulOut base q hd bd r w') : ∃ A c B d, r = .returned (.agg #[.int .i64 q, .slice A hd.length c, .slice B bd.length d]) ∧ RdSl rdInt w'.cell? 1 A hd ∧ RdSl rdAtom w'.cell? 3 B bd ∧ bd.length ≤ d ∧ d ≤ maxLen := by
  obtain ⟨A, c, B, d, h1, h2, h3⟩ := h
  exact ⟨A, c, B, d, h1, (own_int h2 rfl).mono rdInt_mono (fromB_le _ _), (own_A h3 rfl).mono rdAtom_mono (fromB_le _ _), (own_capM h3).1, (own_capM h3).2⟩
set_option maxRecDepth 100000 in
set_option maxHeartbeats 4000000 in
theorem redundantAtomW (b : Nat) (q : Int) (A0 A1 : Option Addr) (c0 c1 : Nat) (hd : List Int) (bd : List Atom) (ei ea : Addr) (w : World) (h0 : w.cell? ⟨b, 0, none⟩ = some (.int .i64 q)) (h1 : w.cell? ⟨b, 1, none⟩ = some (.slice A0 hd.length c0)) (h2 : w.cell? ⟨b, 2, none⟩ = some (.slice A1 bd.length c1))
    (hx0 : RdSl rdInt w.cell? 1 A0 hd) (hx1 : RdSl rdAtom w.cell? 3 A1 bd) (hv : vrule q hd bd = true) (hc : bd.length ≤ c1) (hc2 : c1 ≤ maxLen)
    (he0 : w.cell? ⟨0, 0, none⟩ = some (noHom ei)) (he1 : w.cell? ⟨1, 0, none⟩ = some (noHom ea)) :
    Calls Tryz.prog 43 #[.pointer (some ⟨b, 0, none⟩)] w fun r w' => r = .returned (.int .i64 (red q hd bd)) ∧ Fr w w' := by
  obtain ⟨qa, qb, hh6, hb1, hb6, _, _⟩ := vrule_parts hv
  have WO := hid (fun (k : Nat) (hk : k < bd.length) W (h : Fr w W) => withoutW b q A0 A1 c0 c1 hd bd k W (h.cell h0) (h.cell h1) (h.cell h2) (hx0.fr rdInt_mono h) (hx1.fr rdAtom_mono h) (by omega) (by omega) hk hc hc2)
  have HM := hid (fun W (h : Fr w W) (bd2 : List Atom) (B0 B1 : Option Addr) (d0 d1 : Nat) (g0 : RdSl rdInt W.cell? 1 B0 hd) (g1 : RdSl rdAtom W.cell? 3 B1 bd2) (gl : bd2.length ≤ 1000) => implHomW q q A0 A1 B0 B1 c0 c1 d0 d1 hd hd bd bd2 ei ea W (hx0.fr rdInt_mono h) (hx1.fr rdAtom_mono h) g0 g1 (by omega) (by omega) (by omega) (by omega) hc hc2 (h.cell he0) (h.cell he1))
  have HV := hid hv
  have HR := hid (show red q hd bd = redF q hd bd bd.length 0 from rfl)
  clear hv hx0 hx1 he0 he1
  go_enter Tryz.func43, Tryz.ntmps43
  go_wp2_with fail
  go_loopw [11] (fun t wr => ∃ k : Nat, k ≤ bd.length ∧ t = .int .i64 k ∧ Fr w wr ∧ Hid (red q hd bd = redF q hd bd (bd.length - k) k)) (fun t _ => bd.length - (intOf t).toNat)
  case atStart => exact ⟨0, by omega, rfl, Fr.refl _, HR⟩
  case round =>
    obtain ⟨k, hk, rfl, hf, HK⟩ := hrel
    by_cases hlt : k < bd.length
    · replace h0 := hf.cell h0
      replace h1 := hf.cell h1
      replace h2 := hf.cell h2
      have WK := hid (fun W (h : Fr wr W) => WO.out k hlt W (hf.trans h))
      have hll := lessA_len hlt
      have hsplit : bd.length - k = (bd.length - (k + 1)) + 1 := by omega
      have YES := hid (show redAt q hd bd k = true → red q hd bd = (k : Int) from fun h => by rw [HK.out, hsplit, redF_yes h])
      have NO := hid (show redAt q hd bd k = false → red q hd bd = redF q hd bd (bd.length - (k + 1)) (k + 1) from fun h => by rw [HK.out, hsplit, redF_no h])
      obtain ⟨bd2, eb2⟩ : ∃ x, lessA bd k = x := ⟨_, rfl⟩
      have RA := hid (show redAt q hd bd k = (vrule q hd bd2 && (homO q hd bd hd bd2).isSome) by unfold redAt; rw [eb2])
      rw [eb2] at WK hll
      clear HK hsplit eb2
      go_wp2_with fail
      have keepL : ∀ W' : World, Fr wr W' → (Fr wr W' ∧ W'.cell? ⟨b, 0, none⟩ = some (.int .i64 q) ∧ W'.cell? ⟨b, 1, none⟩ = some (.slice A0 hd.length c0) ∧ W'.cell? ⟨b, 2, none⟩ = some (.slice A1 bd.length c1)) := fun W' F => ⟨F, F.cell h0, F.cell h1, F.cell h2⟩
      go_region_held3 (fun W' => Fr wr W' ∧ W'.cell? ⟨b, 0, none⟩ = some (.int .i64 q) ∧ W'.cell? ⟨b, 1, none⟩ = some (.slice A0 hd.length c0) ∧ W'.cell? ⟨b, 2, none⟩ = some (.slice A1 bd.length c1)) ((refine keepL _ ?_; (repeat (first | with_reducible exact Fr.refl _ | with_reducible assumption | with_reducible refine Fr.alloc ?_ _ | with_reducible refine Fr.drew ?_ | with_reducible refine Fr.drewN ?_ _ | (with_reducible refine Fr.setNew2 ?_ ?_ _; · (simp <;> omega)) | with_reducible refine Fr.trans ?_ (by assumption))); done))
        (first
          | (go_at_call 44; (with_reducible refine (WK.out _ ?_).mono ?_); (· (repeat (first | with_reducible exact Fr.refl _ | with_reducible assumption | with_reducible refine Fr.alloc ?_ _ | with_reducible refine Fr.drew ?_ | with_reducible refine Fr.drewN ?_ _ | (with_reducible refine Fr.setNew2 ?_ ?_ _; · (simp <;> omega)) | with_reducible refine Fr.trans ?_ (by assumption)))); rintro r5 w5 ⟨hp5, hF5⟩; obtain ⟨B0, d0, B1, d1, rfl, g0, g1, _⟩ := hp5.rd; have F5 : Fr wr w5 := Fr.trans (by (repeat (first | with_reducible exact Fr.refl _ | with_reducible assumption | with_reducible refine Fr.alloc ?_ _ | with_reducible refine Fr.drew ?_ | with_reducible refine Fr.drewN ?_ _ | (with_reducible refine Fr.setNew2 ?_ ?_ _; · (simp <;> omega)) | with_reducible refine Fr.trans ?_ (by assumption)))) hF5; have G0 := hid g0; have G1 := hid g1; clear hp5 g0 g1)
          | (go_at_call 25; (with_reducible refine (HM.out _ ?_ bd2 _ _ _ _ ?_ ?_ ?_).mono ?_); (· exact hf.trans (by (repeat (first | with_reducible exact Fr.refl _ | with_reducible assumption | with_reducible refine Fr.alloc ?_ _ | with_reducible refine Fr.drew ?_ | with_reducible refine Fr.drewN ?_ _ | (with_reducible refine Fr.setNew2 ?_ ?_ _; · (simp <;> omega)) | with_reducible refine Fr.trans ?_ (by assumption))))); (· exact G0.out.fr rdInt_mono (by (repeat (first | with_reducible exact Fr.refl _ | with_reducible assumption | with_reducible refine Fr.alloc ?_ _ | with_reducible refine Fr.drew ?_ | with_reducible refine Fr.drewN ?_ _ | (with_reducible refine Fr.setNew2 ?_ ?_ _; · (simp <;> omega)) | with_reducible refine Fr.trans ?_ (by assumption))))); (· exact G1.out.fr rdAtom_mono (by (repeat (first | with_reducible exact Fr.refl _ | with_reducible assumption | with_reducible refine Fr.alloc ?_ _ | with_reducible refine Fr.drew ?_ | with_reducible refine Fr.drewN ?_ _ | (with_reducible refine Fr.setNew2 ?_ ?_ _; · (simp <;> omega)) | with_reducible refine Fr.trans ?_ (by assumption))))); (· omega); rintro r7 w7 ⟨hp7, hF7⟩; have F7 : Fr wr w7 := Fr.trans (by (repeat (first | with_reducible exact Fr.refl _ | with_reducible assumption | with_reducible refine Fr.alloc ?_ _ | with_reducible refine Fr.drew ?_ | with_reducible refine Fr.drewN ?_ _ | (with_reducible refine Fr.setNew2 ?_ ?_ _; · (simp <;> omega)) | with_reducible refine Fr.trans ?_ (by assumption)))) hF7; obtain ⟨v7, e7, rfl, he7⟩ := hp7.pair; have HP7 := hid he7; clear hp7 he7)
          | fail)
      clear keepL G0 G1 WK
      have FW7 := hf.trans F7
      rcases HP7.out with ⟨rfl, hyes⟩ | ⟨a, rfl, hno⟩
      · have RES := hid (YES.out (by rw [RA.out]; rw [HV.out, Bool.true_and] at hyes; exact hyes))
        clear hyes HP7 YES NO RA
        go_wp2
        go_ret
        exact ⟨ret_int RES.out.symm, FW7⟩
      · have NX := hid (NO.out (by rw [RA.out]; rw [HV.out, Bool.true_and] at hno; exact hno))
        clear hno HP7 YES NO RA
        go_wp2
        go_roundw
        case rel => exact ⟨k + 1, by omega, by go_num, FW7, NX⟩
        case measure => simp [intOf]; omega
    · obtain rfl : k = bd.length := by omega
      have RES := hid (show red q hd bd = -1 by rw [HK.out, Nat.sub_self]; rfl)
      clear HK
      go_wp2
      go_ret
      exact ⟨ret_int RES.out.symm, hf⟩
/- Walks of redundant on the reference's side, and of IsMinimal on both sides. -/

theorem vrule_lens {q : Int} {hd : List Int} {bd : List Atom} (h : vrule q hd bd = true) : hd.length ≤ 1000 ∧ bd.length ≤ 1000 ∧ 1 ≤ bd.length := by
  obtain ⟨_, _, h1, h2, h3, _⟩ := vrule_parts h
  exact ⟨by omega, by omega, h2⟩
theorem RulOut.rdN {base : Nat} {q : Int} {hd : List Int} {bd : List Atom} {r : Ending} {w' : World} (h : RulOut base q hd bd r w') : ∃ A c B d, r = .returned (.agg #[.int .i64 q, .slice A hd.length c, .slice B bd.length d]) ∧ RdSl rdInt w'.cell? 1 A hd ∧ RdSl rdAtom w'.cell? 3 B bd ∧ bd.length ≤ d ∧ d ≤ maxLen ∧ (A = none → c = 0) := by
  obtain ⟨A, c, B, d, h1, h2, h3⟩ := h
  refine ⟨A, c, B, d, h1, (own_int h2 rfl).mono rdInt_mono (fromB_le _ _), (own_A h3 rfl).mono rdAtom_mono (fromB_le _ _), (own_capM h3).1, (own_capM h3).2, fun hA => ?_⟩
  subst hA
  rcases h2.2 with ⟨h4, _⟩ | ⟨g, c', cur, hv, _⟩
  · simp only [Value.slice.injEq] at h4; exact h4.2.2
  · cases hv
set_option maxRecDepth 100000 in
set_option maxHeartbeats 4000000 in
theorem redundantS (q : Int) (A0 A1 : Option Addr) (c0 c1 : Nat) (hd : List Int) (bd : List Atom) (w : World) (hx0 : RdSl rdInt w.cell? 1 A0 hd) (hx1 : RdSl rdAtom w.cell? 3 A1 bd) (hv : vrule q hd bd = true) (hn0 : A0 = none → c0 = 0) (hc : bd.length ≤ c1) (hc2 : c1 ≤ maxLen) :
    Calls Tryz.prog 46 #[.agg #[.int .i64 q, .slice A0 hd.length c0, .slice A1 bd.length c1]] w fun r w' => r = .returned (.int .i64 (red q hd bd)) ∧ Fr w w' := by
  obtain ⟨lh, lb, lb1⟩ := vrule_lens hv
  have WO := hid (fun (k : Nat) (hk : k < bd.length) W (h : Fr w W) => withoutS q A0 A1 c0 c1 hd bd k W (hx0.fr rdInt_mono h) (hx1.fr rdAtom_mono h) lh lb hk hn0 hc hc2)
  have VR := hid (fun W (bd2 : List Atom) (B0 B1 : Option Addr) (d0 d1 : Nat) (g0 : RdSl rdInt W.cell? 1 B0 hd) (g1 : RdSl rdAtom W.cell? 3 B1 bd2) (gl : bd2.length ≤ 1000) => specVRule q B0 d0 hd B1 d1 bd2 W g0 g1 (by omega) (by omega))
  have HM := hid (fun W (h : Fr w W) (bd2 : List Atom) (B0 B1 : Option Addr) (d0 d1 : Nat) (g0 : RdSl rdInt W.cell? 1 B0 hd) (g1 : RdSl rdAtom W.cell? 3 B1 bd2) (e2 : vrule q hd bd2 = true) => specHomW q q A0 A1 B0 B1 c0 c1 d0 d1 hd hd bd bd2 W (hx0.fr rdInt_mono h) (hx1.fr rdAtom_mono h) g0 g1 hv e2)
  have HR := hid (show red q hd bd = redF q hd bd bd.length 0 from rfl)
  have BB := Blk.new w 26 #[.int .i64 q, .slice A0 hd.length c0, .slice A1 bd.length c1]
  have F1 := (Fr.refl w).alloc (.cells #[.int .i64 q, .slice A0 hd.length c0, .slice A1 bd.length c1] 26)
  clear hv hx0 hx1
  go_enter Tryz.func46, Tryz.ntmps46
  go_wp2_with fail
  generalize w.alloc (.cells #[.int .i64 q, .slice A0 hd.length c0, .slice A1 bd.length c1] 26) = w1 at BB F1 ⊢
  have HBB := hid BB
  clear BB
  go_loopw [3] (fun t wr => ∃ k : Nat, k ≤ bd.length ∧ t = .int .i64 k ∧ Fr w1 wr ∧ Hid (red q hd bd = redF q hd bd (bd.length - k) k)) (fun t _ => bd.length - (intOf t).toNat)
  case atStart => exact ⟨0, by omega, rfl, Fr.refl _, HR⟩
  case round =>
    obtain ⟨k, hk, rfl, hf, HK⟩ := hrel
    obtain ⟨b0, b1, b2, _⟩ := (HBB.out.fr hf).three
    have FW := F1.trans hf
    by_cases hlt : k < bd.length
    · have WK := hid (WO.out k hlt wr FW)
      have hll := lessA_len hlt
      have hsplit : bd.length - k = (bd.length - (k + 1)) + 1 := by omega
      have YES := hid (show redAt q hd bd k = true → red q hd bd = (k : Int) from fun h => by rw [HK.out, hsplit, redF_yes h])
      have NO := hid (show redAt q hd bd k = false → red q hd bd = redF q hd bd (bd.length - (k + 1)) (k + 1) from fun h => by rw [HK.out, hsplit, redF_no h])
      obtain ⟨bd2, eb2⟩ : ∃ x, lessA bd k = x := ⟨_, rfl⟩
      have RA := hid (show redAt q hd bd k = (vrule q hd bd2 && (homO q hd bd hd bd2).isSome) by unfold redAt; rw [eb2])
      rw [eb2] at WK hll
      clear HK hsplit eb2
      go_wp2_with fail
      refine WK.out.mono ?_
      rintro r5 w5 ⟨hp5, hF5⟩
      obtain ⟨B0, d0, B1, d1, rfl, g0, g1, gc, gm, gn⟩ := hp5.rdN
      have G0 := hid g0
      have G1 := hid g1
      have BX := Blk.new w5 26 #[.int .i64 q, .slice B0 hd.length d0, .slice B1 bd2.length d1]
      have F6 : Fr w5 (w5.alloc (.cells #[.int .i64 q, .slice B0 hd.length d0, .slice B1 bd2.length d1] 26)) := (Fr.refl w5).alloc _
      clear hp5 g0 g1 WK
      go_wp2_with fail
      generalize w5.alloc (.cells #[.int .i64 q, .slice B0 hd.length d0, .slice B1 bd2.length d1] 26) = w6 at BX F6 ⊢
      refine (VR.out w6 bd2 B0 B1 d0 d1 (G0.out.fr rdInt_mono F6) (G1.out.fr rdAtom_mono F6) (by omega)).mono ?_
      rintro r7 w7 ⟨rfl, hF7⟩
      have F17 := hf.trans (hF5.trans (F6.trans hF7))
      have FW7 := F1.trans F17
      cases hv2 : vrule q hd bd2
      · have NX := hid (NO.out (by rw [RA.out, hv2]; rfl))
        clear hv2 YES NO RA b0 b1 b2
        go_wp2
        go_roundw
        case rel => exact ⟨k + 1, by omega, by go_num, F17, NX⟩
        case measure => simp [intOf]; omega
      · obtain ⟨a0, a1, a2, _⟩ := (HBB.out.fr F17).three
        obtain ⟨x0, x1, x2, _⟩ := (BX.fr hF7).three
        have HMC := hid (HM.out w7 FW7 bd2 B0 B1 d0 d1 (G0.out.fr rdInt_mono (F6.trans hF7)) (G1.out.fr rdAtom_mono (F6.trans hF7)) hv2)
        have RA2 := hid (show redAt q hd bd k = (homO q hd bd hd bd2).isSome by rw [RA.out, hv2, Bool.true_and])
        clear hv2 b0 b1 b2 RA
        go_wp2_with fail
        refine HMC.out.mono ?_
        rintro r8 w8 ⟨hP, hF8⟩
        obtain ⟨v, rfl⟩ := hP.form
        obtain ⟨bb, ebb⟩ : ∃ bb, (homO q hd bd hd bd2).isSome = bb := ⟨_, rfl⟩
        have EB := hid ebb
        rw [ebb]
        have F18 := F17.trans hF8
        clear hP HMC a0 a1 a2 x0 x1 x2 ebb
        cases bb
        · have NX := hid (NO.out (by rw [RA2.out, EB.out]))
          clear YES NO RA2 EB
          go_wp2
          go_roundw
          case rel => exact ⟨k + 1, by omega, by go_num, F18, NX⟩
          case measure => simp [intOf]; omega
        · have RES := hid (YES.out (by rw [RA2.out, EB.out]))
          clear YES NO RA2 EB
          go_wp2
          go_ret
          exact ⟨ret_int RES.out.symm, F1.trans F18⟩
    · obtain rfl : k = bd.length := by omega
      have RES := hid (show red q hd bd = -1 by rw [HK.out, Nat.sub_self]; rfl)
      clear HK
      go_wp2
      go_ret
      exact ⟨ret_int RES.out.symm, FW⟩
/-- What IsMinimal answers. -/
def isMin (q : Int) (hd : List Int) (bd : List Atom) : Bool := vrule q hd bd && decide (red q hd bd < 0)
theorem isMin_eq {q : Int} {hd : List Int} {bd : List Atom} : decide (red q hd bd < 0) = (red q hd bd == -1) := by
  rcases red_out (q := q) (hd := hd) (bd := bd) with h | ⟨j, h, _⟩
  · rw [h]; decide
  · rw [h, Bool.eq_iff_iff]; simp
set_option maxRecDepth 100000 in
set_option maxHeartbeats 2000000 in
theorem implIsMin (q : Int) (A0 A1 : Option Addr) (c0 c1 : Nat) (hd : List Int) (bd : List Atom) (ei ea : Addr) (w : World) (hx0 : RdSl rdInt w.cell? 1 A0 hd) (hx1 : RdSl rdAtom w.cell? 3 A1 bd) (hl0 : hd.length ≤ 1048576) (hl1 : bd.length ≤ 1048576) (hc : bd.length ≤ c1) (hc2 : c1 ≤ maxLen)
    (he0 : w.cell? ⟨0, 0, none⟩ = some (noHom ei)) (he1 : w.cell? ⟨1, 0, none⟩ = some (noHom ea)) :
    Calls Tryz.prog 21 #[.agg #[.int .i64 q, .slice A0 hd.length c0, .slice A1 bd.length c1]] w fun r w' => r = .returned (.bool (isMin q hd bd)) ∧ Fr w w' := by
  have BB := Blk.new w 26 #[.int .i64 q, .slice A0 hd.length c0, .slice A1 bd.length c1]
  have F1 := (Fr.refl w).alloc (.cells #[.int .i64 q, .slice A0 hd.length c0, .slice A1 bd.length c1] 26)
  have VR := hid (fun W (h : Fr w W) => implValidRule q A0 c0 hd A1 c1 bd W (hx0.fr rdInt_mono h) (hx1.fr rdAtom_mono h) hl0 hl1)
  have RD := hid (fun W (h : Fr w W) (hb : Blk W w.heap.size 26 #[.int .i64 q, .slice A0 hd.length c0, .slice A1 bd.length c1]) (hv : vrule q hd bd = true) => redundantAtomW w.heap.size q A0 A1 c0 c1 hd bd ei ea W (hb.cell 0) (hb.cell 1) (hb.cell 2) (hx0.fr rdInt_mono h) (hx1.fr rdAtom_mono h) hv hc hc2 (h.cell he0) (h.cell he1))
  clear hx0 hx1 he0 he1
  go_enter Tryz.func21, Tryz.ntmps21
  go_wp2_with fail
  generalize w.alloc (.cells #[.int .i64 q, .slice A0 hd.length c0, .slice A1 bd.length c1] 26) = w1 at BB F1 ⊢
  refine (VR.out w1 F1).mono ?_
  rintro _ w2 ⟨rfl, hF2⟩
  have F2 := F1.trans hF2
  cases hv : vrule q hd bd
  · have RES := hid (show isMin q hd bd = false by unfold isMin; rw [hv]; rfl)
    clear hv
    go_wp2
    go_ret
    exact ⟨ret_bool RES.out.symm, F2⟩
  · have RDC := hid (RD.out w2 F2 (BB.fr hF2) hv)
    have RES := hid (show isMin q hd bd = (red q hd bd == -1) by unfold isMin; rw [hv, isMin_eq]; rfl)
    clear hv RD VR
    go_wp2_with fail
    refine RDC.out.mono ?_
    rintro _ w3 ⟨rfl, hF3⟩
    clear RDC
    go_wp2
    go_ret
    exact ⟨ret_bool RES.out.symm, F2.trans hF3⟩
/- Walk of the program's Minimize. -/

/-- The atoms that are left. -/
def minB (q : Int) (hd : List Int) (bd : List Atom) : List Atom := mini q hd bd.length bd
theorem minB_stop {q : Int} {hd : List Int} {bd : List Atom} (h : red q hd bd < 0) : minB q hd bd = bd := mini_stop h
theorem minB_step {q : Int} {hd : List Int} {bd : List Atom} {j : Nat} (h : red q hd bd = j) (hj : j < bd.length) : minB q hd bd = minB q hd (lessA bd j) := by
  unfold minB
  rw [← lessA_len hj, mini_step h]
theorem red_valid {q : Int} {hd : List Int} {bd : List Atom} {j : Nat} (h : red q hd bd = j) : j < bd.length ∧ vrule q hd (lessA bd j) = true := by
  rcases red_out (q := q) (hd := hd) (bd := bd) with h1 | ⟨i, h1, h2, h3⟩
  · omega
  · obtain rfl : i = j := by omega
    unfold redAt at h3
    rw [Bool.and_eq_true] at h3
    exact ⟨h2, h3.1⟩
/-- What Minimize answers. -/
def minR (q : Int) (hd : List Int) (bd : List Atom) : Int × List Int × List Atom := if vrule q hd bd then (q, hd, minB q hd bd) else (0, [], [])
/-- The query that is being minimized lies in block g. -/
def MnAt (w0 : World) (g : Nat) (q : Int) (hd : List Int) (L : List Atom) (wr : World) (bd : List Atom) : Prop :=
  ∃ A c B d, Blk wr g 26 #[.int .i64 q, .slice A hd.length c, .slice B bd.length d] ∧ wr.ownsRow w0.heap.size 3 1 (.slice A hd.length c) hd.length (hd.map iv) ∧ wr.ownsRow w0.heap.size 63 3 (.slice B bd.length d) bd.length (bd.flatMap cellsA) ∧
    vrule q hd bd = true ∧ minB q hd bd = L ∧ Fr w0 wr ∧ w0.heap.size ≤ g
theorem MnAt.next {w0 wr w' : World} {g j : Nat} {q : Int} {hd : List Int} {L bd : List Atom} {r : Ending} (h : MnAt w0 g q hd L wr bd) (hr : red q hd bd = j) (ho : RulOut wr.heap.size q hd (lessA bd j) r w') (hf : Fr wr w') :
    ∃ A c B d, r = .returned (.agg #[.int .i64 q, .slice A hd.length c, .slice B (lessA bd j).length d]) ∧ MnAt w0 g q hd L (((w'.setCell ⟨g, 0, none⟩ (.int .i64 q)).setCell ⟨g, 1, none⟩ (.slice A hd.length c)).setCell ⟨g, 2, none⟩ (.slice B (lessA bd j).length d)) (lessA bd j) ∧ (∃ a b c, Blk w' g 26 #[a, b, c]) := by
  obtain ⟨A0, c0, B0, d0, hB, _, _, hv, hm, hF, hg⟩ := h
  obtain ⟨A, c, B, d, rfl, h1, h2⟩ := ho
  have BG := hB.fr hf
  have e1 := mrow_ne h1 BG (by decide)
  have e2 := mrow_ne h2 BG (by decide)
  have hs := hF.size
  refine ⟨A, c, B, d, rfl, ⟨A, c, B, d, ?_, own_base (mrow_set (mrow_set (mrow_set h1 e1) e1) e1) hs, own_base (mrow_set (mrow_set (mrow_set h2 e2) e2) e2) hs, (red_valid hr).2, ?_, ?_, hg⟩, _, _, _, BG⟩
  · have := ((BG.set_ 0 (.int .i64 q)).set_ 1 (.slice A hd.length c)).set_ 2 (.slice B (lessA bd j).length d)
    simpa using this
  · rw [← minB_step hr (red_valid hr).1]; exact hm
  · exact (((hF.trans hf).setNew hg _).setNew hg _).setNew hg _
theorem MnAt.frM {w0 wr w' : World} {g : Nat} {q : Int} {hd : List Int} {L bd : List Atom} (h : MnAt w0 g q hd L wr bd) (hf : Fr wr w') : MnAt w0 g q hd L w' bd := by
  obtain ⟨A, c, B, d, h1, h2, h3, h4, h5, h6, h7⟩ := h
  exact ⟨A, c, B, d, h1.fr hf, own_fr h2 hf, own_fr h3 hf, h4, h5, h6.trans hf, h7⟩
/-- The number of atoms in block g. -/
def lenAt (g : Nat) (w : World) : Nat := match w.cell? ⟨g, 2, none⟩ with
  | some (.slice _ n _) => n
  | _ => 0
theorem MnAt.len {w0 wr : World} {g : Nat} {q : Int} {hd : List Int} {L bd : List Atom} (h : MnAt w0 g q hd L wr bd) : lenAt g wr = bd.length := by
  obtain ⟨A0, c0, B0, d0, hB, _⟩ := h
  unfold lenAt
  rw [hB.cell]; rfl
/-- What a walk reads. -/
theorem MnAt.cells {w0 wr : World} {g : Nat} {q : Int} {hd : List Int} {L bd : List Atom} (h : MnAt w0 g q hd L wr bd) : ∃ A c B d, Blk wr g 26 #[.int .i64 q, .slice A hd.length c, .slice B bd.length d] ∧ RdSl rdInt wr.cell? 1 A hd ∧ RdSl rdAtom wr.cell? 3 B bd ∧ bd.length ≤ d ∧ d ≤ maxLen ∧ (A = none → c = 0) ∧
    RulOut w0.heap.size q hd bd (.returned (.agg #[.int .i64 q, .slice A hd.length c, .slice B bd.length d])) wr := by
  obtain ⟨A, c, B, d, hB, h1, h2, _⟩ := h
  have ho : RulOut w0.heap.size q hd bd (.returned (.agg #[.int .i64 q, .slice A hd.length c, .slice B bd.length d])) wr := ⟨A, c, B, d, rfl, h1, h2⟩
  have := ho.rdN
  obtain ⟨A', c', B', d', e, k1, k2, k3, k4, k5⟩ := ho.rdN
  simp only [Ending.returned.injEq, Value.agg.injEq, Array.mk.injEq, List.cons.injEq, Value.slice.injEq, and_true, true_and] at e
  obtain ⟨⟨rfl, rfl⟩, rfl, rfl⟩ := e
  exact ⟨A, c, B, d, hB, k1, k2, k3, k4, k5, ho⟩
theorem RulOut.frR {b0 b1 : Nat} {w w' : World} {q : Int} {hd : List Int} {bd : List Atom} {r : Ending} (h : RulOut b1 q hd bd r w) (hf : Fr w w') (hb : b0 ≤ b1) : RulOut b0 q hd bd r w' := by
  obtain ⟨A, c, B, d, h1, h2, h3⟩ := h
  exact ⟨A, c, B, d, h1, own_base (own_fr h2 hf) hb, own_base (own_fr h3 hf) hb⟩
theorem RulOut.lowR {b0 b1 : Nat} {w : World} {q : Int} {hd : List Int} {bd : List Atom} {r : Ending} (h : RulOut b1 q hd bd r w) (hb : b0 ≤ b1) : RulOut b0 q hd bd r w := h.frR (Fr.refl w) hb
theorem RulOut.put3 {b0 g : Nat} {w : World} {q : Int} {hd : List Int} {bd : List Atom} {r : Ending} {cs : Array Value} (h : RulOut b0 q hd bd r w) (hB : Blk w g 26 cs) {x y z : Value} : RulOut b0 q hd bd r (((w.setCell ⟨g, 0, none⟩ x).setCell ⟨g, 1, none⟩ y).setCell ⟨g, 2, none⟩ z) := by
  obtain ⟨A, c, B, d, h1, h2, h3⟩ := h
  have e1 := mrow_ne h2 hB (by decide)
  have e2 := mrow_ne h3 hB (by decide)
  exact ⟨A, c, B, d, h1, mrow_set (mrow_set (mrow_set h2 e1) e1) e1, mrow_set (mrow_set (mrow_set h3 e2) e2) e2⟩
set_option maxRecDepth 100000 in
set_option maxHeartbeats 4000000 in
theorem implMinimize (q : Int) (A0 A1 : Option Addr) (c0 c1 : Nat) (hd : List Int) (bd : List Atom) (ei ea : Addr) (w : World) (hx0 : RdSl rdInt w.cell? 1 A0 hd) (hx1 : RdSl rdAtom w.cell? 3 A1 bd) (hl0 : hd.length ≤ 1048576) (hl1 : bd.length ≤ 1048576)
    (he0 : w.cell? ⟨0, 0, none⟩ = some (noHom ei)) (he1 : w.cell? ⟨1, 0, none⟩ = some (noHom ea)) :
    Calls Tryz.prog 18 #[.agg #[.int .i64 q, .slice A0 hd.length c0, .slice A1 bd.length c1]] w fun r w' => RulOut w.heap.size (minR q hd bd).1 (minR q hd bd).2.1 (minR q hd bd).2.2 r w' ∧ Fr w w' := by
  have B0' := (Blk.new w 26 #[.int .i64 q, .slice A0 hd.length c0, .slice A1 bd.length c1]).alloc (.cells #[.int .i64 0, .slice none 0 0, .slice none 0 0] 26)
  have B1' := Blk.new (w.alloc (.cells #[.int .i64 q, .slice A0 hd.length c0, .slice A1 bd.length c1] 26)) 26 #[.int .i64 0, .slice none 0 0, .slice none 0 0]
  rw [World.size_alloc] at B1'
  have F1 : Fr w ((w.alloc (.cells #[.int .i64 q, .slice A0 hd.length c0, .slice A1 bd.length c1] 26)).alloc (.cells #[.int .i64 0, .slice none 0 0, .slice none 0 0] 26)) := by (repeat (first | with_reducible exact Fr.refl _ | with_reducible assumption | with_reducible refine Fr.alloc ?_ _ | with_reducible refine Fr.drew ?_ | with_reducible refine Fr.drewN ?_ _ | (with_reducible refine Fr.setNew2 ?_ ?_ _; · (simp <;> omega)) | with_reducible refine Fr.trans ?_ (by assumption)))
  have VR := hid (fun W (h : Fr w W) => implValidRule q A0 c0 hd A1 c1 bd W (hx0.fr rdInt_mono h) (hx1.fr rdAtom_mono h) hl0 hl1)
  have C0 := hid (fun W (h : Fr w W) => copiedIntsO A0 c0 hd W (hx0.fr rdInt_mono h) hl0)
  have C1 := hid (fun W (h : Fr w W) => copiedAtoms A1 c1 bd W (hx1.fr rdAtom_mono h) hl1)
  clear hx0 hx1
  go_enter Tryz.func18, Tryz.ntmps18
  go_wp2_with fail
  generalize (w.alloc (.cells #[.int .i64 q, .slice A0 hd.length c0, .slice A1 bd.length c1] 26)).alloc (.cells #[.int .i64 0, .slice none 0 0, .slice none 0 0] 26) = w1 at B0' B1' F1 ⊢
  refine (VR.out w1 F1).mono ?_
  rintro _ w2 ⟨rfl, hF2⟩
  have F2 := F1.trans hF2
  replace B0' := B0'.fr hF2
  replace B1' := B1'.fr hF2
  obtain ⟨z0, z1, z2, zf0, zf1, zf2⟩ := B1'.three
  cases hv : vrule q hd bd
  · have RES : Hid (∀ W, RulOut w.heap.size (minR q hd bd).1 (minR q hd bd).2.1 (minR q hd bd).2.2 (.returned (.agg #[.int .i64 0, .slice none 0 0, .slice none 0 0])) W) := hid fun W => by
      unfold minR; rw [hv]; exact ⟨none, 0, none, 0, rfl, own_nil, own_nil⟩
    have FE : Fr w (((w2.setCell ⟨w.heap.size + 1, 0, none⟩ (.int .i64 0)).setCell ⟨w.heap.size + 1, 1, none⟩ (.slice none 0 0)).setCell ⟨w.heap.size + 1, 2, none⟩ (.slice none 0 0)) := ((F2.setNew (Nat.le_succ _) _).setNew (Nat.le_succ _) _).setNew (Nat.le_succ _) _
    have BE := ((B1'.set_ 0 (.int .i64 0)).set_ 1 (.slice none 0 0)).set_ 2 (.slice none 0 0)
    clear hv B0'
    go_wp2
    obtain ⟨u0, u1, u2, _⟩ := BE.three
    clear BE z0 z1 z2 zf0 zf1 zf2 B1'
    generalize ((w2.setCell ⟨w.heap.size + 1, 0, none⟩ (.int .i64 0)).setCell ⟨w.heap.size + 1, 1, none⟩ (.slice none 0 0)).setCell ⟨w.heap.size + 1, 2, none⟩ (.slice none 0 0) = w9 at FE u0 u1 u2 ⊢
    refine bodyPost_ret (v := .agg #[.int .i64 0, .slice none 0 0, .slice none 0 0]) (by simp [results, Tryz.results18, go_sem, u0, u1, u2]) rfl ?_
    exact ⟨RES.out _, FE⟩
  · obtain ⟨lh, lb, lb1⟩ := vrule_lens hv
    obtain ⟨b0, b1, b2, _⟩ := B0'.three
    have hw2 := F2.size
    have hlt2 := B1'.lt
    have MIN := hid (show minR q hd bd = (q, hd, minB q hd bd) by unfold minR; rw [hv]; rfl)
    have HV := hid hv
    clear hv VR z0 z1 z2 zf0 zf1 zf2
    go_wp2_with fail
    have keepL : ∀ W' : World, Fr w2 W' → (Fr w2 W' ∧ W'.cell? ⟨w.heap.size, 0, none⟩ = some (.int .i64 q) ∧ W'.cell? ⟨w.heap.size, 1, none⟩ = some (.slice A0 hd.length c0) ∧ W'.cell? ⟨w.heap.size, 2, none⟩ = some (.slice A1 bd.length c1)) := fun W' F => ⟨F, F.cell b0, F.cell b1, F.cell b2⟩
    go_region_held3 (fun W' => Fr w2 W' ∧ W'.cell? ⟨w.heap.size, 0, none⟩ = some (.int .i64 q) ∧ W'.cell? ⟨w.heap.size, 1, none⟩ = some (.slice A0 hd.length c0) ∧ W'.cell? ⟨w.heap.size, 2, none⟩ = some (.slice A1 bd.length c1)) ((refine keepL _ ?_; (repeat (first | with_reducible exact Fr.refl _ | with_reducible assumption | with_reducible refine Fr.alloc ?_ _ | with_reducible refine Fr.drew ?_ | with_reducible refine Fr.drewN ?_ _ | (with_reducible refine Fr.setNew2 ?_ ?_ _; · (simp <;> omega)) | with_reducible refine Fr.trans ?_ (by assumption))); done))
      (first
        | (go_at_call 41; (with_reducible refine (C0.out _ ?_).mono ?_); (· exact F2.trans (by (repeat (first | with_reducible exact Fr.refl _ | with_reducible assumption | with_reducible refine Fr.alloc ?_ _ | with_reducible refine Fr.drew ?_ | with_reducible refine Fr.drewN ?_ _ | (with_reducible refine Fr.setNew2 ?_ ?_ _; · (simp <;> omega)) | with_reducible refine Fr.trans ?_ (by assumption))))); rintro r5 w5 ⟨A5, k5, rfl, hO5, hF5⟩; have F5 : Fr w2 w5 := Fr.trans (by (repeat (first | with_reducible exact Fr.refl _ | with_reducible assumption | with_reducible refine Fr.alloc ?_ _ | with_reducible refine Fr.drew ?_ | with_reducible refine Fr.drewN ?_ _ | (with_reducible refine Fr.setNew2 ?_ ?_ _; · (simp <;> omega)) | with_reducible refine Fr.trans ?_ (by assumption)))) hF5; have HO5 := hid (own_base hO5 (show w2.heap.size ≤ _ from Fr.size (w := w2) (by (repeat (first | with_reducible exact Fr.refl _ | with_reducible assumption | with_reducible refine Fr.alloc ?_ _ | with_reducible refine Fr.drew ?_ | with_reducible refine Fr.drewN ?_ _ | (with_reducible refine Fr.setNew2 ?_ ?_ _; · (simp <;> omega)) | with_reducible refine Fr.trans ?_ (by assumption)))))); have hs5 := F5.size; clear hO5; (first | (have BG := (Blk.new w2 26 #[.int .i64 0, .slice none 0 0, .slice none 0 0]).drew.fr hF5; obtain ⟨g0, g1, g2, gf0, gf1, gf2⟩ := BG.three) | (have BG := (Blk.new w2 26 #[.int .i64 0, .slice none 0 0, .slice none 0 0]).fr hF5; obtain ⟨g0, g1, g2, gf0, gf1, gf2⟩ := BG.three) | skip))
        | (go_at_call 42; (with_reducible refine (C1.out _ ?_).mono ?_); (· exact F2.trans (by (repeat (first | with_reducible exact Fr.refl _ | with_reducible assumption | with_reducible refine Fr.alloc ?_ _ | with_reducible refine Fr.drew ?_ | with_reducible refine Fr.drewN ?_ _ | (with_reducible refine Fr.setNew2 ?_ ?_ _; · (simp <;> omega)) | with_reducible refine Fr.trans ?_ (by assumption))))); rintro r6 w6 ⟨A6, k6, rfl, hO6, hF6⟩; have F6 : Fr w2 w6 := Fr.trans (by (repeat (first | with_reducible exact Fr.refl _ | with_reducible assumption | with_reducible refine Fr.alloc ?_ _ | with_reducible refine Fr.drew ?_ | with_reducible refine Fr.drewN ?_ _ | (with_reducible refine Fr.setNew2 ?_ ?_ _; · (simp <;> omega)) | with_reducible refine Fr.trans ?_ (by assumption)))) hF6; have G6 : Fr w5 w6 := Fr.trans (by (repeat (first | with_reducible exact Fr.refl _ | with_reducible assumption | with_reducible refine Fr.alloc ?_ _ | with_reducible refine Fr.drew ?_ | with_reducible refine Fr.drewN ?_ _ | (with_reducible refine Fr.setNew2 ?_ ?_ _; · (simp <;> omega)) | with_reducible refine Fr.trans ?_ (by assumption)))) hF6; have HO6 := hid (own_base hO6 (show w2.heap.size ≤ _ from Fr.size (w := w2) (by (repeat (first | with_reducible exact Fr.refl _ | with_reducible assumption | with_reducible refine Fr.alloc ?_ _ | with_reducible refine Fr.drew ?_ | with_reducible refine Fr.drewN ?_ _ | (with_reducible refine Fr.setNew2 ?_ ?_ _; · (simp <;> omega)) | with_reducible refine Fr.trans ?_ (by assumption)))))); have HO56 := hid (own_fr HO5.out G6); have hs6 := F6.size; have hs56 := G6.size; clear hO6; (first | (replace BG := BG.fr G6; obtain ⟨g0', g1', g2', gf0', gf1', gf2'⟩ := BG.three) | (have BG := (Blk.new w5 26 #[.int .i64 0, .slice none 0 0, .slice none 0 0]).drew.fr hF6; obtain ⟨g0', g1', g2', gf0', gf1', gf2'⟩ := BG.three) | (have BG := (Blk.new w5 26 #[.int .i64 0, .slice none 0 0, .slice none 0 0]).fr hF6; obtain ⟨g0', g1', g2', gf0', gf1', gf2'⟩ := BG.three) | skip))
        | fail)
    all_goals clear keepL C0 C1 b0 b1 b2
    all_goals have HE0 := hid he0
    all_goals have HE1 := hid he1
    all_goals (first
      | (have BGx : Blk w6 w2.heap.size 26 #[.int .i64 0, .slice none 0 0, .slice none 0 0] := BG
         have B6 := B1'.fr F6
         have hgx : w2.heap.size ≤ w2.heap.size := Nat.le_refl _
         have e1 := mrow_ne HO56.out BGx (by decide)
         have e2 := mrow_ne HO6.out BGx (by decide)
         have M0 : MnAt w2 w2.heap.size q hd (minB q hd bd) (((w6.setCell ⟨w2.heap.size, 0, none⟩ (.int .i64 q)).setCell ⟨w2.heap.size, 1, none⟩ (.slice A5 hd.length k5)).setCell ⟨w2.heap.size, 2, none⟩ (.slice A6 bd.length k6)) bd := ⟨A5, k5, A6, k6, by simpa using ((BGx.set_ 0 (.int .i64 q)).set_ 1 (.slice A5 hd.length k5)).set_ 2 (.slice A6 bd.length k6), mrow_set (mrow_set (mrow_set HO56.out e1) e1) e1, mrow_set (mrow_set (mrow_set HO6.out e2) e2) e2, HV.out, rfl, ((F6.setNew hgx _).setNew hgx _).setNew hgx _, hgx⟩
         have hne : w.heap.size + 1 ≠ w2.heap.size := by omega
         have BZ := ((B6.far (p := ⟨w2.heap.size, 0, none⟩) hne (.int .i64 q)).far (p := ⟨w2.heap.size, 1, none⟩) hne (.slice A5 hd.length k5)).far (p := ⟨w2.heap.size, 2, none⟩) hne (.slice A6 bd.length k6)
         have HM0 := hid (And.intro M0 BZ)
         clear M0 BZ B6 HO5 HO56 HO6 e1 e2 BGx BG g0' g1' g2' gf0' gf1' gf2'
         generalize ((w6.setCell ⟨w2.heap.size, 0, none⟩ (.int .i64 q)).setCell ⟨w2.heap.size, 1, none⟩ (.slice A5 hd.length k5)).setCell ⟨w2.heap.size, 2, none⟩ (.slice A6 bd.length k6) = w7 at HM0 ⊢
         have hng : w.heap.size + 1 < w2.heap.size := by omega
         obtain ⟨g, eg⟩ : ∃ g, w2.heap.size = g := ⟨_, rfl⟩
         rw [show MnAt w2 w2.heap.size = MnAt w2 g by rw [eg]] at HM0
         rw [eg] at hng ⊢
         clear eg)
      | (have BGx : Blk w6 w5.heap.size 26 #[.int .i64 0, .slice none 0 0, .slice none 0 0] := BG
         have B6 := B1'.fr F6
         have hgx : w2.heap.size ≤ w5.heap.size := hs5
         have e1 := mrow_ne HO56.out BGx (by decide)
         have e2 := mrow_ne HO6.out BGx (by decide)
         have M0 : MnAt w2 w5.heap.size q hd (minB q hd bd) (((w6.setCell ⟨w5.heap.size, 0, none⟩ (.int .i64 q)).setCell ⟨w5.heap.size, 1, none⟩ (.slice A5 hd.length k5)).setCell ⟨w5.heap.size, 2, none⟩ (.slice A6 bd.length k6)) bd := ⟨A5, k5, A6, k6, by simpa using ((BGx.set_ 0 (.int .i64 q)).set_ 1 (.slice A5 hd.length k5)).set_ 2 (.slice A6 bd.length k6), mrow_set (mrow_set (mrow_set HO56.out e1) e1) e1, mrow_set (mrow_set (mrow_set HO6.out e2) e2) e2, HV.out, rfl, ((F6.setNew hgx _).setNew hgx _).setNew hgx _, hgx⟩
         have hne : w.heap.size + 1 ≠ w5.heap.size := by omega
         have BZ := ((B6.far (p := ⟨w5.heap.size, 0, none⟩) hne (.int .i64 q)).far (p := ⟨w5.heap.size, 1, none⟩) hne (.slice A5 hd.length k5)).far (p := ⟨w5.heap.size, 2, none⟩) hne (.slice A6 bd.length k6)
         have HM0 := hid (And.intro M0 BZ)
         clear M0 BZ B6 HO5 HO56 HO6 e1 e2 BGx BG g0' g1' g2' gf0' gf1' gf2'
         generalize ((w6.setCell ⟨w5.heap.size, 0, none⟩ (.int .i64 q)).setCell ⟨w5.heap.size, 1, none⟩ (.slice A5 hd.length k5)).setCell ⟨w5.heap.size, 2, none⟩ (.slice A6 bd.length k6) = w7 at HM0 ⊢
         have hng : w.heap.size + 1 < w5.heap.size := by omega
         obtain ⟨g, eg⟩ : ∃ g, w5.heap.size = g := ⟨_, rfl⟩
         rw [eg] at HM0 hng ⊢
         clear eg)
      | (have B6 := B1'.fr F6
         have M0 : MnAt w2 w6.heap.size q hd (minB q hd bd) (w6.alloc (.cells #[.int .i64 q, .slice A5 hd.length k5, .slice A6 bd.length k6] 26)) bd := ⟨A5, k5, A6, k6, Blk.new w6 _ _, own_fr HO56.out ((Fr.refl w6).alloc _), own_fr HO6.out ((Fr.refl w6).alloc _), HV.out, rfl, F6.alloc _, hs6⟩
         have BZ := B6.alloc (.cells #[.int .i64 q, .slice A5 hd.length k5, .slice A6 bd.length k6] 26)
         have HM0 := hid (And.intro M0 BZ)
         have hgx := hs6
         clear M0 BZ B6 HO5 HO56 HO6
         generalize w6.alloc (.cells #[.int .i64 q, .slice A5 hd.length k5, .slice A6 bd.length k6] 26) = w7 at HM0 ⊢
         have hng : w.heap.size + 1 < w6.heap.size := by omega
         obtain ⟨g, eg⟩ : ∃ g, w6.heap.size = g := ⟨_, rfl⟩
         rw [eg] at HM0 hng ⊢
         clear eg)
      | fail)
    all_goals clear hgx
    all_goals go_wp2_with fail
    all_goals (
      go_loopw [4] (fun _ wr => Hid (∃ bd', MnAt w2 g q hd (minB q hd bd) wr bd' ∧ Blk wr (w.heap.size + 1) 26 #[.int .i64 0, .slice none 0 0, .slice none 0 0])) (fun _ wr => lenAt g wr)
      case atStart => exact hid ⟨bd, HM0.out⟩
      case round =>
        obtain ⟨bd', hM, hZ⟩ := hrel.out
        obtain ⟨A, c, B, d, hG, g0, g1, gc, gm, gn, gO⟩ := hM.cells
        have hvl : vrule q hd bd' = true := by obtain ⟨_, _, _, _, _, _, _, h, _⟩ := hM; exact h
        have hmL : minB q hd bd' = minB q hd bd := by obtain ⟨_, _, _, _, _, _, _, _, h, _⟩ := hM; exact h
        have FR : Fr w2 wr := by obtain ⟨_, _, _, _, _, _, _, _, _, h, _⟩ := hM; exact h
        have FWr := F2.trans FR
        obtain ⟨lh', lb', lb1'⟩ := vrule_lens hvl
        have RD := hid (redundantAtomW g q A B c d hd bd' ei ea wr (hG.cell 0) (hG.cell 1) (hG.cell 2) g0 g1 hvl gc gm (FWr.cell HE0.out) (FWr.cell HE1.out))
        have HM := hid hM
        have HZ := hid hZ
        have HG := hid hG
        have G0 := hid g0
        have G1 := hid g1
        have GO := hid gO
        have ML := hid hmL
        have VL := hid hvl
        clear hM hZ hG g0 g1 gO hmL hvl
        go_wp2_with fail
        refine RD.out.mono ?_
        rintro _ w8 ⟨rfl, hF8⟩
        obtain ⟨rr, err⟩ : ∃ rr, red q hd bd' = rr := ⟨_, rfl⟩
        have ER := hid err
        rw [err]
        clear RD err
        by_cases hneg : rr = -1
        · subst hneg
          obtain ⟨y0, y1, y2, _⟩ := (HG.out.fr hF8).three
          have BZ8 := HZ.out.fr hF8
          obtain ⟨z0, z1, z2, zf0, zf1, zf2⟩ := BZ8.three
          have FW8 := FWr.trans hF8
          have BE := ((BZ8.set_ 0 (.int .i64 q)).set_ 1 (.slice A hd.length c)).set_ 2 (.slice B bd'.length d)
          have FE : Fr w (((w8.setCell ⟨w.heap.size + 1, 0, none⟩ (.int .i64 q)).setCell ⟨w.heap.size + 1, 1, none⟩ (.slice A hd.length c)).setCell ⟨w.heap.size + 1, 2, none⟩ (.slice B bd'.length d)) := ((FW8.setNew (Nat.le_succ _) _).setNew (Nat.le_succ _) _).setNew (Nat.le_succ _) _
          have RES := hid (show RulOut w.heap.size (minR q hd bd).1 (minR q hd bd).2.1 (minR q hd bd).2.2 (.returned (.agg #[.int .i64 q, .slice A hd.length c, .slice B bd'.length d])) (((w8.setCell ⟨w.heap.size + 1, 0, none⟩ (.int .i64 q)).setCell ⟨w.heap.size + 1, 1, none⟩ (.slice A hd.length c)).setCell ⟨w.heap.size + 1, 2, none⟩ (.slice B bd'.length d)) by
            rw [MIN.out, ← ML.out, minB_stop (by rw [ER.out]; decide)]
            exact (GO.out.frR hF8 hw2).put3 BZ8)
          clear BZ8 ER GO ML VL G0 G1 HG HZ HM
          go_wp2
          obtain ⟨u0, u1, u2, _⟩ := BE.three
          clear BE z0 z1 z2 zf0 zf1 zf2 y0 y1 y2
          generalize ((w8.setCell ⟨w.heap.size + 1, 0, none⟩ (.int .i64 q)).setCell ⟨w.heap.size + 1, 1, none⟩ (.slice A hd.length c)).setCell ⟨w.heap.size + 1, 2, none⟩ (.slice B bd'.length d) = w9 at FE RES u0 u1 u2 ⊢
          refine bodyPost_ret (v := .agg #[.int .i64 q, .slice A hd.length c, .slice B bd'.length d]) (by simp [results, Tryz.results18, go_sem, u0, u1, u2]) rfl ?_
          exact ⟨RES.out, FE⟩
        · obtain ⟨j, hj⟩ : ∃ j : Nat, red q hd bd' = j := by
            rcases red_out (q := q) (hd := hd) (bd := bd') with h | ⟨j, h, _⟩
            · exact absurd (ER.out.symm.trans h) hneg
            · exact ⟨j, h⟩
          obtain rfl : rr = j := by rw [← ER.out, hj]
          have HJ := hid hj
          have hjl := (red_valid hj).1
          have WT := hid (withoutW g q A B c d hd bd' j w8 ((HG.out.fr hF8).cell 0) ((HG.out.fr hF8).cell 1) ((HG.out.fr hF8).cell 2) (G0.out.fr rdInt_mono hF8) (G1.out.fr rdAtom_mono hF8) lh' lb' hjl gc gm)
          have hlen := HM.out.len
          have hle := lessA_len hjl
          have hn1 : ((j : Int) == -1) = false := by simp
          clear hj ER hneg
          go_wp2_with fail
          refine WT.out.mono ?_
          rintro r9 w9 ⟨ho9, hF9⟩
          obtain ⟨A', c', B', d', rfl, M9, x0, x1, x2, BG9⟩ := HM.out.next HJ.out (ho9.lowR hF8.size) (hF8.trans hF9)
          have BZ9 := HZ.out.fr (hF8.trans hF9)
          have hne : w.heap.size + 1 ≠ g := by omega
          have NX := hid (show ∃ bx, MnAt w2 g q hd (minB q hd bd) (((w9.setCell ⟨g, 0, none⟩ (.int .i64 q)).setCell ⟨g, 1, none⟩ (.slice A' hd.length c')).setCell ⟨g, 2, none⟩ (.slice B' (lessA bd' j).length d')) bx ∧ Blk (((w9.setCell ⟨g, 0, none⟩ (.int .i64 q)).setCell ⟨g, 1, none⟩ (.slice A' hd.length c')).setCell ⟨g, 2, none⟩ (.slice B' (lessA bd' j).length d')) (w.heap.size + 1) 26 #[.int .i64 0, .slice none 0 0, .slice none 0 0] from ⟨lessA bd' j, M9, ((BZ9.far (p := ⟨g, 0, none⟩) hne (.int .i64 q)).far (p := ⟨g, 1, none⟩) hne (.slice A' hd.length c')).far (p := ⟨g, 2, none⟩) hne (.slice B' (lessA bd' j).length d')⟩)
          have hlen2 := M9.len
          obtain ⟨y0, y1, y2, yf0, yf1, yf2⟩ := BG9.three
          clear ho9 M9 BZ9 GO ML VL G0 G1 HG HZ HM WT BG9
          obtain ⟨NL, eNL⟩ : ∃ n, (lessA bd' j).length = n := ⟨_, rfl⟩
          rw [eNL] at NX hlen2 hle ⊢
          clear eNL
          go_wp2
          go_roundw
          case rel => exact NX
          case measure => rw [hlen2, hlen]; omega)
/- Walk of the reference's Minimize. -/

theorem mini_len {q : Int} {hd : List Int} : ∀ {n : Nat} {bd : List Atom}, (mini q hd n bd).length ≤ bd.length
  | 0, bd => Nat.le_refl _
  | n + 1, bd => by
    unfold mini
    split
    · exact Nat.le_refl _
    · refine Nat.le_trans mini_len ?_
      unfold lessA
      simp; omega
theorem minR_len {q : Int} {hd : List Int} {bd : List Atom} : (minR q hd bd).2.1.length ≤ 2000 ∧ (minR q hd bd).2.2.length ≤ 2000 := by
  unfold minR
  split
  · rename_i h
    have := vrule_lens h
    have h2 : (minB q hd bd).length ≤ bd.length := mini_len
    exact ⟨by simp only; omega, by simp only; omega⟩
  · exact ⟨by simp, by simp⟩
set_option maxRecDepth 100000 in
set_option maxHeartbeats 4000000 in
theorem specMinimize (q : Int) (A0 A1 : Option Addr) (c0 c1 : Nat) (hd : List Int) (bd : List Atom) (w : World) (hx0 : RdSl rdInt w.cell? 1 A0 hd) (hx1 : RdSl rdAtom w.cell? 3 A1 bd) (hl0 : hd.length ≤ 1048576) (hl1 : bd.length ≤ 1048576) (hn0 : A0 = none → c0 = 0) (hn1 : A1 = none → c1 = 0) :
    Calls Tryz.prog 20 #[.agg #[.int .i64 q, .slice A0 hd.length c0, .slice A1 bd.length c1]] w fun r w' => RulOut w.heap.size (minR q hd bd).1 (minR q hd bd).2.1 (minR q hd bd).2.2 r w' ∧ Fr w w' := by
  have B0' := (Blk.new w 26 #[.int .i64 q, .slice A0 hd.length c0, .slice A1 bd.length c1]).alloc (.cells #[.int .i64 0, .slice none 0 0, .slice none 0 0] 26)
  have B1' := Blk.new (w.alloc (.cells #[.int .i64 q, .slice A0 hd.length c0, .slice A1 bd.length c1] 26)) 26 #[.int .i64 0, .slice none 0 0, .slice none 0 0]
  rw [World.size_alloc] at B1'
  have F1 : Fr w ((w.alloc (.cells #[.int .i64 q, .slice A0 hd.length c0, .slice A1 bd.length c1] 26)).alloc (.cells #[.int .i64 0, .slice none 0 0, .slice none 0 0] 26)) := by (repeat (first | with_reducible exact Fr.refl _ | with_reducible assumption | with_reducible refine Fr.alloc ?_ _ | with_reducible refine Fr.drew ?_ | with_reducible refine Fr.drewN ?_ _ | (with_reducible refine Fr.setNew2 ?_ ?_ _; · (simp <;> omega)) | with_reducible refine Fr.trans ?_ (by assumption)))
  have VR := hid (fun W (h : Fr w W) => specVRule q A0 c0 hd A1 c1 bd W (hx0.fr rdInt_mono h) (hx1.fr rdAtom_mono h) hl0 hl1)
  have CR := hid (fun W (h : Fr w W) => copyRuleW q A0 A1 c0 c1 hd bd W (hx0.fr rdInt_mono h) (hx1.fr rdAtom_mono h) hl0 hl1 hn0 hn1)
  clear hx0 hx1
  go_enter Tryz.func20, Tryz.ntmps20
  go_wp2_with fail
  generalize (w.alloc (.cells #[.int .i64 q, .slice A0 hd.length c0, .slice A1 bd.length c1] 26)).alloc (.cells #[.int .i64 0, .slice none 0 0, .slice none 0 0] 26) = w1 at B0' B1' F1 ⊢
  refine (VR.out w1 F1).mono ?_
  rintro _ w2 ⟨rfl, hF2⟩
  have F2 := F1.trans hF2
  replace B0' := B0'.fr hF2
  replace B1' := B1'.fr hF2
  obtain ⟨z0, z1, z2, zf0, zf1, zf2⟩ := B1'.three
  cases hv : vrule q hd bd
  · have RES : Hid (∀ W, RulOut w.heap.size (minR q hd bd).1 (minR q hd bd).2.1 (minR q hd bd).2.2 (.returned (.agg #[.int .i64 0, .slice none 0 0, .slice none 0 0])) W) := hid fun W => by
      unfold minR; rw [hv]; exact ⟨none, 0, none, 0, rfl, own_nil, own_nil⟩
    have FE : Fr w (((w2.setCell ⟨w.heap.size + 1, 0, none⟩ (.int .i64 0)).setCell ⟨w.heap.size + 1, 1, none⟩ (.slice none 0 0)).setCell ⟨w.heap.size + 1, 2, none⟩ (.slice none 0 0)) := ((F2.setNew (Nat.le_succ _) _).setNew (Nat.le_succ _) _).setNew (Nat.le_succ _) _
    have BE := ((B1'.set_ 0 (.int .i64 0)).set_ 1 (.slice none 0 0)).set_ 2 (.slice none 0 0)
    clear hv B0'
    go_wp2
    obtain ⟨u0, u1, u2, _⟩ := BE.three
    clear BE z0 z1 z2 zf0 zf1 zf2 B1'
    generalize ((w2.setCell ⟨w.heap.size + 1, 0, none⟩ (.int .i64 0)).setCell ⟨w.heap.size + 1, 1, none⟩ (.slice none 0 0)).setCell ⟨w.heap.size + 1, 2, none⟩ (.slice none 0 0) = w9 at FE u0 u1 u2 ⊢
    refine bodyPost_ret (v := .agg #[.int .i64 0, .slice none 0 0, .slice none 0 0]) (by simp [results, Tryz.results20, go_sem, u0, u1, u2]) rfl ?_
    exact ⟨RES.out _, FE⟩
  · obtain ⟨lh, lb, lb1⟩ := vrule_lens hv
    obtain ⟨b0, b1, b2, _⟩ := B0'.three
    have hw2 := F2.size
    have hlt2 := B1'.lt
    have MIN := hid (show minR q hd bd = (q, hd, minB q hd bd) by unfold minR; rw [hv]; rfl)
    have CRC := hid (CR.out w2 F2)
    have HV := hid hv
    clear hv VR CR z0 z1 z2 zf0 zf1 zf2
    go_wp2_with fail
    refine CRC.out.mono ?_
    rintro r3 w3 ⟨⟨A3, k3, B3, j3, rfl, hO3, hO3'⟩, hF3⟩
    have M0 : MnAt w2 w3.heap.size q hd (minB q hd bd) (w3.alloc (.cells #[.int .i64 q, .slice A3 hd.length k3, .slice B3 bd.length j3] 26)) bd := ⟨A3, k3, B3, j3, Blk.new w3 _ _, own_fr hO3 ((Fr.refl w3).alloc _), own_fr hO3' ((Fr.refl w3).alloc _), HV.out, rfl, hF3.alloc _, hF3.size⟩
    have BZ := (B1'.fr hF3).alloc (.cells #[.int .i64 q, .slice A3 hd.length k3, .slice B3 bd.length j3] 26)
    have BG0 := Blk.new w3 26 #[.int .i64 q, .slice A3 hd.length k3, .slice B3 bd.length j3]
    have hng : w.heap.size + 1 < w3.heap.size := by have := hF3.size; omega
    have FA : Fr w2 (w3.alloc (.cells #[.int .i64 q, .slice A3 hd.length k3, .slice B3 bd.length j3] 26)) := hF3.alloc _
    have HM0 := hid (And.intro M0 BZ)
    obtain ⟨A, c, B, d, hG, g0, g1, gc, gm, gn, gO⟩ := M0.cells
    have RD := hid (fun (L : List Atom) (A B : Option Addr) (c d : Nat) W (g0 : RdSl rdInt W.cell? 1 A hd) (g1 : RdSl rdAtom W.cell? 3 B L) (hv : vrule q hd L = true) (gn : A = none → c = 0) (gc : L.length ≤ d) (gm : d ≤ maxLen) => redundantS q A B c d hd L W g0 g1 hv gn gc gm)
    have RD0 := hid (RD.out bd A B c d _ g0 g1 HV.out gn gc gm)
    have hEQ := hG
    unfold Blk at hEQ
    have hEQ2 := BG0
    unfold Blk at hEQ2
    rw [hEQ] at hEQ2
    simp only [Option.some.injEq, Obj.cells.injEq, Array.mk.injEq, List.cons.injEq, Value.slice.injEq, and_true, true_and] at hEQ2
    obtain ⟨⟨rfl, rfl⟩, rfl, rfl⟩ := hEQ2
    clear hEQ M0 BZ hO3 hO3' CRC hG g0 g1 gO b0 b1 b2
    go_wp2_with fail
    generalize w3.alloc (.cells #[.int .i64 q, .slice A hd.length c, .slice B bd.length d] 26) = w4 at HM0 RD0 BG0 FA ⊢
    obtain ⟨g, eg⟩ : ∃ g, w3.heap.size = g := ⟨_, rfl⟩
    rw [eg] at HM0 hng BG0 ⊢
    clear eg
    refine RD0.out.mono ?_
    rintro _ w5 ⟨rfl, hF5⟩
    have HM5 : Hid (∃ bx, red q hd bd = red q hd bx ∧ MnAt w2 g q hd (minB q hd bd) w5 bx ∧ Blk w5 (w.heap.size + 1) 26 #[.int .i64 0, .slice none 0 0, .slice none 0 0]) := hid ⟨bd, rfl, HM0.out.1.frM hF5, HM0.out.2.fr hF5⟩
    clear RD0 HM0 BG0 FA
    go_wp2_with fail
    go_loopw [4] (fun t wr => Hid (∃ bx, t = .int .i64 (red q hd bx) ∧ MnAt w2 g q hd (minB q hd bd) wr bx ∧ Blk wr (w.heap.size + 1) 26 #[.int .i64 0, .slice none 0 0, .slice none 0 0])) (fun _ wr => lenAt g wr)
    case atStart =>
      obtain ⟨bx, e, h1, h2⟩ := HM5.out
      exact hid ⟨bx, by rw [e], h1, h2⟩
    case round =>
      clear HM5
      obtain ⟨bx, rfl, hM, hZ⟩ := hrel.out
      obtain ⟨A, c, B, d, hG, g0, g1, gc, gm, gn, gO⟩ := hM.cells
      have hvl : vrule q hd bx = true := by obtain ⟨_, _, _, _, _, _, _, h, _⟩ := hM; exact h
      have hmL : minB q hd bx = minB q hd bd := by obtain ⟨_, _, _, _, _, _, _, _, h, _⟩ := hM; exact h
      have FR : Fr w2 wr := by obtain ⟨_, _, _, _, _, _, _, _, _, h, _⟩ := hM; exact h
      have FWr := F2.trans FR
      obtain ⟨lh', lb', lb1'⟩ := vrule_lens hvl
      obtain ⟨y0, y1, y2, yf0, yf1, yf2⟩ := hG.three
      have HM := hid hM
      have HZ := hid hZ
      have G0 := hid g0
      have G1 := hid g1
      have GO := hid gO
      have ML := hid hmL
      have VL := hid hvl
      clear hM g0 g1 gO hmL hvl hrel
      by_cases hneg : red q hd bx < 0
      · have BE := ((hZ.set_ 0 (.int .i64 q)).set_ 1 (.slice A hd.length c)).set_ 2 (.slice B bx.length d)
        obtain ⟨z0, z1, z2, zf0, zf1, zf2⟩ := hZ.three
        have FE : Fr w (((wr.setCell ⟨w.heap.size + 1, 0, none⟩ (.int .i64 q)).setCell ⟨w.heap.size + 1, 1, none⟩ (.slice A hd.length c)).setCell ⟨w.heap.size + 1, 2, none⟩ (.slice B bx.length d)) := ((FWr.setNew (Nat.le_succ _) _).setNew (Nat.le_succ _) _).setNew (Nat.le_succ _) _
        have RES := hid (show RulOut w.heap.size (minR q hd bd).1 (minR q hd bd).2.1 (minR q hd bd).2.2 (.returned (.agg #[.int .i64 q, .slice A hd.length c, .slice B bx.length d])) (((wr.setCell ⟨w.heap.size + 1, 0, none⟩ (.int .i64 q)).setCell ⟨w.heap.size + 1, 1, none⟩ (.slice A hd.length c)).setCell ⟨w.heap.size + 1, 2, none⟩ (.slice B bx.length d)) by
          rw [MIN.out, ← ML.out, minB_stop hneg]
          exact (GO.out.lowR hw2).put3 hZ)
        have hge : decide ((0 : Int) ≤ red q hd bx) = false := by simp; omega
        clear GO ML VL G0 G1 HZ HM hZ hG
        go_wp2
        obtain ⟨u0, u1, u2, _⟩ := BE.three
        clear BE z0 z1 z2 zf0 zf1 zf2 y0 y1 y2 yf0 yf1 yf2
        generalize ((wr.setCell ⟨w.heap.size + 1, 0, none⟩ (.int .i64 q)).setCell ⟨w.heap.size + 1, 1, none⟩ (.slice A hd.length c)).setCell ⟨w.heap.size + 1, 2, none⟩ (.slice B bx.length d) = w9 at FE RES u0 u1 u2 ⊢
        refine bodyPost_ret (v := .agg #[.int .i64 q, .slice A hd.length c, .slice B bx.length d]) (by simp [results, Tryz.results20, go_sem, u0, u1, u2]) rfl ?_
        exact ⟨RES.out, FE⟩
      · obtain ⟨j, hj⟩ : ∃ j : Nat, red q hd bx = j := ⟨(red q hd bx).toNat, by omega⟩
        have HJ := hid hj
        have hjl := (red_valid hj).1
        have hvj := (red_valid hj).2
        have WT := hid (withoutS q A B c d hd bx j wr G0.out G1.out lh' lb' hjl gn gc gm)
        have hlen := HM.out.len
        have hle := lessA_len hjl
        rw [hj]
        clear hj hneg
        go_wp2_with fail
        refine WT.out.mono ?_
        rintro r9 w9 ⟨ho9, hF9⟩
        obtain ⟨A', c', B', d', rfl, M9, x0, x1, x2, BG9⟩ := HM.out.next HJ.out ho9 hF9
        have BZ9 := HZ.out.fr hF9
        have hne : w.heap.size + 1 ≠ g := by omega
        have MZ : Blk (((w9.setCell ⟨g, 0, none⟩ (.int .i64 q)).setCell ⟨g, 1, none⟩ (.slice A' hd.length c')).setCell ⟨g, 2, none⟩ (.slice B' (lessA bx j).length d')) (w.heap.size + 1) 26 #[.int .i64 0, .slice none 0 0, .slice none 0 0] := ((BZ9.far (p := ⟨g, 0, none⟩) hne (.int .i64 q)).far (p := ⟨g, 1, none⟩) hne (.slice A' hd.length c')).far (p := ⟨g, 2, none⟩) hne (.slice B' (lessA bx j).length d')
        obtain ⟨y0', y1', y2', yf0', yf1', yf2'⟩ := BG9.three
        have BGF : Blk (((w9.setCell ⟨g, 0, none⟩ (.int .i64 q)).setCell ⟨g, 1, none⟩ (.slice A' hd.length c')).setCell ⟨g, 2, none⟩ (.slice B' (lessA bx j).length d')) g 26 #[.int .i64 q, .slice A' hd.length c', .slice B' (lessA bx j).length d'] := by
          simpa using ((BG9.set_ 0 (.int .i64 q)).set_ 1 (.slice A' hd.length c')).set_ 2 (.slice B' (lessA bx j).length d')
        clear ho9 BZ9 GO ML VL G0 G1 HZ HM WT BG9 y0 y1 y2 yf0 yf1 yf2 hZ hG
        obtain ⟨bn, ebn⟩ : ∃ x, lessA bx j = x := ⟨_, rfl⟩
        rw [ebn] at M9 MZ BGF hle hvj ⊢
        clear ebn
        have HM9 := hid M9
        have HMZ := hid MZ
        have HBG := hid BGF
        clear M9 MZ BGF
        go_wp2_with fail
        generalize ((w9.setCell ⟨g, 0, none⟩ (.int .i64 q)).setCell ⟨g, 1, none⟩ (.slice A' hd.length c')).setCell ⟨g, 2, none⟩ (.slice B' bn.length d') = w10 at HM9 HMZ HBG ⊢
        obtain ⟨A2, c2, B2, d2, hG2, g0, g1, gc2, gm2, gn2, gO2⟩ := HM9.out.cells
        have RD2 := hid (RD.out bn A2 B2 c2 d2 _ g0 g1 hvj gn2 gc2 gm2)
        have hEQ := hG2
        unfold Blk at hEQ
        have hEQ2 := HBG.out
        unfold Blk at hEQ2
        rw [hEQ] at hEQ2
        simp only [Option.some.injEq, Obj.cells.injEq, Array.mk.injEq, List.cons.injEq, Value.slice.injEq, and_true, true_and] at hEQ2
        obtain ⟨⟨rfl, rfl⟩, rfl, rfl⟩ := hEQ2
        have hlen2 := HM9.out.len
        clear hEQ hG2 g0 g1 gO2 HBG
        refine RD2.out.mono ?_
        rintro _ w11 ⟨rfl, hF11⟩
        have NX := hid (show ∃ bz, red q hd bn = red q hd bz ∧ MnAt w2 g q hd (minB q hd bd) w11 bz ∧ Blk w11 (w.heap.size + 1) 26 #[.int .i64 0, .slice none 0 0, .slice none 0 0] from ⟨bn, rfl, HM9.out.frM hF11, HMZ.out.fr hF11⟩)
        have hlen3 := (HM9.out.frM hF11).len
        clear HM9 HMZ RD2
        go_wp2
        go_roundw
        case rel =>
          obtain ⟨bz, e, h1, h2⟩ := NX.out
          exact hid ⟨bz, by rw [e], h1, h2⟩
        case measure => rw [hlen3, hlen]; omega
/- Walk of laws.equalRules at two equal queries. -/
set_option maxRecDepth 100000 in
set_option maxHeartbeats 4000000 in
theorem equalRules (q : Int) (A0 A1 B0 B1 : Option Addr) (c0 c1 d0 d1 : Nat) (hd : List Int) (bd : List Atom) (w : World) (hx0 : RdSl rdInt w.cell? 1 A0 hd) (hx1 : RdSl rdAtom w.cell? 3 A1 bd) (hy0 : RdSl rdInt w.cell? 1 B0 hd) (hy1 : RdSl rdAtom w.cell? 3 B1 bd) (hl0 : hd.length ≤ 1048576) (hl1 : bd.length ≤ 1048576) :
    Calls Tryz.prog 19 #[.agg #[.int .i64 q, .slice A0 hd.length c0, .slice A1 bd.length c1], .agg #[.int .i64 q, .slice B0 hd.length d0, .slice B1 bd.length d1]] w fun e w' => e = .returned (.bool true) ∧ Fr w w' := by
  have EQ := hid (fun W (h : Fr w W) => (equalInts A0 B0 c0 d0 hd hd W (hx0.fr rdInt_mono h) (hy0.fr rdInt_mono h) (by unfold maxLen; omega) (by unfold maxLen; omega)))
  have HX := hid hx1
  have HY := hid hy1
  clear hx0 hx1 hy0 hy1
  have BX := (Blk.new w 26 #[.int .i64 q, .slice A0 hd.length c0, .slice A1 bd.length c1]).alloc (.cells #[.int .i64 q, .slice B0 hd.length d0, .slice B1 bd.length d1] 26)
  have BY := Blk.new (w.alloc (.cells #[.int .i64 q, .slice A0 hd.length c0, .slice A1 bd.length c1] 26)) 26 #[.int .i64 q, .slice B0 hd.length d0, .slice B1 bd.length d1]
  rw [World.size_alloc] at BY
  have F1 : Fr w ((w.alloc (.cells #[.int .i64 q, .slice A0 hd.length c0, .slice A1 bd.length c1] 26)).alloc (.cells #[.int .i64 q, .slice B0 hd.length d0, .slice B1 bd.length d1] 26)) := by (repeat (first | with_reducible exact Fr.refl _ | with_reducible assumption | with_reducible refine Fr.alloc ?_ _ | with_reducible refine Fr.drew ?_ | with_reducible refine Fr.drewN ?_ _ | (with_reducible refine Fr.setNew2 ?_ ?_ _; · (simp <;> omega)) | with_reducible refine Fr.trans ?_ (by assumption)))
  go_enter Tryz.func19, Tryz.ntmps19
  go_wp2_with fail
  generalize (w.alloc (.cells #[.int .i64 q, .slice A0 hd.length c0, .slice A1 bd.length c1] 26)).alloc (.cells #[.int .i64 q, .slice B0 hd.length d0, .slice B1 bd.length d1] 26) = w1 at BX BY F1 ⊢
  refine (EQ.out w1 F1).mono ?_
  rintro e w2 ⟨rfl, hF2⟩
  simp only [decide_true]
  have B2 := hid (BX.fr hF2)
  have C2 := hid (BY.fr hF2)
  have FW := F1.trans hF2
  obtain ⟨x0, x1, x2, _⟩ := B2.out.three
  obtain ⟨y0, y1, y2, _⟩ := C2.out.three
  clear EQ BX BY F1 hF2
  go_wp2_with fail
  go_loopw [5] (fun t wr => ∃ (k : Nat), k ≤ bd.length ∧ t = .int .i64 k ∧ Fr w2 wr) (fun t _ => bd.length - (intOf t).toNat)
  case atStart => exact ⟨0, by omega, rfl, Fr.refl _⟩
  case round =>
    obtain ⟨k, hk, rfl, hF⟩ := hrel
    obtain ⟨x0', x1', x2', _⟩ := (B2.out.fr hF).three
    obtain ⟨y0', y1', y2', _⟩ := (C2.out.fr hF).three
    by_cases hlt : k < bd.length
    · have hlt' : (k : Int) < (bd.length : Int) := by omega
      obtain ⟨b, o, rfl, r0, r1, r2⟩ := (HX.out.fr rdAtom_mono (FW.trans hF)).atom hlt
      obtain ⟨b', o', rfl, s0, s1, s2⟩ := (HY.out.fr rdAtom_mono (FW.trans hF)).atom hlt
      go_wp2_with fail
      go_quiet (fail)
      go_wp2
      go_roundw
      · exact ⟨k + 1, by omega, by simp, hF.drewN _⟩
      · (simp [intOf]; omega)
    · obtain rfl : k = bd.length := by omega
      go_wp2
      go_ret
      exact ⟨rfl, FW.trans hF⟩
/- The law of minimal queries: minimizing twice. -/

theorem minB_nil {q : Int} {hd : List Int} {bd : List Atom} (h : bd.length = 0) : red q hd bd < 0 := by
  have : bd = [] := List.eq_nil_of_length_eq_zero h
  subst this
  show (-1 : Int) < 0
  omega
/-- What is left has no superfluous atom; it is valid. -/
theorem minB_end {q : Int} {hd : List Int} : ∀ (n : Nat) (bd : List Atom), bd.length = n → vrule q hd bd = true → red q hd (minB q hd bd) < 0 ∧ vrule q hd (minB q hd bd) = true ∧ (minB q hd bd).length ≤ bd.length ∧ (¬ red q hd bd < 0 → (minB q hd bd).length < bd.length) := by
  intro n
  induction n with
  | zero =>
    intro bd hn hv
    have h := minB_nil (q := q) (hd := hd) hn
    rw [minB_stop h]
    exact ⟨h, hv, Nat.le_refl _, fun h' => absurd h h'⟩
  | succ n ih =>
    intro bd hn hv
    by_cases h : red q hd bd < 0
    · rw [minB_stop h]
      exact ⟨h, hv, Nat.le_refl _, fun h' => absurd h h'⟩
    · obtain ⟨j, hj⟩ : ∃ j : Nat, red q hd bd = j := ⟨(red q hd bd).toNat, by omega⟩
      obtain ⟨hjl, hv'⟩ := red_valid hj
      have hl := lessA_len hjl
      obtain ⟨h1, h2, h3, _⟩ := ih (lessA bd j) (by omega) hv'
      rw [minB_step hj hjl]
      exact ⟨h1, h2, by omega, fun _ => by omega⟩
theorem minR_yes {q : Int} {hd : List Int} {bd : List Atom} (hv : vrule q hd bd = true) : minR q hd bd = (q, hd, minB q hd bd) := by
  unfold minR
  rw [if_pos hv]
theorem minR_no {q : Int} {hd : List Int} {bd : List Atom} (hv : vrule q hd bd = false) : minR q hd bd = (0, [], []) := by
  unfold minR
  rw [if_neg (by rw [hv]; simp)]
theorem minR_twice {q : Int} {hd : List Int} {bd : List Atom} (hv : vrule q hd bd = true) : minR q hd (minB q hd bd) = (q, hd, minB q hd bd) := by
  obtain ⟨h1, h2, _, _⟩ := minB_end (q := q) (hd := hd) bd.length bd rfl hv
  rw [minR_yes h2, minB_stop h1]
theorem isMin_len {q : Int} {hd : List Int} {bd : List Atom} (hv : vrule q hd bd = true) : isMin q hd bd = decide ((minB q hd bd).length = bd.length) := by
  obtain ⟨_, _, h3, h4⟩ := minB_end (q := q) (hd := hd) bd.length bd rfl hv
  unfold isMin
  rw [hv, Bool.true_and]
  by_cases h : red q hd bd < 0
  · rw [decide_eq_true h, minB_stop h]
    simp
  · have := h4 h
    rw [decide_eq_false h, decide_eq_false (by omega)]
end Go.Proofs.YtahclhldpcboeaaGreatDoor
