/- Walks of redundant on the reference's side, and of IsMinimal on both sides. -/
import Derived.Test.YtahclhldpcboeaaDoorRedS
import Derived.Test.YtahclhldpcboeaaDoorRedK
namespace Go.Proofs.YtahclhldpcboeaaDoor
open Go Go.RowKit

theorem vrule_lens {q : Int} {hd : List Int} {bd : List Atom} (h : vrule q hd bd = true) : hd.length ≤ 1000 ∧ bd.length ≤ 1000 ∧ 1 ≤ bd.length := by
  obtain ⟨_, _, h1, h2, h3, _⟩ := vrule_parts h
  exact ⟨by omega, by omega, h2⟩
theorem RulOut.rdN {base : Nat} {q : Int} {hd : List Int} {bd : List Atom} {r : Ending} {w' : World} (h : RulOut base q hd bd r w') : ∃ A c B d, r = .returned (.agg #[.int .i64 q, .slice A hd.length c, .slice B bd.length d]) ∧ RdSl rdInt w'.cell? 1 A hd ∧ RdSl rdAtom w'.cell? 3 B bd ∧ bd.length ≤ d ∧ d ≤ maxLen ∧ (A = none → c = 0) := by
  obtain ⟨A, c, B, d, h1, h2, h3⟩ := h
  refine ⟨A, c, B, d, h1, (own_int h2 rfl).mono rdInt_mono (fromB_le _ _), (own_A h3 rfl).mono rdAtom_mono (fromB_le _ _), (own_capM h3).1, (own_capM h3).2, fun hA => ?_⟩
  subst hA
  rcases h2.2 with ⟨h4, _⟩ | ⟨g, c', cur, hv, _⟩
  · simp only [Value.slice.injEq] at h4; exact h4.2.2
  · cases hv
set_option maxRecDepth 100000 in
set_option maxHeartbeats 4000000 in
theorem redundantS (q : Int) (A0 A1 : Option Addr) (c0 c1 : Nat) (hd : List Int) (bd : List Atom) (w : World) (hx0 : RdSl rdInt w.cell? 1 A0 hd) (hx1 : RdSl rdAtom w.cell? 3 A1 bd) (hv : vrule q hd bd = true) (hn0 : A0 = none → c0 = 0) (hc : bd.length ≤ c1) (hc2 : c1 ≤ maxLen) :
    Calls Tryd.prog 45 #[.agg #[.int .i64 q, .slice A0 hd.length c0, .slice A1 bd.length c1]] w fun r w' => r = .returned (.int .i64 (red q hd bd)) ∧ Fr w w' := by
  obtain ⟨lh, lb, lb1⟩ := vrule_lens hv
  have WO := hid (fun (k : Nat) (hk : k < bd.length) W (h : Fr w W) => withoutS q A0 A1 c0 c1 hd bd k W (hx0.fr rdInt_mono h) (hx1.fr rdAtom_mono h) lh lb hk hn0 hc hc2)
  have VR := hid (fun W (bd2 : List Atom) (B0 B1 : Option Addr) (d0 d1 : Nat) (g0 : RdSl rdInt W.cell? 1 B0 hd) (g1 : RdSl rdAtom W.cell? 3 B1 bd2) (gl : bd2.length ≤ 1000) => specVRule q B0 d0 hd B1 d1 bd2 W g0 g1 (by omega) (by omega))
  have HM := hid (fun W (h : Fr w W) (bd2 : List Atom) (B0 B1 : Option Addr) (d0 d1 : Nat) (g0 : RdSl rdInt W.cell? 1 B0 hd) (g1 : RdSl rdAtom W.cell? 3 B1 bd2) (e2 : vrule q hd bd2 = true) => specHomW q q A0 A1 B0 B1 c0 c1 d0 d1 hd hd bd bd2 W (hx0.fr rdInt_mono h) (hx1.fr rdAtom_mono h) g0 g1 hv e2)
  have HR := hid (show red q hd bd = redF q hd bd bd.length 0 from rfl)
  have BB := Blk.new w 30 #[.int .i64 q, .slice A0 hd.length c0, .slice A1 bd.length c1]
  have F1 := (Fr.refl w).alloc (.cells #[.int .i64 q, .slice A0 hd.length c0, .slice A1 bd.length c1] 30)
  clear hv hx0 hx1
  go_enter Tryd.func45, Tryd.ntmps45
  go_wp2_with fail
  generalize w.alloc (.cells #[.int .i64 q, .slice A0 hd.length c0, .slice A1 bd.length c1] 30) = w1 at BB F1 ⊢
  have HBB := hid BB
  clear BB
  go_loopw [3] (fun t wr => ∃ k : Nat, k ≤ bd.length ∧ t = .int .i64 k ∧ Fr w1 wr ∧ Hid (red q hd bd = redF q hd bd (bd.length - k) k)) (fun t _ => bd.length - (intOf t).toNat)
  case atStart => exact ⟨0, by omega, rfl, Fr.refl _, HR⟩
  case round =>
    obtain ⟨k, hk, rfl, hf, HK⟩ := hrel
    obtain ⟨b0, b1, b2, _⟩ := (HBB.out.fr hf).three
    have FW := F1.trans hf
    by_cases hlt : k < bd.length
    · have WK := hid (WO.out k hlt wr FW)
      have hll := lessA_len hlt
      have hsplit : bd.length - k = (bd.length - (k + 1)) + 1 := by omega
      have YES := hid (show redAt q hd bd k = true → red q hd bd = (k : Int) from fun h => by rw [HK.out, hsplit, redF_yes h])
      have NO := hid (show redAt q hd bd k = false → red q hd bd = redF q hd bd (bd.length - (k + 1)) (k + 1) from fun h => by rw [HK.out, hsplit, redF_no h])
      obtain ⟨bd2, eb2⟩ : ∃ x, lessA bd k = x := ⟨_, rfl⟩
      have RA := hid (show redAt q hd bd k = (vrule q hd bd2 && (homO q hd bd hd bd2).isSome) by unfold redAt; rw [eb2])
      rw [eb2] at WK hll
      clear HK hsplit eb2
      go_wp2_with fail
      refine WK.out.mono ?_
      rintro r5 w5 ⟨hp5, hF5⟩
      obtain ⟨B0, d0, B1, d1, rfl, g0, g1, gc, gm, gn⟩ := hp5.rdN
      have G0 := hid g0
      have G1 := hid g1
      have BX := Blk.new w5 30 #[.int .i64 q, .slice B0 hd.length d0, .slice B1 bd2.length d1]
      have F6 : Fr w5 (w5.alloc (.cells #[.int .i64 q, .slice B0 hd.length d0, .slice B1 bd2.length d1] 30)) := (Fr.refl w5).alloc _
      clear hp5 g0 g1 WK
      go_wp2_with fail
      generalize w5.alloc (.cells #[.int .i64 q, .slice B0 hd.length d0, .slice B1 bd2.length d1] 30) = w6 at BX F6 ⊢
      refine (VR.out w6 bd2 B0 B1 d0 d1 (G0.out.fr rdInt_mono F6) (G1.out.fr rdAtom_mono F6) (by omega)).mono ?_
      rintro r7 w7 ⟨rfl, hF7⟩
      have F17 := hf.trans (hF5.trans (F6.trans hF7))
      have FW7 := F1.trans F17
      cases hv2 : vrule q hd bd2
      · have NX := hid (NO.out (by rw [RA.out, hv2]; rfl))
        clear hv2 YES NO RA b0 b1 b2
        go_wp2
        go_roundw
        case rel => exact ⟨k + 1, by omega, by go_num, F17, NX⟩
        case measure => simp [intOf]; omega
      · obtain ⟨a0, a1, a2, _⟩ := (HBB.out.fr F17).three
        obtain ⟨x0, x1, x2, _⟩ := (BX.fr hF7).three
        have HMC := hid (HM.out w7 FW7 bd2 B0 B1 d0 d1 (G0.out.fr rdInt_mono (F6.trans hF7)) (G1.out.fr rdAtom_mono (F6.trans hF7)) hv2)
        have RA2 := hid (show redAt q hd bd k = (homO q hd bd hd bd2).isSome by rw [RA.out, hv2, Bool.true_and])
        clear hv2 b0 b1 b2 RA
        go_wp2_with fail
        refine HMC.out.mono ?_
        rintro r8 w8 ⟨hP, hF8⟩
        obtain ⟨v, rfl⟩ := hP.form
        obtain ⟨bb, ebb⟩ : ∃ bb, (homO q hd bd hd bd2).isSome = bb := ⟨_, rfl⟩
        have EB := hid ebb
        rw [ebb]
        have F18 := F17.trans hF8
        clear hP HMC a0 a1 a2 x0 x1 x2 ebb
        cases bb
        · have NX := hid (NO.out (by rw [RA2.out, EB.out]))
          clear YES NO RA2 EB
          go_wp2
          go_roundw
          case rel => exact ⟨k + 1, by omega, by go_num, F18, NX⟩
          case measure => simp [intOf]; omega
        · have RES := hid (YES.out (by rw [RA2.out, EB.out]))
          clear YES NO RA2 EB
          go_wp2
          go_ret
          exact ⟨ret_int RES.out.symm, F1.trans F18⟩
    · obtain rfl : k = bd.length := by omega
      have RES := hid (show red q hd bd = -1 by rw [HK.out, Nat.sub_self]; rfl)
      clear HK
      go_wp2
      go_ret
      exact ⟨ret_int RES.out.symm, FW⟩
/-- What IsMinimal answers. -/
def isMin (q : Int) (hd : List Int) (bd : List Atom) : Bool := vrule q hd bd && decide (red q hd bd < 0)
theorem isMin_eq {q : Int} {hd : List Int} {bd : List Atom} : decide (red q hd bd < 0) = (red q hd bd == -1) := by
  rcases red_out (q := q) (hd := hd) (bd := bd) with h | ⟨j, h, _⟩
  · rw [h]; decide
  · rw [h, Bool.eq_iff_iff]; simp
set_option maxRecDepth 100000 in
set_option maxHeartbeats 2000000 in
theorem specIsMin (q : Int) (A0 A1 : Option Addr) (c0 c1 : Nat) (hd : List Int) (bd : List Atom) (w : World) (hx0 : RdSl rdInt w.cell? 1 A0 hd) (hx1 : RdSl rdAtom w.cell? 3 A1 bd) (hl0 : hd.length ≤ 1048576) (hl1 : bd.length ≤ 1048576) (hn0 : A0 = none → c0 = 0) (hc : bd.length ≤ c1) (hc2 : c1 ≤ maxLen) :
    Calls Tryd.prog 22 #[.agg #[.int .i64 q, .slice A0 hd.length c0, .slice A1 bd.length c1]] w fun r w' => r = .returned (.bool (isMin q hd bd)) ∧ Fr w w' := by
  have VR := hid (fun W (h : Fr w W) => specVRule q A0 c0 hd A1 c1 bd W (hx0.fr rdInt_mono h) (hx1.fr rdAtom_mono h) hl0 hl1)
  have RD := hid (fun W (h : Fr w W) (hv : vrule q hd bd = true) => redundantS q A0 A1 c0 c1 hd bd W (hx0.fr rdInt_mono h) (hx1.fr rdAtom_mono h) hv hn0 hc hc2)
  have BB := Blk.new w 30 #[.int .i64 q, .slice A0 hd.length c0, .slice A1 bd.length c1]
  have F1 := (Fr.refl w).alloc (.cells #[.int .i64 q, .slice A0 hd.length c0, .slice A1 bd.length c1] 30)
  clear hx0 hx1
  go_enter Tryd.func22, Tryd.ntmps22
  go_wp2_with fail
  generalize w.alloc (.cells #[.int .i64 q, .slice A0 hd.length c0, .slice A1 bd.length c1] 30) = w1 at BB F1 ⊢
  refine (VR.out w1 F1).mono ?_
  rintro _ w2 ⟨rfl, hF2⟩
  have F2 := F1.trans hF2
  obtain ⟨b0, b1, b2, _⟩ := (BB.fr hF2).three
  cases hv : vrule q hd bd
  · have RES := hid (show isMin q hd bd = false by unfold isMin; rw [hv]; rfl)
    clear hv
    go_wp2
    go_ret
    exact ⟨ret_bool RES.out.symm, F2⟩
  · have RDC := hid (RD.out w2 F2 hv)
    have RES := hid (show isMin q hd bd = decide (red q hd bd < 0) by unfold isMin; rw [hv]; rfl)
    clear hv RD VR
    go_wp2_with fail
    refine RDC.out.mono ?_
    rintro _ w3 ⟨rfl, hF3⟩
    clear RDC b0 b1 b2
    go_wp2
    go_ret
    exact ⟨ret_bool RES.out.symm, F2.trans hF3⟩
set_option maxRecDepth 100000 in
set_option maxHeartbeats 2000000 in
theorem implIsMin (q : Int) (A0 A1 : Option Addr) (c0 c1 : Nat) (hd : List Int) (bd : List Atom) (ei ea : Addr) (w : World) (hx0 : RdSl rdInt w.cell? 1 A0 hd) (hx1 : RdSl rdAtom w.cell? 3 A1 bd) (hl0 : hd.length ≤ 1048576) (hl1 : bd.length ≤ 1048576) (hc : bd.length ≤ c1) (hc2 : c1 ≤ maxLen)
    (he0 : w.cell? ⟨0, 0, none⟩ = some (noHom ei)) (he1 : w.cell? ⟨1, 0, none⟩ = some (noHom ea)) :
    Calls Tryd.prog 23 #[.agg #[.int .i64 q, .slice A0 hd.length c0, .slice A1 bd.length c1]] w fun r w' => r = .returned (.bool (isMin q hd bd)) ∧ Fr w w' := by
  have BB := Blk.new w 30 #[.int .i64 q, .slice A0 hd.length c0, .slice A1 bd.length c1]
  have F1 := (Fr.refl w).alloc (.cells #[.int .i64 q, .slice A0 hd.length c0, .slice A1 bd.length c1] 30)
  have VR := hid (fun W (h : Fr w W) => implValidRule q A0 c0 hd A1 c1 bd W (hx0.fr rdInt_mono h) (hx1.fr rdAtom_mono h) hl0 hl1)
  have RD := hid (fun W (h : Fr w W) (hb : Blk W w.heap.size 30 #[.int .i64 q, .slice A0 hd.length c0, .slice A1 bd.length c1]) (hv : vrule q hd bd = true) => redundantAtomW w.heap.size q A0 A1 c0 c1 hd bd ei ea W (hb.cell 0) (hb.cell 1) (hb.cell 2) (hx0.fr rdInt_mono h) (hx1.fr rdAtom_mono h) hv hc hc2 (h.cell he0) (h.cell he1))
  clear hx0 hx1 he0 he1
  go_enter Tryd.func23, Tryd.ntmps23
  go_wp2_with fail
  generalize w.alloc (.cells #[.int .i64 q, .slice A0 hd.length c0, .slice A1 bd.length c1] 30) = w1 at BB F1 ⊢
  refine (VR.out w1 F1).mono ?_
  rintro _ w2 ⟨rfl, hF2⟩
  have F2 := F1.trans hF2
  cases hv : vrule q hd bd
  · have RES := hid (show isMin q hd bd = false by unfold isMin; rw [hv]; rfl)
    clear hv
    go_wp2
    go_ret
    exact ⟨ret_bool RES.out.symm, F2⟩
  · have RDC := hid (RD.out w2 F2 (BB.fr hF2) hv)
    have RES := hid (show isMin q hd bd = (red q hd bd == -1) by unfold isMin; rw [hv, isMin_eq]; rfl)
    clear hv RD VR
    go_wp2_with fail
    refine RDC.out.mono ?_
    rintro _ w3 ⟨rfl, hF3⟩
    clear RDC
    go_wp2
    go_ret
    exact ⟨ret_bool RES.out.symm, F2.trans hF3⟩
end Go.Proofs.YtahclhldpcboeaaDoor
