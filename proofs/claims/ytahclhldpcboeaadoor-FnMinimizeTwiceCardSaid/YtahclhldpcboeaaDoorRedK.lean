/- Walk of the program's redundantAtom. -/
import Derived.Test.YtahclhldpcboeaaDoorRedI
import Derived.Test.YtahclhldpcboeaaDoorHmgW
namespace Go.Proofs.YtahclhldpcboeaaDoor
open Go Go.RowKit

theorem RulOut.rd {base : Nat} {q : Int} {hd : List Int} {bd : List Atom} {r : Ending} {w' : World} (h : RulOut base q hd bd r w') : ∃ A c B d, r = .returned (.agg #[.int .i64 q, .slice A hd.length c, .slice B bd.length d]) ∧ RdSl rdInt w'.cell? 1 A hd ∧ RdSl rdAtom w'.cell? 3 B bd ∧ bd.length ≤ d ∧ d ≤ maxLen := by
  obtain ⟨A, c, B, d, h1, h2, h3⟩ := h
  exact ⟨A, c, B, d, h1, (own_int h2 rfl).mono rdInt_mono (fromB_le _ _), (own_A h3 rfl).mono rdAtom_mono (fromB_le _ _), (own_capM h3).1, (own_capM h3).2⟩
set_option maxRecDepth 100000 in
set_option maxHeartbeats 4000000 in
theorem redundantAtomW (b : Nat) (q : Int) (A0 A1 : Option Addr) (c0 c1 : Nat) (hd : List Int) (bd : List Atom) (ei ea : Addr) (w : World) (h0 : w.cell? ⟨b, 0, none⟩ = some (.int .i64 q)) (h1 : w.cell? ⟨b, 1, none⟩ = some (.slice A0 hd.length c0)) (h2 : w.cell? ⟨b, 2, none⟩ = some (.slice A1 bd.length c1))
    (hx0 : RdSl rdInt w.cell? 1 A0 hd) (hx1 : RdSl rdAtom w.cell? 3 A1 bd) (hv : vrule q hd bd = true) (hc : bd.length ≤ c1) (hc2 : c1 ≤ maxLen)
    (he0 : w.cell? ⟨0, 0, none⟩ = some (noHom ei)) (he1 : w.cell? ⟨1, 0, none⟩ = some (noHom ea)) :
    Calls Tryd.prog 46 #[.pointer (some ⟨b, 0, none⟩)] w fun r w' => r = .returned (.int .i64 (red q hd bd)) ∧ Fr w w' := by
  obtain ⟨qa, qb, hh6, hb1, hb6, _, _⟩ := vrule_parts hv
  have WO := hid (fun (k : Nat) (hk : k < bd.length) W (h : Fr w W) => withoutW b q A0 A1 c0 c1 hd bd k W (h.cell h0) (h.cell h1) (h.cell h2) (hx0.fr rdInt_mono h) (hx1.fr rdAtom_mono h) (by omega) (by omega) hk hc hc2)
  have HM := hid (fun W (h : Fr w W) (bd2 : List Atom) (B0 B1 : Option Addr) (d0 d1 : Nat) (g0 : RdSl rdInt W.cell? 1 B0 hd) (g1 : RdSl rdAtom W.cell? 3 B1 bd2) (gl : bd2.length ≤ 1000) => implHomW q q A0 A1 B0 B1 c0 c1 d0 d1 hd hd bd bd2 ei ea W (hx0.fr rdInt_mono h) (hx1.fr rdAtom_mono h) g0 g1 (by omega) (by omega) (by omega) (by omega) hc hc2 (h.cell he0) (h.cell he1))
  have HV := hid hv
  have HR := hid (show red q hd bd = redF q hd bd bd.length 0 from rfl)
  clear hv hx0 hx1 he0 he1
  go_enter Tryd.func46, Tryd.ntmps46
  go_wp2_with fail
  go_loopw [11] (fun t wr => ∃ k : Nat, k ≤ bd.length ∧ t = .int .i64 k ∧ Fr w wr ∧ Hid (red q hd bd = redF q hd bd (bd.length - k) k)) (fun t _ => bd.length - (intOf t).toNat)
  case atStart => exact ⟨0, by omega, rfl, Fr.refl _, HR⟩
  case round =>
    obtain ⟨k, hk, rfl, hf, HK⟩ := hrel
    by_cases hlt : k < bd.length
    · replace h0 := hf.cell h0
      replace h1 := hf.cell h1
      replace h2 := hf.cell h2
      have WK := hid (fun W (h : Fr wr W) => WO.out k hlt W (hf.trans h))
      have hll := lessA_len hlt
      have hsplit : bd.length - k = (bd.length - (k + 1)) + 1 := by omega
      have YES := hid (show redAt q hd bd k = true → red q hd bd = (k : Int) from fun h => by rw [HK.out, hsplit, redF_yes h])
      have NO := hid (show redAt q hd bd k = false → red q hd bd = redF q hd bd (bd.length - (k + 1)) (k + 1) from fun h => by rw [HK.out, hsplit, redF_no h])
      obtain ⟨bd2, eb2⟩ : ∃ x, lessA bd k = x := ⟨_, rfl⟩
      have RA := hid (show redAt q hd bd k = (vrule q hd bd2 && (homO q hd bd hd bd2).isSome) by unfold redAt; rw [eb2])
      rw [eb2] at WK hll
      clear HK hsplit eb2
      go_wp2_with fail
      have keepL : ∀ W' : World, Fr wr W' → (Fr wr W' ∧ W'.cell? ⟨b, 0, none⟩ = some (.int .i64 q) ∧ W'.cell? ⟨b, 1, none⟩ = some (.slice A0 hd.length c0) ∧ W'.cell? ⟨b, 2, none⟩ = some (.slice A1 bd.length c1)) := fun W' F => ⟨F, F.cell h0, F.cell h1, F.cell h2⟩
      go_region_held3 (fun W' => Fr wr W' ∧ W'.cell? ⟨b, 0, none⟩ = some (.int .i64 q) ∧ W'.cell? ⟨b, 1, none⟩ = some (.slice A0 hd.length c0) ∧ W'.cell? ⟨b, 2, none⟩ = some (.slice A1 bd.length c1)) ((refine keepL _ ?_; (repeat (first | with_reducible exact Fr.refl _ | with_reducible assumption | with_reducible refine Fr.alloc ?_ _ | with_reducible refine Fr.drew ?_ | with_reducible refine Fr.drewN ?_ _ | (with_reducible refine Fr.setNew2 ?_ ?_ _; · (simp <;> omega)) | with_reducible refine Fr.trans ?_ (by assumption))); done))
        (first
          | (go_at_call 51; (with_reducible refine (WK.out _ ?_).mono ?_); (· (repeat (first | with_reducible exact Fr.refl _ | with_reducible assumption | with_reducible refine Fr.alloc ?_ _ | with_reducible refine Fr.drew ?_ | with_reducible refine Fr.drewN ?_ _ | (with_reducible refine Fr.setNew2 ?_ ?_ _; · (simp <;> omega)) | with_reducible refine Fr.trans ?_ (by assumption)))); rintro r5 w5 ⟨hp5, hF5⟩; obtain ⟨B0, d0, B1, d1, rfl, g0, g1, _⟩ := hp5.rd; have F5 : Fr wr w5 := Fr.trans (by (repeat (first | with_reducible exact Fr.refl _ | with_reducible assumption | with_reducible refine Fr.alloc ?_ _ | with_reducible refine Fr.drew ?_ | with_reducible refine Fr.drewN ?_ _ | (with_reducible refine Fr.setNew2 ?_ ?_ _; · (simp <;> omega)) | with_reducible refine Fr.trans ?_ (by assumption)))) hF5; have G0 := hid g0; have G1 := hid g1; clear hp5 g0 g1)
          | (go_at_call 42; (with_reducible refine (HM.out _ ?_ bd2 _ _ _ _ ?_ ?_ ?_).mono ?_); (· exact hf.trans (by (repeat (first | with_reducible exact Fr.refl _ | with_reducible assumption | with_reducible refine Fr.alloc ?_ _ | with_reducible refine Fr.drew ?_ | with_reducible refine Fr.drewN ?_ _ | (with_reducible refine Fr.setNew2 ?_ ?_ _; · (simp <;> omega)) | with_reducible refine Fr.trans ?_ (by assumption))))); (· exact G0.out.fr rdInt_mono (by (repeat (first | with_reducible exact Fr.refl _ | with_reducible assumption | with_reducible refine Fr.alloc ?_ _ | with_reducible refine Fr.drew ?_ | with_reducible refine Fr.drewN ?_ _ | (with_reducible refine Fr.setNew2 ?_ ?_ _; · (simp <;> omega)) | with_reducible refine Fr.trans ?_ (by assumption))))); (· exact G1.out.fr rdAtom_mono (by (repeat (first | with_reducible exact Fr.refl _ | with_reducible assumption | with_reducible refine Fr.alloc ?_ _ | with_reducible refine Fr.drew ?_ | with_reducible refine Fr.drewN ?_ _ | (with_reducible refine Fr.setNew2 ?_ ?_ _; · (simp <;> omega)) | with_reducible refine Fr.trans ?_ (by assumption))))); (· omega); rintro r7 w7 ⟨hp7, hF7⟩; have F7 : Fr wr w7 := Fr.trans (by (repeat (first | with_reducible exact Fr.refl _ | with_reducible assumption | with_reducible refine Fr.alloc ?_ _ | with_reducible refine Fr.drew ?_ | with_reducible refine Fr.drewN ?_ _ | (with_reducible refine Fr.setNew2 ?_ ?_ _; · (simp <;> omega)) | with_reducible refine Fr.trans ?_ (by assumption)))) hF7; obtain ⟨v7, e7, rfl, he7⟩ := hp7.pair; have HP7 := hid he7; clear hp7 he7)
          | fail)
      clear keepL G0 G1 WK
      have FW7 := hf.trans F7
      rcases HP7.out with ⟨rfl, hyes⟩ | ⟨a, rfl, hno⟩
      · have RES := hid (YES.out (by rw [RA.out]; rw [HV.out, Bool.true_and] at hyes; exact hyes))
        clear hyes HP7 YES NO RA
        go_wp2
        go_ret
        exact ⟨ret_int RES.out.symm, FW7⟩
      · have NX := hid (NO.out (by rw [RA.out]; rw [HV.out, Bool.true_and] at hno; exact hno))
        clear hno HP7 YES NO RA
        go_wp2
        go_roundw
        case rel => exact ⟨k + 1, by omega, by go_num, FW7, NX⟩
        case measure => simp [intOf]; omega
    · obtain rfl : k = bd.length := by omega
      have RES := hid (show red q hd bd = -1 by rw [HK.out, Nat.sub_self]; rfl)
      clear HK
      go_wp2
      go_ret
      exact ⟨ret_int RES.out.symm, hf⟩
end Go.Proofs.YtahclhldpcboeaaDoor
