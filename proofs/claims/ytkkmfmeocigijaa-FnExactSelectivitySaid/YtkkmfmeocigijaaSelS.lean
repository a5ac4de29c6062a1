/- Selectivity on both sides. -/
import Derived.Test.YtkkmfmeocigijaaSelI
namespace Go.Proofs.Ytkkmfmeocigijaa
open Go Go.RowKit

def selOk (rows : Int) (ds ns : List Int) (n : Nat) (e : Ex) : Bool := vstat rows ds ns ds.length && vexpr ds.length n e
def selP (rows : Int) (ds ns : List Int) (n : Nat) (e : Ex) : Int := if selOk rows ds ns n e then pm rows ds ns n e else -1
set_option maxHeartbeats 1000000 in
theorem specSel (n : Nat) (e : Ex) (A : Option Addr) (c : Nat) (rows : Int) (ds ns : List Int) (D M : Option Addr) (cd cm : Nat) (w : World) (hx : RdSl (rdEx n) w.cell? 5 A e.kids) (hs : exSm n e.kids) (hd : RdSl rdInt w.cell? 1 D ds) (hm : RdSl rdInt w.cell? 1 M ns) (hdl : ds.length ≤ maxLen) (hml : ns.length ≤ maxLen) :
    Calls Try.prog 29 #[.agg #[.int .i64 e.kind, .int .i64 e.col, .bool e.val.null, .int .i64 e.val.n, .slice A e.kids.length c], .agg #[.int .i64 rows, .slice D ds.length cd, .slice M ns.length cm]] w fun r w' => r = .returned (.int .i64 (selP rows ds ns n e)) ∧ Fr w w' := by
  have HX := hid hx
  have HD := hid hd
  have HM := hid hm
  have HS := hid hs
  clear hx hd hm hs
  cases hv : vstat rows ds ns ds.length
  · have R := hid (show selP rows ds ns n e = -1 by unfold selP selOk; rw [hv]; rfl)
    go_enter Try.func29, Try.ntmps29
    go_wp2_with fail
    refine absW fun W hW => ?_
    obtain ⟨BE, BS, FW⟩ := selblk hW
    clear hW
    refine (specValidStats rows ds.length D M cd cm ds ns _ (HD.out.fr rdInt_mono FW) (HM.out.fr rdInt_mono FW) hdl hml).mono ?_
    rintro r w1 ⟨rfl, b1⟩
    rw [hv]
    obtain ⟨s0, s1, s2, _⟩ := (BS.fr b1).three
    go_wp2
    go_ret
    exact ⟨ret_int (by rw [R.out]), FW.trans b1⟩
  cases hok : vexpr ds.length n e
  · have R := hid (show selP rows ds ns n e = -1 by unfold selP selOk; rw [hok, Bool.and_false]; rfl)
    go_enter Try.func29, Try.ntmps29
    go_wp2_with fail
    refine absW fun W hW => ?_
    obtain ⟨BE, BS, FW⟩ := selblk hW
    clear hW
    refine (specValidStats rows ds.length D M cd cm ds ns _ (HD.out.fr rdInt_mono FW) (HM.out.fr rdInt_mono FW) hdl hml).mono ?_
    rintro r w1 ⟨rfl, b1⟩
    rw [hv]
    obtain ⟨s0, s1, s2, _⟩ := (BS.fr b1).three
    obtain ⟨a0, a1, a2, a3, a4, _⟩ := (BE.fr b1).five
    have F1 := FW.trans b1
    go_wp2_with fail
    refine (specValidExpr n _ _ _ _ _ (HX.out.fr (rdEx_mono n) F1) HS.out).mono ?_
    rintro r w2 ⟨rfl, b2⟩
    rw [hok]
    go_wp2
    go_ret
    exact ⟨ret_int (by rw [R.out]), F1.trans b2⟩
  · have R := hid (show selP rows ds ns n e = pm rows ds ns n e by unfold selP selOk; rw [hv, hok]; rfl)
    obtain ⟨hst, _, _⟩ := stOk_of hv
    have HST := hid hst
    have hd6 : ds.length ≤ 1048576 := by
      have h := hv
      unfold vstat wid at h
      simp only [Bool.and_eq_true, decide_eq_true_eq] at h
      omega
    have HVE := hid (vexpr_vE' hok)
    clear hst
    go_enter Try.func29, Try.ntmps29
    go_wp2_with fail
    refine absW fun W hW => ?_
    obtain ⟨BE, BS, FW⟩ := selblk hW
    clear hW
    refine (specValidStats rows ds.length D M cd cm ds ns _ (HD.out.fr rdInt_mono FW) (HM.out.fr rdInt_mono FW) hdl hml).mono ?_
    rintro r w1 ⟨rfl, b1⟩
    rw [hv]
    obtain ⟨s0, s1, s2, _⟩ := (BS.fr b1).three
    obtain ⟨a0, a1, a2, a3, a4, _⟩ := (BE.fr b1).five
    have F1 := FW.trans b1
    go_wp2_with fail
    refine (specValidExpr n _ _ _ _ _ (HX.out.fr (rdEx_mono n) F1) HS.out).mono ?_
    rintro r w2 ⟨rfl, b2⟩
    rw [hok]
    have F2 := F1.trans b2
    clear a0 a1 a2 a3 a4 s0 s1 s2
    obtain ⟨s0, s1, s2, _⟩ := (BS.fr (b1.trans b2)).three
    obtain ⟨a0, a1, a2, a3, a4, _⟩ := (BE.fr (b1.trans b2)).five
    go_wp2_with fail
    refine (specPm n e A c rows ds ns D M cd cm 8 _ (HX.out.fr (rdEx_mono n) F2) HS.out HST.out (HD.out.fr rdInt_mono F2) (HM.out.fr rdInt_mono F2) hd6 HVE.out).mono ?_
    rintro r w3 ⟨rfl, b3⟩
    go_wp2
    go_ret
    exact ⟨ret_int (by rw [R.out]), F2.trans b3⟩
set_option maxHeartbeats 1000000 in
theorem implSel (n : Nat) (e : Ex) (A : Option Addr) (c : Nat) (rows : Int) (ds ns : List Int) (D M : Option Addr) (cd cm : Nat) (w : World) (hx : RdSl (rdEx n) w.cell? 5 A e.kids) (hs : exSm n e.kids) (hc : e.kids.length ≤ c) (hd : RdSl rdInt w.cell? 1 D ds) (hm : RdSl rdInt w.cell? 1 M ns) (hdl : ds.length ≤ maxLen) (hml : ns.length ≤ maxLen) :
    Calls Try.prog 32 #[.agg #[.int .i64 e.kind, .int .i64 e.col, .bool e.val.null, .int .i64 e.val.n, .slice A e.kids.length c], .agg #[.int .i64 rows, .slice D ds.length cd, .slice M ns.length cm]] w fun r w' => r = .returned (.int .i64 (selP rows ds ns n e)) ∧ Fr w w' := by
  have HX := hid hx
  have HD := hid hd
  have HM := hid hm
  have HS := hid hs
  clear hx hd hm hs
  cases hv : vstat rows ds ns ds.length
  · have R := hid (show selP rows ds ns n e = -1 by unfold selP selOk; rw [hv]; rfl)
    go_enter Try.func32, Try.ntmps32
    go_wp2_with fail
    refine absW fun W hW => ?_
    obtain ⟨BE, BS, FW⟩ := selblk hW
    clear hW
    refine (implValidStats rows ds.length D M cd cm ds ns _ (HD.out.fr rdInt_mono FW) (HM.out.fr rdInt_mono FW) hdl hml).mono ?_
    rintro r w1 ⟨rfl, b1⟩
    rw [hv]
    obtain ⟨s0, s1, s2, _⟩ := (BS.fr b1).three
    go_wp2
    go_ret
    exact ⟨ret_int (by rw [R.out]), FW.trans b1⟩
  cases hok : vexpr ds.length n e
  · have R := hid (show selP rows ds ns n e = -1 by unfold selP selOk; rw [hok, Bool.and_false]; rfl)
    go_enter Try.func32, Try.ntmps32
    go_wp2_with fail
    refine absW fun W hW => ?_
    obtain ⟨BE, BS, FW⟩ := selblk hW
    clear hW
    refine (implValidStats rows ds.length D M cd cm ds ns _ (HD.out.fr rdInt_mono FW) (HM.out.fr rdInt_mono FW) hdl hml).mono ?_
    rintro r w1 ⟨rfl, b1⟩
    rw [hv]
    obtain ⟨s0, s1, s2, _⟩ := (BS.fr b1).three
    obtain ⟨a0, a1, a2, a3, a4, _⟩ := (BE.fr b1).five
    have F1 := FW.trans b1
    go_wp2_with fail
    refine (implValidExpr n _ _ _ _ _ (HX.out.fr (rdEx_mono n) F1) HS.out hc).mono ?_
    rintro r w2 ⟨rfl, b2⟩
    rw [hok]
    go_wp2
    go_ret
    exact ⟨ret_int (by rw [R.out]), F1.trans b2⟩
  · have R := hid (show selP rows ds ns n e = pm rows ds ns n e by unfold selP selOk; rw [hv, hok]; rfl)
    obtain ⟨hst, _, _⟩ := stOk_of hv
    have HST := hid hst
    have hd6 : ds.length ≤ 1048576 := by
      have h := hv
      unfold vstat wid at h
      simp only [Bool.and_eq_true, decide_eq_true_eq] at h
      omega
    have HVE := hid (vexpr_vE' hok)
    clear hst
    go_enter Try.func32, Try.ntmps32
    go_wp2_with fail
    refine absW fun W hW => ?_
    obtain ⟨BE, BS, FW⟩ := selblk hW
    clear hW
    refine (implValidStats rows ds.length D M cd cm ds ns _ (HD.out.fr rdInt_mono FW) (HM.out.fr rdInt_mono FW) hdl hml).mono ?_
    rintro r w1 ⟨rfl, b1⟩
    rw [hv]
    obtain ⟨s0, s1, s2, _⟩ := (BS.fr b1).three
    obtain ⟨a0, a1, a2, a3, a4, _⟩ := (BE.fr b1).five
    have F1 := FW.trans b1
    go_wp2_with fail
    refine (implValidExpr n _ _ _ _ _ (HX.out.fr (rdEx_mono n) F1) HS.out hc).mono ?_
    rintro r w2 ⟨rfl, b2⟩
    rw [hok]
    have F2 := F1.trans b2
    clear a0 a1 a2 a3 a4 s0 s1 s2
    obtain ⟨s0, s1, s2, _⟩ := (BS.fr (b1.trans b2)).three
    have P := hid (ptrEx (BE.fr (b1.trans b2)) (HX.out.fr (rdEx_mono n) F2) (exSm_len HS.out) hc)
    have Q := hid (show StAt w2.cell? (w.heap.size + 1) rows ds ns from ⟨D, cd, M, cm, s0, s1, s2, HD.out.fr rdInt_mono F2, HM.out.fr rdInt_mono F2⟩)
    go_wp2_with fail
    refine (implPm n e _ 0 rows ds ns _ 8 _ P.out HS.out HST.out Q.out hd6 HVE.out).mono ?_
    rintro r w3 ⟨rfl, b3⟩
    go_wp2
    go_ret
    exact ⟨ret_int (by rw [R.out]), F2.trans b3⟩
end Go.Proofs.Ytkkmfmeocigijaa
