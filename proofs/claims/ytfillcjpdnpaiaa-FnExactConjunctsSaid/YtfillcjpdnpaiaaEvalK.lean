/- EvalExpr on both sides. -/
import Derived.Test.YtfillcjpdnpaiaaEvalJ
import Derived.Test.YtfillcjpdnpaiaaRowV
namespace Go.Proofs.Ytfillcjpdnpaiaa
open Go Go.RowKit

def evOk (row : List V) (n : Nat) (e : Ex) : Bool := vrow row && vexpr row.length n e
def evRes (row : List V) (n : Nat) (e : Ex) : V := if evOk row n e then ev row n e else ⟨false, 0⟩
theorem vexpr_vE' {wd : Int} {n : Nat} {e : Ex} (h : vexpr wd n e = true) : vE wd n (8 : Nat) e = true := by
  unfold vexpr at h
  rw [Bool.and_eq_true] at h
  exact h.2
theorem vrow_all {row : List V} (h : vrow row = true) : row.all V.valid = true := by
  unfold vrow at h
  rw [Bool.and_eq_true] at h
  exact h.2
set_option maxHeartbeats 1000000 in
theorem specEvalExpr (n : Nat) (e : Ex) (A : Option Addr) (c : Nat) (row : List V) (B : Option Addr) (rc : Nat) (w : World) (hx : RdSl (rdEx n) w.cell? 5 A e.kids) (hs : exSm n e.kids) (hr : RdSl rdV w.cell? 2 B row) (hrl : row.length ≤ 1048576) :
    Calls Try.prog 30 #[.agg #[.int .i64 e.kind, .int .i64 e.col, .bool e.val.null, .int .i64 e.val.n, .slice A e.kids.length c], .slice B row.length rc] w fun r w' => r = .returned (.tuple #[.agg #[.bool (evRes row n e).null, .int .i64 (evRes row n e).n], .bool (evOk row n e)]) ∧ Fr w w' := by
  have HX := hid hx
  have HR := hid hr
  have HS := hid hs
  clear hx hr hs
  cases hv : vrow row
  · have R := hid (show evOk row n e = false by unfold evOk; rw [hv]; rfl)
    have R2 := hid (show evRes row n e = ⟨false, 0⟩ by unfold evRes; rw [R.out]; rfl)
    go_enter Try.func30, Try.ntmps30
    go_wp2_with fail
    refine absW fun W hW => ?_
    obtain ⟨BA, BR, FW⟩ := evblk hW
    clear hW
    refine (specVRow _ _ _ _ (HR.out.fr rdV_mono FW) hrl).mono ?_
    rintro r w1 ⟨rfl, b1⟩
    rw [hv]
    obtain ⟨z0, z1, f0, f1⟩ := (BR.fr b1).pair
    have FF := FW.trans b1
    go_wp2
    exact bodyPost_ret (v := .tuple #[.agg #[.bool false, .int .i64 0], .bool false]) (by simp [results, Try.results30, go_sem, z0, z1]) rfl ⟨by rw [R.out, R2.out], by (repeat (first | with_reducible exact Fr.refl _ | with_reducible assumption | with_reducible refine Fr.alloc ?_ _ | with_reducible refine Fr.drew ?_ | with_reducible refine Fr.drewN ?_ _ | (with_reducible refine Fr.setNew2 ?_ ?_ _; · (simp <;> omega)) | with_reducible refine Fr.trans ?_ (by assumption)))⟩
  · have HV := hid (vrow_all hv)
    cases hok : vexpr row.length n e
    · have R := hid (show evOk row n e = false by unfold evOk; rw [hok, Bool.and_false])
      have R2 := hid (show evRes row n e = ⟨false, 0⟩ by unfold evRes; rw [R.out]; rfl)
      go_enter Try.func30, Try.ntmps30
      go_wp2_with fail
      refine absW fun W hW => ?_
      obtain ⟨BA, BR, FW⟩ := evblk hW
      clear hW
      refine (specVRow _ _ _ _ (HR.out.fr rdV_mono FW) hrl).mono ?_
      rintro r w1 ⟨rfl, b1⟩
      rw [hv]
      obtain ⟨a0, a1, a2, a3, a4, _⟩ := (BA.fr b1).five
      have F1 := FW.trans b1
      go_wp2_with fail
      refine (specValidExpr n _ _ _ _ _ (HX.out.fr (rdEx_mono n) F1) HS.out).mono ?_
      rintro r w2 ⟨rfl, b2⟩
      rw [hok]
      obtain ⟨z0, z1, f0, f1⟩ := (BR.fr (b1.trans b2)).pair
      have FF := F1.trans b2
      go_wp2
      exact bodyPost_ret (v := .tuple #[.agg #[.bool false, .int .i64 0], .bool false]) (by simp [results, Try.results30, go_sem, z0, z1]) rfl ⟨by rw [R.out, R2.out], by (repeat (first | with_reducible exact Fr.refl _ | with_reducible assumption | with_reducible refine Fr.alloc ?_ _ | with_reducible refine Fr.drew ?_ | with_reducible refine Fr.drewN ?_ _ | (with_reducible refine Fr.setNew2 ?_ ?_ _; · (simp <;> omega)) | with_reducible refine Fr.trans ?_ (by assumption)))⟩
    · have R := hid (show evOk row n e = true by unfold evOk; rw [hv, hok]; rfl)
      have R2 := hid (show evRes row n e = ev row n e by unfold evRes; rw [R.out]; rfl)
      have HVE := hid (vexpr_vE' hok)
      go_enter Try.func30, Try.ntmps30
      go_wp2_with fail
      refine absW fun W hW => ?_
      obtain ⟨BA, BR, FW⟩ := evblk hW
      clear hW
      refine (specVRow _ _ _ _ (HR.out.fr rdV_mono FW) hrl).mono ?_
      rintro r w1 ⟨rfl, b1⟩
      rw [hv]
      obtain ⟨a0, a1, a2, a3, a4, _⟩ := (BA.fr b1).five
      have F1 := FW.trans b1
      go_wp2_with fail
      refine (specValidExpr n _ _ _ _ _ (HX.out.fr (rdEx_mono n) F1) HS.out).mono ?_
      rintro r w2 ⟨rfl, b2⟩
      rw [hok]
      have F2 := F1.trans b2
      clear a0 a1 a2 a3 a4
      obtain ⟨a0, a1, a2, a3, a4, _⟩ := (BA.fr (b1.trans b2)).five
      go_wp2_with fail
      refine (specEv n _ _ _ _ _ _ _ _ (HX.out.fr (rdEx_mono n) F2) HS.out (HR.out.fr rdV_mono F2) HV.out hrl HVE.out).mono ?_
      rintro r w3 ⟨rfl, b3⟩
      obtain ⟨z0, z1, f0, f1⟩ := (BR.fr ((b1.trans b2).trans b3)).pair
      have FF := F2.trans b3
      go_wp2
      exact bodyPost_ret (v := .tuple #[.agg #[.bool (ev row n e).null, .int .i64 (ev row n e).n], .bool true]) (by simp [results, Try.results30, go_sem, z0, z1]) rfl ⟨by rw [R.out, R2.out], by (repeat (first | with_reducible exact Fr.refl _ | with_reducible assumption | with_reducible refine Fr.alloc ?_ _ | with_reducible refine Fr.drew ?_ | with_reducible refine Fr.drewN ?_ _ | (with_reducible refine Fr.setNew2 ?_ ?_ _; · (simp <;> omega)) | with_reducible refine Fr.trans ?_ (by assumption)))⟩
set_option maxHeartbeats 1000000 in
theorem implEvalExpr (n : Nat) (e : Ex) (A : Option Addr) (c : Nat) (row : List V) (B : Option Addr) (rc : Nat) (w : World) (hx : RdSl (rdEx n) w.cell? 5 A e.kids) (hs : exSm n e.kids) (hc : e.kids.length ≤ c) (hr : RdSl rdV w.cell? 2 B row) (hrl : row.length ≤ 1048576) :
    Calls Try.prog 29 #[.agg #[.int .i64 e.kind, .int .i64 e.col, .bool e.val.null, .int .i64 e.val.n, .slice A e.kids.length c], .slice B row.length rc] w fun r w' => r = .returned (.tuple #[.agg #[.bool (evRes row n e).null, .int .i64 (evRes row n e).n], .bool (evOk row n e)]) ∧ Fr w w' := by
  have HX := hid hx
  have HR := hid hr
  have HS := hid hs
  clear hx hr hs
  cases hv : vrow row
  · have R := hid (show evOk row n e = false by unfold evOk; rw [hv]; rfl)
    have R2 := hid (show evRes row n e = ⟨false, 0⟩ by unfold evRes; rw [R.out]; rfl)
    go_enter Try.func29, Try.ntmps29
    go_wp2_with fail
    refine absW fun W hW => ?_
    obtain ⟨BA, BR, FW⟩ := evblk hW
    clear hW
    refine (implVRow _ _ _ _ (HR.out.fr rdV_mono FW) hrl).mono ?_
    rintro r w1 ⟨rfl, b1⟩
    rw [hv]
    obtain ⟨z0, z1, f0, f1⟩ := (BR.fr b1).pair
    have FF := FW.trans b1
    go_wp2
    exact bodyPost_ret (v := .tuple #[.agg #[.bool false, .int .i64 0], .bool false]) (by simp [results, Try.results29, go_sem, z0, z1]) rfl ⟨by rw [R.out, R2.out], by (repeat (first | with_reducible exact Fr.refl _ | with_reducible assumption | with_reducible refine Fr.alloc ?_ _ | with_reducible refine Fr.drew ?_ | with_reducible refine Fr.drewN ?_ _ | (with_reducible refine Fr.setNew2 ?_ ?_ _; · (simp <;> omega)) | with_reducible refine Fr.trans ?_ (by assumption)))⟩
  · have HV := hid (vrow_all hv)
    cases hok : vexpr row.length n e
    · have R := hid (show evOk row n e = false by unfold evOk; rw [hok, Bool.and_false])
      have R2 := hid (show evRes row n e = ⟨false, 0⟩ by unfold evRes; rw [R.out]; rfl)
      go_enter Try.func29, Try.ntmps29
      go_wp2_with fail
      refine absW fun W hW => ?_
      obtain ⟨BA, BR, FW⟩ := evblk hW
      clear hW
      refine (implVRow _ _ _ _ (HR.out.fr rdV_mono FW) hrl).mono ?_
      rintro r w1 ⟨rfl, b1⟩
      rw [hv]
      obtain ⟨a0, a1, a2, a3, a4, _⟩ := (BA.fr b1).five
      have F1 := FW.trans b1
      go_wp2_with fail
      refine (implValidExpr n _ _ _ _ _ (HX.out.fr (rdEx_mono n) F1) HS.out hc).mono ?_
      rintro r w2 ⟨rfl, b2⟩
      rw [hok]
      obtain ⟨z0, z1, f0, f1⟩ := (BR.fr (b1.trans b2)).pair
      have FF := F1.trans b2
      go_wp2
      exact bodyPost_ret (v := .tuple #[.agg #[.bool false, .int .i64 0], .bool false]) (by simp [results, Try.results29, go_sem, z0, z1]) rfl ⟨by rw [R.out, R2.out], by (repeat (first | with_reducible exact Fr.refl _ | with_reducible assumption | with_reducible refine Fr.alloc ?_ _ | with_reducible refine Fr.drew ?_ | with_reducible refine Fr.drewN ?_ _ | (with_reducible refine Fr.setNew2 ?_ ?_ _; · (simp <;> omega)) | with_reducible refine Fr.trans ?_ (by assumption)))⟩
    · have R := hid (show evOk row n e = true by unfold evOk; rw [hv, hok]; rfl)
      have R2 := hid (show evRes row n e = ev row n e by unfold evRes; rw [R.out]; rfl)
      have HVE := hid (vexpr_vE' hok)
      go_enter Try.func29, Try.ntmps29
      go_wp2_with fail
      refine absW fun W hW => ?_
      obtain ⟨BA, BR, FW⟩ := evblk hW
      clear hW
      refine (implVRow _ _ _ _ (HR.out.fr rdV_mono FW) hrl).mono ?_
      rintro r w1 ⟨rfl, b1⟩
      rw [hv]
      obtain ⟨a0, a1, a2, a3, a4, _⟩ := (BA.fr b1).five
      have F1 := FW.trans b1
      go_wp2_with fail
      refine (implValidExpr n _ _ _ _ _ (HX.out.fr (rdEx_mono n) F1) HS.out hc).mono ?_
      rintro r w2 ⟨rfl, b2⟩
      rw [hok]
      have F2 := F1.trans b2
      have P := hid (ptrEx (BA.fr (b1.trans b2)) (HX.out.fr (rdEx_mono n) F2) (exSm_len HS.out) hc)
      go_wp2_with fail
      refine (implEv n _ _ _ _ _ _ _ _ P.out HS.out (HR.out.fr rdV_mono F2) HV.out hrl HVE.out).mono ?_
      rintro r w3 ⟨rfl, b3⟩
      obtain ⟨z0, z1, f0, f1⟩ := (BR.fr ((b1.trans b2).trans b3)).pair
      have FF := F2.trans b3
      go_wp2
      exact bodyPost_ret (v := .tuple #[.agg #[.bool (ev row n e).null, .int .i64 (ev row n e).n], .bool true]) (by simp [results, Try.results29, go_sem, z0, z1]) rfl ⟨by rw [R.out, R2.out], by (repeat (first | with_reducible exact Fr.refl _ | with_reducible assumption | with_reducible refine Fr.alloc ?_ _ | with_reducible refine Fr.drew ?_ | with_reducible refine Fr.drewN ?_ _ | (with_reducible refine Fr.setNew2 ?_ ?_ _; · (simp <;> omega)) | with_reducible refine Fr.trans ?_ (by assumption)))⟩
end Go.Proofs.Ytfillcjpdnpaiaa
