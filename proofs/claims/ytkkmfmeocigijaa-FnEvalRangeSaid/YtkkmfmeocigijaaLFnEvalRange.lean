/- Walk of the law FnEvalRange. -/
import Derived.Test.YtkkmfmeocigijaaEvalM
import Derived.Test.YtkkmfmeocigijaaExprJ
import Derived.Test.YtkkmfmeocigijaaLaw
namespace Go.Proofs.Ytkkmfmeocigijaa
open Go Go.RowKit
set_option maxRecDepth 100000 in
set_option maxHeartbeats 4000000 in
theorem walkFnEvalRange (A0 : Option Addr) (c0 : Nat) (xs : List Nat) (w : World) (hx : RdSl rdByte w.cell? 1 A0 xs) (_ : xs.length ≤ maxLen) (hc : xs.length ≤ c0) :
    Calls Try.prog 7 #[.slice A0 xs.length c0] w fun r w' => r = .returned (.bool true) ∧ Fr w w' := by
  have H := hid hx
  clear hx
  by_cases hlen : (1048576 : Int) < xs.length
  · have e0 : decide ((1048576 : Int) < (xs.length : Int)) = true := by simp; omega
    go_enter Try.func7, Try.ntmps7
    go_wp2
    go_ret
    exact ⟨rfl, Fr.refl _⟩
  have e0 : decide ((1048576 : Int) < (xs.length : Int)) = false := by simp; omega
  go_enter Try.func7, Try.ntmps7
  go_wp2_with fail
  refine (drawEvalExpr _ _ _ _ H.out (by omega) hc).mono ?_
  rintro r w1 ⟨e, A, c, B, rc, row, rfl, hK, hKc, hS, hL, hR, hl7, bw1⟩
  have HK := hid (show KidsOk 3 w1.cell? (e, A, c) from ⟨hK, by show e.kids.length ≤ maxLen; unfold maxLen; omega, hKc⟩)
  have HR := hid hR
  have HS := hid hS
  clear hK hKc hS hR e0 H
  obtain ⟨⟨rn, rx⟩, hres⟩ : ∃ a, evRes row 3 e = a := ⟨_, rfl⟩
  obtain ⟨rk, hok⟩ : ∃ b, evOk row 3 e = b := ⟨_, rfl⟩
  have CI : ∀ W : World, Fr w1 W → Calls Try.prog 21 #[.agg #[.int .i64 e.kind, .int .i64 e.col, .bool e.val.null, .int .i64 e.val.n, .slice A e.kids.length c], .slice B row.length rc] W fun r w' => r = .returned (.tuple #[.agg #[.bool rn, .int .i64 rx], .bool rk]) ∧ Fr W w' := fun W hW => by
    have h := implEvalExpr 3 e A c row B rc W (HK.out.1.mono (rdEx_mono 3) hW.mle) HS.out HK.out.2.2 (HR.out.fr rdV_mono hW) (by omega)
    rw [hres, hok] at h
    exact h
  replace CI := hid CI
  have CS : ∀ W : World, Fr w1 W → Calls Try.prog 22 #[.agg #[.int .i64 e.kind, .int .i64 e.col, .bool e.val.null, .int .i64 e.val.n, .slice A e.kids.length c], .slice B row.length rc] W fun r w' => r = .returned (.tuple #[.agg #[.bool rn, .int .i64 rx], .bool rk]) ∧ Fr W w' := fun W hW => by
    have h := specEvalExpr 3 e A c row B rc W (HK.out.1.mono (rdEx_mono 3) hW.mle) HS.out (HR.out.fr rdV_mono hW) (by omega)
    rw [hres, hok] at h
    exact h
  replace CS := hid CS
  have HRES := hid hres
  have HOK := hid hok
  clear hres hok
  have FW : Fr w1 (w1.alloc (.cells #[.int .i64 e.kind, .int .i64 e.col, .bool e.val.null, .int .i64 e.val.n, .slice A e.kids.length c] 27)) := (Fr.refl _).alloc _
  obtain ⟨a0, a1, a2, a3, a4, _⟩ := (Blk.new w1 27 #[.int .i64 e.kind, .int .i64 e.col, .bool e.val.null, .int .i64 e.val.n, .slice A e.kids.length c]).five
  cases rk
  · skip
    go_wp2_with fail
    refine (CI.out _ FW).mono ?_
    rintro r w2 ⟨rfl, b2⟩
    have K : Fr w2 (w2.alloc (.cells #[.bool rn, .int .i64 rx] 24)) := (Fr.refl _).alloc _
    have FK := b2.trans K
    replace FW := FW.trans FK
    replace a0 := FK.cell a0
    replace a1 := FK.cell a1
    replace a2 := FK.cell a2
    replace a3 := FK.cell a3
    replace a4 := FK.cell a4
    obtain ⟨n1, x1, _⟩ := (Blk.new w2 24 #[.bool rn, .int .i64 rx]).pair
    clear FK K
    go_wp2_with fail
    refine (CS.out _ FW).mono ?_
    rintro r w3 ⟨rfl, b3⟩
    have K : Fr w3 (w3.alloc (.cells #[.bool rn, .int .i64 rx] 24)) := (Fr.refl _).alloc _
    have FK := b3.trans K
    replace FW := FW.trans FK
    replace a0 := FK.cell a0
    replace a1 := FK.cell a1
    replace a2 := FK.cell a2
    replace a3 := FK.cell a3
    replace a4 := FK.cell a4
    replace n1 := FK.cell n1
    replace x1 := FK.cell x1
    obtain ⟨n2, x2, _⟩ := (Blk.new w3 24 #[.bool rn, .int .i64 rx]).pair
    clear FK K
    go_wp2
    go_ret
    exact ⟨rfl, bw1.trans FW⟩
  have hvr := evOk_row HOK.out
  have h1r : 0 < row.length := by
    unfold vrow at hvr
    simp only [Bool.and_eq_true, decide_eq_true_eq] at hvr
    omega
  obtain ⟨rb, ro, hB, r0, r1⟩ := HR.out.v h1r
  subst hB
  simp only [Nat.zero_mul, Nat.add_zero] at r0 r1
  obtain ⟨⟨cn, cx⟩, hcv⟩ : ∃ v : V, row[0] = v := ⟨_, rfl⟩
  rw [hcv] at r0 r1
  have HN := hid (show evOk row 0 (Ex.mk 1 0 ⟨false, 0⟩ []) = true ∧ evRes row 0 (Ex.mk 1 0 ⟨false, 0⟩ []) = ⟨cn, cx⟩ by
    have hok : evOk row 0 (Ex.mk 1 0 ⟨false, 0⟩ []) = true := by
      rw [evOk_eq, hvr]
      show (vE row.length 0 ((8 : Nat) : Int) (Ex.mk 1 0 ⟨false, 0⟩ [])) = true
      unfold vE vHead vScal
      simp [Ex.kids, Ex.kind, Ex.col, Ex.val, nk, V.isZero]
      omega
    refine ⟨hok, ?_⟩
    rw [evRes_ok hok]
    show row.getD 0 default = _
    rw [getD_at h1r, hcv])
  have HVV := hid (show V.valid ⟨rn, rx⟩ = true by
    rw [← HRES.out, evRes_ok HOK.out]
    exact ev_valid (vrow_all hvr) rfl 3 _ _ (evOk_vE HOK.out))
  have HVX := hid (show vexpr row.length 3 e = true by
    have h := HOK.out
    unfold evOk at h
    rw [Bool.and_eq_true] at h
    exact h.2)
  have H1R := hid h1r
  have e1 : decide (0 < row.length) = true := by simp; omega
  replace r0 := FW.cell r0
  replace r1 := FW.cell r1
  clear hcv hvr
  go_wp2_with fail
  refine (CI.out _ FW).mono ?_
  rintro r w2 ⟨rfl, b2⟩
  have K : Fr w2 (w2.alloc (.cells #[.bool rn, .int .i64 rx] 24)) := (Fr.refl _).alloc _
  have FK := b2.trans K
  replace FW := FW.trans FK
  replace a0 := FK.cell a0
  replace a1 := FK.cell a1
  replace a2 := FK.cell a2
  replace a3 := FK.cell a3
  replace a4 := FK.cell a4
  replace r0 := FK.cell r0
  replace r1 := FK.cell r1
  obtain ⟨n1, x1, _⟩ := (Blk.new w2 24 #[.bool rn, .int .i64 rx]).pair
  clear FK K
  go_wp2_with fail
  refine (CS.out _ FW).mono ?_
  rintro r w3 ⟨rfl, b3⟩
  have K : Fr w3 (w3.alloc (.cells #[.bool rn, .int .i64 rx] 24)) := (Fr.refl _).alloc _
  have FK := b3.trans K
  replace FW := FW.trans FK
  replace a0 := FK.cell a0
  replace a1 := FK.cell a1
  replace a2 := FK.cell a2
  replace a3 := FK.cell a3
  replace a4 := FK.cell a4
  replace r0 := FK.cell r0
  replace r1 := FK.cell r1
  replace n1 := FK.cell n1
  replace x1 := FK.cell x1
  obtain ⟨n2, x2, _⟩ := (Blk.new w3 24 #[.bool rn, .int .i64 rx]).pair
  clear FK K
  go_wp2_with fail
  have KN : KidsOk 0 (w3.alloc (.cells #[.bool rn, .int .i64 rx] 24)).cell? ((Ex.mk 1 0 ⟨false, 0⟩ []), none, 0) := leaf_ok
  refine (show Calls Try.prog 21 #[.agg #[.int .i64 1, .int .i64 0, .bool false, .int .i64 0, .slice none 0 0], .slice (some ⟨rb, ro, none⟩) row.length rc] (w3.alloc (.cells #[.bool rn, .int .i64 rx] 24)) fun r w' => r = .returned (.tuple #[.agg #[.bool cn, .int .i64 cx], .bool true]) ∧ Fr (w3.alloc (.cells #[.bool rn, .int .i64 rx] 24)) w' by
    have h := implEvalExpr 0 (Ex.mk 1 0 ⟨false, 0⟩ []) none 0 row _ rc (w3.alloc (.cells #[.bool rn, .int .i64 rx] 24)) KN.1 (exSm_nil 0) KN.2.2 (HR.out.fr rdV_mono FW) (by omega)
    rw [HN.out.2, HN.out.1] at h
    exact h).mono ?_
  rintro r w4 ⟨rfl, b4⟩
  have K : Fr w4 (w4.alloc (.cells #[.bool cn, .int .i64 cx] 24)) := (Fr.refl _).alloc _
  have FK := b4.trans K
  replace FW := FW.trans FK
  replace a0 := FK.cell a0
  replace a1 := FK.cell a1
  replace a2 := FK.cell a2
  replace a3 := FK.cell a3
  replace a4 := FK.cell a4
  replace r0 := FK.cell r0
  replace r1 := FK.cell r1
  replace n1 := FK.cell n1
  replace x1 := FK.cell x1
  replace n2 := FK.cell n2
  replace x2 := FK.cell x2
  obtain ⟨n4, x4, _⟩ := (Blk.new w4 24 #[.bool cn, .int .i64 cx]).pair
  clear FK K
  go_wp2_with fail
  generalize hWX : w4.alloc (.cells #[.bool cn, .int .i64 cx] 24) = WX at FW a0 a1 a2 a3 a4 r0 r1 n1 x1 n2 x2 n4 x4 ⊢
  clear hWX
  have FD : Fr w1 WX.drew := FW.drew
  (go_region_with (first
    | (go_at_call 24; refine (implValidValue rn rx _).mono ?_; rintro r w5 ⟨rfl, b5⟩; rw [HVV.out]; have a0q := b5.cell a0; have a1q := b5.cell a1; have a2q := b5.cell a2; have a3q := b5.cell a3; have a4q := b5.cell a4; have r0q := b5.cell r0; have r1q := b5.cell r1; have n1q := b5.cell n1; have x1q := b5.cell x1; have n2q := b5.cell n2; have x2q := b5.cell x2; have n4q := b5.cell n4; have x4q := b5.cell x4)
    | (go_at_call 18; refine (implValidExpr 3 e A c _ _ ((HK.out.fr FD).1.mono (rdEx_mono 3) (by exact b5.mle)) HS.out HK.out.2.2).mono ?_; rintro r w6 ⟨rfl, b6⟩; rw [HVX.out])))
  all_goals go_wp2
  all_goals go_ret
  all_goals exact ⟨rfl, bw1.trans ((FD.trans b5).trans b6)⟩
end Go.Proofs.Ytkkmfmeocigijaa
