/- Walk of the law FnNullTest. -/
import Derived.Test.YtkkmfmeocigijaaEvalM
import Derived.Test.YtkkmfmeocigijaaExprJ
import Derived.Test.YtkkmfmeocigijaaLaw
namespace Go.Proofs.Ytkkmfmeocigijaa
open Go Go.RowKit
set_option maxRecDepth 100000 in
set_option maxHeartbeats 4000000 in
theorem walkFnNullTest (A0 : Option Addr) (c0 : Nat) (xs : List Nat) (w : World) (hx : RdSl rdByte w.cell? 1 A0 xs) (_ : xs.length ≤ maxLen) (hc : xs.length ≤ c0) :
    Calls Try.prog 5 #[.slice A0 xs.length c0] w fun r w' => r = .returned (.bool true) ∧ Fr w w' := by
  have H := hid hx
  clear hx
  by_cases hlen : (1048576 : Int) < xs.length
  · have e0 : decide ((1048576 : Int) < (xs.length : Int)) = true := by simp; omega
    go_enter Try.func5, Try.ntmps5
    go_wp2
    go_ret
    exact ⟨rfl, Fr.refl _⟩
  have e0 : decide ((1048576 : Int) < (xs.length : Int)) = false := by simp; omega
  go_enter Try.func5, Try.ntmps5
  go_wp2_with fail
  refine (drawEvalExpr _ _ _ _ H.out (by omega) hc).mono ?_
  rintro r w1 ⟨e, A, c, B, rc, row, rfl, hK, hKc, hS, hL, hR, hl7, bw1⟩
  have HK := hid (show KidsOk 3 w1.cell? (e, A, c) from ⟨hK, by show e.kids.length ≤ maxLen; unfold maxLen; omega, hKc⟩)
  have HR := hid hR
  have HS := hid hS
  clear hK hKc hS hR e0 H
  obtain ⟨⟨rn, rx⟩, hres⟩ : ∃ a, evRes row 3 e = a := ⟨_, rfl⟩
  obtain ⟨rk, hok⟩ : ∃ b, evOk row 3 e = b := ⟨_, rfl⟩
  have CI : ∀ W : World, Fr w1 W → Calls Try.prog 21 #[.agg #[.int .i64 e.kind, .int .i64 e.col, .bool e.val.null, .int .i64 e.val.n, .slice A e.kids.length c], .slice B row.length rc] W fun r w' => r = .returned (.tuple #[.agg #[.bool rn, .int .i64 rx], .bool rk]) ∧ Fr W w' := fun W hW => by
    have h := implEvalExpr 3 e A c row B rc W (HK.out.1.mono (rdEx_mono 3) hW.mle) HS.out HK.out.2.2 (HR.out.fr rdV_mono hW) (by omega)
    rw [hres, hok] at h
    exact h
  replace CI := hid CI
  have CS : ∀ W : World, Fr w1 W → Calls Try.prog 22 #[.agg #[.int .i64 e.kind, .int .i64 e.col, .bool e.val.null, .int .i64 e.val.n, .slice A e.kids.length c], .slice B row.length rc] W fun r w' => r = .returned (.tuple #[.agg #[.bool rn, .int .i64 rx], .bool rk]) ∧ Fr W w' := fun W hW => by
    have h := specEvalExpr 3 e A c row B rc W (HK.out.1.mono (rdEx_mono 3) hW.mle) HS.out (HR.out.fr rdV_mono hW) (by omega)
    rw [hres, hok] at h
    exact h
  replace CS := hid CS
  have HRES := hid hres
  have HOK := hid hok
  clear hres hok
  have FW : Fr w1 (w1.alloc (.cells #[.int .i64 e.kind, .int .i64 e.col, .bool e.val.null, .int .i64 e.val.n, .slice A e.kids.length c] 27)) := (Fr.refl _).alloc _
  obtain ⟨a0, a1, a2, a3, a4, _⟩ := (Blk.new w1 27 #[.int .i64 e.kind, .int .i64 e.col, .bool e.val.null, .int .i64 e.val.n, .slice A e.kids.length c]).five
  cases rk
  · skip
    go_wp2_with fail
    refine (CI.out _ FW).mono ?_
    rintro r w2 ⟨rfl, b2⟩
    have K : Fr w2 (w2.alloc (.cells #[.bool rn, .int .i64 rx] 24)) := (Fr.refl _).alloc _
    have FK := b2.trans K
    replace FW := FW.trans FK
    replace a0 := FK.cell a0
    replace a1 := FK.cell a1
    replace a2 := FK.cell a2
    replace a3 := FK.cell a3
    replace a4 := FK.cell a4
    obtain ⟨n1, x1, _⟩ := (Blk.new w2 24 #[.bool rn, .int .i64 rx]).pair
    clear FK K
    go_wp2_with fail
    refine (CS.out _ FW).mono ?_
    rintro r w3 ⟨rfl, b3⟩
    have K : Fr w3 (w3.alloc (.cells #[.bool rn, .int .i64 rx] 24)) := (Fr.refl _).alloc _
    have FK := b3.trans K
    replace FW := FW.trans FK
    replace a0 := FK.cell a0
    replace a1 := FK.cell a1
    replace a2 := FK.cell a2
    replace a3 := FK.cell a3
    replace a4 := FK.cell a4
    replace n1 := FK.cell n1
    replace x1 := FK.cell x1
    obtain ⟨n2, x2, _⟩ := (Blk.new w3 24 #[.bool rn, .int .i64 rx]).pair
    clear FK K
    go_wp2
    go_ret
    exact ⟨rfl, bw1.trans FW⟩
  obtain ⟨⟨tn, tx⟩, ht⟩ : ∃ a, evRes row 4 (Ex.mk 11 0 ⟨false, 0⟩ [e]) = a := ⟨_, rfl⟩
  obtain ⟨tk, htk⟩ : ∃ b, evOk row 4 (Ex.mk 11 0 ⟨false, 0⟩ [e]) = b := ⟨_, rfl⟩
  have LAW := hid (show tk = true → (⟨tn, tx⟩ : V) = V.flag rn by
    intro h
    rw [h] at htk
    rw [← ht, evRes_ok htk, ev_mkNul, ← evRes_ok HOK.out, HRES.out])
  have HT := hid ht
  have HTK := hid htk
  have HS4 := hid (show exSm 4 [e] from exSm_two (by simp) (fun x hx => by simp only [List.mem_cons, List.not_mem_nil, or_false] at hx; subst hx; exact HS.out))
  clear ht htk
  go_wp2_with fail
  refine (CI.out _ FW).mono ?_
  rintro r w2 ⟨rfl, b2⟩
  have K : Fr w2 (w2.alloc (.cells #[.bool rn, .int .i64 rx] 24)) := (Fr.refl _).alloc _
  have FK := b2.trans K
  replace FW := FW.trans FK
  replace a0 := FK.cell a0
  replace a1 := FK.cell a1
  replace a2 := FK.cell a2
  replace a3 := FK.cell a3
  replace a4 := FK.cell a4
  obtain ⟨n1, x1, _⟩ := (Blk.new w2 24 #[.bool rn, .int .i64 rx]).pair
  clear FK K
  go_wp2_with fail
  refine (CS.out _ FW).mono ?_
  rintro r w3 ⟨rfl, b3⟩
  have K : Fr w3 (w3.alloc (.cells #[.bool rn, .int .i64 rx] 24)) := (Fr.refl _).alloc _
  have FK := b3.trans K
  replace FW := FW.trans FK
  replace a0 := FK.cell a0
  replace a1 := FK.cell a1
  replace a2 := FK.cell a2
  replace a3 := FK.cell a3
  replace a4 := FK.cell a4
  replace n1 := FK.cell n1
  replace x1 := FK.cell x1
  obtain ⟨n2, x2, _⟩ := (Blk.new w3 24 #[.bool rn, .int .i64 rx]).pair
  clear FK K
  go_wp2_with fail
  refine absW fun W hW => ?_
  have hz : (w3.alloc (.cells #[.bool rn, .int .i64 rx] 24)).heap.size = w3.heap.size + 1 := by simp
  have KL : KidsOk 4 W.cell? (Ex.mk 11 0 ⟨false, 0⟩ [e], some ⟨w3.heap.size + 1, 0, none⟩, 1) := by
    refine ⟨?_, by simp [Ex.kids, maxLen], by simp [Ex.kids]⟩
    rw [← hz, hW]
    exact lit_ex (w := w3.alloc (.cells #[.bool rn, .int .i64 rx] 24)) (xs := [(e, A, c)]) (win_le.trans (fromB_le _ _)) (fun z hz => by
      simp only [List.mem_cons, List.not_mem_nil, or_false] at hz
      subst hz
      exact (HK.out).fr (FW.trans ((Fr.refl _).alloc _)))
  have FL : Fr (w3.alloc (.cells #[.bool rn, .int .i64 rx] 24)) W := by rw [hW]; exact (Fr.refl _).alloc _
  replace FW := FW.trans FL
  clear hW hz
  replace a0 := FL.cell a0
  replace a1 := FL.cell a1
  replace a2 := FL.cell a2
  replace a3 := FL.cell a3
  replace a4 := FL.cell a4
  replace n1 := FL.cell n1
  replace x1 := FL.cell x1
  replace n2 := FL.cell n2
  replace x2 := FL.cell x2
  clear FL
  refine (show Calls Try.prog 21 #[.agg #[.int .i64 11, .int .i64 0, .bool false, .int .i64 0, .slice (some ⟨w3.heap.size + 1, 0, none⟩) 1 1], .slice B row.length rc] W fun r w' => r = .returned (.tuple #[.agg #[.bool tn, .int .i64 tx], .bool tk]) ∧ Fr W w' by
    have h := implEvalExpr 4 (Ex.mk 11 0 ⟨false, 0⟩ [e]) (some ⟨w3.heap.size + 1, 0, none⟩) 1 row B rc W KL.1 HS4.out KL.2.2 (HR.out.fr rdV_mono FW) (by omega)
    rw [HT.out, HTK.out] at h
    exact h).mono ?_
  rintro r w4 ⟨rfl, b4⟩
  have K : Fr w4 (w4.alloc (.cells #[.bool tn, .int .i64 tx] 24)) := (Fr.refl _).alloc _
  have FK := b4.trans K
  replace FW := FW.trans FK
  replace a0 := FK.cell a0
  replace a1 := FK.cell a1
  replace a2 := FK.cell a2
  replace a3 := FK.cell a3
  replace a4 := FK.cell a4
  replace n1 := FK.cell n1
  replace x1 := FK.cell x1
  replace n2 := FK.cell n2
  replace x2 := FK.cell x2
  obtain ⟨n4, x4, _⟩ := (Blk.new w4 24 #[.bool tn, .int .i64 tx]).pair
  clear FK K
  cases tk
  · go_wp2
    go_ret
    exact ⟨rfl, bw1.trans FW⟩
  have L := LAW.out rfl
  have L1 : tn = false := congrArg V.null L
  have L2 : tx = if rn then 1 else 0 := congrArg V.n L
  subst L1
  cases rn
  all_goals simp only [Bool.false_eq_true, if_false, if_true] at L2
  all_goals subst L2
  all_goals clear L
  all_goals go_wp2
  all_goals go_ret
  all_goals exact ⟨rfl, bw1.trans FW⟩
end Go.Proofs.Ytkkmfmeocigijaa
