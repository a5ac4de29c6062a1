/- Walk of the law FnNullPropagates. -/
import Derived.Test.YtkkmfmeocigijaaEvalM
import Derived.Test.YtkkmfmeocigijaaExprJ
import Derived.Test.YtkkmfmeocigijaaLaw
namespace Go.Proofs.Ytkkmfmeocigijaa
open Go Go.RowKit
set_option maxRecDepth 100000 in
set_option maxHeartbeats 4000000 in
theorem walkFnNullPropagates (A0 : Option Addr) (c0 : Nat) (xs : List Nat) (w : World) (hx : RdSl rdByte w.cell? 1 A0 xs) (_ : xs.length ≤ maxLen) (hc : xs.length ≤ c0) :
    Calls Try.prog 4 #[.slice A0 xs.length c0] w fun r w' => r = .returned (.bool true) ∧ Fr w w' := by
  have H := hid hx
  clear hx
  by_cases hlen : (1048576 : Int) < xs.length
  · have e0 : decide ((1048576 : Int) < (xs.length : Int)) = true := by simp; omega
    go_enter Try.func4, Try.ntmps4
    go_wp2
    go_ret
    exact ⟨rfl, Fr.refl _⟩
  have e0 : decide ((1048576 : Int) < (xs.length : Int)) = false := by simp; omega
  go_enter Try.func4, Try.ntmps4
  go_wp2_with fail
  refine (drawEvalExpr _ _ _ _ H.out (by omega) hc).mono ?_
  rintro r w1 ⟨e, A, c, B, rc, row, rfl, hK, hKc, hS, hL, hR, hl7, bw1⟩
  have HK := hid (show KidsOk 3 w1.cell? (e, A, c) from ⟨hK, by show e.kids.length ≤ maxLen; unfold maxLen; omega, hKc⟩)
  have HR := hid hR
  have HS := hid hS
  clear hK hKc hS hR e0 H
  obtain ⟨⟨rn, rx⟩, hres⟩ : ∃ a, evRes row 3 e = a := ⟨_, rfl⟩
  obtain ⟨rk, hok⟩ : ∃ b, evOk row 3 e = b := ⟨_, rfl⟩
  have CI : ∀ W : World, Fr w1 W → Calls Try.prog 21 #[.agg #[.int .i64 e.kind, .int .i64 e.col, .bool e.val.null, .int .i64 e.val.n, .slice A e.kids.length c], .slice B row.length rc] W fun r w' => r = .returned (.tuple #[.agg #[.bool rn, .int .i64 rx], .bool rk]) ∧ Fr W w' := fun W hW => by
    have h := implEvalExpr 3 e A c row B rc W (HK.out.1.mono (rdEx_mono 3) hW.mle) HS.out HK.out.2.2 (HR.out.fr rdV_mono hW) (by omega)
    rw [hres, hok] at h
    exact h
  replace CI := hid CI
  have CS : ∀ W : World, Fr w1 W → Calls Try.prog 22 #[.agg #[.int .i64 e.kind, .int .i64 e.col, .bool e.val.null, .int .i64 e.val.n, .slice A e.kids.length c], .slice B row.length rc] W fun r w' => r = .returned (.tuple #[.agg #[.bool rn, .int .i64 rx], .bool rk]) ∧ Fr W w' := fun W hW => by
    have h := specEvalExpr 3 e A c row B rc W (HK.out.1.mono (rdEx_mono 3) hW.mle) HS.out (HR.out.fr rdV_mono hW) (by omega)
    rw [hres, hok] at h
    exact h
  replace CS := hid CS
  have HRES := hid hres
  have HOK := hid hok
  clear hres hok
  have FW : Fr w1 (w1.alloc (.cells #[.int .i64 e.kind, .int .i64 e.col, .bool e.val.null, .int .i64 e.val.n, .slice A e.kids.length c] 27)) := (Fr.refl _).alloc _
  obtain ⟨a0, a1, a2, a3, a4, _⟩ := (Blk.new w1 27 #[.int .i64 e.kind, .int .i64 e.col, .bool e.val.null, .int .i64 e.val.n, .slice A e.kids.length c]).five
  cases rk
  · skip
    go_wp2_with fail
    refine (CI.out _ FW).mono ?_
    rintro r w2 ⟨rfl, b2⟩
    have K : Fr w2 (w2.alloc (.cells #[.bool rn, .int .i64 rx] 24)) := (Fr.refl _).alloc _
    have FK := b2.trans K
    replace FW := FW.trans FK
    replace a0 := FK.cell a0
    replace a1 := FK.cell a1
    replace a2 := FK.cell a2
    replace a3 := FK.cell a3
    replace a4 := FK.cell a4
    obtain ⟨n1, x1, _⟩ := (Blk.new w2 24 #[.bool rn, .int .i64 rx]).pair
    clear FK K
    go_wp2_with fail
    refine (CS.out _ FW).mono ?_
    rintro r w3 ⟨rfl, b3⟩
    have K : Fr w3 (w3.alloc (.cells #[.bool rn, .int .i64 rx] 24)) := (Fr.refl _).alloc _
    have FK := b3.trans K
    replace FW := FW.trans FK
    replace a0 := FK.cell a0
    replace a1 := FK.cell a1
    replace a2 := FK.cell a2
    replace a3 := FK.cell a3
    replace a4 := FK.cell a4
    replace n1 := FK.cell n1
    replace x1 := FK.cell x1
    obtain ⟨n2, x2, _⟩ := (Blk.new w3 24 #[.bool rn, .int .i64 rx]).pair
    clear FK K
    go_wp2
    go_ret
    exact ⟨rfl, bw1.trans FW⟩
  by_cases hk3 : e.kind < 3
  · have e3 : decide (e.kind < 3) = true := by simp; omega
    go_wp2_with fail
    refine (CI.out _ FW).mono ?_
    rintro r w2 ⟨rfl, b2⟩
    have K : Fr w2 (w2.alloc (.cells #[.bool rn, .int .i64 rx] 24)) := (Fr.refl _).alloc _
    have FK := b2.trans K
    replace FW := FW.trans FK
    replace a0 := FK.cell a0
    replace a1 := FK.cell a1
    replace a2 := FK.cell a2
    replace a3 := FK.cell a3
    replace a4 := FK.cell a4
    obtain ⟨n1, x1, _⟩ := (Blk.new w2 24 #[.bool rn, .int .i64 rx]).pair
    clear FK K
    go_wp2_with fail
    refine (CS.out _ FW).mono ?_
    rintro r w3 ⟨rfl, b3⟩
    have K : Fr w3 (w3.alloc (.cells #[.bool rn, .int .i64 rx] 24)) := (Fr.refl _).alloc _
    have FK := b3.trans K
    replace FW := FW.trans FK
    replace a0 := FK.cell a0
    replace a1 := FK.cell a1
    replace a2 := FK.cell a2
    replace a3 := FK.cell a3
    replace a4 := FK.cell a4
    replace n1 := FK.cell n1
    replace x1 := FK.cell x1
    obtain ⟨n2, x2, _⟩ := (Blk.new w3 24 #[.bool rn, .int .i64 rx]).pair
    clear FK K
    go_wp2
    go_ret
    exact ⟨rfl, bw1.trans FW⟩
  by_cases hk7 : 7 < e.kind
  · have e3 : decide (e.kind < 3) = false := by simp; omega
    have e7 : decide (7 < e.kind) = true := by simp; omega
    go_wp2_with fail
    refine (CI.out _ FW).mono ?_
    rintro r w2 ⟨rfl, b2⟩
    have K : Fr w2 (w2.alloc (.cells #[.bool rn, .int .i64 rx] 24)) := (Fr.refl _).alloc _
    have FK := b2.trans K
    replace FW := FW.trans FK
    replace a0 := FK.cell a0
    replace a1 := FK.cell a1
    replace a2 := FK.cell a2
    replace a3 := FK.cell a3
    replace a4 := FK.cell a4
    obtain ⟨n1, x1, _⟩ := (Blk.new w2 24 #[.bool rn, .int .i64 rx]).pair
    clear FK K
    go_wp2_with fail
    refine (CS.out _ FW).mono ?_
    rintro r w3 ⟨rfl, b3⟩
    have K : Fr w3 (w3.alloc (.cells #[.bool rn, .int .i64 rx] 24)) := (Fr.refl _).alloc _
    have FK := b3.trans K
    replace FW := FW.trans FK
    replace a0 := FK.cell a0
    replace a1 := FK.cell a1
    replace a2 := FK.cell a2
    replace a3 := FK.cell a3
    replace a4 := FK.cell a4
    replace n1 := FK.cell n1
    replace x1 := FK.cell x1
    obtain ⟨n2, x2, _⟩ := (Blk.new w3 24 #[.bool rn, .int .i64 rx]).pair
    clear FK K
    go_wp2
    go_ret
    exact ⟨rfl, bw1.trans FW⟩
  have e3 : decide (e.kind < 3) = false := by simp; omega
  have e7 : decide (7 < e.kind) = false := by simp; omega
  have hlen2 : e.kids.length = 2 := by
    rcases kind_cases (evOk_vE HOK.out) with h | h | h | h | h <;> omega
  have hlt0 : 0 < e.kids.length := by omega
  obtain ⟨kb, ko, K0, kc0, hA, d0, d1, d2, d3, d4, hk0⟩ := HK.out.1.exc hlt0
  have hlt1 : 1 < e.kids.length := by omega
  obtain ⟨kb1, ko1, K1, kc1, hA1, g0, g1, g2, g3, g4, hk1⟩ := HK.out.1.exc hlt1
  subst hA
  cases hA1
  simp only [Nat.zero_mul, Nat.add_zero, Nat.one_mul] at d0 d1 d2 d3 d4 g0 g1 g2 g3 g4
  have HK0 := hid hk0
  have HK1 := hid hk1
  have HS0 := hid (HS.out.2 0 hlt0)
  have HS1 := hid (HS.out.2 1 hlt1)
  clear hk0 hk1
  replace d0 := FW.cell d0
  replace d1 := FW.cell d1
  replace d2 := FW.cell d2
  replace d3 := FW.cell d3
  replace d4 := FW.cell d4
  replace g0 := FW.cell g0
  replace g1 := FW.cell g1
  replace g2 := FW.cell g2
  replace g3 := FW.cell g3
  replace g4 := FW.cell g4
  have HOK0 := hid (evOk_kid HOK.out hlt0)
  have HOK1 := hid (evOk_kid HOK.out hlt1)
  obtain ⟨⟨an, ax⟩, ha⟩ : ∃ a, evRes row 2 e.kids[0] = a := ⟨_, rfl⟩
  obtain ⟨⟨bn, bx⟩, hb⟩ : ∃ a, evRes row 2 e.kids[1] = a := ⟨_, rfl⟩
  have C0 : ∀ W : World, Fr w1 W → Calls Try.prog 21 #[.agg #[.int .i64 e.kids[0].kind, .int .i64 e.kids[0].col, .bool e.kids[0].val.null, .int .i64 e.kids[0].val.n, .slice K0 e.kids[0].kids.length kc0], .slice B row.length rc] W fun r w' => r = .returned (.tuple #[.agg #[.bool an, .int .i64 ax], .bool true]) ∧ Fr W w' := fun W hW => by
    have h := implEvalExpr 2 e.kids[0] K0 kc0 row B rc W (HK0.out.1.mono (rdEx_mono 2) hW.mle) HS0.out HK0.out.2.2 (HR.out.fr rdV_mono hW) (by omega)
    rw [ha, HOK0.out] at h
    exact h
  replace C0 := hid C0
  have C1 : ∀ W : World, Fr w1 W → Calls Try.prog 21 #[.agg #[.int .i64 e.kids[1].kind, .int .i64 e.kids[1].col, .bool e.kids[1].val.null, .int .i64 e.kids[1].val.n, .slice K1 e.kids[1].kids.length kc1], .slice B row.length rc] W fun r w' => r = .returned (.tuple #[.agg #[.bool bn, .int .i64 bx], .bool true]) ∧ Fr W w' := fun W hW => by
    have h := implEvalExpr 2 e.kids[1] K1 kc1 row B rc W (HK1.out.1.mono (rdEx_mono 2) hW.mle) HS1.out HK1.out.2.2 (HR.out.fr rdV_mono hW) (by omega)
    rw [hb, HOK1.out] at h
    exact h
  replace C1 := hid C1
  have LAW := hid (show ((!an && !bn) || rn) = true by
    have h := law_null (k := e.kind) (a := ⟨an, ax⟩) (b := ⟨bn, bx⟩) (by omega) (by omega)
    have e1 : comb e.kind ⟨an, ax⟩ ⟨bn, bx⟩ = ⟨rn, rx⟩ := by
      rw [← HRES.out, evRes_ok HOK.out, ev_two (by omega) hlt0 hlt1, ← evRes_ok HOK0.out, ← evRes_ok HOK1.out, ha, hb]
    rw [e1] at h
    exact h)
  have HL2 := hid hlen2
  clear ha hb hlen2 hk3 hk7
  go_wp2_with fail
  refine (CI.out _ FW).mono ?_
  rintro r w2 ⟨rfl, b2⟩
  have K : Fr w2 (w2.alloc (.cells #[.bool rn, .int .i64 rx] 24)) := (Fr.refl _).alloc _
  have FK := b2.trans K
  replace FW := FW.trans FK
  replace a0 := FK.cell a0
  replace a1 := FK.cell a1
  replace a2 := FK.cell a2
  replace a3 := FK.cell a3
  replace a4 := FK.cell a4
  replace d0 := FK.cell d0
  replace d1 := FK.cell d1
  replace d2 := FK.cell d2
  replace d3 := FK.cell d3
  replace d4 := FK.cell d4
  replace g0 := FK.cell g0
  replace g1 := FK.cell g1
  replace g2 := FK.cell g2
  replace g3 := FK.cell g3
  replace g4 := FK.cell g4
  obtain ⟨n1, x1, _⟩ := (Blk.new w2 24 #[.bool rn, .int .i64 rx]).pair
  clear FK K
  go_wp2_with fail
  refine (CS.out _ FW).mono ?_
  rintro r w3 ⟨rfl, b3⟩
  have K : Fr w3 (w3.alloc (.cells #[.bool rn, .int .i64 rx] 24)) := (Fr.refl _).alloc _
  have FK := b3.trans K
  replace FW := FW.trans FK
  replace a0 := FK.cell a0
  replace a1 := FK.cell a1
  replace a2 := FK.cell a2
  replace a3 := FK.cell a3
  replace a4 := FK.cell a4
  replace d0 := FK.cell d0
  replace d1 := FK.cell d1
  replace d2 := FK.cell d2
  replace d3 := FK.cell d3
  replace d4 := FK.cell d4
  replace g0 := FK.cell g0
  replace g1 := FK.cell g1
  replace g2 := FK.cell g2
  replace g3 := FK.cell g3
  replace g4 := FK.cell g4
  replace n1 := FK.cell n1
  replace x1 := FK.cell x1
  obtain ⟨n2, x2, _⟩ := (Blk.new w3 24 #[.bool rn, .int .i64 rx]).pair
  clear FK K
  go_wp2_with fail
  refine (C0.out _ FW).mono ?_
  rintro r w4 ⟨rfl, b4⟩
  have K : Fr w4 (w4.alloc (.cells #[.bool an, .int .i64 ax] 24)) := (Fr.refl _).alloc _
  have FK := b4.trans K
  replace FW := FW.trans FK
  replace a0 := FK.cell a0
  replace a1 := FK.cell a1
  replace a2 := FK.cell a2
  replace a3 := FK.cell a3
  replace a4 := FK.cell a4
  replace d0 := FK.cell d0
  replace d1 := FK.cell d1
  replace d2 := FK.cell d2
  replace d3 := FK.cell d3
  replace d4 := FK.cell d4
  replace g0 := FK.cell g0
  replace g1 := FK.cell g1
  replace g2 := FK.cell g2
  replace g3 := FK.cell g3
  replace g4 := FK.cell g4
  replace n1 := FK.cell n1
  replace x1 := FK.cell x1
  replace n2 := FK.cell n2
  replace x2 := FK.cell x2
  obtain ⟨n3, x3, _⟩ := (Blk.new w4 24 #[.bool an, .int .i64 ax]).pair
  clear FK K
  go_wp2_with fail
  refine (C1.out _ FW).mono ?_
  rintro r w5 ⟨rfl, b5⟩
  have K : Fr w5 (w5.alloc (.cells #[.bool bn, .int .i64 bx] 24)) := (Fr.refl _).alloc _
  have FK := b5.trans K
  replace FW := FW.trans FK
  replace a0 := FK.cell a0
  replace a1 := FK.cell a1
  replace a2 := FK.cell a2
  replace a3 := FK.cell a3
  replace a4 := FK.cell a4
  replace d0 := FK.cell d0
  replace d1 := FK.cell d1
  replace d2 := FK.cell d2
  replace d3 := FK.cell d3
  replace d4 := FK.cell d4
  replace g0 := FK.cell g0
  replace g1 := FK.cell g1
  replace g2 := FK.cell g2
  replace g3 := FK.cell g3
  replace g4 := FK.cell g4
  replace n1 := FK.cell n1
  replace x1 := FK.cell x1
  replace n2 := FK.cell n2
  replace x2 := FK.cell x2
  replace n3 := FK.cell n3
  replace x3 := FK.cell x3
  obtain ⟨n4, x4, _⟩ := (Blk.new w5 24 #[.bool bn, .int .i64 bx]).pair
  clear FK K
  have L := LAW.out
  cases an <;> cases bn <;> cases rn
  all_goals first | (exfalso; revert L; decide) | skip
  all_goals go_wp2
  all_goals go_ret
  all_goals exact ⟨rfl, bw1.trans FW⟩
end Go.Proofs.Ytkkmfmeocigijaa
