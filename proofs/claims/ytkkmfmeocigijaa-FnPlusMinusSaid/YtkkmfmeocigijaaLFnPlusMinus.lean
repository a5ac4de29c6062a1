/- Walk of the law FnPlusMinus. -/
import Derived.Test.YtkkmfmeocigijaaEvalO
import Derived.Test.YtkkmfmeocigijaaExprJ
import Derived.Test.YtkkmfmeocigijaaLaw
import Derived.Deep.RegionHeld3
namespace Go.Proofs.Ytkkmfmeocigijaa
open Go Go.RowKit
set_option maxRecDepth 100000 in
set_option maxHeartbeats 4000000 in
theorem walkFnPlusMinus (A0 : Option Addr) (c0 : Nat) (xs : List Nat) (w : World) (hx : RdSl rdByte w.cell? 1 A0 xs) (_ : xs.length ≤ maxLen) (hc : xs.length ≤ c0) :
    Calls Try.prog 8 #[.slice A0 xs.length c0] w fun r w' => r = .returned (.bool true) ∧ Fr w w' := by
  have H := hid hx
  clear hx
  by_cases hlen : (1048576 : Int) < xs.length
  · have e0 : decide ((1048576 : Int) < (xs.length : Int)) = true := by simp; omega
    go_enter Try.func8, Try.ntmps8
    go_wp2
    go_ret
    exact ⟨rfl, Fr.refl _⟩
  have e0 : decide ((1048576 : Int) < (xs.length : Int)) = false := by simp; omega
  go_enter Try.func8, Try.ntmps8
  go_wp2_with fail
  refine (drawEvalExpr _ _ _ _ H.out (by omega) hc).mono ?_
  rintro r w1 ⟨e, A, c, B, rc, row, rfl, hK, hKc, hS, hL, hR, hl7, bw1⟩
  have HK := hid (show KidsOk 3 w1.cell? (e, A, c) from ⟨hK, by show e.kids.length ≤ maxLen; unfold maxLen; omega, hKc⟩)
  have HR := hid hR
  have HS := hid hS
  clear hK hKc hS hR e0 H
  obtain ⟨⟨rn, rx⟩, hres⟩ : ∃ a, evRes row 3 e = a := ⟨_, rfl⟩
  obtain ⟨rk, hok⟩ : ∃ b, evOk row 3 e = b := ⟨_, rfl⟩
  have CI : ∀ W : World, Fr w1 W → Calls Try.prog 21 #[.agg #[.int .i64 e.kind, .int .i64 e.col, .bool e.val.null, .int .i64 e.val.n, .slice A e.kids.length c], .slice B row.length rc] W fun r w' => r = .returned (.tuple #[.agg #[.bool rn, .int .i64 rx], .bool rk]) ∧ Fr W w' := fun W hW => by
    have h := implEvalExpr 3 e A c row B rc W (HK.out.1.mono (rdEx_mono 3) hW.mle) HS.out HK.out.2.2 (HR.out.fr rdV_mono hW) (by omega)
    rw [hres, hok] at h
    exact h
  replace CI := hid CI
  have CS : ∀ W : World, Fr w1 W → Calls Try.prog 22 #[.agg #[.int .i64 e.kind, .int .i64 e.col, .bool e.val.null, .int .i64 e.val.n, .slice A e.kids.length c], .slice B row.length rc] W fun r w' => r = .returned (.tuple #[.agg #[.bool rn, .int .i64 rx], .bool rk]) ∧ Fr W w' := fun W hW => by
    have h := specEvalExpr 3 e A c row B rc W (HK.out.1.mono (rdEx_mono 3) hW.mle) HS.out (HR.out.fr rdV_mono hW) (by omega)
    rw [hres, hok] at h
    exact h
  replace CS := hid CS
  have HRES := hid hres
  have HOK := hid hok
  clear hres hok
  have FW : Fr w1 (w1.alloc (.cells #[.int .i64 e.kind, .int .i64 e.col, .bool e.val.null, .int .i64 e.val.n, .slice A e.kids.length c] 27)) := (Fr.refl _).alloc _
  obtain ⟨a0, a1, a2, a3, a4, _⟩ := (Blk.new w1 27 #[.int .i64 e.kind, .int .i64 e.col, .bool e.val.null, .int .i64 e.val.n, .slice A e.kids.length c]).five
  cases rk
  · skip
    go_wp2_with fail
    refine (CI.out _ FW).mono ?_
    rintro r w2 ⟨rfl, b2⟩
    have K : Fr w2 (w2.alloc (.cells #[.bool rn, .int .i64 rx] 24)) := (Fr.refl _).alloc _
    have FK := b2.trans K
    replace FW := FW.trans FK
    replace a0 := FK.cell a0
    replace a1 := FK.cell a1
    replace a2 := FK.cell a2
    replace a3 := FK.cell a3
    replace a4 := FK.cell a4
    obtain ⟨n1, x1, _⟩ := (Blk.new w2 24 #[.bool rn, .int .i64 rx]).pair
    clear FK K
    go_wp2_with fail
    refine (CS.out _ FW).mono ?_
    rintro r w3 ⟨rfl, b3⟩
    have K : Fr w3 (w3.alloc (.cells #[.bool rn, .int .i64 rx] 24)) := (Fr.refl _).alloc _
    have FK := b3.trans K
    replace FW := FW.trans FK
    replace a0 := FK.cell a0
    replace a1 := FK.cell a1
    replace a2 := FK.cell a2
    replace a3 := FK.cell a3
    replace a4 := FK.cell a4
    replace n1 := FK.cell n1
    replace x1 := FK.cell x1
    obtain ⟨n2, x2, _⟩ := (Blk.new w3 24 #[.bool rn, .int .i64 rx]).pair
    clear FK K
    go_wp2
    go_ret
    exact ⟨rfl, bw1.trans FW⟩
  by_cases hk : e.kind = 3
  rotate_left
  · have e3 : (e.kind != 3) = true := by simp; omega
    go_wp2_with fail
    refine (CI.out _ FW).mono ?_
    rintro r w2 ⟨rfl, b2⟩
    have K : Fr w2 (w2.alloc (.cells #[.bool rn, .int .i64 rx] 24)) := (Fr.refl _).alloc _
    have FK := b2.trans K
    replace FW := FW.trans FK
    replace a0 := FK.cell a0
    replace a1 := FK.cell a1
    replace a2 := FK.cell a2
    replace a3 := FK.cell a3
    replace a4 := FK.cell a4
    obtain ⟨n1, x1, _⟩ := (Blk.new w2 24 #[.bool rn, .int .i64 rx]).pair
    clear FK K
    go_wp2_with fail
    refine (CS.out _ FW).mono ?_
    rintro r w3 ⟨rfl, b3⟩
    have K : Fr w3 (w3.alloc (.cells #[.bool rn, .int .i64 rx] 24)) := (Fr.refl _).alloc _
    have FK := b3.trans K
    replace FW := FW.trans FK
    replace a0 := FK.cell a0
    replace a1 := FK.cell a1
    replace a2 := FK.cell a2
    replace a3 := FK.cell a3
    replace a4 := FK.cell a4
    replace n1 := FK.cell n1
    replace x1 := FK.cell x1
    obtain ⟨n2, x2, _⟩ := (Blk.new w3 24 #[.bool rn, .int .i64 rx]).pair
    clear FK K
    go_wp2
    go_ret
    exact ⟨rfl, bw1.trans FW⟩
  have e3 : (e.kind != 3) = false := by simp; omega
  have HK3 := hid hk
  clear hk
  cases rn
  rotate_left
  · skip
    go_wp2_with fail
    refine (CI.out _ FW).mono ?_
    rintro r w2 ⟨rfl, b2⟩
    have K : Fr w2 (w2.alloc (.cells #[.bool true, .int .i64 rx] 24)) := (Fr.refl _).alloc _
    have FK := b2.trans K
    replace FW := FW.trans FK
    replace a0 := FK.cell a0
    replace a1 := FK.cell a1
    replace a2 := FK.cell a2
    replace a3 := FK.cell a3
    replace a4 := FK.cell a4
    obtain ⟨n1, x1, _⟩ := (Blk.new w2 24 #[.bool true, .int .i64 rx]).pair
    clear FK K
    go_wp2_with fail
    refine (CS.out _ FW).mono ?_
    rintro r w3 ⟨rfl, b3⟩
    have K : Fr w3 (w3.alloc (.cells #[.bool true, .int .i64 rx] 24)) := (Fr.refl _).alloc _
    have FK := b3.trans K
    replace FW := FW.trans FK
    replace a0 := FK.cell a0
    replace a1 := FK.cell a1
    replace a2 := FK.cell a2
    replace a3 := FK.cell a3
    replace a4 := FK.cell a4
    replace n1 := FK.cell n1
    replace x1 := FK.cell x1
    obtain ⟨n2, x2, _⟩ := (Blk.new w3 24 #[.bool true, .int .i64 rx]).pair
    clear FK K
    go_wp2
    go_ret
    exact ⟨rfl, bw1.trans FW⟩
  have hlen2 : e.kids.length = 2 := by
    have := HK3.out
    rcases kind_cases (evOk_vE HOK.out) with h | h | h | h | h <;> omega
  have hlt0 : 0 < e.kids.length := by omega
  obtain ⟨kb, ko, K0, kc0, hA, d0, d1, d2, d3, d4, hk0⟩ := HK.out.1.exc hlt0
  have hlt1 : 1 < e.kids.length := by omega
  obtain ⟨kb1, ko1, K1, kc1, hA1, g0, g1, g2, g3, g4, hk1⟩ := HK.out.1.exc hlt1
  subst hA
  cases hA1
  simp only [Nat.zero_mul, Nat.add_zero, Nat.one_mul] at d0 d1 d2 d3 d4 g0 g1 g2 g3 g4
  have HK0 := hid hk0
  have HK1 := hid hk1
  have HS0 := hid (HS.out.2 0 hlt0)
  have HS1 := hid (HS.out.2 1 hlt1)
  clear hk0 hk1
  replace d0 := FW.cell d0
  replace d1 := FW.cell d1
  replace d2 := FW.cell d2
  replace d3 := FW.cell d3
  replace d4 := FW.cell d4
  replace g0 := FW.cell g0
  replace g1 := FW.cell g1
  replace g2 := FW.cell g2
  replace g3 := FW.cell g3
  replace g4 := FW.cell g4
  have HOK0 := hid (evOk_kid HOK.out hlt0)
  have HOK1 := hid (evOk_kid HOK.out hlt1)
  obtain ⟨⟨an, ax⟩, ha⟩ : ∃ a, evRes row 2 e.kids[0] = a := ⟨_, rfl⟩
  obtain ⟨⟨bn, bx⟩, hb⟩ : ∃ a, evRes row 2 e.kids[1] = a := ⟨_, rfl⟩
  have C0 : ∀ W : World, Fr w1 W → Calls Try.prog 21 #[.agg #[.int .i64 e.kids[0].kind, .int .i64 e.kids[0].col, .bool e.kids[0].val.null, .int .i64 e.kids[0].val.n, .slice K0 e.kids[0].kids.length kc0], .slice B row.length rc] W fun r w' => r = .returned (.tuple #[.agg #[.bool an, .int .i64 ax], .bool true]) ∧ Fr W w' := fun W hW => by
    have h := implEvalExpr 2 e.kids[0] K0 kc0 row B rc W (HK0.out.1.mono (rdEx_mono 2) hW.mle) HS0.out HK0.out.2.2 (HR.out.fr rdV_mono hW) (by omega)
    rw [ha, HOK0.out] at h
    exact h
  replace C0 := hid C0
  have HK1U := hid HK1.out.up
  have HL2 := hid hlen2
  have hI1 : (1 : Int) < (e.kids.length : Int) := by omega
  obtain ⟨⟨tn, tx⟩, ht⟩ : ∃ a, evRes row 4 (Ex.mk 4 0 ⟨false, 0⟩ [e, e.kids[1]]) = a := ⟨_, rfl⟩
  obtain ⟨tk, htk⟩ : ∃ b, evOk row 4 (Ex.mk 4 0 ⟨false, 0⟩ [e, e.kids[1]]) = b := ⟨_, rfl⟩
  have LAW := hid (show tk = true → (⟨tn, tx⟩ : V) = ⟨an, ax⟩ by
    intro h
    rw [h] at htk
    rw [← ht]
    exact plus_minus HOK.out HK3.out hlt0 hlt1 (dp_of 2 HK1.out.1) ha hb HRES.out rfl htk)
  have HT := hid ht
  have HTK := hid htk
  have HS4 := hid (show exSm 4 [e, e.kids[1]] from exSm_two (by simp) (fun x hx => by
    simp only [List.mem_cons, List.not_mem_nil, or_false] at hx
    rcases hx with rfl | rfl
    · exact HS.out
    · exact exSm_up 2 HK1.out.1 HS1.out))
  clear ha hb ht htk hlen2
  have CT := hid (fun (W : World) (gt : Nat) (hk : KidsOk 4 W.cell? ((Ex.mk 4 0 ⟨false, 0⟩ [e, e.kids[1]]), some ⟨gt, 0, none⟩, 2)) (hW : Fr w1 W) => (show Calls Try.prog 21 #[.agg #[.int .i64 4, .int .i64 0, .bool false, .int .i64 0, .slice (some ⟨gt, 0, none⟩) 2 2], .slice B row.length rc] W (fun r w' => r = .returned (.tuple #[.agg #[.bool tn, .int .i64 tx], .bool tk]) ∧ Fr W w') by
    have h := implEvalExpr 4 (Ex.mk 4 0 ⟨false, 0⟩ [e, e.kids[1]]) (some ⟨gt, 0, none⟩) 2 row B rc W hk.1 HS4.out hk.2.2 (HR.out.fr rdV_mono hW) (by omega)
    rw [HT.out, HTK.out] at h
    exact h))
  go_wp2_with fail
  refine (CI.out _ FW).mono ?_
  rintro r w2 ⟨rfl, b2⟩
  have K : Fr w2 (w2.alloc (.cells #[.bool false, .int .i64 rx] 24)) := (Fr.refl _).alloc _
  have FK := b2.trans K
  replace FW := FW.trans FK
  replace a0 := FK.cell a0
  replace a1 := FK.cell a1
  replace a2 := FK.cell a2
  replace a3 := FK.cell a3
  replace a4 := FK.cell a4
  replace d0 := FK.cell d0
  replace d1 := FK.cell d1
  replace d2 := FK.cell d2
  replace d3 := FK.cell d3
  replace d4 := FK.cell d4
  replace g0 := FK.cell g0
  replace g1 := FK.cell g1
  replace g2 := FK.cell g2
  replace g3 := FK.cell g3
  replace g4 := FK.cell g4
  obtain ⟨n1, x1, _⟩ := (Blk.new w2 24 #[.bool false, .int .i64 rx]).pair
  clear FK K
  go_wp2_with fail
  refine (CS.out _ FW).mono ?_
  rintro r w3 ⟨rfl, b3⟩
  have K : Fr w3 (w3.alloc (.cells #[.bool false, .int .i64 rx] 24)) := (Fr.refl _).alloc _
  have FK := b3.trans K
  replace FW := FW.trans FK
  replace a0 := FK.cell a0
  replace a1 := FK.cell a1
  replace a2 := FK.cell a2
  replace a3 := FK.cell a3
  replace a4 := FK.cell a4
  replace d0 := FK.cell d0
  replace d1 := FK.cell d1
  replace d2 := FK.cell d2
  replace d3 := FK.cell d3
  replace d4 := FK.cell d4
  replace g0 := FK.cell g0
  replace g1 := FK.cell g1
  replace g2 := FK.cell g2
  replace g3 := FK.cell g3
  replace g4 := FK.cell g4
  replace n1 := FK.cell n1
  replace x1 := FK.cell x1
  obtain ⟨n2, x2, _⟩ := (Blk.new w3 24 #[.bool false, .int .i64 rx]).pair
  clear FK K
  go_wp2_with fail
  generalize hRA : w3.alloc (.cells #[.bool false, .int .i64 rx] 24) = RA at FW a0 a1 a2 a3 a4 d0 d1 d2 d3 d4 g0 g1 g2 g3 g4 n1 x1 n2 x2 ⊢
  clear hRA
  have keepL : ∀ W' : World, Fr RA W' → (Fr RA W' ∧ W'.cell? ⟨w1.heap.size, 0, none⟩ = some (.int .i64 e.kind) ∧ W'.cell? ⟨w1.heap.size, 1, none⟩ = some (.int .i64 e.col) ∧ W'.cell? ⟨w1.heap.size, 2, none⟩ = some (.bool e.val.null) ∧ W'.cell? ⟨w1.heap.size, 3, none⟩ = some (.int .i64 e.val.n) ∧ W'.cell? ⟨w1.heap.size, 4, none⟩ = some (.slice (some ⟨kb, ko, none⟩) e.kids.length c) ∧ W'.cell? ⟨kb, ko + 5, none⟩ = some (.int .i64 e.kids[1].kind) ∧ W'.cell? ⟨kb, ko + 5 + 1, none⟩ = some (.int .i64 e.kids[1].col) ∧ W'.cell? ⟨kb, ko + 5 + 2, none⟩ = some (.bool e.kids[1].val.null) ∧ W'.cell? ⟨kb, ko + 5 + 3, none⟩ = some (.int .i64 e.kids[1].val.n) ∧ W'.cell? ⟨kb, ko + 5 + 4, none⟩ = some (.slice K1 e.kids[1].kids.length kc1)) := fun W' F => ⟨F, F.cell a0, F.cell a1, F.cell a2, F.cell a3, F.cell a4, F.cell g0, F.cell g1, F.cell g2, F.cell g3, F.cell g4⟩
  go_region_held3 (fun W' => Fr RA W' ∧ W'.cell? ⟨w1.heap.size, 0, none⟩ = some (.int .i64 e.kind) ∧ W'.cell? ⟨w1.heap.size, 1, none⟩ = some (.int .i64 e.col) ∧ W'.cell? ⟨w1.heap.size, 2, none⟩ = some (.bool e.val.null) ∧ W'.cell? ⟨w1.heap.size, 3, none⟩ = some (.int .i64 e.val.n) ∧ W'.cell? ⟨w1.heap.size, 4, none⟩ = some (.slice (some ⟨kb, ko, none⟩) e.kids.length c) ∧ W'.cell? ⟨kb, ko + 5, none⟩ = some (.int .i64 e.kids[1].kind) ∧ W'.cell? ⟨kb, ko + 5 + 1, none⟩ = some (.int .i64 e.kids[1].col) ∧ W'.cell? ⟨kb, ko + 5 + 2, none⟩ = some (.bool e.kids[1].val.null) ∧ W'.cell? ⟨kb, ko + 5 + 3, none⟩ = some (.int .i64 e.kids[1].val.n) ∧ W'.cell? ⟨kb, ko + 5 + 4, none⟩ = some (.slice K1 e.kids[1].kids.length kc1)) ((refine keepL _ ?_; (repeat (first | with_reducible exact Fr.refl _ | with_reducible assumption | with_reducible refine Fr.alloc ?_ _ | with_reducible refine Fr.drew ?_ | with_reducible refine Fr.drewN ?_ _ | (with_reducible refine Fr.setNew2 ?_ ?_ _; · (simp <;> omega)) | with_reducible refine Fr.trans ?_ (by assumption))); done))
    (first
      | (go_at_call 23; refine (twoC 4 e e.kids[1] _ _ _ _ 3 _ (HK.out.fr (FW.trans (by (repeat (first | with_reducible exact Fr.refl _ | with_reducible assumption | with_reducible refine Fr.alloc ?_ _ | with_reducible refine Fr.drew ?_ | with_reducible refine Fr.drewN ?_ _ | (with_reducible refine Fr.setNew2 ?_ ?_ _; · (simp <;> omega)) | with_reducible refine Fr.trans ?_ (by assumption)))))) (HK1U.out.fr (FW.trans (by (repeat (first | with_reducible exact Fr.refl _ | with_reducible assumption | with_reducible refine Fr.alloc ?_ _ | with_reducible refine Fr.drew ?_ | with_reducible refine Fr.drewN ?_ _ | (with_reducible refine Fr.setNew2 ?_ ?_ _; · (simp <;> omega)) | with_reducible refine Fr.trans ?_ (by assumption))))))).mono ?_; rintro r wt ⟨gt, rfl, hKT, bwt⟩; have Fwt : Fr RA wt := Fr.trans (by (repeat (first | with_reducible exact Fr.refl _ | with_reducible assumption | with_reducible refine Fr.alloc ?_ _ | with_reducible refine Fr.drew ?_ | with_reducible refine Fr.drewN ?_ _ | (with_reducible refine Fr.setNew2 ?_ ?_ _; · (simp <;> omega)) | with_reducible refine Fr.trans ?_ (by assumption)))) bwt; have hswt := Fwt.size; (first | (have B9wt : Blk wt RA.heap.size 24 #[.bool false, .int .i64 0] := (Blk.new RA 24 #[.bool false, .int .i64 0]).drew.fr bwt; obtain ⟨y0wt, y1wt, fy0wt, fy1wt⟩ := B9wt.pair) | skip))
      | (go_at_call 21; refine (CT.out _ gt (hKT.fr (by (repeat (first | with_reducible exact Fr.refl _ | with_reducible assumption | with_reducible refine Fr.alloc ?_ _ | with_reducible refine Fr.drew ?_ | with_reducible refine Fr.drewN ?_ _ | (with_reducible refine Fr.setNew2 ?_ ?_ _; · (simp <;> omega)) | with_reducible refine Fr.trans ?_ (by assumption))))) (FW.trans (by (repeat (first | with_reducible exact Fr.refl _ | with_reducible assumption | with_reducible refine Fr.alloc ?_ _ | with_reducible refine Fr.drew ?_ | with_reducible refine Fr.drewN ?_ _ | (with_reducible refine Fr.setNew2 ?_ ?_ _; · (simp <;> omega)) | with_reducible refine Fr.trans ?_ (by assumption)))))).mono ?_; rintro r we ⟨rfl, bwe⟩; have Fwe : Fr RA we := Fr.trans (by (repeat (first | with_reducible exact Fr.refl _ | with_reducible assumption | with_reducible refine Fr.alloc ?_ _ | with_reducible refine Fr.drew ?_ | with_reducible refine Fr.drewN ?_ _ | (with_reducible refine Fr.setNew2 ?_ ?_ _; · (simp <;> omega)) | with_reducible refine Fr.trans ?_ (by assumption)))) bwe; have hswe := Fwe.size; (first | (have B9we := B9wt.fr bwe; obtain ⟨y0we, y1we, fy0we, fy1we⟩ := B9we.pair) | (have B9we : Blk we wt.heap.size 24 #[.bool false, .int .i64 0] := resBlk bwe; obtain ⟨y0we, y1we, fy0we, fy1we⟩ := B9we.pair) | skip)))
  all_goals clear keepL
  all_goals have K0 := (Fr.refl we).alloc (.cells #[.bool tn, .int .i64 tx] 24)
  all_goals have K1 : Fr RA ((we.setCell ⟨RA.heap.size, 0, none⟩ (.bool tn)).setCell ⟨RA.heap.size, 1, none⟩ (.int .i64 tx)) := by (repeat (first | with_reducible exact Fr.refl _ | with_reducible assumption | with_reducible refine Fr.alloc ?_ _ | with_reducible refine Fr.drew ?_ | with_reducible refine Fr.drewN ?_ _ | (with_reducible refine Fr.setNew2 ?_ ?_ _; · (simp <;> omega)) | with_reducible refine Fr.trans ?_ (by assumption)))
  all_goals have K2 : Fr RA ((we.setCell ⟨wt.heap.size, 0, none⟩ (.bool tn)).setCell ⟨wt.heap.size, 1, none⟩ (.int .i64 tx)) := by (repeat (first | with_reducible exact Fr.refl _ | with_reducible assumption | with_reducible refine Fr.alloc ?_ _ | with_reducible refine Fr.drew ?_ | with_reducible refine Fr.drewN ?_ _ | (with_reducible refine Fr.setNew2 ?_ ?_ _; · (simp <;> omega)) | with_reducible refine Fr.trans ?_ (by assumption)))
  all_goals have a4e := Fwe.cell a4
  all_goals have a4f := K0.cell a4e
  all_goals have a4g0 := K1.cell a4
  all_goals have a4g1 := K2.cell a4
  all_goals have d0e := Fwe.cell d0
  all_goals have d0f := K0.cell d0e
  all_goals have d0g0 := K1.cell d0
  all_goals have d0g1 := K2.cell d0
  all_goals have d1e := Fwe.cell d1
  all_goals have d1f := K0.cell d1e
  all_goals have d1g0 := K1.cell d1
  all_goals have d1g1 := K2.cell d1
  all_goals have d2e := Fwe.cell d2
  all_goals have d2f := K0.cell d2e
  all_goals have d2g0 := K1.cell d2
  all_goals have d2g1 := K2.cell d2
  all_goals have d3e := Fwe.cell d3
  all_goals have d3f := K0.cell d3e
  all_goals have d3g0 := K1.cell d3
  all_goals have d3g1 := K2.cell d3
  all_goals have d4e := Fwe.cell d4
  all_goals have d4f := K0.cell d4e
  all_goals have d4g0 := K1.cell d4
  all_goals have d4g1 := K2.cell d4
  all_goals go_wp2_with fail
  all_goals refine absW fun WZ hWZ => ?_
  all_goals have FZ : Fr RA WZ := by rw [hWZ]; (repeat (first | with_reducible exact Fr.refl _ | with_reducible assumption | with_reducible refine Fr.alloc ?_ _ | with_reducible refine Fr.drew ?_ | with_reducible refine Fr.drewN ?_ _ | (with_reducible refine Fr.setNew2 ?_ ?_ _; · (simp <;> omega)) | with_reducible refine Fr.trans ?_ (by assumption)))
  all_goals first
    | (have hB := blk_eq (cs := #[.bool tn, .int .i64 tx]) hWZ (Blk.new we 24 #[.bool tn, .int .i64 tx]); obtain ⟨u0, u1, _⟩ := hB.pair; clear hB)
    | (have hB := blk_eq (cs := #[.bool tn, .int .i64 tx]) hWZ ((B9we.set_ 0 (.bool tn)).set_ 1 (.int .i64 tx)); obtain ⟨u0, u1, _⟩ := hB.pair; clear hB)
  all_goals clear hWZ
  all_goals refine (C0.out _ (FW.trans FZ)).mono ?_
  all_goals rintro r w6 ⟨rfl, b6⟩
  all_goals have K : Fr w6 (w6.alloc (.cells #[.bool an, .int .i64 ax] 24)) := (Fr.refl _).alloc _
  all_goals have FK := b6.trans K
  all_goals replace u0 := FK.cell u0
  all_goals replace u1 := FK.cell u1
  all_goals obtain ⟨n6, x6, _⟩ := (Blk.new w6 24 #[.bool an, .int .i64 ax]).pair
  all_goals cases tk
  all_goals first | (have L := LAW.out rfl; obtain ⟨rfl, rfl⟩ : tn = an ∧ tx = ax := ⟨congrArg V.null L, congrArg V.n L⟩; clear L) | skip
  all_goals go_wp2
  all_goals go_ret
  all_goals exact ⟨rfl, bw1.trans (FW.trans (FZ.trans FK))⟩
end Go.Proofs.Ytkkmfmeocigijaa
