/- Walk of the law FnCommute. -/
import Derived.Test.YtkkmfmeocigijaaEvalN
import Derived.Test.YtkkmfmeocigijaaExprJ
import Derived.Test.YtkkmfmeocigijaaLaw
import Derived.Deep.RegionHeld3
namespace Go.Proofs.Ytkkmfmeocigijaa
open Go Go.RowKit
set_option maxRecDepth 100000 in
set_option maxHeartbeats 4000000 in
theorem walkFnCommute (A0 : Option Addr) (c0 : Nat) (xs : List Nat) (w : World) (hx : RdSl rdByte w.cell? 1 A0 xs) (_ : xs.length ≤ maxLen) (hc : xs.length ≤ c0) :
    Calls Try.prog 6 #[.slice A0 xs.length c0] w fun r w' => r = .returned (.bool true) ∧ Fr w w' := by
  have H := hid hx
  clear hx
  by_cases hlen : (1048576 : Int) < xs.length
  · have e0 : decide ((1048576 : Int) < (xs.length : Int)) = true := by simp; omega
    go_enter Try.func6, Try.ntmps6
    go_wp2
    go_ret
    exact ⟨rfl, Fr.refl _⟩
  have e0 : decide ((1048576 : Int) < (xs.length : Int)) = false := by simp; omega
  go_enter Try.func6, Try.ntmps6
  go_wp2_with fail
  refine (drawEvalExpr _ _ _ _ H.out (by omega) hc).mono ?_
  rintro r w1 ⟨e, A, c, B, rc, row, rfl, hK, hKc, hS, hL, hR, hl7, bw1⟩
  have HK := hid (show KidsOk 3 w1.cell? (e, A, c) from ⟨hK, by show e.kids.length ≤ maxLen; unfold maxLen; omega, hKc⟩)
  have HR := hid hR
  have HS := hid hS
  clear hK hKc hS hR e0 H
  obtain ⟨⟨rn, rx⟩, hres⟩ : ∃ a, evRes row 3 e = a := ⟨_, rfl⟩
  obtain ⟨rk, hok⟩ : ∃ b, evOk row 3 e = b := ⟨_, rfl⟩
  have CI : ∀ W : World, Fr w1 W → Calls Try.prog 21 #[.agg #[.int .i64 e.kind, .int .i64 e.col, .bool e.val.null, .int .i64 e.val.n, .slice A e.kids.length c], .slice B row.length rc] W fun r w' => r = .returned (.tuple #[.agg #[.bool rn, .int .i64 rx], .bool rk]) ∧ Fr W w' := fun W hW => by
    have h := implEvalExpr 3 e A c row B rc W (HK.out.1.mono (rdEx_mono 3) hW.mle) HS.out HK.out.2.2 (HR.out.fr rdV_mono hW) (by omega)
    rw [hres, hok] at h
    exact h
  replace CI := hid CI
  have CS : ∀ W : World, Fr w1 W → Calls Try.prog 22 #[.agg #[.int .i64 e.kind, .int .i64 e.col, .bool e.val.null, .int .i64 e.val.n, .slice A e.kids.length c], .slice B row.length rc] W fun r w' => r = .returned (.tuple #[.agg #[.bool rn, .int .i64 rx], .bool rk]) ∧ Fr W w' := fun W hW => by
    have h := specEvalExpr 3 e A c row B rc W (HK.out.1.mono (rdEx_mono 3) hW.mle) HS.out (HR.out.fr rdV_mono hW) (by omega)
    rw [hres, hok] at h
    exact h
  replace CS := hid CS
  have HRES := hid hres
  have HOK := hid hok
  clear hres hok
  have FW : Fr w1 (w1.alloc (.cells #[.int .i64 e.kind, .int .i64 e.col, .bool e.val.null, .int .i64 e.val.n, .slice A e.kids.length c] 27)) := (Fr.refl _).alloc _
  obtain ⟨a0, a1, a2, a3, a4, _⟩ := (Blk.new w1 27 #[.int .i64 e.kind, .int .i64 e.col, .bool e.val.null, .int .i64 e.val.n, .slice A e.kids.length c]).five
  cases rk
  · skip
    go_wp2_with fail
    refine (CI.out _ FW).mono ?_
    rintro r w2 ⟨rfl, b2⟩
    have K : Fr w2 (w2.alloc (.cells #[.bool rn, .int .i64 rx] 24)) := (Fr.refl _).alloc _
    have FK := b2.trans K
    replace FW := FW.trans FK
    replace a0 := FK.cell a0
    replace a1 := FK.cell a1
    replace a2 := FK.cell a2
    replace a3 := FK.cell a3
    replace a4 := FK.cell a4
    obtain ⟨n1, x1, _⟩ := (Blk.new w2 24 #[.bool rn, .int .i64 rx]).pair
    clear FK K
    go_wp2_with fail
    refine (CS.out _ FW).mono ?_
    rintro r w3 ⟨rfl, b3⟩
    have K : Fr w3 (w3.alloc (.cells #[.bool rn, .int .i64 rx] 24)) := (Fr.refl _).alloc _
    have FK := b3.trans K
    replace FW := FW.trans FK
    replace a0 := FK.cell a0
    replace a1 := FK.cell a1
    replace a2 := FK.cell a2
    replace a3 := FK.cell a3
    replace a4 := FK.cell a4
    replace n1 := FK.cell n1
    replace x1 := FK.cell x1
    obtain ⟨n2, x2, _⟩ := (Blk.new w3 24 #[.bool rn, .int .i64 rx]).pair
    clear FK K
    go_wp2
    go_ret
    exact ⟨rfl, bw1.trans FW⟩
  by_cases hl2 : e.kids.length = 2
  rotate_left
  · have e2 : ((e.kids.length : Int) != 2) = true := by simp; omega
    go_wp2_with fail
    refine (CI.out _ FW).mono ?_
    rintro r w2 ⟨rfl, b2⟩
    have K : Fr w2 (w2.alloc (.cells #[.bool rn, .int .i64 rx] 24)) := (Fr.refl _).alloc _
    have FK := b2.trans K
    replace FW := FW.trans FK
    replace a0 := FK.cell a0
    replace a1 := FK.cell a1
    replace a2 := FK.cell a2
    replace a3 := FK.cell a3
    replace a4 := FK.cell a4
    obtain ⟨n1, x1, _⟩ := (Blk.new w2 24 #[.bool rn, .int .i64 rx]).pair
    clear FK K
    go_wp2_with fail
    refine (CS.out _ FW).mono ?_
    rintro r w3 ⟨rfl, b3⟩
    have K : Fr w3 (w3.alloc (.cells #[.bool rn, .int .i64 rx] 24)) := (Fr.refl _).alloc _
    have FK := b3.trans K
    replace FW := FW.trans FK
    replace a0 := FK.cell a0
    replace a1 := FK.cell a1
    replace a2 := FK.cell a2
    replace a3 := FK.cell a3
    replace a4 := FK.cell a4
    replace n1 := FK.cell n1
    replace x1 := FK.cell x1
    obtain ⟨n2, x2, _⟩ := (Blk.new w3 24 #[.bool rn, .int .i64 rx]).pair
    clear FK K
    go_wp2
    go_ret
    exact ⟨rfl, bw1.trans FW⟩
  have e2 : ((e.kids.length : Int) != 2) = false := by simp; omega
  have HL2 := hid hl2
  clear hl2
  by_cases hk4 : e.kind = 4
  · have e4 : (e.kind == 4) = true := by simp; omega
    clear hk4
    go_wp2_with fail
    refine (CI.out _ FW).mono ?_
    rintro r w2 ⟨rfl, b2⟩
    have K : Fr w2 (w2.alloc (.cells #[.bool rn, .int .i64 rx] 24)) := (Fr.refl _).alloc _
    have FK := b2.trans K
    replace FW := FW.trans FK
    replace a0 := FK.cell a0
    replace a1 := FK.cell a1
    replace a2 := FK.cell a2
    replace a3 := FK.cell a3
    replace a4 := FK.cell a4
    obtain ⟨n1, x1, _⟩ := (Blk.new w2 24 #[.bool rn, .int .i64 rx]).pair
    clear FK K
    go_wp2_with fail
    refine (CS.out _ FW).mono ?_
    rintro r w3 ⟨rfl, b3⟩
    have K : Fr w3 (w3.alloc (.cells #[.bool rn, .int .i64 rx] 24)) := (Fr.refl _).alloc _
    have FK := b3.trans K
    replace FW := FW.trans FK
    replace a0 := FK.cell a0
    replace a1 := FK.cell a1
    replace a2 := FK.cell a2
    replace a3 := FK.cell a3
    replace a4 := FK.cell a4
    replace n1 := FK.cell n1
    replace x1 := FK.cell x1
    obtain ⟨n2, x2, _⟩ := (Blk.new w3 24 #[.bool rn, .int .i64 rx]).pair
    clear FK K
    go_wp2
    go_ret
    exact ⟨rfl, bw1.trans FW⟩
  have e4 : (e.kind == 4) = false := by simp; omega
  by_cases hk7 : e.kind = 7
  · have e7 : (e.kind == 7) = true := by simp; omega
    clear hk7
    go_wp2_with fail
    refine (CI.out _ FW).mono ?_
    rintro r w2 ⟨rfl, b2⟩
    have K : Fr w2 (w2.alloc (.cells #[.bool rn, .int .i64 rx] 24)) := (Fr.refl _).alloc _
    have FK := b2.trans K
    replace FW := FW.trans FK
    replace a0 := FK.cell a0
    replace a1 := FK.cell a1
    replace a2 := FK.cell a2
    replace a3 := FK.cell a3
    replace a4 := FK.cell a4
    obtain ⟨n1, x1, _⟩ := (Blk.new w2 24 #[.bool rn, .int .i64 rx]).pair
    clear FK K
    go_wp2_with fail
    refine (CS.out _ FW).mono ?_
    rintro r w3 ⟨rfl, b3⟩
    have K : Fr w3 (w3.alloc (.cells #[.bool rn, .int .i64 rx] 24)) := (Fr.refl _).alloc _
    have FK := b3.trans K
    replace FW := FW.trans FK
    replace a0 := FK.cell a0
    replace a1 := FK.cell a1
    replace a2 := FK.cell a2
    replace a3 := FK.cell a3
    replace a4 := FK.cell a4
    replace n1 := FK.cell n1
    replace x1 := FK.cell x1
    obtain ⟨n2, x2, _⟩ := (Blk.new w3 24 #[.bool rn, .int .i64 rx]).pair
    clear FK K
    go_wp2
    go_ret
    exact ⟨rfl, bw1.trans FW⟩
  have e7 : (e.kind == 7) = false := by simp; omega
  have hl2 := HL2.out
  have hlt0 : 0 < e.kids.length := by omega
  obtain ⟨kb, ko, K0, kc0, hA, d0, d1, d2, d3, d4, hk0⟩ := HK.out.1.exc hlt0
  have hlt1 : 1 < e.kids.length := by omega
  obtain ⟨kb1, ko1, K1, kc1, hA1, g0, g1, g2, g3, g4, hk1⟩ := HK.out.1.exc hlt1
  subst hA
  cases hA1
  simp only [Nat.zero_mul, Nat.add_zero, Nat.one_mul] at d0 d1 d2 d3 d4 g0 g1 g2 g3 g4
  have HK0 := hid hk0
  have HK1 := hid hk1
  have HS0 := hid (HS.out.2 0 hlt0)
  have HS1 := hid (HS.out.2 1 hlt1)
  clear hk0 hk1
  replace d0 := FW.cell d0
  replace d1 := FW.cell d1
  replace d2 := FW.cell d2
  replace d3 := FW.cell d3
  replace d4 := FW.cell d4
  replace g0 := FW.cell g0
  replace g1 := FW.cell g1
  replace g2 := FW.cell g2
  replace g3 := FW.cell g3
  replace g4 := FW.cell g4
  have HOK0 := hid (evOk_kid HOK.out hlt0)
  have HOK1 := hid (evOk_kid HOK.out hlt1)
  obtain ⟨⟨an, ax⟩, ha⟩ : ∃ a, evRes row 2 e.kids[0] = a := ⟨_, rfl⟩
  obtain ⟨⟨bn, bx⟩, hb⟩ : ∃ a, evRes row 2 e.kids[1] = a := ⟨_, rfl⟩
  have hkk : e.kind = 3 ∨ e.kind = 5 ∨ e.kind = 6 ∨ e.kind = 8 ∨ e.kind = 9 := by
    have h1 := kid_cnt (evOk_vE HOK.out)
    unfold nk at h1
    split at h1
    · omega
    · split at h1
      · omega
      · split at h1 <;> omega
  have HT := hid (show evOk row 3 (Ex.mk e.kind 0 ⟨false, 0⟩ [e.kids[1], e.kids[0]]) = true ∧ evRes row 3 (Ex.mk e.kind 0 ⟨false, 0⟩ [e.kids[1], e.kids[0]]) = ⟨rn, rx⟩ by
    have h1 := kid_cnt (evOk_vE HOK.out)
    have hok : evOk row 3 (Ex.mk e.kind 0 ⟨false, 0⟩ [e.kids[1], e.kids[0]]) = true := by
      rw [ok_two (evOk_row HOK.out) (by rw [← h1, hl2]; rfl) (by omega) (by omega), kid7 HOK.out hlt0, kid7 HOK.out hlt1]; rfl
    refine ⟨hok, ?_⟩
    rw [res_two hok (by omega) HOK1.out HOK0.out rfl rfl, comb_comm _ _ hkk, evRes_ok HOK0.out, evRes_ok HOK1.out, ← ev_two (by omega) hlt0 hlt1, ← evRes_ok HOK.out, HRES.out])
  have HSB := hid (show exSm 3 [e.kids[1], e.kids[0]] from exSm_two (by simp) (fun x hx => by
    simp only [List.mem_cons, List.not_mem_nil, or_false] at hx
    rcases hx with rfl | rfl
    · exact HS1.out
    · exact HS0.out))
  have hI1 : (1 : Int) < (e.kids.length : Int) := by omega
  clear ha hb hl2 hk4 hk7 hkk
  have CT := hid (fun (W : World) (gt : Nat) (hk : KidsOk 3 W.cell? ((Ex.mk e.kind 0 ⟨false, 0⟩ [e.kids[1], e.kids[0]]), some ⟨gt, 0, none⟩, 2)) (hW : Fr w1 W) => (show Calls Try.prog 21 #[.agg #[.int .i64 e.kind, .int .i64 0, .bool false, .int .i64 0, .slice (some ⟨gt, 0, none⟩) 2 2], .slice B row.length rc] W (fun r w' => r = .returned (.tuple #[.agg #[.bool rn, .int .i64 rx], .bool true]) ∧ Fr W w') by
    have h := implEvalExpr 3 (Ex.mk e.kind 0 ⟨false, 0⟩ [e.kids[1], e.kids[0]]) (some ⟨gt, 0, none⟩) 2 row B rc W hk.1 HSB.out hk.2.2 (HR.out.fr rdV_mono hW) (by omega)
    rw [HT.out.2, HT.out.1] at h
    exact h))
  go_wp2_with fail
  refine (CI.out _ FW).mono ?_
  rintro r w2 ⟨rfl, b2⟩
  have K : Fr w2 (w2.alloc (.cells #[.bool rn, .int .i64 rx] 24)) := (Fr.refl _).alloc _
  have FK := b2.trans K
  replace FW := FW.trans FK
  replace a0 := FK.cell a0
  replace a1 := FK.cell a1
  replace a2 := FK.cell a2
  replace a3 := FK.cell a3
  replace a4 := FK.cell a4
  replace d0 := FK.cell d0
  replace d1 := FK.cell d1
  replace d2 := FK.cell d2
  replace d3 := FK.cell d3
  replace d4 := FK.cell d4
  replace g0 := FK.cell g0
  replace g1 := FK.cell g1
  replace g2 := FK.cell g2
  replace g3 := FK.cell g3
  replace g4 := FK.cell g4
  obtain ⟨n1, x1, _⟩ := (Blk.new w2 24 #[.bool rn, .int .i64 rx]).pair
  clear FK K
  go_wp2_with fail
  refine (CS.out _ FW).mono ?_
  rintro r w3 ⟨rfl, b3⟩
  have K : Fr w3 (w3.alloc (.cells #[.bool rn, .int .i64 rx] 24)) := (Fr.refl _).alloc _
  have FK := b3.trans K
  replace FW := FW.trans FK
  replace a0 := FK.cell a0
  replace a1 := FK.cell a1
  replace a2 := FK.cell a2
  replace a3 := FK.cell a3
  replace a4 := FK.cell a4
  replace d0 := FK.cell d0
  replace d1 := FK.cell d1
  replace d2 := FK.cell d2
  replace d3 := FK.cell d3
  replace d4 := FK.cell d4
  replace g0 := FK.cell g0
  replace g1 := FK.cell g1
  replace g2 := FK.cell g2
  replace g3 := FK.cell g3
  replace g4 := FK.cell g4
  replace n1 := FK.cell n1
  replace x1 := FK.cell x1
  obtain ⟨n2, x2, _⟩ := (Blk.new w3 24 #[.bool rn, .int .i64 rx]).pair
  clear FK K
  go_wp2_with fail
  generalize hRA : w3.alloc (.cells #[.bool rn, .int .i64 rx] 24) = RA at FW a0 a1 a2 a3 a4 d0 d1 d2 d3 d4 g0 g1 g2 g3 g4 n1 x1 n2 x2 ⊢
  clear hRA
  have keepL : ∀ W' : World, Fr RA W' → (Fr RA W' ∧ W'.cell? ⟨w1.heap.size, 0, none⟩ = some (.int .i64 e.kind) ∧ W'.cell? ⟨w1.heap.size, 4, none⟩ = some (.slice (some ⟨kb, ko, none⟩) e.kids.length c) ∧ W'.cell? ⟨kb, ko, none⟩ = some (.int .i64 e.kids[0].kind) ∧ W'.cell? ⟨kb, ko + 1, none⟩ = some (.int .i64 e.kids[0].col) ∧ W'.cell? ⟨kb, ko + 2, none⟩ = some (.bool e.kids[0].val.null) ∧ W'.cell? ⟨kb, ko + 3, none⟩ = some (.int .i64 e.kids[0].val.n) ∧ W'.cell? ⟨kb, ko + 4, none⟩ = some (.slice K0 e.kids[0].kids.length kc0) ∧ W'.cell? ⟨kb, ko + 5, none⟩ = some (.int .i64 e.kids[1].kind) ∧ W'.cell? ⟨kb, ko + 5 + 1, none⟩ = some (.int .i64 e.kids[1].col) ∧ W'.cell? ⟨kb, ko + 5 + 2, none⟩ = some (.bool e.kids[1].val.null) ∧ W'.cell? ⟨kb, ko + 5 + 3, none⟩ = some (.int .i64 e.kids[1].val.n) ∧ W'.cell? ⟨kb, ko + 5 + 4, none⟩ = some (.slice K1 e.kids[1].kids.length kc1)) := fun W' F => ⟨F, F.cell a0, F.cell a4, F.cell d0, F.cell d1, F.cell d2, F.cell d3, F.cell d4, F.cell g0, F.cell g1, F.cell g2, F.cell g3, F.cell g4⟩
  go_region_held3 (fun W' => Fr RA W' ∧ W'.cell? ⟨w1.heap.size, 0, none⟩ = some (.int .i64 e.kind) ∧ W'.cell? ⟨w1.heap.size, 4, none⟩ = some (.slice (some ⟨kb, ko, none⟩) e.kids.length c) ∧ W'.cell? ⟨kb, ko, none⟩ = some (.int .i64 e.kids[0].kind) ∧ W'.cell? ⟨kb, ko + 1, none⟩ = some (.int .i64 e.kids[0].col) ∧ W'.cell? ⟨kb, ko + 2, none⟩ = some (.bool e.kids[0].val.null) ∧ W'.cell? ⟨kb, ko + 3, none⟩ = some (.int .i64 e.kids[0].val.n) ∧ W'.cell? ⟨kb, ko + 4, none⟩ = some (.slice K0 e.kids[0].kids.length kc0) ∧ W'.cell? ⟨kb, ko + 5, none⟩ = some (.int .i64 e.kids[1].kind) ∧ W'.cell? ⟨kb, ko + 5 + 1, none⟩ = some (.int .i64 e.kids[1].col) ∧ W'.cell? ⟨kb, ko + 5 + 2, none⟩ = some (.bool e.kids[1].val.null) ∧ W'.cell? ⟨kb, ko + 5 + 3, none⟩ = some (.int .i64 e.kids[1].val.n) ∧ W'.cell? ⟨kb, ko + 5 + 4, none⟩ = some (.slice K1 e.kids[1].kids.length kc1)) ((refine keepL _ ?_; (repeat (first | with_reducible exact Fr.refl _ | with_reducible assumption | with_reducible refine Fr.alloc ?_ _ | with_reducible refine Fr.drew ?_ | with_reducible refine Fr.drewN ?_ _ | (with_reducible refine Fr.setNew2 ?_ ?_ _; · (simp <;> omega)) | with_reducible refine Fr.trans ?_ (by assumption))); done))
    (first
      | (go_at_call 23; refine (twoC e.kind e.kids[1] e.kids[0] _ _ _ _ 2 _ (HK1.out.fr (FW.trans (by (repeat (first | with_reducible exact Fr.refl _ | with_reducible assumption | with_reducible refine Fr.alloc ?_ _ | with_reducible refine Fr.drew ?_ | with_reducible refine Fr.drewN ?_ _ | (with_reducible refine Fr.setNew2 ?_ ?_ _; · (simp <;> omega)) | with_reducible refine Fr.trans ?_ (by assumption)))))) (HK0.out.fr (FW.trans (by (repeat (first | with_reducible exact Fr.refl _ | with_reducible assumption | with_reducible refine Fr.alloc ?_ _ | with_reducible refine Fr.drew ?_ | with_reducible refine Fr.drewN ?_ _ | (with_reducible refine Fr.setNew2 ?_ ?_ _; · (simp <;> omega)) | with_reducible refine Fr.trans ?_ (by assumption))))))).mono ?_; rintro r wt ⟨gt, rfl, hKT, bwt⟩; have Fwt : Fr RA wt := Fr.trans (by (repeat (first | with_reducible exact Fr.refl _ | with_reducible assumption | with_reducible refine Fr.alloc ?_ _ | with_reducible refine Fr.drew ?_ | with_reducible refine Fr.drewN ?_ _ | (with_reducible refine Fr.setNew2 ?_ ?_ _; · (simp <;> omega)) | with_reducible refine Fr.trans ?_ (by assumption)))) bwt; have hswt := Fwt.size; (first | (have B9wt : Blk wt RA.heap.size 24 #[.bool false, .int .i64 0] := (Blk.new RA 24 #[.bool false, .int .i64 0]).drew.fr bwt; obtain ⟨y0wt, y1wt, fy0wt, fy1wt⟩ := B9wt.pair) | skip))
      | (go_at_call 21; refine (CT.out _ gt (hKT.fr (by (repeat (first | with_reducible exact Fr.refl _ | with_reducible assumption | with_reducible refine Fr.alloc ?_ _ | with_reducible refine Fr.drew ?_ | with_reducible refine Fr.drewN ?_ _ | (with_reducible refine Fr.setNew2 ?_ ?_ _; · (simp <;> omega)) | with_reducible refine Fr.trans ?_ (by assumption))))) (FW.trans (by (repeat (first | with_reducible exact Fr.refl _ | with_reducible assumption | with_reducible refine Fr.alloc ?_ _ | with_reducible refine Fr.drew ?_ | with_reducible refine Fr.drewN ?_ _ | (with_reducible refine Fr.setNew2 ?_ ?_ _; · (simp <;> omega)) | with_reducible refine Fr.trans ?_ (by assumption)))))).mono ?_; rintro r we ⟨rfl, bwe⟩; have Fwe : Fr RA we := Fr.trans (by (repeat (first | with_reducible exact Fr.refl _ | with_reducible assumption | with_reducible refine Fr.alloc ?_ _ | with_reducible refine Fr.drew ?_ | with_reducible refine Fr.drewN ?_ _ | (with_reducible refine Fr.setNew2 ?_ ?_ _; · (simp <;> omega)) | with_reducible refine Fr.trans ?_ (by assumption)))) bwe; have hswe := Fwe.size; (first | (have B9we := B9wt.fr bwe; obtain ⟨y0we, y1we, fy0we, fy1we⟩ := B9we.pair) | (have B9we : Blk we wt.heap.size 24 #[.bool false, .int .i64 0] := resBlk bwe; obtain ⟨y0we, y1we, fy0we, fy1we⟩ := B9we.pair) | skip)))
  all_goals clear keepL
  all_goals have K0 := (Fr.refl we).alloc (.cells #[.bool rn, .int .i64 rx] 24)
  all_goals have K1 : Fr RA ((we.setCell ⟨RA.heap.size, 0, none⟩ (.bool rn)).setCell ⟨RA.heap.size, 1, none⟩ (.int .i64 rx)) := by (repeat (first | with_reducible exact Fr.refl _ | with_reducible assumption | with_reducible refine Fr.alloc ?_ _ | with_reducible refine Fr.drew ?_ | with_reducible refine Fr.drewN ?_ _ | (with_reducible refine Fr.setNew2 ?_ ?_ _; · (simp <;> omega)) | with_reducible refine Fr.trans ?_ (by assumption)))
  all_goals have K2 : Fr RA ((we.setCell ⟨wt.heap.size, 0, none⟩ (.bool rn)).setCell ⟨wt.heap.size, 1, none⟩ (.int .i64 rx)) := by (repeat (first | with_reducible exact Fr.refl _ | with_reducible assumption | with_reducible refine Fr.alloc ?_ _ | with_reducible refine Fr.drew ?_ | with_reducible refine Fr.drewN ?_ _ | (with_reducible refine Fr.setNew2 ?_ ?_ _; · (simp <;> omega)) | with_reducible refine Fr.trans ?_ (by assumption)))
  all_goals have n1e := Fwe.cell n1
  all_goals have n1f := K0.cell n1e
  all_goals have n1g0 := K1.cell n1
  all_goals have n1g1 := K2.cell n1
  all_goals have x1e := Fwe.cell x1
  all_goals have x1f := K0.cell x1e
  all_goals have x1g0 := K1.cell x1
  all_goals have x1g1 := K2.cell x1
  all_goals go_wp2
  all_goals go_ret
  all_goals exact ⟨rfl, bw1.trans (FW.trans (by (repeat (first | with_reducible exact Fr.refl _ | with_reducible assumption | with_reducible refine Fr.alloc ?_ _ | with_reducible refine Fr.drew ?_ | with_reducible refine Fr.drewN ?_ _ | (with_reducible refine Fr.setNew2 ?_ ?_ _; · (simp <;> omega)) | with_reducible refine Fr.trans ?_ (by assumption)))))⟩
end Go.Proofs.Ytkkmfmeocigijaa
