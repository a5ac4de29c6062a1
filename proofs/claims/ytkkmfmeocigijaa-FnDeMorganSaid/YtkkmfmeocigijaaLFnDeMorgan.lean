/- Walk of the law FnDeMorgan. -/
import Derived.Test.YtkkmfmeocigijaaEvalO
import Derived.Test.YtkkmfmeocigijaaExprJ
import Derived.Test.YtkkmfmeocigijaaLaw
import Derived.Deep.RegionHeld3
namespace Go.Proofs.Ytkkmfmeocigijaa
open Go Go.RowKit
set_option maxRecDepth 100000 in
set_option maxHeartbeats 4000000 in
theorem walkFnDeMorgan (A0 : Option Addr) (c0 : Nat) (xs : List Nat) (w : World) (hx : RdSl rdByte w.cell? 1 A0 xs) (_ : xs.length ≤ maxLen) (hc : xs.length ≤ c0) :
    Calls Try.prog 9 #[.slice A0 xs.length c0] w fun r w' => r = .returned (.bool true) ∧ Fr w w' := by
  have H := hid hx
  clear hx
  by_cases hlen : (1048576 : Int) < xs.length
  · have e0 : decide ((1048576 : Int) < (xs.length : Int)) = true := by simp; omega
    go_enter Try.func9, Try.ntmps9
    go_wp2
    go_ret
    exact ⟨rfl, Fr.refl _⟩
  have e0 : decide ((1048576 : Int) < (xs.length : Int)) = false := by simp; omega
  go_enter Try.func9, Try.ntmps9
  go_wp2_with fail
  refine (drawEvalExpr _ _ _ _ H.out (by omega) hc).mono ?_
  rintro r w1 ⟨e, A, c, B, rc, row, rfl, hK, hKc, hS, hL, hR, hl7, bw1⟩
  have HK := hid (show KidsOk 3 w1.cell? (e, A, c) from ⟨hK, by show e.kids.length ≤ maxLen; unfold maxLen; omega, hKc⟩)
  have HR := hid hR
  have HS := hid hS
  clear hK hKc hS hR e0 H
  obtain ⟨⟨rn, rx⟩, hres⟩ : ∃ a, evRes row 3 e = a := ⟨_, rfl⟩
  obtain ⟨rk, hok⟩ : ∃ b, evOk row 3 e = b := ⟨_, rfl⟩
  have CI : ∀ W : World, Fr w1 W → Calls Try.prog 21 #[.agg #[.int .i64 e.kind, .int .i64 e.col, .bool e.val.null, .int .i64 e.val.n, .slice A e.kids.length c], .slice B row.length rc] W fun r w' => r = .returned (.tuple #[.agg #[.bool rn, .int .i64 rx], .bool rk]) ∧ Fr W w' := fun W hW => by
    have h := implEvalExpr 3 e A c row B rc W (HK.out.1.mono (rdEx_mono 3) hW.mle) HS.out HK.out.2.2 (HR.out.fr rdV_mono hW) (by omega)
    rw [hres, hok] at h
    exact h
  replace CI := hid CI
  have CS : ∀ W : World, Fr w1 W → Calls Try.prog 22 #[.agg #[.int .i64 e.kind, .int .i64 e.col, .bool e.val.null, .int .i64 e.val.n, .slice A e.kids.length c], .slice B row.length rc] W fun r w' => r = .returned (.tuple #[.agg #[.bool rn, .int .i64 rx], .bool rk]) ∧ Fr W w' := fun W hW => by
    have h := specEvalExpr 3 e A c row B rc W (HK.out.1.mono (rdEx_mono 3) hW.mle) HS.out (HR.out.fr rdV_mono hW) (by omega)
    rw [hres, hok] at h
    exact h
  replace CS := hid CS
  have HRES := hid hres
  have HOK := hid hok
  clear hres hok
  have FW : Fr w1 (w1.alloc (.cells #[.int .i64 e.kind, .int .i64 e.col, .bool e.val.null, .int .i64 e.val.n, .slice A e.kids.length c] 27)) := (Fr.refl _).alloc _
  obtain ⟨a0, a1, a2, a3, a4, _⟩ := (Blk.new w1 27 #[.int .i64 e.kind, .int .i64 e.col, .bool e.val.null, .int .i64 e.val.n, .slice A e.kids.length c]).five
  cases rk
  · skip
    go_wp2_with fail
    refine (CI.out _ FW).mono ?_
    rintro r w2 ⟨rfl, b2⟩
    have K : Fr w2 (w2.alloc (.cells #[.bool rn, .int .i64 rx] 24)) := (Fr.refl _).alloc _
    have FK := b2.trans K
    replace FW := FW.trans FK
    replace a0 := FK.cell a0
    replace a1 := FK.cell a1
    replace a2 := FK.cell a2
    replace a3 := FK.cell a3
    replace a4 := FK.cell a4
    obtain ⟨n1, x1, _⟩ := (Blk.new w2 24 #[.bool rn, .int .i64 rx]).pair
    clear FK K
    go_wp2_with fail
    refine (CS.out _ FW).mono ?_
    rintro r w3 ⟨rfl, b3⟩
    have K : Fr w3 (w3.alloc (.cells #[.bool rn, .int .i64 rx] 24)) := (Fr.refl _).alloc _
    have FK := b3.trans K
    replace FW := FW.trans FK
    replace a0 := FK.cell a0
    replace a1 := FK.cell a1
    replace a2 := FK.cell a2
    replace a3 := FK.cell a3
    replace a4 := FK.cell a4
    replace n1 := FK.cell n1
    replace x1 := FK.cell x1
    obtain ⟨n2, x2, _⟩ := (Blk.new w3 24 #[.bool rn, .int .i64 rx]).pair
    clear FK K
    go_wp2
    go_ret
    exact ⟨rfl, bw1.trans FW⟩
  by_cases hk : e.kind = 8 ∨ e.kind = 9
  rotate_left
  · have e8 : (e.kind != 8) = true := by simp; omega
    have e9 : (e.kind != 9) = true := by simp; omega
    go_wp2_with fail
    refine (CI.out _ FW).mono ?_
    rintro r w2 ⟨rfl, b2⟩
    have K : Fr w2 (w2.alloc (.cells #[.bool rn, .int .i64 rx] 24)) := (Fr.refl _).alloc _
    have FK := b2.trans K
    replace FW := FW.trans FK
    replace a0 := FK.cell a0
    replace a1 := FK.cell a1
    replace a2 := FK.cell a2
    replace a3 := FK.cell a3
    replace a4 := FK.cell a4
    obtain ⟨n1, x1, _⟩ := (Blk.new w2 24 #[.bool rn, .int .i64 rx]).pair
    clear FK K
    go_wp2_with fail
    refine (CS.out _ FW).mono ?_
    rintro r w3 ⟨rfl, b3⟩
    have K : Fr w3 (w3.alloc (.cells #[.bool rn, .int .i64 rx] 24)) := (Fr.refl _).alloc _
    have FK := b3.trans K
    replace FW := FW.trans FK
    replace a0 := FK.cell a0
    replace a1 := FK.cell a1
    replace a2 := FK.cell a2
    replace a3 := FK.cell a3
    replace a4 := FK.cell a4
    replace n1 := FK.cell n1
    replace x1 := FK.cell x1
    obtain ⟨n2, x2, _⟩ := (Blk.new w3 24 #[.bool rn, .int .i64 rx]).pair
    clear FK K
    go_wp2
    go_ret
    exact ⟨rfl, bw1.trans FW⟩
  have hlen2 : e.kids.length = 2 := by
    rcases kind_cases (evOk_vE HOK.out) with h | h | h | h | h <;> omega
  have hlt0 : 0 < e.kids.length := by omega
  obtain ⟨kb, ko, K0, kc0, hA, d0, d1, d2, d3, d4, hk0⟩ := HK.out.1.exc hlt0
  have hlt1 : 1 < e.kids.length := by omega
  obtain ⟨kb1, ko1, K1, kc1, hA1, g0, g1, g2, g3, g4, hk1⟩ := HK.out.1.exc hlt1
  subst hA
  cases hA1
  simp only [Nat.zero_mul, Nat.add_zero, Nat.one_mul] at d0 d1 d2 d3 d4 g0 g1 g2 g3 g4
  have HK0 := hid hk0
  have HK1 := hid hk1
  have HS0 := hid (HS.out.2 0 hlt0)
  have HS1 := hid (HS.out.2 1 hlt1)
  clear hk0 hk1
  replace d0 := FW.cell d0
  replace d1 := FW.cell d1
  replace d2 := FW.cell d2
  replace d3 := FW.cell d3
  replace d4 := FW.cell d4
  replace g0 := FW.cell g0
  replace g1 := FW.cell g1
  replace g2 := FW.cell g2
  replace g3 := FW.cell g3
  replace g4 := FW.cell g4
  have HOK0 := hid (evOk_kid HOK.out hlt0)
  have HOK1 := hid (evOk_kid HOK.out hlt1)
  obtain ⟨⟨an, ax⟩, ha⟩ : ∃ a, evRes row 2 e.kids[0] = a := ⟨_, rfl⟩
  obtain ⟨⟨bn, bx⟩, hb⟩ : ∃ a, evRes row 2 e.kids[1] = a := ⟨_, rfl⟩
  have HK89 := hid hk
  have HL2 := hid hlen2
  have hI1 : (1 : Int) < (e.kids.length : Int) := by omega
  obtain ⟨q8, q9, hq⟩ : ∃ q8 q9 : Bool, (e.kind != 8) = q8 ∧ (e.kind != 9) = q9 := ⟨_, _, rfl, rfl⟩
  have hqq : (q8 && q9) = false := by
    rw [← hq.1, ← hq.2]
    rcases hk with h | h <;> rw [h] <;> rfl
  obtain ⟨e8, e9⟩ := hq
  have ew : IntKind.i64.wrap (17 - e.kind) = 17 - e.kind := IntWalk.i64_in _ (by omega)
  obtain ⟨⟨tn, tx⟩, ht⟩ : ∃ a, evRes row 4 (Ex.mk 10 0 ⟨false, 0⟩ [e]) = a := ⟨_, rfl⟩
  obtain ⟨tk, htk⟩ : ∃ b, evOk row 4 (Ex.mk 10 0 ⟨false, 0⟩ [e]) = b := ⟨_, rfl⟩
  obtain ⟨⟨un, ux⟩, hu⟩ : ∃ a, evRes row 4 (Ex.mk (17 - e.kind) 0 ⟨false, 0⟩ [(Ex.mk 10 0 ⟨false, 0⟩ [e.kids[0]]), (Ex.mk 10 0 ⟨false, 0⟩ [e.kids[1]])]) = a := ⟨_, rfl⟩
  have huk : evOk row 4 (Ex.mk (17 - e.kind) 0 ⟨false, 0⟩ [(Ex.mk 10 0 ⟨false, 0⟩ [e.kids[0]]), (Ex.mk 10 0 ⟨false, 0⟩ [e.kids[1]])]) = tk := by rw [← htk]; exact (morgan_ok HOK.out hk hlt0 hlt1 hlen2).symm
  have LAW := hid (show tk = true → (⟨tn, tx⟩ : V) = ⟨un, ux⟩ by
    intro h
    rw [h] at htk huk
    rw [← ht, ← hu]
    exact morgan_res hk hlt0 hlt1 htk huk)
  have HT := hid (And.intro ht htk)
  have HU := hid (And.intro hu huk)
  have HSN := hid (show exSm 4 [e] from exSm_two (by simp) (fun x hx => by simp only [List.mem_cons, List.not_mem_nil, or_false] at hx; subst hx; exact HS.out))
  have HSM := hid (show exSm 4 [(Ex.mk 10 0 ⟨false, 0⟩ [e.kids[0]]), (Ex.mk 10 0 ⟨false, 0⟩ [e.kids[1]])] from exSm_two (by simp) (fun x hx => by
    simp only [List.mem_cons, List.not_mem_nil, or_false] at hx
    rcases hx with rfl | rfl
    · exact (show exSm 3 [e.kids[0]] from exSm_two (by simp) (fun y hy => by simp only [List.mem_cons, List.not_mem_nil, or_false] at hy; subst hy; exact HS0.out))
    · exact (show exSm 3 [e.kids[1]] from exSm_two (by simp) (fun y hy => by simp only [List.mem_cons, List.not_mem_nil, or_false] at hy; subst hy; exact HS1.out))))
  clear ha hb ht htk hu huk hlen2 hk
  have CT := hid (fun (W : World) (gt : Nat) (hk : KidsOk 4 W.cell? ((Ex.mk 10 0 ⟨false, 0⟩ [e]), some ⟨gt, 0, none⟩, 1)) (hW : Fr w1 W) => (show Calls Try.prog 21 #[.agg #[.int .i64 10, .int .i64 0, .bool false, .int .i64 0, .slice (some ⟨gt, 0, none⟩) 1 1], .slice B row.length rc] W (fun r w' => r = .returned (.tuple #[.agg #[.bool tn, .int .i64 tx], .bool tk]) ∧ Fr W w') by
    have h := implEvalExpr 4 (Ex.mk 10 0 ⟨false, 0⟩ [e]) (some ⟨gt, 0, none⟩) 1 row B rc W hk.1 HSN.out hk.2.2 (HR.out.fr rdV_mono hW) (by omega)
    rw [HT.out.1, HT.out.2] at h
    exact h))
  have CU := hid (fun (W : World) (gt : Nat) (hk : KidsOk 4 W.cell? ((Ex.mk (17 - e.kind) 0 ⟨false, 0⟩ [(Ex.mk 10 0 ⟨false, 0⟩ [e.kids[0]]), (Ex.mk 10 0 ⟨false, 0⟩ [e.kids[1]])]), some ⟨gt, 0, none⟩, 2)) (hW : Fr w1 W) => (show Calls Try.prog 21 #[.agg #[.int .i64 (17 - e.kind), .int .i64 0, .bool false, .int .i64 0, .slice (some ⟨gt, 0, none⟩) 2 2], .slice B row.length rc] W (fun r w' => r = .returned (.tuple #[.agg #[.bool un, .int .i64 ux], .bool tk]) ∧ Fr W w') by
    have h := implEvalExpr 4 (Ex.mk (17 - e.kind) 0 ⟨false, 0⟩ [(Ex.mk 10 0 ⟨false, 0⟩ [e.kids[0]]), (Ex.mk 10 0 ⟨false, 0⟩ [e.kids[1]])]) (some ⟨gt, 0, none⟩) 2 row B rc W hk.1 HSM.out hk.2.2 (HR.out.fr rdV_mono hW) (by omega)
    rw [HU.out.1, HU.out.2] at h
    exact h))
  have HN0 := hid (fun (W : World) (hk : KidsOk 2 W.cell? (e.kids[0], K0, kc0)) => (show Calls Try.prog 25 #[.agg #[.int .i64 e.kids[0].kind, .int .i64 e.kids[0].col, .bool e.kids[0].val.null, .int .i64 e.kids[0].val.n, .slice K0 e.kids[0].kids.length kc0]] W (fun r w' => ∃ g, r = .returned (.agg #[.int .i64 10, .int .i64 0, .bool false, .int .i64 0, .slice (some ⟨g, 0, none⟩) 1 1]) ∧ KidsOk 3 w'.cell? (Ex.mk 10 0 ⟨false, 0⟩ [e.kids[0]], some ⟨g, 0, none⟩, 1) ∧ Fr W w') from notC e.kids[0] K0 kc0 2 W hk))
  have HN1 := hid (fun (W : World) (hk : KidsOk 2 W.cell? (e.kids[1], K1, kc1)) => (show Calls Try.prog 25 #[.agg #[.int .i64 e.kids[1].kind, .int .i64 e.kids[1].col, .bool e.kids[1].val.null, .int .i64 e.kids[1].val.n, .slice K1 e.kids[1].kids.length kc1]] W (fun r w' => ∃ g, r = .returned (.agg #[.int .i64 10, .int .i64 0, .bool false, .int .i64 0, .slice (some ⟨g, 0, none⟩) 1 1]) ∧ KidsOk 3 w'.cell? (Ex.mk 10 0 ⟨false, 0⟩ [e.kids[1]], some ⟨g, 0, none⟩, 1) ∧ Fr W w') from notC e.kids[1] K1 kc1 2 W hk))
  cases q8 <;> cases q9
  all_goals first | (exfalso; revert hqq; decide) | skip
  all_goals clear hqq
  all_goals (
    go_wp2_with fail
    refine (CI.out _ FW).mono ?_
    rintro r w2 ⟨rfl, b2⟩
    have K : Fr w2 (w2.alloc (.cells #[.bool rn, .int .i64 rx] 24)) := (Fr.refl _).alloc _
    have FK := b2.trans K
    replace FW := FW.trans FK
    replace a0 := FK.cell a0
    replace a1 := FK.cell a1
    replace a2 := FK.cell a2
    replace a3 := FK.cell a3
    replace a4 := FK.cell a4
    replace d0 := FK.cell d0
    replace d1 := FK.cell d1
    replace d2 := FK.cell d2
    replace d3 := FK.cell d3
    replace d4 := FK.cell d4
    replace g0 := FK.cell g0
    replace g1 := FK.cell g1
    replace g2 := FK.cell g2
    replace g3 := FK.cell g3
    replace g4 := FK.cell g4
    obtain ⟨n1, x1, _⟩ := (Blk.new w2 24 #[.bool rn, .int .i64 rx]).pair
    clear FK K
    go_wp2_with fail
    refine (CS.out _ FW).mono ?_
    rintro r w3 ⟨rfl, b3⟩
    have K : Fr w3 (w3.alloc (.cells #[.bool rn, .int .i64 rx] 24)) := (Fr.refl _).alloc _
    have FK := b3.trans K
    replace FW := FW.trans FK
    replace a0 := FK.cell a0
    replace a1 := FK.cell a1
    replace a2 := FK.cell a2
    replace a3 := FK.cell a3
    replace a4 := FK.cell a4
    replace d0 := FK.cell d0
    replace d1 := FK.cell d1
    replace d2 := FK.cell d2
    replace d3 := FK.cell d3
    replace d4 := FK.cell d4
    replace g0 := FK.cell g0
    replace g1 := FK.cell g1
    replace g2 := FK.cell g2
    replace g3 := FK.cell g3
    replace g4 := FK.cell g4
    replace n1 := FK.cell n1
    replace x1 := FK.cell x1
    obtain ⟨n2, x2, _⟩ := (Blk.new w3 24 #[.bool rn, .int .i64 rx]).pair
    clear FK K
    go_wp2_with fail
    refine (notC e _ _ 3 _ (HK.out.fr FW)).mono ?_
    rintro r w4 ⟨gn, rfl, hKN, b4⟩
    replace FW := FW.trans b4
    replace a0 := b4.cell a0
    replace a1 := b4.cell a1
    replace a2 := b4.cell a2
    replace a3 := b4.cell a3
    replace a4 := b4.cell a4
    replace d0 := b4.cell d0
    replace d1 := b4.cell d1
    replace d2 := b4.cell d2
    replace d3 := b4.cell d3
    replace d4 := b4.cell d4
    replace g0 := b4.cell g0
    replace g1 := b4.cell g1
    replace g2 := b4.cell g2
    replace g3 := b4.cell g3
    replace g4 := b4.cell g4
    replace n1 := b4.cell n1
    replace x1 := b4.cell x1
    replace n2 := b4.cell n2
    replace x2 := b4.cell x2
    go_wp2_with fail
    refine (CT.out _ gn hKN FW).mono ?_
    rintro r w5 ⟨rfl, b5⟩
    have K : Fr w5 (w5.alloc (.cells #[.bool tn, .int .i64 tx] 24)) := (Fr.refl _).alloc _
    have FK := b5.trans K
    replace FW := FW.trans FK
    replace a0 := FK.cell a0
    replace a1 := FK.cell a1
    replace a2 := FK.cell a2
    replace a3 := FK.cell a3
    replace a4 := FK.cell a4
    replace d0 := FK.cell d0
    replace d1 := FK.cell d1
    replace d2 := FK.cell d2
    replace d3 := FK.cell d3
    replace d4 := FK.cell d4
    replace g0 := FK.cell g0
    replace g1 := FK.cell g1
    replace g2 := FK.cell g2
    replace g3 := FK.cell g3
    replace g4 := FK.cell g4
    replace n1 := FK.cell n1
    replace x1 := FK.cell x1
    replace n2 := FK.cell n2
    replace x2 := FK.cell x2
    obtain ⟨n5, x5, _⟩ := (Blk.new w5 24 #[.bool tn, .int .i64 tx]).pair
    clear FK K
    go_wp2_with fail
    generalize hRA : w5.alloc (.cells #[.bool tn, .int .i64 tx] 24) = RA at FW a0 a1 a2 a3 a4 d0 d1 d2 d3 d4 g0 g1 g2 g3 g4 n1 x1 n2 x2 n5 x5 ⊢
    clear hRA
    have keepL : ∀ W' : World, Fr RA W' → (Fr RA W' ∧ W'.cell? ⟨w1.heap.size, 0, none⟩ = some (.int .i64 e.kind) ∧ W'.cell? ⟨w1.heap.size, 4, none⟩ = some (.slice (some ⟨kb, ko, none⟩) e.kids.length c) ∧ W'.cell? ⟨kb, ko, none⟩ = some (.int .i64 e.kids[0].kind) ∧ W'.cell? ⟨kb, ko + 1, none⟩ = some (.int .i64 e.kids[0].col) ∧ W'.cell? ⟨kb, ko + 2, none⟩ = some (.bool e.kids[0].val.null) ∧ W'.cell? ⟨kb, ko + 3, none⟩ = some (.int .i64 e.kids[0].val.n) ∧ W'.cell? ⟨kb, ko + 4, none⟩ = some (.slice K0 e.kids[0].kids.length kc0) ∧ W'.cell? ⟨kb, ko + 5, none⟩ = some (.int .i64 e.kids[1].kind) ∧ W'.cell? ⟨kb, ko + 5 + 1, none⟩ = some (.int .i64 e.kids[1].col) ∧ W'.cell? ⟨kb, ko + 5 + 2, none⟩ = some (.bool e.kids[1].val.null) ∧ W'.cell? ⟨kb, ko + 5 + 3, none⟩ = some (.int .i64 e.kids[1].val.n) ∧ W'.cell? ⟨kb, ko + 5 + 4, none⟩ = some (.slice K1 e.kids[1].kids.length kc1)) := fun W' F => ⟨F, F.cell a0, F.cell a4, F.cell d0, F.cell d1, F.cell d2, F.cell d3, F.cell d4, F.cell g0, F.cell g1, F.cell g2, F.cell g3, F.cell g4⟩
    go_region_held3 (fun W' => Fr RA W' ∧ W'.cell? ⟨w1.heap.size, 0, none⟩ = some (.int .i64 e.kind) ∧ W'.cell? ⟨w1.heap.size, 4, none⟩ = some (.slice (some ⟨kb, ko, none⟩) e.kids.length c) ∧ W'.cell? ⟨kb, ko, none⟩ = some (.int .i64 e.kids[0].kind) ∧ W'.cell? ⟨kb, ko + 1, none⟩ = some (.int .i64 e.kids[0].col) ∧ W'.cell? ⟨kb, ko + 2, none⟩ = some (.bool e.kids[0].val.null) ∧ W'.cell? ⟨kb, ko + 3, none⟩ = some (.int .i64 e.kids[0].val.n) ∧ W'.cell? ⟨kb, ko + 4, none⟩ = some (.slice K0 e.kids[0].kids.length kc0) ∧ W'.cell? ⟨kb, ko + 5, none⟩ = some (.int .i64 e.kids[1].kind) ∧ W'.cell? ⟨kb, ko + 5 + 1, none⟩ = some (.int .i64 e.kids[1].col) ∧ W'.cell? ⟨kb, ko + 5 + 2, none⟩ = some (.bool e.kids[1].val.null) ∧ W'.cell? ⟨kb, ko + 5 + 3, none⟩ = some (.int .i64 e.kids[1].val.n) ∧ W'.cell? ⟨kb, ko + 5 + 4, none⟩ = some (.slice K1 e.kids[1].kids.length kc1)) ((refine keepL _ ?_; (repeat (first | with_reducible exact Fr.refl _ | with_reducible assumption | with_reducible refine Fr.alloc ?_ _ | with_reducible refine Fr.drew ?_ | with_reducible refine Fr.drewN ?_ _ | (with_reducible refine Fr.setNew2 ?_ ?_ _; · (simp <;> omega)) | with_reducible refine Fr.trans ?_ (by assumption))); done))
      (first
        | (go_at_call 25; with_reducible refine (HN0.out _ ?_).mono ?_; (· exact HK0.out.fr (FW.trans (by (repeat (first | with_reducible exact Fr.refl _ | with_reducible assumption | with_reducible refine Fr.alloc ?_ _ | with_reducible refine Fr.drew ?_ | with_reducible refine Fr.drewN ?_ _ | (with_reducible refine Fr.setNew2 ?_ ?_ _; · (simp <;> omega)) | with_reducible refine Fr.trans ?_ (by assumption)))))); rintro r wa ⟨ga, rfl, hKA, bwa⟩; have Fwa : Fr RA wa := Fr.trans (by (repeat (first | with_reducible exact Fr.refl _ | with_reducible assumption | with_reducible refine Fr.alloc ?_ _ | with_reducible refine Fr.drew ?_ | with_reducible refine Fr.drewN ?_ _ | (with_reducible refine Fr.setNew2 ?_ ?_ _; · (simp <;> omega)) | with_reducible refine Fr.trans ?_ (by assumption)))) bwa; have Gwa : Fr RA wa := Fr.trans (by (repeat (first | with_reducible exact Fr.refl _ | with_reducible assumption | with_reducible refine Fr.alloc ?_ _ | with_reducible refine Fr.drew ?_ | with_reducible refine Fr.drewN ?_ _ | (with_reducible refine Fr.setNew2 ?_ ?_ _; · (simp <;> omega)) | with_reducible refine Fr.trans ?_ (by assumption)))) bwa; have hswa := Fwa.size; (first | (have B9wa : Blk wa RA.heap.size 24 #[.bool false, .int .i64 0] := (Blk.new RA 24 #[.bool false, .int .i64 0]).drew.fr bwa; obtain ⟨y0wa, y1wa, fy0wa, fy1wa⟩ := B9wa.pair) | skip))
        | (go_at_call 25; with_reducible refine (HN1.out _ ?_).mono ?_; (· exact HK1.out.fr (FW.trans (by (repeat (first | with_reducible exact Fr.refl _ | with_reducible assumption | with_reducible refine Fr.alloc ?_ _ | with_reducible refine Fr.drew ?_ | with_reducible refine Fr.drewN ?_ _ | (with_reducible refine Fr.setNew2 ?_ ?_ _; · (simp <;> omega)) | with_reducible refine Fr.trans ?_ (by assumption)))))); rintro r wb ⟨gb, rfl, hKB, bwb⟩; have Fwb : Fr RA wb := Fr.trans (by (repeat (first | with_reducible exact Fr.refl _ | with_reducible assumption | with_reducible refine Fr.alloc ?_ _ | with_reducible refine Fr.drew ?_ | with_reducible refine Fr.drewN ?_ _ | (with_reducible refine Fr.setNew2 ?_ ?_ _; · (simp <;> omega)) | with_reducible refine Fr.trans ?_ (by assumption)))) bwb; have Gwb : Fr wa wb := Fr.trans (by (repeat (first | with_reducible exact Fr.refl _ | with_reducible assumption | with_reducible refine Fr.alloc ?_ _ | with_reducible refine Fr.drew ?_ | with_reducible refine Fr.drewN ?_ _ | (with_reducible refine Fr.setNew2 ?_ ?_ _; · (simp <;> omega)) | with_reducible refine Fr.trans ?_ (by assumption)))) bwb; have hswb := Fwb.size; (first | (have B9wb := B9wa.fr bwb; obtain ⟨y0wb, y1wb, fy0wb, fy1wb⟩ := B9wb.pair) | (have B9wb : Blk wb wa.heap.size 24 #[.bool false, .int .i64 0] := resBlk bwb; obtain ⟨y0wb, y1wb, fy0wb, fy1wb⟩ := B9wb.pair) | skip))
        | (go_at_call 23; refine (twoC (17 - e.kind) (Ex.mk 10 0 ⟨false, 0⟩ [e.kids[0]]) (Ex.mk 10 0 ⟨false, 0⟩ [e.kids[1]]) _ _ _ _ 3 _ (hKA.fr (Fr.trans Gwb (by (repeat (first | with_reducible exact Fr.refl _ | with_reducible assumption | with_reducible refine Fr.alloc ?_ _ | with_reducible refine Fr.drew ?_ | with_reducible refine Fr.drewN ?_ _ | (with_reducible refine Fr.setNew2 ?_ ?_ _; · (simp <;> omega)) | with_reducible refine Fr.trans ?_ (by assumption)))))) (hKB.fr (by (repeat (first | with_reducible exact Fr.refl _ | with_reducible assumption | with_reducible refine Fr.alloc ?_ _ | with_reducible refine Fr.drew ?_ | with_reducible refine Fr.drewN ?_ _ | (with_reducible refine Fr.setNew2 ?_ ?_ _; · (simp <;> omega)) | with_reducible refine Fr.trans ?_ (by assumption)))))).mono ?_; rintro r wt ⟨gt, rfl, hKT, bwt⟩; have Fwt : Fr RA wt := Fr.trans (by (repeat (first | with_reducible exact Fr.refl _ | with_reducible assumption | with_reducible refine Fr.alloc ?_ _ | with_reducible refine Fr.drew ?_ | with_reducible refine Fr.drewN ?_ _ | (with_reducible refine Fr.setNew2 ?_ ?_ _; · (simp <;> omega)) | with_reducible refine Fr.trans ?_ (by assumption)))) bwt; have hswt := Fwt.size; (first | (have B9wt := B9wb.fr bwt; obtain ⟨y0wt, y1wt, fy0wt, fy1wt⟩ := B9wt.pair) | (have B9wt : Blk wt wb.heap.size 24 #[.bool false, .int .i64 0] := resBlk bwt; obtain ⟨y0wt, y1wt, fy0wt, fy1wt⟩ := B9wt.pair) | skip))
        | (go_at_call 21; refine (CU.out _ gt (hKT.fr (by (repeat (first | with_reducible exact Fr.refl _ | with_reducible assumption | with_reducible refine Fr.alloc ?_ _ | with_reducible refine Fr.drew ?_ | with_reducible refine Fr.drewN ?_ _ | (with_reducible refine Fr.setNew2 ?_ ?_ _; · (simp <;> omega)) | with_reducible refine Fr.trans ?_ (by assumption))))) (FW.trans (by (repeat (first | with_reducible exact Fr.refl _ | with_reducible assumption | with_reducible refine Fr.alloc ?_ _ | with_reducible refine Fr.drew ?_ | with_reducible refine Fr.drewN ?_ _ | (with_reducible refine Fr.setNew2 ?_ ?_ _; · (simp <;> omega)) | with_reducible refine Fr.trans ?_ (by assumption)))))).mono ?_; rintro r we ⟨rfl, bwe⟩; have Fwe : Fr RA we := Fr.trans (by (repeat (first | with_reducible exact Fr.refl _ | with_reducible assumption | with_reducible refine Fr.alloc ?_ _ | with_reducible refine Fr.drew ?_ | with_reducible refine Fr.drewN ?_ _ | (with_reducible refine Fr.setNew2 ?_ ?_ _; · (simp <;> omega)) | with_reducible refine Fr.trans ?_ (by assumption)))) bwe; have hswe := Fwe.size; (first | (have B9we := B9wt.fr bwe; obtain ⟨y0we, y1we, fy0we, fy1we⟩ := B9we.pair) | (have B9we : Blk we wt.heap.size 24 #[.bool false, .int .i64 0] := resBlk bwe; obtain ⟨y0we, y1we, fy0we, fy1we⟩ := B9we.pair) | skip)))
    all_goals clear keepL
    all_goals have K0 := (Fr.refl we).alloc (.cells #[.bool un, .int .i64 ux] 24)
    all_goals have K1 : Fr RA ((we.setCell ⟨RA.heap.size, 0, none⟩ (.bool un)).setCell ⟨RA.heap.size, 1, none⟩ (.int .i64 ux)) := by (repeat (first | with_reducible exact Fr.refl _ | with_reducible assumption | with_reducible refine Fr.alloc ?_ _ | with_reducible refine Fr.drew ?_ | with_reducible refine Fr.drewN ?_ _ | (with_reducible refine Fr.setNew2 ?_ ?_ _; · (simp <;> omega)) | with_reducible refine Fr.trans ?_ (by assumption)))
    all_goals have K2 : Fr RA ((we.setCell ⟨wa.heap.size, 0, none⟩ (.bool un)).setCell ⟨wa.heap.size, 1, none⟩ (.int .i64 ux)) := by (repeat (first | with_reducible exact Fr.refl _ | with_reducible assumption | with_reducible refine Fr.alloc ?_ _ | with_reducible refine Fr.drew ?_ | with_reducible refine Fr.drewN ?_ _ | (with_reducible refine Fr.setNew2 ?_ ?_ _; · (simp <;> omega)) | with_reducible refine Fr.trans ?_ (by assumption)))
    all_goals have K3 : Fr RA ((we.setCell ⟨wb.heap.size, 0, none⟩ (.bool un)).setCell ⟨wb.heap.size, 1, none⟩ (.int .i64 ux)) := by (repeat (first | with_reducible exact Fr.refl _ | with_reducible assumption | with_reducible refine Fr.alloc ?_ _ | with_reducible refine Fr.drew ?_ | with_reducible refine Fr.drewN ?_ _ | (with_reducible refine Fr.setNew2 ?_ ?_ _; · (simp <;> omega)) | with_reducible refine Fr.trans ?_ (by assumption)))
    all_goals have K4 : Fr RA ((we.setCell ⟨wt.heap.size, 0, none⟩ (.bool un)).setCell ⟨wt.heap.size, 1, none⟩ (.int .i64 ux)) := by (repeat (first | with_reducible exact Fr.refl _ | with_reducible assumption | with_reducible refine Fr.alloc ?_ _ | with_reducible refine Fr.drew ?_ | with_reducible refine Fr.drewN ?_ _ | (with_reducible refine Fr.setNew2 ?_ ?_ _; · (simp <;> omega)) | with_reducible refine Fr.trans ?_ (by assumption)))
    all_goals have n5e := Fwe.cell n5
    all_goals have n5f := K0.cell n5e
    all_goals have n5g0 := K1.cell n5
    all_goals have n5g1 := K2.cell n5
    all_goals have n5g2 := K3.cell n5
    all_goals have n5g3 := K4.cell n5
    all_goals have x5e := Fwe.cell x5
    all_goals have x5f := K0.cell x5e
    all_goals have x5g0 := K1.cell x5
    all_goals have x5g1 := K2.cell x5
    all_goals have x5g2 := K3.cell x5
    all_goals have x5g3 := K4.cell x5
    all_goals cases tk
    all_goals first | (have L := LAW.out rfl; obtain ⟨rfl, rfl⟩ : tn = un ∧ tx = ux := ⟨congrArg V.null L, congrArg V.n L⟩; clear L) | skip
    all_goals go_wp2
    all_goals go_ret
    all_goals exact ⟨rfl, bw1.trans (FW.trans (by (repeat (first | with_reducible exact Fr.refl _ | with_reducible assumption | with_reducible refine Fr.alloc ?_ _ | with_reducible refine Fr.drew ?_ | with_reducible refine Fr.drewN ?_ _ | (with_reducible refine Fr.setNew2 ?_ ?_ _; · (simp <;> omega)) | with_reducible refine Fr.trans ?_ (by assumption)))))⟩)
end Go.Proofs.Ytkkmfmeocigijaa
