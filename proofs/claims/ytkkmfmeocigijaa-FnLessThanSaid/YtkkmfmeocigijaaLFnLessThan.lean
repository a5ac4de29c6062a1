/- Walk of the law FnLessThan. -/
import Derived.Test.YtkkmfmeocigijaaEvalN
import Derived.Test.YtkkmfmeocigijaaExprJ
import Derived.Test.YtkkmfmeocigijaaLaw
import Derived.Deep.RegionHeld3
namespace Go.Proofs.Ytkkmfmeocigijaa
open Go Go.RowKit
set_option maxRecDepth 100000 in
set_option maxHeartbeats 4000000 in
theorem walkFnLessThan (A0 : Option Addr) (c0 : Nat) (xs : List Nat) (w : World) (hx : RdSl rdByte w.cell? 1 A0 xs) (_ : xs.length ≤ maxLen) (hc : xs.length ≤ c0) :
    Calls Try.prog 10 #[.slice A0 xs.length c0] w fun r w' => r = .returned (.bool true) ∧ Fr w w' := by
  have H := hid hx
  clear hx
  by_cases hlen : (1048576 : Int) < xs.length
  · have e0 : decide ((1048576 : Int) < (xs.length : Int)) = true := by simp; omega
    go_enter Try.func10, Try.ntmps10
    go_wp2
    go_ret
    exact ⟨rfl, Fr.refl _⟩
  have e0 : decide ((1048576 : Int) < (xs.length : Int)) = false := by simp; omega
  go_enter Try.func10, Try.ntmps10
  go_wp2_with fail
  refine (drawEvalExpr _ _ _ _ H.out (by omega) hc).mono ?_
  rintro r w1 ⟨e, A, c, B, rc, row, rfl, hK, hKc, hS, hL, hR, hl7, bw1⟩
  have HK := hid (show KidsOk 3 w1.cell? (e, A, c) from ⟨hK, by show e.kids.length ≤ maxLen; unfold maxLen; omega, hKc⟩)
  have HR := hid hR
  have HS := hid hS
  clear hK hKc hS hR e0 H
  obtain ⟨⟨rn, rx⟩, hres⟩ : ∃ a, evRes row 3 e = a := ⟨_, rfl⟩
  obtain ⟨rk, hok⟩ : ∃ b, evOk row 3 e = b := ⟨_, rfl⟩
  have CI : ∀ W : World, Fr w1 W → Calls Try.prog 21 #[.agg #[.int .i64 e.kind, .int .i64 e.col, .bool e.val.null, .int .i64 e.val.n, .slice A e.kids.length c], .slice B row.length rc] W fun r w' => r = .returned (.tuple #[.agg #[.bool rn, .int .i64 rx], .bool rk]) ∧ Fr W w' := fun W hW => by
    have h := implEvalExpr 3 e A c row B rc W (HK.out.1.mono (rdEx_mono 3) hW.mle) HS.out HK.out.2.2 (HR.out.fr rdV_mono hW) (by omega)
    rw [hres, hok] at h
    exact h
  replace CI := hid CI
  have CS : ∀ W : World, Fr w1 W → Calls Try.prog 22 #[.agg #[.int .i64 e.kind, .int .i64 e.col, .bool e.val.null, .int .i64 e.val.n, .slice A e.kids.length c], .slice B row.length rc] W fun r w' => r = .returned (.tuple #[.agg #[.bool rn, .int .i64 rx], .bool rk]) ∧ Fr W w' := fun W hW => by
    have h := specEvalExpr 3 e A c row B rc W (HK.out.1.mono (rdEx_mono 3) hW.mle) HS.out (HR.out.fr rdV_mono hW) (by omega)
    rw [hres, hok] at h
    exact h
  replace CS := hid CS
  have HRES := hid hres
  have HOK := hid hok
  clear hres hok
  have FW : Fr w1 (w1.alloc (.cells #[.int .i64 e.kind, .int .i64 e.col, .bool e.val.null, .int .i64 e.val.n, .slice A e.kids.length c] 27)) := (Fr.refl _).alloc _
  obtain ⟨a0, a1, a2, a3, a4, _⟩ := (Blk.new w1 27 #[.int .i64 e.kind, .int .i64 e.col, .bool e.val.null, .int .i64 e.val.n, .slice A e.kids.length c]).five
  cases rk
  · skip
    go_wp2_with fail
    refine (CI.out _ FW).mono ?_
    rintro r w2 ⟨rfl, b2⟩
    have K : Fr w2 (w2.alloc (.cells #[.bool rn, .int .i64 rx] 24)) := (Fr.refl _).alloc _
    have FK := b2.trans K
    replace FW := FW.trans FK
    replace a0 := FK.cell a0
    replace a1 := FK.cell a1
    replace a2 := FK.cell a2
    replace a3 := FK.cell a3
    replace a4 := FK.cell a4
    obtain ⟨n1, x1, _⟩ := (Blk.new w2 24 #[.bool rn, .int .i64 rx]).pair
    clear FK K
    go_wp2_with fail
    refine (CS.out _ FW).mono ?_
    rintro r w3 ⟨rfl, b3⟩
    have K : Fr w3 (w3.alloc (.cells #[.bool rn, .int .i64 rx] 24)) := (Fr.refl _).alloc _
    have FK := b3.trans K
    replace FW := FW.trans FK
    replace a0 := FK.cell a0
    replace a1 := FK.cell a1
    replace a2 := FK.cell a2
    replace a3 := FK.cell a3
    replace a4 := FK.cell a4
    replace n1 := FK.cell n1
    replace x1 := FK.cell x1
    obtain ⟨n2, x2, _⟩ := (Blk.new w3 24 #[.bool rn, .int .i64 rx]).pair
    clear FK K
    go_wp2
    go_ret
    exact ⟨rfl, bw1.trans FW⟩
  by_cases hk : e.kind = 7 ∨ e.kind = 6
  rotate_left
  · have e7 : (e.kind != 7) = true := by simp; omega
    have e6 : (e.kind != 6) = true := by simp; omega
    go_wp2_with fail
    refine (CI.out _ FW).mono ?_
    rintro r w2 ⟨rfl, b2⟩
    have K : Fr w2 (w2.alloc (.cells #[.bool rn, .int .i64 rx] 24)) := (Fr.refl _).alloc _
    have FK := b2.trans K
    replace FW := FW.trans FK
    replace a0 := FK.cell a0
    replace a1 := FK.cell a1
    replace a2 := FK.cell a2
    replace a3 := FK.cell a3
    replace a4 := FK.cell a4
    obtain ⟨n1, x1, _⟩ := (Blk.new w2 24 #[.bool rn, .int .i64 rx]).pair
    clear FK K
    go_wp2_with fail
    refine (CS.out _ FW).mono ?_
    rintro r w3 ⟨rfl, b3⟩
    have K : Fr w3 (w3.alloc (.cells #[.bool rn, .int .i64 rx] 24)) := (Fr.refl _).alloc _
    have FK := b3.trans K
    replace FW := FW.trans FK
    replace a0 := FK.cell a0
    replace a1 := FK.cell a1
    replace a2 := FK.cell a2
    replace a3 := FK.cell a3
    replace a4 := FK.cell a4
    replace n1 := FK.cell n1
    replace x1 := FK.cell x1
    obtain ⟨n2, x2, _⟩ := (Blk.new w3 24 #[.bool rn, .int .i64 rx]).pair
    clear FK K
    go_wp2
    go_ret
    exact ⟨rfl, bw1.trans FW⟩
  have hlen2 : e.kids.length = 2 := by
    rcases kind_cases (evOk_vE HOK.out) with h | h | h | h | h <;> omega
  have hlt0 : 0 < e.kids.length := by omega
  obtain ⟨kb, ko, K0, kc0, hA, d0, d1, d2, d3, d4, hk0⟩ := HK.out.1.exc hlt0
  have hlt1 : 1 < e.kids.length := by omega
  obtain ⟨kb1, ko1, K1, kc1, hA1, g0, g1, g2, g3, g4, hk1⟩ := HK.out.1.exc hlt1
  subst hA
  cases hA1
  simp only [Nat.zero_mul, Nat.add_zero, Nat.one_mul] at d0 d1 d2 d3 d4 g0 g1 g2 g3 g4
  have HK0 := hid hk0
  have HK1 := hid hk1
  have HS0 := hid (HS.out.2 0 hlt0)
  have HS1 := hid (HS.out.2 1 hlt1)
  clear hk0 hk1
  replace d0 := FW.cell d0
  replace d1 := FW.cell d1
  replace d2 := FW.cell d2
  replace d3 := FW.cell d3
  replace d4 := FW.cell d4
  replace g0 := FW.cell g0
  replace g1 := FW.cell g1
  replace g2 := FW.cell g2
  replace g3 := FW.cell g3
  replace g4 := FW.cell g4
  have HOK0 := hid (evOk_kid HOK.out hlt0)
  have HOK1 := hid (evOk_kid HOK.out hlt1)
  obtain ⟨⟨an, ax⟩, ha⟩ : ∃ a, evRes row 2 e.kids[0] = a := ⟨_, rfl⟩
  obtain ⟨⟨bn, bx⟩, hb⟩ : ∃ a, evRes row 2 e.kids[1] = a := ⟨_, rfl⟩
  have HK67 := hid hk
  have HL2 := hid hlen2
  have hI1 : (1 : Int) < (e.kids.length : Int) := by omega
  obtain ⟨q7, q6, hq⟩ : ∃ q7 q6 : Bool, (e.kind != 7) = q7 ∧ (e.kind != 6) = q6 := ⟨_, _, rfl, rfl⟩
  have hqq : (q7 && q6) = false := by
    rw [← hq.1, ← hq.2]
    rcases hk with h | h <;> rw [h] <;> rfl
  obtain ⟨e7, e6⟩ := hq
  clear hk hlen2
  cases rn
  rotate_left
  · cases q7 <;> cases q6
    all_goals first | (exfalso; revert hqq; decide) | skip
    all_goals clear hqq ha hb
    all_goals go_wp2_with fail
    all_goals refine (CI.out _ FW).mono ?_
    all_goals rintro r w2 ⟨rfl, b2⟩
    all_goals have K : Fr w2 (w2.alloc (.cells #[.bool true, .int .i64 rx] 24)) := (Fr.refl _).alloc _
    all_goals have FK := b2.trans K
    all_goals replace FW := FW.trans FK
    all_goals replace a0 := FK.cell a0
    all_goals replace a1 := FK.cell a1
    all_goals replace a2 := FK.cell a2
    all_goals replace a3 := FK.cell a3
    all_goals replace a4 := FK.cell a4
    all_goals replace d0 := FK.cell d0
    all_goals replace d1 := FK.cell d1
    all_goals replace d2 := FK.cell d2
    all_goals replace d3 := FK.cell d3
    all_goals replace d4 := FK.cell d4
    all_goals replace g0 := FK.cell g0
    all_goals replace g1 := FK.cell g1
    all_goals replace g2 := FK.cell g2
    all_goals replace g3 := FK.cell g3
    all_goals replace g4 := FK.cell g4
    all_goals obtain ⟨n1, x1, _⟩ := (Blk.new w2 24 #[.bool true, .int .i64 rx]).pair
    all_goals clear FK K
    all_goals go_wp2_with fail
    all_goals refine (CS.out _ FW).mono ?_
    all_goals rintro r w3 ⟨rfl, b3⟩
    all_goals have K : Fr w3 (w3.alloc (.cells #[.bool true, .int .i64 rx] 24)) := (Fr.refl _).alloc _
    all_goals have FK := b3.trans K
    all_goals replace FW := FW.trans FK
    all_goals replace a0 := FK.cell a0
    all_goals replace a1 := FK.cell a1
    all_goals replace a2 := FK.cell a2
    all_goals replace a3 := FK.cell a3
    all_goals replace a4 := FK.cell a4
    all_goals replace d0 := FK.cell d0
    all_goals replace d1 := FK.cell d1
    all_goals replace d2 := FK.cell d2
    all_goals replace d3 := FK.cell d3
    all_goals replace d4 := FK.cell d4
    all_goals replace g0 := FK.cell g0
    all_goals replace g1 := FK.cell g1
    all_goals replace g2 := FK.cell g2
    all_goals replace g3 := FK.cell g3
    all_goals replace g4 := FK.cell g4
    all_goals replace n1 := FK.cell n1
    all_goals replace x1 := FK.cell x1
    all_goals obtain ⟨n2, x2, _⟩ := (Blk.new w3 24 #[.bool true, .int .i64 rx]).pair
    all_goals clear FK K
    all_goals go_wp2
    all_goals go_ret
    all_goals exact ⟨rfl, bw1.trans FW⟩
  have hnn := comb67_null (k := e.kind) (a := ⟨an, ax⟩) (b := ⟨bn, bx⟩) (by have := HK67.out; omega) (by
    have e1 : comb e.kind ⟨an, ax⟩ ⟨bn, bx⟩ = ⟨false, rx⟩ := by
      have := HK67.out
      rw [← HRES.out, evRes_ok HOK.out, ev_two (by omega) hlt0 hlt1, ← evRes_ok HOK0.out, ← evRes_ok HOK1.out, ha, hb]
    rw [e1])
  have hvr := evOk_row HOK.out
  obtain ⟨t1, h1⟩ : ∃ t : Bool, ((comb 7 ⟨an, ax⟩ ⟨bn, bx⟩).n != 0) = t := ⟨_, rfl⟩
  obtain ⟨t2, h2⟩ : ∃ t : Bool, ((comb 7 ⟨bn, bx⟩ ⟨an, ax⟩).n != 0) = t := ⟨_, rfl⟩
  obtain ⟨t3, h3⟩ : ∃ t : Bool, ((comb 6 ⟨an, ax⟩ ⟨bn, bx⟩).n != 0) = t := ⟨_, rfl⟩
  have hcs := less_cases hnn.1 hnn.2 h1 h2 h3
  have HT1 := hid ((isT_two (.inr rfl) hvr (kid7 HOK.out hlt0) (kid7 HOK.out hlt1) HOK0.out HOK1.out ha hb hnn.1 hnn.2).trans h1)
  have HT2 := hid ((isT_two (.inr rfl) hvr (kid7 HOK.out hlt1) (kid7 HOK.out hlt0) HOK1.out HOK0.out hb ha hnn.2 hnn.1).trans h2)
  have HT3 := hid ((isT_two (.inl rfl) hvr (kid7 HOK.out hlt0) (kid7 HOK.out hlt1) HOK0.out HOK1.out ha hb hnn.1 hnn.2).trans h3)
  have HSA := hid (show exSm 3 [e.kids[0], e.kids[1]] from exSm_two (by simp) (fun x hx => by
    simp only [List.mem_cons, List.not_mem_nil, or_false] at hx
    rcases hx with rfl | rfl
    · exact HS0.out
    · exact HS1.out))
  have HSB := hid (show exSm 3 [e.kids[1], e.kids[0]] from exSm_two (by simp) (fun x hx => by
    simp only [List.mem_cons, List.not_mem_nil, or_false] at hx
    rcases hx with rfl | rfl
    · exact HS1.out
    · exact HS0.out))
  clear h1 h2 h3 hnn ha hb hvr
  rcases hcs with ⟨rfl, rfl, rfl⟩ | ⟨rfl, rfl, rfl⟩ | ⟨rfl, rfl, rfl⟩
  all_goals cases q7 <;> cases q6
  all_goals first | (exfalso; revert hqq; decide) | skip
  all_goals clear hqq
  all_goals (
    go_wp2_with fail
    refine (CI.out _ FW).mono ?_
    rintro r w2 ⟨rfl, b2⟩
    have K : Fr w2 (w2.alloc (.cells #[.bool false, .int .i64 rx] 24)) := (Fr.refl _).alloc _
    have FK := b2.trans K
    replace FW := FW.trans FK
    replace a0 := FK.cell a0
    replace a1 := FK.cell a1
    replace a2 := FK.cell a2
    replace a3 := FK.cell a3
    replace a4 := FK.cell a4
    replace d0 := FK.cell d0
    replace d1 := FK.cell d1
    replace d2 := FK.cell d2
    replace d3 := FK.cell d3
    replace d4 := FK.cell d4
    replace g0 := FK.cell g0
    replace g1 := FK.cell g1
    replace g2 := FK.cell g2
    replace g3 := FK.cell g3
    replace g4 := FK.cell g4
    obtain ⟨n1, x1, _⟩ := (Blk.new w2 24 #[.bool false, .int .i64 rx]).pair
    clear FK K
    go_wp2_with fail
    refine (CS.out _ FW).mono ?_
    rintro r w3 ⟨rfl, b3⟩
    have K : Fr w3 (w3.alloc (.cells #[.bool false, .int .i64 rx] 24)) := (Fr.refl _).alloc _
    have FK := b3.trans K
    replace FW := FW.trans FK
    replace a0 := FK.cell a0
    replace a1 := FK.cell a1
    replace a2 := FK.cell a2
    replace a3 := FK.cell a3
    replace a4 := FK.cell a4
    replace d0 := FK.cell d0
    replace d1 := FK.cell d1
    replace d2 := FK.cell d2
    replace d3 := FK.cell d3
    replace d4 := FK.cell d4
    replace g0 := FK.cell g0
    replace g1 := FK.cell g1
    replace g2 := FK.cell g2
    replace g3 := FK.cell g3
    replace g4 := FK.cell g4
    replace n1 := FK.cell n1
    replace x1 := FK.cell x1
    obtain ⟨n2, x2, _⟩ := (Blk.new w3 24 #[.bool false, .int .i64 rx]).pair
    clear FK K
    go_wp2_with fail
    generalize hRA : w3.alloc (.cells #[.bool false, .int .i64 rx] 24) = RA at FW a0 a1 a2 a3 a4 d0 d1 d2 d3 d4 g0 g1 g2 g3 g4 n1 x1 n2 x2 ⊢
    clear hRA
    have keepL : ∀ W' : World, Fr RA W' → (Fr RA W' ∧ W'.cell? ⟨w1.heap.size, 4, none⟩ = some (.slice (some ⟨kb, ko, none⟩) e.kids.length c) ∧ W'.cell? ⟨kb, ko, none⟩ = some (.int .i64 e.kids[0].kind) ∧ W'.cell? ⟨kb, ko + 1, none⟩ = some (.int .i64 e.kids[0].col) ∧ W'.cell? ⟨kb, ko + 2, none⟩ = some (.bool e.kids[0].val.null) ∧ W'.cell? ⟨kb, ko + 3, none⟩ = some (.int .i64 e.kids[0].val.n) ∧ W'.cell? ⟨kb, ko + 4, none⟩ = some (.slice K0 e.kids[0].kids.length kc0) ∧ W'.cell? ⟨kb, ko + 5, none⟩ = some (.int .i64 e.kids[1].kind) ∧ W'.cell? ⟨kb, ko + 5 + 1, none⟩ = some (.int .i64 e.kids[1].col) ∧ W'.cell? ⟨kb, ko + 5 + 2, none⟩ = some (.bool e.kids[1].val.null) ∧ W'.cell? ⟨kb, ko + 5 + 3, none⟩ = some (.int .i64 e.kids[1].val.n) ∧ W'.cell? ⟨kb, ko + 5 + 4, none⟩ = some (.slice K1 e.kids[1].kids.length kc1)) := fun W' F => ⟨F, F.cell a4, F.cell d0, F.cell d1, F.cell d2, F.cell d3, F.cell d4, F.cell g0, F.cell g1, F.cell g2, F.cell g3, F.cell g4⟩
    go_region_held3 (fun W' => Fr RA W' ∧ W'.cell? ⟨w1.heap.size, 4, none⟩ = some (.slice (some ⟨kb, ko, none⟩) e.kids.length c) ∧ W'.cell? ⟨kb, ko, none⟩ = some (.int .i64 e.kids[0].kind) ∧ W'.cell? ⟨kb, ko + 1, none⟩ = some (.int .i64 e.kids[0].col) ∧ W'.cell? ⟨kb, ko + 2, none⟩ = some (.bool e.kids[0].val.null) ∧ W'.cell? ⟨kb, ko + 3, none⟩ = some (.int .i64 e.kids[0].val.n) ∧ W'.cell? ⟨kb, ko + 4, none⟩ = some (.slice K0 e.kids[0].kids.length kc0) ∧ W'.cell? ⟨kb, ko + 5, none⟩ = some (.int .i64 e.kids[1].kind) ∧ W'.cell? ⟨kb, ko + 5 + 1, none⟩ = some (.int .i64 e.kids[1].col) ∧ W'.cell? ⟨kb, ko + 5 + 2, none⟩ = some (.bool e.kids[1].val.null) ∧ W'.cell? ⟨kb, ko + 5 + 3, none⟩ = some (.int .i64 e.kids[1].val.n) ∧ W'.cell? ⟨kb, ko + 5 + 4, none⟩ = some (.slice K1 e.kids[1].kids.length kc1)) ((refine keepL _ ?_; (repeat (first | with_reducible exact Fr.refl _ | with_reducible assumption | with_reducible refine Fr.alloc ?_ _ | with_reducible refine Fr.drew ?_ | with_reducible refine Fr.drewN ?_ _ | (with_reducible refine Fr.setNew2 ?_ ?_ _; · (simp <;> omega)) | with_reducible refine Fr.trans ?_ (by assumption))); done))
      (first
        | (go_at_call 23; refine (twoC 7 e.kids[0] e.kids[1] _ _ _ _ 2 _ (HK0.out.fr (FW.trans (by (repeat (first | with_reducible exact Fr.refl _ | with_reducible assumption | with_reducible refine Fr.alloc ?_ _ | with_reducible refine Fr.drew ?_ | with_reducible refine Fr.drewN ?_ _ | (with_reducible refine Fr.setNew2 ?_ ?_ _; · (simp <;> omega)) | with_reducible refine Fr.trans ?_ (by assumption)))))) (HK1.out.fr (FW.trans (by (repeat (first | with_reducible exact Fr.refl _ | with_reducible assumption | with_reducible refine Fr.alloc ?_ _ | with_reducible refine Fr.drew ?_ | with_reducible refine Fr.drewN ?_ _ | (with_reducible refine Fr.setNew2 ?_ ?_ _; · (simp <;> omega)) | with_reducible refine Fr.trans ?_ (by assumption))))))).mono ?_; rintro r wt1 ⟨gt1, rfl, hKT1, bt1⟩; have Ft1 : Fr RA wt1 := Fr.trans (by (repeat (first | with_reducible exact Fr.refl _ | with_reducible assumption | with_reducible refine Fr.alloc ?_ _ | with_reducible refine Fr.drew ?_ | with_reducible refine Fr.drewN ?_ _ | (with_reducible refine Fr.setNew2 ?_ ?_ _; · (simp <;> omega)) | with_reducible refine Fr.trans ?_ (by assumption)))) bt1)
        | (go_at_call 26; refine (isTrueC 3 (Ex.mk 7 0 ⟨false, 0⟩ [e.kids[0], e.kids[1]]) (some ⟨gt1, 0, none⟩) 2 row B rc _ (hKT1.fr (by (repeat (first | with_reducible exact Fr.refl _ | with_reducible assumption | with_reducible refine Fr.alloc ?_ _ | with_reducible refine Fr.drew ?_ | with_reducible refine Fr.drewN ?_ _ | (with_reducible refine Fr.setNew2 ?_ ?_ _; · (simp <;> omega)) | with_reducible refine Fr.trans ?_ (by assumption))))) HSA.out (HR.out.fr rdV_mono (FW.trans (by (repeat (first | with_reducible exact Fr.refl _ | with_reducible assumption | with_reducible refine Fr.alloc ?_ _ | with_reducible refine Fr.drew ?_ | with_reducible refine Fr.drewN ?_ _ | (with_reducible refine Fr.setNew2 ?_ ?_ _; · (simp <;> omega)) | with_reducible refine Fr.trans ?_ (by assumption)))))) (by omega)).mono ?_; rintro r wi1 ⟨rfl, bi1⟩; rw [HT1.out]; have Fi1 : Fr RA wi1 := Fr.trans (by (repeat (first | with_reducible exact Fr.refl _ | with_reducible assumption | with_reducible refine Fr.alloc ?_ _ | with_reducible refine Fr.drew ?_ | with_reducible refine Fr.drewN ?_ _ | (with_reducible refine Fr.setNew2 ?_ ?_ _; · (simp <;> omega)) | with_reducible refine Fr.trans ?_ (by assumption)))) bi1))
    clear keepL
    replace a0 := Fi1.cell a0
    replace a1 := Fi1.cell a1
    replace a2 := Fi1.cell a2
    replace a3 := Fi1.cell a3
    replace a4 := Fi1.cell a4
    replace d0 := Fi1.cell d0
    replace d1 := Fi1.cell d1
    replace d2 := Fi1.cell d2
    replace d3 := Fi1.cell d3
    replace d4 := Fi1.cell d4
    replace g0 := Fi1.cell g0
    replace g1 := Fi1.cell g1
    replace g2 := Fi1.cell g2
    replace g3 := Fi1.cell g3
    replace g4 := Fi1.cell g4
    replace n1 := Fi1.cell n1
    replace x1 := Fi1.cell x1
    replace n2 := Fi1.cell n2
    replace x2 := Fi1.cell x2
    replace FW := FW.trans Fi1
    clear Ft1 Fi1 bt1 bi1 hKT1
    go_wp2_with fail
    have keepL : ∀ W' : World, Fr wi1 W' → (Fr wi1 W' ∧ W'.cell? ⟨w1.heap.size, 4, none⟩ = some (.slice (some ⟨kb, ko, none⟩) e.kids.length c) ∧ W'.cell? ⟨kb, ko, none⟩ = some (.int .i64 e.kids[0].kind) ∧ W'.cell? ⟨kb, ko + 1, none⟩ = some (.int .i64 e.kids[0].col) ∧ W'.cell? ⟨kb, ko + 2, none⟩ = some (.bool e.kids[0].val.null) ∧ W'.cell? ⟨kb, ko + 3, none⟩ = some (.int .i64 e.kids[0].val.n) ∧ W'.cell? ⟨kb, ko + 4, none⟩ = some (.slice K0 e.kids[0].kids.length kc0) ∧ W'.cell? ⟨kb, ko + 5, none⟩ = some (.int .i64 e.kids[1].kind) ∧ W'.cell? ⟨kb, ko + 5 + 1, none⟩ = some (.int .i64 e.kids[1].col) ∧ W'.cell? ⟨kb, ko + 5 + 2, none⟩ = some (.bool e.kids[1].val.null) ∧ W'.cell? ⟨kb, ko + 5 + 3, none⟩ = some (.int .i64 e.kids[1].val.n) ∧ W'.cell? ⟨kb, ko + 5 + 4, none⟩ = some (.slice K1 e.kids[1].kids.length kc1)) := fun W' F => ⟨F, F.cell a4, F.cell d0, F.cell d1, F.cell d2, F.cell d3, F.cell d4, F.cell g0, F.cell g1, F.cell g2, F.cell g3, F.cell g4⟩
    go_region_held3 (fun W' => Fr wi1 W' ∧ W'.cell? ⟨w1.heap.size, 4, none⟩ = some (.slice (some ⟨kb, ko, none⟩) e.kids.length c) ∧ W'.cell? ⟨kb, ko, none⟩ = some (.int .i64 e.kids[0].kind) ∧ W'.cell? ⟨kb, ko + 1, none⟩ = some (.int .i64 e.kids[0].col) ∧ W'.cell? ⟨kb, ko + 2, none⟩ = some (.bool e.kids[0].val.null) ∧ W'.cell? ⟨kb, ko + 3, none⟩ = some (.int .i64 e.kids[0].val.n) ∧ W'.cell? ⟨kb, ko + 4, none⟩ = some (.slice K0 e.kids[0].kids.length kc0) ∧ W'.cell? ⟨kb, ko + 5, none⟩ = some (.int .i64 e.kids[1].kind) ∧ W'.cell? ⟨kb, ko + 5 + 1, none⟩ = some (.int .i64 e.kids[1].col) ∧ W'.cell? ⟨kb, ko + 5 + 2, none⟩ = some (.bool e.kids[1].val.null) ∧ W'.cell? ⟨kb, ko + 5 + 3, none⟩ = some (.int .i64 e.kids[1].val.n) ∧ W'.cell? ⟨kb, ko + 5 + 4, none⟩ = some (.slice K1 e.kids[1].kids.length kc1)) ((refine keepL _ ?_; (repeat (first | with_reducible exact Fr.refl _ | with_reducible assumption | with_reducible refine Fr.alloc ?_ _ | with_reducible refine Fr.drew ?_ | with_reducible refine Fr.drewN ?_ _ | (with_reducible refine Fr.setNew2 ?_ ?_ _; · (simp <;> omega)) | with_reducible refine Fr.trans ?_ (by assumption))); done))
      (first
        | (go_at_call 23; refine (twoC 7 e.kids[1] e.kids[0] _ _ _ _ 2 _ (HK1.out.fr (FW.trans (by (repeat (first | with_reducible exact Fr.refl _ | with_reducible assumption | with_reducible refine Fr.alloc ?_ _ | with_reducible refine Fr.drew ?_ | with_reducible refine Fr.drewN ?_ _ | (with_reducible refine Fr.setNew2 ?_ ?_ _; · (simp <;> omega)) | with_reducible refine Fr.trans ?_ (by assumption)))))) (HK0.out.fr (FW.trans (by (repeat (first | with_reducible exact Fr.refl _ | with_reducible assumption | with_reducible refine Fr.alloc ?_ _ | with_reducible refine Fr.drew ?_ | with_reducible refine Fr.drewN ?_ _ | (with_reducible refine Fr.setNew2 ?_ ?_ _; · (simp <;> omega)) | with_reducible refine Fr.trans ?_ (by assumption))))))).mono ?_; rintro r wt2 ⟨gt2, rfl, hKT2, bt2⟩; have Ft2 : Fr wi1 wt2 := Fr.trans (by (repeat (first | with_reducible exact Fr.refl _ | with_reducible assumption | with_reducible refine Fr.alloc ?_ _ | with_reducible refine Fr.drew ?_ | with_reducible refine Fr.drewN ?_ _ | (with_reducible refine Fr.setNew2 ?_ ?_ _; · (simp <;> omega)) | with_reducible refine Fr.trans ?_ (by assumption)))) bt2)
        | (go_at_call 26; refine (isTrueC 3 (Ex.mk 7 0 ⟨false, 0⟩ [e.kids[1], e.kids[0]]) (some ⟨gt2, 0, none⟩) 2 row B rc _ (hKT2.fr (by (repeat (first | with_reducible exact Fr.refl _ | with_reducible assumption | with_reducible refine Fr.alloc ?_ _ | with_reducible refine Fr.drew ?_ | with_reducible refine Fr.drewN ?_ _ | (with_reducible refine Fr.setNew2 ?_ ?_ _; · (simp <;> omega)) | with_reducible refine Fr.trans ?_ (by assumption))))) HSB.out (HR.out.fr rdV_mono (FW.trans (by (repeat (first | with_reducible exact Fr.refl _ | with_reducible assumption | with_reducible refine Fr.alloc ?_ _ | with_reducible refine Fr.drew ?_ | with_reducible refine Fr.drewN ?_ _ | (with_reducible refine Fr.setNew2 ?_ ?_ _; · (simp <;> omega)) | with_reducible refine Fr.trans ?_ (by assumption)))))) (by omega)).mono ?_; rintro r wi2 ⟨rfl, bi2⟩; rw [HT2.out]; have Fi2 : Fr wi1 wi2 := Fr.trans (by (repeat (first | with_reducible exact Fr.refl _ | with_reducible assumption | with_reducible refine Fr.alloc ?_ _ | with_reducible refine Fr.drew ?_ | with_reducible refine Fr.drewN ?_ _ | (with_reducible refine Fr.setNew2 ?_ ?_ _; · (simp <;> omega)) | with_reducible refine Fr.trans ?_ (by assumption)))) bi2))
    clear keepL
    replace a0 := Fi2.cell a0
    replace a1 := Fi2.cell a1
    replace a2 := Fi2.cell a2
    replace a3 := Fi2.cell a3
    replace a4 := Fi2.cell a4
    replace d0 := Fi2.cell d0
    replace d1 := Fi2.cell d1
    replace d2 := Fi2.cell d2
    replace d3 := Fi2.cell d3
    replace d4 := Fi2.cell d4
    replace g0 := Fi2.cell g0
    replace g1 := Fi2.cell g1
    replace g2 := Fi2.cell g2
    replace g3 := Fi2.cell g3
    replace g4 := Fi2.cell g4
    replace n1 := Fi2.cell n1
    replace x1 := Fi2.cell x1
    replace n2 := Fi2.cell n2
    replace x2 := Fi2.cell x2
    replace FW := FW.trans Fi2
    clear Ft2 Fi2 bt2 bi2 hKT2
    go_wp2_with fail
    have keepL : ∀ W' : World, Fr wi2 W' → (Fr wi2 W' ∧ W'.cell? ⟨w1.heap.size, 4, none⟩ = some (.slice (some ⟨kb, ko, none⟩) e.kids.length c) ∧ W'.cell? ⟨kb, ko, none⟩ = some (.int .i64 e.kids[0].kind) ∧ W'.cell? ⟨kb, ko + 1, none⟩ = some (.int .i64 e.kids[0].col) ∧ W'.cell? ⟨kb, ko + 2, none⟩ = some (.bool e.kids[0].val.null) ∧ W'.cell? ⟨kb, ko + 3, none⟩ = some (.int .i64 e.kids[0].val.n) ∧ W'.cell? ⟨kb, ko + 4, none⟩ = some (.slice K0 e.kids[0].kids.length kc0) ∧ W'.cell? ⟨kb, ko + 5, none⟩ = some (.int .i64 e.kids[1].kind) ∧ W'.cell? ⟨kb, ko + 5 + 1, none⟩ = some (.int .i64 e.kids[1].col) ∧ W'.cell? ⟨kb, ko + 5 + 2, none⟩ = some (.bool e.kids[1].val.null) ∧ W'.cell? ⟨kb, ko + 5 + 3, none⟩ = some (.int .i64 e.kids[1].val.n) ∧ W'.cell? ⟨kb, ko + 5 + 4, none⟩ = some (.slice K1 e.kids[1].kids.length kc1)) := fun W' F => ⟨F, F.cell a4, F.cell d0, F.cell d1, F.cell d2, F.cell d3, F.cell d4, F.cell g0, F.cell g1, F.cell g2, F.cell g3, F.cell g4⟩
    go_region_held3 (fun W' => Fr wi2 W' ∧ W'.cell? ⟨w1.heap.size, 4, none⟩ = some (.slice (some ⟨kb, ko, none⟩) e.kids.length c) ∧ W'.cell? ⟨kb, ko, none⟩ = some (.int .i64 e.kids[0].kind) ∧ W'.cell? ⟨kb, ko + 1, none⟩ = some (.int .i64 e.kids[0].col) ∧ W'.cell? ⟨kb, ko + 2, none⟩ = some (.bool e.kids[0].val.null) ∧ W'.cell? ⟨kb, ko + 3, none⟩ = some (.int .i64 e.kids[0].val.n) ∧ W'.cell? ⟨kb, ko + 4, none⟩ = some (.slice K0 e.kids[0].kids.length kc0) ∧ W'.cell? ⟨kb, ko + 5, none⟩ = some (.int .i64 e.kids[1].kind) ∧ W'.cell? ⟨kb, ko + 5 + 1, none⟩ = some (.int .i64 e.kids[1].col) ∧ W'.cell? ⟨kb, ko + 5 + 2, none⟩ = some (.bool e.kids[1].val.null) ∧ W'.cell? ⟨kb, ko + 5 + 3, none⟩ = some (.int .i64 e.kids[1].val.n) ∧ W'.cell? ⟨kb, ko + 5 + 4, none⟩ = some (.slice K1 e.kids[1].kids.length kc1)) ((refine keepL _ ?_; (repeat (first | with_reducible exact Fr.refl _ | with_reducible assumption | with_reducible refine Fr.alloc ?_ _ | with_reducible refine Fr.drew ?_ | with_reducible refine Fr.drewN ?_ _ | (with_reducible refine Fr.setNew2 ?_ ?_ _; · (simp <;> omega)) | with_reducible refine Fr.trans ?_ (by assumption))); done))
      (first
        | (go_at_call 23; refine (twoC 6 e.kids[0] e.kids[1] _ _ _ _ 2 _ (HK0.out.fr (FW.trans (by (repeat (first | with_reducible exact Fr.refl _ | with_reducible assumption | with_reducible refine Fr.alloc ?_ _ | with_reducible refine Fr.drew ?_ | with_reducible refine Fr.drewN ?_ _ | (with_reducible refine Fr.setNew2 ?_ ?_ _; · (simp <;> omega)) | with_reducible refine Fr.trans ?_ (by assumption)))))) (HK1.out.fr (FW.trans (by (repeat (first | with_reducible exact Fr.refl _ | with_reducible assumption | with_reducible refine Fr.alloc ?_ _ | with_reducible refine Fr.drew ?_ | with_reducible refine Fr.drewN ?_ _ | (with_reducible refine Fr.setNew2 ?_ ?_ _; · (simp <;> omega)) | with_reducible refine Fr.trans ?_ (by assumption))))))).mono ?_; rintro r wt3 ⟨gt3, rfl, hKT3, bt3⟩; have Ft3 : Fr wi2 wt3 := Fr.trans (by (repeat (first | with_reducible exact Fr.refl _ | with_reducible assumption | with_reducible refine Fr.alloc ?_ _ | with_reducible refine Fr.drew ?_ | with_reducible refine Fr.drewN ?_ _ | (with_reducible refine Fr.setNew2 ?_ ?_ _; · (simp <;> omega)) | with_reducible refine Fr.trans ?_ (by assumption)))) bt3)
        | (go_at_call 26; refine (isTrueC 3 (Ex.mk 6 0 ⟨false, 0⟩ [e.kids[0], e.kids[1]]) (some ⟨gt3, 0, none⟩) 2 row B rc _ (hKT3.fr (by (repeat (first | with_reducible exact Fr.refl _ | with_reducible assumption | with_reducible refine Fr.alloc ?_ _ | with_reducible refine Fr.drew ?_ | with_reducible refine Fr.drewN ?_ _ | (with_reducible refine Fr.setNew2 ?_ ?_ _; · (simp <;> omega)) | with_reducible refine Fr.trans ?_ (by assumption))))) HSA.out (HR.out.fr rdV_mono (FW.trans (by (repeat (first | with_reducible exact Fr.refl _ | with_reducible assumption | with_reducible refine Fr.alloc ?_ _ | with_reducible refine Fr.drew ?_ | with_reducible refine Fr.drewN ?_ _ | (with_reducible refine Fr.setNew2 ?_ ?_ _; · (simp <;> omega)) | with_reducible refine Fr.trans ?_ (by assumption)))))) (by omega)).mono ?_; rintro r wi3 ⟨rfl, bi3⟩; rw [HT3.out]; have Fi3 : Fr wi2 wi3 := Fr.trans (by (repeat (first | with_reducible exact Fr.refl _ | with_reducible assumption | with_reducible refine Fr.alloc ?_ _ | with_reducible refine Fr.drew ?_ | with_reducible refine Fr.drewN ?_ _ | (with_reducible refine Fr.setNew2 ?_ ?_ _; · (simp <;> omega)) | with_reducible refine Fr.trans ?_ (by assumption)))) bi3))
    clear keepL
    go_wp2
    go_ret
    exact ⟨rfl, bw1.trans (FW.trans Fi3)⟩)
end Go.Proofs.Ytkkmfmeocigijaa
