/- Walk of the law FnMinimizeTwice. -/
import Derived.Test.YtahclhldpcboeaaDoorQryG
import Derived.Test.YtahclhldpcboeaaDoorEqR
import Derived.Test.YtahclhldpcboeaaDoorLawD
namespace Go.Proofs.YtahclhldpcboeaaDoor
open Go Go.RowKit
theorem own_none {w : World} {base e sz n c : Nat} {A : Option Addr} {xs : List Value} (h : w.ownsRow base e sz (.slice A n c) n xs) : A = none → c = 0 := fun hA => by
  subst hA
  rcases h.2 with ⟨h1, _⟩ | ⟨g, cap, cur, hv, _⟩
  · cases h1; rfl
  · cases hv
/-- What is known of a query in memory. -/
structure QIn (w : World) (A0 A1 : Option Addr) (c0 c1 : Nat) (hd : List Int) (bd : List Atom) : Prop where
  r0 : RdSl rdInt w.cell? 1 A0 hd
  r1 : RdSl rdAtom w.cell? 3 A1 bd
  n0 : A0 = none → c0 = 0
  n1 : A1 = none → c1 = 0
  l1 : bd.length ≤ c1
  m1 : c1 ≤ maxLen
theorem QIn.fr {w w' : World} {A0 A1 : Option Addr} {c0 c1 : Nat} {hd : List Int} {bd : List Atom} (h : QIn w A0 A1 c0 c1 hd bd) (hf : Fr w w') : QIn w' A0 A1 c0 c1 hd bd :=
  ⟨h.r0.fr rdInt_mono hf, h.r1.fr rdAtom_mono hf, h.n0, h.n1, h.l1, h.m1⟩
theorem QIn.mk' {w : World} {base : Nat} {A0 A1 : Option Addr} {c0 c1 : Nat} {hd : List Int} {bd : List Atom} (h0 : w.ownsRow base 3 1 (.slice A0 hd.length c0) hd.length (hd.map iv)) (h1 : w.ownsRow base 64 3 (.slice A1 bd.length c1) bd.length (bd.flatMap cellsA)) : QIn w A0 A1 c0 c1 hd bd :=
  ⟨(own_int h0 rfl).mono rdInt_mono (fromB_le _ _), (own_A h1 rfl).mono rdAtom_mono (fromB_le _ _), own_none h0, own_none h1, (own_capM h1).1, (own_capM h1).2⟩
set_option maxRecDepth 100000 in
set_option maxHeartbeats 4000000 in
theorem walkFnMinimizeTwice (A : Option Addr) (c : Nat) (xs : List Nat) (ei ea : Addr) (w : World) (hx : RdSl rdByte w.cell? 1 A xs) (_ : xs.length ≤ maxLen) (hc : xs.length ≤ c) (he0 : w.cell? ⟨0, 0, none⟩ = some (noHom ei)) (he1 : w.cell? ⟨1, 0, none⟩ = some (noHom ea)) :
    Calls Tryd.prog 9 #[.slice A xs.length c] w fun r w' => r = .returned (.bool true) ∧ Fr w w' := by
  have HX := hid hx
  clear hx
  by_cases hlen : (1048576 : Int) < xs.length
  · have e0 : decide ((1048576 : Int) < (xs.length : Int)) = true := by simp; omega
    go_enter Tryd.func9, Tryd.ntmps9
    go_wp2
    go_ret
    exact ⟨rfl, Fr.refl _⟩
  have e0 : decide ((1048576 : Int) < (xs.length : Int)) = false := by simp; omega
  have hl : xs.length ≤ 1048576 := by omega
  clear hlen
  go_enter Tryd.func9, Tryd.ntmps9
  go_wp2_with fail
  refine (drawMinimize A c xs _ HX.out hl hc).mono ?_
  rintro r w1 ⟨q, hd, bd, ⟨A0, c0, A1, c1, rfl, hR, hE⟩, _, _, l0, l1, F1⟩
  have Q1 := hid (QIn.mk' hR hE)
  have BQ1 := hid (Blk.new w1 30 #[.int .i64 q, .slice A0 hd.length c0, .slice A1 bd.length c1])
  have G1 : Fr w1 (w1.alloc (.cells #[.int .i64 q, .slice A0 hd.length c0, .slice A1 bd.length c1] 30)) := (Fr.refl _).alloc _
  have hlens : (minR q hd bd).2.1.length ≤ 2000 ∧ (minR q hd bd).2.2.length ≤ 2000 := minR_len
  obtain ⟨⟨mq, L1, L2⟩, eL⟩ : ∃ x, minR q hd bd = x := ⟨_, rfl⟩
  have EL := hid eL
  rw [eL] at hlens
  obtain ⟨hL1, hL2⟩ := hlens
  simp only at hL1 hL2
  clear eL hR hE HX
  go_wp2_with fail
  refine absW fun W2 hW2 => ?_
  rw [← hW2] at BQ1 G1
  obtain ⟨g3, eg3⟩ : ∃ g, w1.heap.size = g := ⟨_, rfl⟩
  rw [eg3] at BQ1 ⊢
  clear hW2 eg3
  have F2 := F1.trans G1
  refine (implMinimize q A0 A1 c0 c1 hd bd ei ea _ (Q1.out.fr G1).r0 (Q1.out.fr G1).r1 (by omega) (by omega) (F2.cell he0) (F2.cell he1)).mono ?_
  rw [EL.out]
  dsimp only
  rintro r w3 ⟨⟨M0, m0, M1, m1, rfl, hR, hE⟩, b3⟩
  have Q3 := hid (Q1.out.fr (G1.trans b3))
  have P3 := hid (QIn.mk' hR hE)
  have BM3 := hid (Blk.new w3 30 #[.int .i64 mq, .slice M0 L1.length m0, .slice M1 L2.length m1])
  have G3 : Fr w3 (w3.alloc (.cells #[.int .i64 mq, .slice M0 L1.length m0, .slice M1 L2.length m1] 30)) := (Fr.refl _).alloc _
  have BQ3 := hid ((BQ1.out.fr b3).fr G3)
  have F3 := (F2.trans b3).trans G3
  have hg3 := (BQ1.out.fr b3).lt
  clear hR hE BQ1 G1 Q1 F2
  go_wp2_with fail
  generalize (w3.alloc (.cells #[.int .i64 mq, .slice M0 L1.length m0, .slice M1 L2.length m1] 30)) = W5 at BM3 G3 BQ3 F3 ⊢
  obtain ⟨g4, eg4⟩ : ∃ g, w3.heap.size = g := ⟨_, rfl⟩
  rw [eg4] at BM3 hg3 ⊢
  have hg34 : ¬ (g3 = g4) := by omega
  have Q5 := hid (Q3.out.fr G3)
  have P5 := hid (P3.out.fr G3)
  clear Q3 P3 G3 b3 eg4 hg3
  have keepQ : ∀ W, Fr W5 W → (W.cell? ⟨g3, 0, none⟩ = some (.int .i64 q) ∧ W.cell? ⟨g3, 1, none⟩ = some (.slice A0 hd.length c0) ∧ W.cell? ⟨g3, 2, none⟩ = some (.slice A1 bd.length c1)) ∧ (W.cell? ⟨g4, 0, none⟩ = some (.int .i64 mq) ∧ W.cell? ⟨g4, 1, none⟩ = some (.slice M0 L1.length m0) ∧ W.cell? ⟨g4, 2, none⟩ = some (.slice M1 L2.length m1)) := fun W h => by
    obtain ⟨x0, x1, x2, _⟩ := (BQ3.out.fr h).three
    obtain ⟨y0, y1, y2, _⟩ := (BM3.out.fr h).three
    exact ⟨⟨x0, x1, x2⟩, y0, y1, y2⟩
  refine wp_region_T (fun W => (W.cell? ⟨g3, 0, none⟩ = some (.int .i64 q) ∧ W.cell? ⟨g3, 1, none⟩ = some (.slice A0 hd.length c0) ∧ W.cell? ⟨g3, 2, none⟩ = some (.slice A1 bd.length c1)) ∧ (W.cell? ⟨g4, 0, none⟩ = some (.int .i64 mq) ∧ W.cell? ⟨g4, 1, none⟩ = some (.slice M0 L1.length m0) ∧ W.cell? ⟨g4, 2, none⟩ = some (.slice M1 L2.length m1))) 9 (by kernel_rfl) ?_
  have D5 : Fr W5 W5.drew := (Fr.refl _).drew
  have HS := keepQ _ D5
  ((refine wpAnyT_take 0 (v := ?_) rfl (by kernel_rfl) (fun _ _ _ h => h) (Or.inl ⟨by rfl, ?_⟩) (by assumption) ?_; rotate_left; (focus (intro W hSw; (try dsimp only at hSw); go_simp; try with_reducible rfl)); (try simp only [Act.put, List.setIfInBounds_toArray, List.set_cons_zero, List.set_cons_succ])); (refine wpAnyT_take 1 (v := ?_) rfl (by kernel_rfl) (fun _ _ _ h => h) (Or.inl ⟨by rfl, ?_⟩) (by assumption) ?_; rotate_left; (focus (intro W hSw; (try dsimp only at hSw); go_simp; try with_reducible rfl)); (try simp only [Act.put, List.setIfInBounds_toArray, List.set_cons_zero, List.set_cons_succ])))
  ((refine wpAnyT_one 2 rfl (by kernel_rfl) (fun K hK => ?_); go_simp))
  refine (specMinimize q A0 A1 c0 c1 hd bd _ (Q5.out.fr D5).r0 (Q5.out.fr D5).r1 (by omega) (by omega) Q5.out.n0 Q5.out.n1).mono ?_
  rw [EL.out]
  dsimp only
  rintro r w6 ⟨⟨S0, s0, S1, s1, rfl, hR, hE⟩, b6⟩
  have S6 := hid (QIn.mk' hR hE)
  clear hR hE
  have F6 := D5.trans b6
  have HS := keepQ _ F6
  ((try dsimp only); refine hK.out _ _ (fun _ => HS) (fun _ => ?_); clear hK K; (try simp only [Act.put, List.setIfInBounds_toArray, List.set_cons_zero, List.set_cons_succ]))
  ((refine wpAnyT_one 3 rfl (by kernel_rfl) (fun K hK => ?_); go_simp))
  refine (equalRules mq M0 M1 S0 S1 m0 m1 s0 s1 L1 L2 _ (P5.out.fr F6).r0 (P5.out.fr F6).r1 S6.out.r0 S6.out.r1 (by omega) (by omega)).mono ?_
  rintro r w7 ⟨rfl, b7⟩
  have F7 := F6.trans b7
  have HS := keepQ _ F7
  ((try dsimp only); refine hK.out _ _ (fun _ => HS) (fun _ => ?_); clear hK K; (try simp only [Act.put, List.setIfInBounds_toArray, List.set_cons_zero, List.set_cons_succ]))
  ((refine wpAnyT_take 4 (v := ?_) rfl (by kernel_rfl) (fun _ _ _ h => h) (Or.inl ⟨by rfl, ?_⟩) (by assumption) ?_; rotate_left; (focus (intro W hSw; (try dsimp only at hSw); go_simp; try with_reducible rfl)); (try simp only [Act.put, List.setIfInBounds_toArray, List.set_cons_zero, List.set_cons_succ])); (refine wpAnyT_take 5 (v := ?_) rfl (by kernel_rfl) (fun _ _ _ h => h) (Or.inl ⟨by rfl, ?_⟩) (by assumption) ?_; rotate_left; (focus (intro W hSw; (try dsimp only at hSw); go_simp; try with_reducible rfl)); (try simp only [Act.put, List.setIfInBounds_toArray, List.set_cons_zero, List.set_cons_succ])); (refine wpAnyT_take 6 (v := ?_) rfl (by kernel_rfl) (fun _ _ _ h => h) (Or.inl ⟨by rfl, ?_⟩) (by assumption) ?_; rotate_left; (focus (intro W hSw; (try dsimp only at hSw); go_simp; try with_reducible rfl)); (try simp only [Act.put, List.setIfInBounds_toArray, List.set_cons_zero, List.set_cons_succ])))
  ((refine wpAnyT_one 7 rfl (by kernel_rfl) (fun K hK => ?_); go_simp))
  refine (implValidRule q A0 c0 hd A1 c1 bd _ (Q5.out.fr F7).r0 (Q5.out.fr F7).r1 (by omega) (by omega)).mono ?_
  rintro r w8 ⟨rfl, b8⟩
  have F8 := F7.trans b8
  have HS := keepQ _ F8
  ((try dsimp only); refine hK.out _ _ (fun _ => HS) (fun _ => ?_); clear hK K; (try simp only [Act.put, List.setIfInBounds_toArray, List.set_cons_zero, List.set_cons_succ]))
  ((refine wpAnyT_take 8 (v := ?_) rfl (by kernel_rfl) (fun _ _ _ h => h) (Or.inl ⟨by rfl, ?_⟩) (by assumption) ?_; rotate_left; (focus (intro W hSw; (try dsimp only at hSw); go_simp; try with_reducible rfl)); (try simp only [Act.put, List.setIfInBounds_toArray, List.set_cons_zero, List.set_cons_succ])))
  ((refine wpAnyT_one 9 rfl (by kernel_rfl) (fun K hK => ?_); go_simp))
  ((try dsimp only); refine hK.out _ _ (fun h => absurd rfl h) (fun _ => ?_); clear hK K; (try simp only [Act.put, List.setIfInBounds_toArray, List.set_cons_zero, List.set_cons_succ]); refine wpAnyT_done (by kernel_rfl) ?_ _)
  have FW := hid (F3.trans F8)
  cases hv : vrule q hd bd
  · go_wp2_with fail
    refine wp_region_T (fun W => (W.cell? ⟨g3, 0, none⟩ = some (.int .i64 q) ∧ W.cell? ⟨g3, 1, none⟩ = some (.slice A0 hd.length c0) ∧ W.cell? ⟨g3, 2, none⟩ = some (.slice A1 bd.length c1)) ∧ (W.cell? ⟨g4, 0, none⟩ = some (.int .i64 mq) ∧ W.cell? ⟨g4, 1, none⟩ = some (.slice M0 L1.length m0) ∧ W.cell? ⟨g4, 2, none⟩ = some (.slice M1 L2.length m1))) 4 (by kernel_rfl) ?_
    have D8 : Fr W5 w8.drew := F8.drew
    have HS := keepQ _ D8
    ((refine wpAnyT_take 0 (v := ?_) rfl (by kernel_rfl) (fun _ _ _ h => h) (Or.inl ⟨by rfl, ?_⟩) (by assumption) ?_; rotate_left; (focus (intro W hSw; (try dsimp only at hSw); go_simp; try with_reducible rfl)); (try simp only [Act.put, List.setIfInBounds_toArray, List.set_cons_zero, List.set_cons_succ])); (refine wpAnyT_take 1 (v := ?_) rfl (by kernel_rfl) (fun _ _ _ h => h) (Or.inl ⟨by rfl, ?_⟩) (by assumption) ?_; rotate_left; (focus (intro W hSw; (try dsimp only at hSw); go_simp; try with_reducible rfl)); (try simp only [Act.put, List.setIfInBounds_toArray, List.set_cons_zero, List.set_cons_succ])))
    ((refine wpAnyT_one 2 rfl (by kernel_rfl) (fun K hK => ?_); go_simp))
    refine (specMinimize q A0 A1 c0 c1 hd bd _ (Q5.out.fr D8).r0 (Q5.out.fr D8).r1 (by omega) (by omega) Q5.out.n0 Q5.out.n1).mono ?_
    rw [EL.out]
    dsimp only
    rintro r w9 ⟨⟨T0, t0, T1, t1, rfl, hR, hE⟩, b9⟩
    have S9 := hid (QIn.mk' hR hE)
    clear hR hE
    have F9 := D8.trans b9
    have HS := keepQ _ F9
    ((try dsimp only); refine hK.out _ _ (fun _ => HS) (fun _ => ?_); clear hK K; (try simp only [Act.put, List.setIfInBounds_toArray, List.set_cons_zero, List.set_cons_succ]))
    ((refine wpAnyT_one 3 rfl (by kernel_rfl) (fun K hK => ?_); go_simp))
    refine (equalRules mq M0 M1 T0 T1 m0 m1 t0 t1 L1 L2 _ (P5.out.fr F9).r0 (P5.out.fr F9).r1 S9.out.r0 S9.out.r1 (by omega) (by omega)).mono ?_
    rintro r w10 ⟨rfl, b10⟩
    have F10 := F9.trans b10
    have HS := keepQ _ F10
    ((try dsimp only); refine hK.out _ _ (fun _ => HS) (fun _ => ?_); clear hK K; (try simp only [Act.put, List.setIfInBounds_toArray, List.set_cons_zero, List.set_cons_succ]))
    ((refine wpAnyT_one 4 rfl (by kernel_rfl) (fun K hK => ?_); go_simp))
    ((try dsimp only); refine hK.out _ _ (fun h => absurd rfl h) (fun _ => ?_); clear hK K; (try simp only [Act.put, List.setIfInBounds_toArray, List.set_cons_zero, List.set_cons_succ]); refine wpAnyT_done (by kernel_rfl) ?_ _)
    go_wp2
    go_ret
    exact ⟨rfl, F3.trans F10⟩
  · obtain ⟨h1, h2, h3, _⟩ := minB_end (q := q) (hd := hd) bd.length bd rfl hv
    have hx := EL.out
    rw [minR_yes hv] at hx
    injection hx with hx0 hx
    injection hx with hx1 hx2
    subst hx0 hx1
    have h4 : minR q hd L2 = (q, hd, L2) := by rw [← hx2]; exact minR_twice hv
    have h5 : isMin q hd bd = decide (L2.length = bd.length) := by rw [← hx2]; exact isMin_len hv
    have h6 : L2.length ≤ bd.length := by rw [← hx2]; exact h3
    have HM := hid h4
    have HI := hid h5
    have HLE := hid h6
    clear h1 h2 h3 hx2 h4 h5 h6
    have e1 : decide ((L2.length : Int) ≤ (bd.length : Int)) = true := decide_eq_true (by have := HLE.out; omega)
    have e1' : decide (L2.length ≤ bd.length) = true := decide_eq_true HLE.out
    obtain ⟨B, eB, eB1, eB2⟩ : ∃ B : Bool, decide (L2.length = bd.length) = B ∧ ((L2.length : Int) == (bd.length : Int)) = B ∧ (L2.length == bd.length) = B := ⟨_, rfl, by rw [Bool.eq_iff_iff, beq_iff_eq, decide_eq_true_iff]; omega, by rw [Bool.eq_iff_iff, beq_iff_eq, decide_eq_true_iff]⟩
    rw [eB] at HI
    go_wp2_with fail
    refine wp_region_T (fun W => (W.cell? ⟨g3, 0, none⟩ = some (.int .i64 q) ∧ W.cell? ⟨g3, 1, none⟩ = some (.slice A0 hd.length c0) ∧ W.cell? ⟨g3, 2, none⟩ = some (.slice A1 bd.length c1)) ∧ (W.cell? ⟨g4, 0, none⟩ = some (.int .i64 q) ∧ W.cell? ⟨g4, 1, none⟩ = some (.slice M0 hd.length m0) ∧ W.cell? ⟨g4, 2, none⟩ = some (.slice M1 L2.length m1))) 32 (by kernel_rfl) ?_
    have D8 : Fr W5 w8.drew := F8.drew
    have HS := keepQ _ D8
    ((refine wpAnyT_take 0 (v := ?_) rfl (by kernel_rfl) (fun _ _ _ h => h) (Or.inl ⟨by rfl, ?_⟩) (by assumption) ?_; rotate_left; (focus (intro W hSw; (try dsimp only at hSw); go_simp; try with_reducible rfl)); (try simp only [Act.put, List.setIfInBounds_toArray, List.set_cons_zero, List.set_cons_succ])); (refine wpAnyT_take 2 (v := ?_) rfl (by kernel_rfl) (fun _ _ _ h => h) (Or.inl ⟨by rfl, ?_⟩) (by assumption) ?_; rotate_left; (focus (intro W hSw; (try dsimp only at hSw); go_simp; try with_reducible rfl)); (try simp only [Act.put, List.setIfInBounds_toArray, List.set_cons_zero, List.set_cons_succ])))
    ((refine wpAnyT_one 1 rfl (by kernel_rfl) (fun K hK => ?_); go_simp))
    refine (implMinimize q M0 M1 m0 m1 hd L2 ei ea _ (P5.out.fr D8).r0 (P5.out.fr D8).r1 (by omega) (by omega) ((F3.trans D8).cell he0) ((F3.trans D8).cell he1)).mono ?_
    rw [HM.out]
    dsimp only
    rintro r w9 ⟨⟨T0, t0, T1, t1, rfl, hR, hE⟩, b9⟩
    have S9 := hid (QIn.mk' hR hE)
    clear hR hE
    have F9 := D8.trans b9
    have HS := keepQ _ F9
    ((try dsimp only); refine hK.out _ _ (fun _ => HS) (fun _ => ?_); clear hK K; (try simp only [Act.put, List.setIfInBounds_toArray, List.set_cons_zero, List.set_cons_succ]))
    ((refine wpAnyT_one 3 rfl (by kernel_rfl) (fun K hK => ?_); go_simp))
    refine (equalRules q T0 T1 M0 M1 t0 t1 m0 m1 hd L2 _ S9.out.r0 S9.out.r1 (P5.out.fr F9).r0 (P5.out.fr F9).r1 (by omega) (by omega)).mono ?_
    rintro r w10 ⟨rfl, b10⟩
    have F10 := F9.trans b10
    have HS := keepQ _ F10
    ((try dsimp only); refine hK.out _ _ (fun _ => HS) (fun _ => ?_); clear hK K; (try simp only [Act.put, List.setIfInBounds_toArray, List.set_cons_zero, List.set_cons_succ]))
    ((refine wpAnyT_take 4 (v := ?_) rfl (by kernel_rfl) (fun _ _ _ h => h) (Or.inl ⟨by rfl, ?_⟩) (by assumption) ?_; rotate_left; (focus (intro W hSw; (try dsimp only at hSw); go_simp; try with_reducible rfl)); (try simp only [Act.put, List.setIfInBounds_toArray, List.set_cons_zero, List.set_cons_succ])); (refine wpAnyT_take 5 (v := ?_) rfl (by kernel_rfl) (fun _ _ _ h => h) (Or.inl ⟨by rfl, ?_⟩) (by assumption) ?_; rotate_left; (focus (intro W hSw; (try dsimp only at hSw); go_simp; try with_reducible rfl)); (try simp only [Act.put, List.setIfInBounds_toArray, List.set_cons_zero, List.set_cons_succ])); (refine wpAnyT_take 6 (v := ?_) rfl (by kernel_rfl) (fun _ _ _ h => h) (Or.inl ⟨by rfl, ?_⟩) (by assumption) ?_; rotate_left; (focus (intro W hSw; (try dsimp only at hSw); go_simp; try with_reducible rfl)); (try simp only [Act.put, List.setIfInBounds_toArray, List.set_cons_zero, List.set_cons_succ])); (refine wpAnyT_take 7 (v := ?_) rfl (by kernel_rfl) (fun _ _ _ h => h) (Or.inl ⟨by rfl, ?_⟩) (by assumption) ?_; rotate_left; (focus (intro W hSw; (try dsimp only at hSw); go_simp; try with_reducible rfl)); (try simp only [Act.put, List.setIfInBounds_toArray, List.set_cons_zero, List.set_cons_succ])); (refine wpAnyT_take 8 (v := ?_) rfl (by kernel_rfl) (fun _ _ _ h => h) (Or.inl ⟨by rfl, ?_⟩) (by assumption) ?_; rotate_left; (focus (intro W hSw; (try dsimp only at hSw); go_simp; try with_reducible rfl)); (try simp only [Act.put, List.setIfInBounds_toArray, List.set_cons_zero, List.set_cons_succ])))
    ((refine wpAnyT_one 9 rfl (by kernel_rfl) (fun K hK => ?_); go_simp))
    refine (equalInts M0 A0 m0 c0 hd hd _ (P5.out.fr F10).r0 (Q5.out.fr F10).r0 (by unfold maxLen; omega) (by unfold maxLen; omega)).mono ?_
    rintro r w11 ⟨rfl, b11⟩
    simp only [decide_true]
    have F11 := F10.trans b11
    have HS := keepQ _ F11
    ((try dsimp only); refine hK.out _ _ (fun _ => HS) (fun _ => ?_); clear hK K; (try simp only [Act.put, List.setIfInBounds_toArray, List.set_cons_zero, List.set_cons_succ]))
    ((refine wpAnyT_take 10 (v := ?_) rfl (by kernel_rfl) (fun _ _ _ h => h) (Or.inl ⟨by rfl, ?_⟩) (by assumption) ?_; rotate_left; (focus (intro W hSw; (try dsimp only at hSw); go_simp; try with_reducible rfl)); (try simp only [Act.put, List.setIfInBounds_toArray, List.set_cons_zero, List.set_cons_succ])); (refine wpAnyT_take 11 (v := ?_) rfl (by kernel_rfl) (fun _ _ _ h => h) (Or.inl ⟨by rfl, ?_⟩) (by assumption) ?_; rotate_left; (focus (intro W hSw; (try dsimp only at hSw); go_simp; try with_reducible rfl)); (try simp only [Act.put, List.setIfInBounds_toArray, List.set_cons_zero, List.set_cons_succ])); (refine wpAnyT_take 12 (v := ?_) rfl (by kernel_rfl) (fun _ _ _ h => h) (Or.inl ⟨by rfl, ?_⟩) (by assumption) ?_; rotate_left; (focus (intro W hSw; (try dsimp only at hSw); go_simp; try with_reducible rfl)); (try simp only [Act.put, List.setIfInBounds_toArray, List.set_cons_zero, List.set_cons_succ])); (refine wpAnyT_take 13 (v := ?_) rfl (by kernel_rfl) (fun _ _ _ h => h) (Or.inl ⟨by rfl, ?_⟩) (by assumption) ?_; rotate_left; (focus (intro W hSw; (try dsimp only at hSw); go_simp; try with_reducible rfl)); (try simp only [Act.put, List.setIfInBounds_toArray, List.set_cons_zero, List.set_cons_succ])); (refine wpAnyT_take 14 (v := ?_) rfl (by kernel_rfl) (fun _ _ _ h => h) (Or.inl ⟨by rfl, ?_⟩) (by assumption) ?_; rotate_left; (focus (intro W hSw; (try dsimp only at hSw); go_simp; try with_reducible rfl)); (try simp only [Act.put, List.setIfInBounds_toArray, List.set_cons_zero, List.set_cons_succ])); (refine wpAnyT_take 15 (v := ?_) rfl (by kernel_rfl) (fun _ _ _ h => h) (Or.inl ⟨by rfl, ?_⟩) (by assumption) ?_; rotate_left; (focus (intro W hSw; (try dsimp only at hSw); go_simp; try with_reducible rfl)); (try simp only [Act.put, List.setIfInBounds_toArray, List.set_cons_zero, List.set_cons_succ])); (refine wpAnyT_take 16 (v := ?_) rfl (by kernel_rfl) (fun _ _ _ h => h) (Or.inl ⟨by rfl, ?_⟩) (by assumption) ?_; rotate_left; (focus (intro W hSw; (try dsimp only at hSw); go_simp; try with_reducible rfl)); (try simp only [Act.put, List.setIfInBounds_toArray, List.set_cons_zero, List.set_cons_succ])); (refine wpAnyT_take 17 (v := ?_) rfl (by kernel_rfl) (fun _ _ _ h => h) (Or.inl ⟨by rfl, ?_⟩) (by assumption) ?_; rotate_left; (focus (intro W hSw; (try dsimp only at hSw); go_simp; try with_reducible rfl)); (try simp only [Act.put, List.setIfInBounds_toArray, List.set_cons_zero, List.set_cons_succ])); (refine wpAnyT_take 18 (v := ?_) rfl (by kernel_rfl) (fun _ _ _ h => h) (Or.inl ⟨by rfl, ?_⟩) (by assumption) ?_; rotate_left; (focus (intro W hSw; (try dsimp only at hSw); go_simp; try with_reducible rfl)); (try simp only [Act.put, List.setIfInBounds_toArray, List.set_cons_zero, List.set_cons_succ])); (refine wpAnyT_take 19 (v := ?_) rfl (by kernel_rfl) (fun _ _ _ h => h) (Or.inl ⟨by rfl, ?_⟩) (by assumption) ?_; rotate_left; (focus (intro W hSw; (try dsimp only at hSw); go_simp; try with_reducible rfl)); (try simp only [Act.put, List.setIfInBounds_toArray, List.set_cons_zero, List.set_cons_succ])); (refine wpAnyT_take 20 (v := ?_) rfl (by kernel_rfl) (fun _ _ _ h => h) (Or.inl ⟨by rfl, ?_⟩) (by assumption) ?_; rotate_left; (focus (intro W hSw; (try dsimp only at hSw); go_simp; try with_reducible rfl)); (try simp only [Act.put, List.setIfInBounds_toArray, List.set_cons_zero, List.set_cons_succ])); (refine wpAnyT_take 21 (v := ?_) rfl (by kernel_rfl) (fun _ _ _ h => h) (Or.inl ⟨by rfl, ?_⟩) (by assumption) ?_; rotate_left; (focus (intro W hSw; (try dsimp only at hSw); go_simp; try with_reducible rfl)); (try simp only [Act.put, List.setIfInBounds_toArray, List.set_cons_zero, List.set_cons_succ])); (refine wpAnyT_take 23 (v := ?_) rfl (by kernel_rfl) (fun _ _ _ h => h) (Or.inl ⟨by rfl, ?_⟩) (by assumption) ?_; rotate_left; (focus (intro W hSw; (try dsimp only at hSw); go_simp; try with_reducible rfl)); (try simp only [Act.put, List.setIfInBounds_toArray, List.set_cons_zero, List.set_cons_succ])); (refine wpAnyT_take 24 (v := ?_) rfl (by kernel_rfl) (fun _ _ _ h => h) (Or.inl ⟨by rfl, ?_⟩) (by assumption) ?_; rotate_left; (focus (intro W hSw; (try dsimp only at hSw); go_simp; try with_reducible rfl)); (try simp only [Act.put, List.setIfInBounds_toArray, List.set_cons_zero, List.set_cons_succ])); (refine wpAnyT_take 25 (v := ?_) rfl (by kernel_rfl) (fun _ _ _ h => h) (Or.inl ⟨by rfl, ?_⟩) (by assumption) ?_; rotate_left; (focus (intro W hSw; (try dsimp only at hSw); go_simp; try with_reducible rfl)); (try simp only [Act.put, List.setIfInBounds_toArray, List.set_cons_zero, List.set_cons_succ])); (refine wpAnyT_take 26 (v := ?_) rfl (by kernel_rfl) (fun _ _ _ h => h) (Or.inl ⟨by rfl, ?_⟩) (by assumption) ?_; rotate_left; (focus (intro W hSw; (try dsimp only at hSw); go_simp; try with_reducible rfl)); (try simp only [Act.put, List.setIfInBounds_toArray, List.set_cons_zero, List.set_cons_succ])); (refine wpAnyT_take 27 (v := ?_) rfl (by kernel_rfl) (fun _ _ _ h => h) (Or.inl ⟨by rfl, ?_⟩) (by assumption) ?_; rotate_left; (focus (intro W hSw; (try dsimp only at hSw); go_simp; try with_reducible rfl)); (try simp only [Act.put, List.setIfInBounds_toArray, List.set_cons_zero, List.set_cons_succ])); (refine wpAnyT_take 28 (v := ?_) rfl (by kernel_rfl) (fun _ _ _ h => h) (Or.inl ⟨by rfl, ?_⟩) (by assumption) ?_; rotate_left; (focus (intro W hSw; (try dsimp only at hSw); go_simp; try with_reducible rfl)); (try simp only [Act.put, List.setIfInBounds_toArray, List.set_cons_zero, List.set_cons_succ])); (refine wpAnyT_take 29 (v := ?_) rfl (by kernel_rfl) (fun _ _ _ h => h) (Or.inl ⟨by rfl, ?_⟩) (by assumption) ?_; rotate_left; (focus (intro W hSw; (try dsimp only at hSw); go_simp; try with_reducible rfl)); (try simp only [Act.put, List.setIfInBounds_toArray, List.set_cons_zero, List.set_cons_succ])))
    ((refine wpAnyT_one 22 rfl (by kernel_rfl) (fun K hK => ?_); go_simp))
    refine (implIsMin q A0 A1 c0 c1 hd bd ei ea _ (Q5.out.fr F11).r0 (Q5.out.fr F11).r1 (by omega) (by omega) Q5.out.l1 Q5.out.m1 ((F3.trans F11).cell he0) ((F3.trans F11).cell he1)).mono ?_
    rw [HI.out]
    rintro r w12 ⟨rfl, b12⟩
    have F12 := F11.trans b12
    have HS := keepQ _ F12
    ((try dsimp only); refine hK.out _ _ (fun _ => HS) (fun _ => ?_); clear hK K; (try simp only [Act.put, List.setIfInBounds_toArray, List.set_cons_zero, List.set_cons_succ]))
    ((refine wpAnyT_take 30 (v := ?_) rfl (by kernel_rfl) (fun _ _ _ h => h) (Or.inl ⟨by rfl, ?_⟩) (by assumption) ?_; rotate_left; (focus (intro W hSw; (try dsimp only at hSw); go_simp; try with_reducible rfl)); (try simp only [Act.put, List.setIfInBounds_toArray, List.set_cons_zero, List.set_cons_succ])); (refine wpAnyT_take 31 (v := ?_) rfl (by kernel_rfl) (fun _ _ _ h => h) (Or.inl ⟨by rfl, ?_⟩) (by assumption) ?_; rotate_left; (focus (intro W hSw; (try dsimp only at hSw); go_simp; try with_reducible rfl)); (try simp only [Act.put, List.setIfInBounds_toArray, List.set_cons_zero, List.set_cons_succ])))
    ((refine wpAnyT_one 32 rfl (by kernel_rfl) (fun K hK => ?_); go_simp))
    ((try dsimp only); refine hK.out _ _ (fun h => absurd rfl h) (fun _ => ?_); clear hK K; (try simp only [Act.put, List.setIfInBounds_toArray, List.set_cons_zero, List.set_cons_succ]); refine wpAnyT_done (by kernel_rfl) ?_ _)
    go_wp2
    go_ret
    exact ⟨by simp, F3.trans F12⟩
end Go.Proofs.YtahclhldpcboeaaDoor
