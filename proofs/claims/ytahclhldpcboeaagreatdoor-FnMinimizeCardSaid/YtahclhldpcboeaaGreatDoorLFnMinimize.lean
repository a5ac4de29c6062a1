/- Walk of the law FnMinimize. -/
import Derived.Test.YtahclhldpcboeaaGreatDoorAnsN
import Derived.Test.YtahclhldpcboeaaGreatDoorRedS
import Derived.Test.YtahclhldpcboeaaGreatDoorEqA
import Derived.Test.YtahclhldpcboeaaGreatDoorLawD
namespace Go.Proofs.YtahclhldpcboeaaGreatDoor
open Go Go.RowKit
set_option maxRecDepth 100000 in
set_option maxHeartbeats 4000000 in
theorem walkFnMinimize (A0 : Option Addr) (c0 : Nat) (xs : List Nat) (ei ea : Addr) (w : World) (hx : RdSl rdByte w.cell? 1 A0 xs) (_ : xs.length ≤ maxLen) (hc : xs.length ≤ c0) (he0 : w.cell? ⟨0, 0, none⟩ = some (noHom ei)) (he1 : w.cell? ⟨1, 0, none⟩ = some (noHom ea)) :
    Calls Tryz.prog 5 #[.slice A0 xs.length c0] w fun r w' => r = .returned (.bool true) ∧ Fr w w' := by
  have HX := hid hx
  clear hx
  by_cases hlen : (1048576 : Int) < xs.length
  · have e0 : decide ((1048576 : Int) < (xs.length : Int)) = true := by simp; omega
    go_enter Tryz.func5, Tryz.ntmps5
    go_wp2
    go_ret
    exact ⟨rfl, Fr.refl _⟩
  have e0 : decide ((1048576 : Int) < (xs.length : Int)) = false := by simp; omega
  have hl : xs.length ≤ 1048576 := by omega
  clear hlen
  go_enter Tryz.func5, Tryz.ntmps5
  go_wp2_with fail
  refine (drawAnswers A0 c0 xs _ HX.out hl hc).mono ?_
  rintro e w1 ⟨q, hd, bd, fs, B0, b0, B1, b1, g, cap, rfl, ⟨OH, OB, OF⟩, ⟨h0, h4, l0, l1, l9, hsm⟩, F1⟩
  have IN1 := hid (AIn.mk' OH OB OF)
  have Q1 := hid (QIn.mk' OH OB)
  have HSM := hid hsm
  have H4 := hid h4
  have BA1 := hid (Blk.new w1 26 #[.int .i64 q, .slice B0 hd.length b0, .slice B1 bd.length b1])
  have G1 : Fr w1 (w1.alloc (.cells #[.int .i64 q, .slice B0 hd.length b0, .slice B1 bd.length b1] 26)) := (Fr.refl _).alloc _
  clear OH OB OF HX hsm h4
  go_wp2_with fail
  refine absW fun W2 hW2 => ?_
  rw [← hW2] at BA1 G1
  obtain ⟨s, es⟩ : ∃ s, w1.heap.size = s := ⟨_, rfl⟩
  rw [es] at BA1 ⊢
  clear hW2 es
  have IN2 := hid (IN1.out.fr G1)
  have Q2 := hid (Q1.out.fr G1)
  have F2 := F1.trans G1
  clear IN1 G1 Q1
  have hcl := IN2.out.l1
  have hcm := IN2.out.m1
  have hfl := IN2.out.lf
  have hfm := IN2.out.mf
  obtain ⟨L, eL⟩ : ∃ L, ansO q hd bd fs = L := ⟨_, rfl⟩
  have EL := hid eL
  have hLl : L.length ≤ 1000000 := by rw [← eL]; exact Nat.le_trans ansO_len (by decide)
  have HLR := hid (fun x (h : x ∈ L) => ansO_row (by rw [eL]; exact h : x ∈ ansO q hd bd fs))
  clear eL
  refine (implAnsL q B0 b0 hd B1 b1 bd _ cap fs _ IN2.out.r0 IN2.out.r1 IN2.out.rf (by omega) (by omega) (by omega)).mono ?_
  rw [EL.out]
  rintro r w3 ⟨LA, lc, rfl, RL, b3⟩
  have F3 := b3
  have HRL := hid (fun W (h : Fr w3 W) => RL.fr rdIL_mono h)
  clear RL
  (try clear x0 x1 x2)
  obtain ⟨x0, x1, x2, _⟩ := (BA1.out.fr (F3)).three
  go_wp2_with fail
  refine (specAnsL q B0 b0 hd B1 b1 bd _ cap fs _ (IN2.out.fr F3).r0 (IN2.out.fr F3).r1 (IN2.out.fr F3).rf (by omega) (by omega) (by omega)).mono ?_
  rw [EL.out]
  rintro r w4 ⟨LB4, ld4, rfl, RL4, b4⟩
  have C4 : Fr w3 w4 := b4
  have F4 := F3.trans C4
  (try clear x0 x1 x2)
  obtain ⟨x0, x1, x2, _⟩ := (BA1.out.fr (F4)).three
  go_wp2_with fail
  refine (equalAns LA LB4 lc ld4 L L _ (HRL.out _ C4) RL4 hLl hLl HLR.out HLR.out).mono ?_
  rw [show decide (L = L) = true from decide_eq_true rfl]
  rintro r w5 ⟨rfl, b5⟩
  have C5 := C4.trans b5
  have F5 := F3.trans C5
  clear RL4 C4 F4 b4 b5
  (try clear x0 x1 x2)
  obtain ⟨x0, x1, x2, _⟩ := (BA1.out.fr (F5)).three
  go_wp2_with fail
  refine (implValidRule q B0 b0 hd B1 b1 bd _ (IN2.out.fr F5).r0 (IN2.out.fr F5).r1 (by omega) (by omega)).mono ?_
  rintro r w6 ⟨rfl, b6⟩
  have C6 := C5.trans b6
  have F6 := F3.trans C6
  (try clear x0 x1 x2)
  obtain ⟨x0, x1, x2, _⟩ := (BA1.out.fr (F6)).three
  clear C5 F5 b6
  cases hv : vrule q hd bd
  · go_wp2_with fail
    refine (specAnsL q B0 b0 hd B1 b1 bd _ cap fs _ (IN2.out.fr F6).r0 (IN2.out.fr F6).r1 (IN2.out.fr F6).rf (by omega) (by omega) (by omega)).mono ?_
    rw [EL.out]
    rintro r w8 ⟨LB8, ld8, rfl, RL8, b8⟩
    have C8 := C6.trans b8
    (try clear x0 x1 x2)
    obtain ⟨x0, x1, x2, _⟩ := (BA1.out.fr (F3.trans C8)).three
    go_wp2_with fail
    refine (equalAns LA LB8 lc ld8 L L _ (HRL.out _ C8) RL8 hLl hLl HLR.out HLR.out).mono ?_
    rw [show decide (L = L) = true from decide_eq_true rfl]
    rintro r w9 ⟨rfl, b9⟩
    go_wp2
    go_ret
    exact ⟨rfl, F2.trans (F3.trans (C8.trans b9))⟩
  have HV := hid hv
  clear hv
  go_wp2_with fail
  refine (implVFacts _ cap fs _ (IN2.out.fr F6).rf (by omega)).mono ?_
  rintro r w7 ⟨rfl, b7⟩
  have C7 := C6.trans b7
  have F7 := F3.trans C7
  (try clear x0 x1 x2)
  obtain ⟨x0, x1, x2, _⟩ := (BA1.out.fr (F7)).three
  clear C6 F6 b7
  cases hvf : vfacts fs
  · go_wp2_with fail
    refine (specAnsL q B0 b0 hd B1 b1 bd _ cap fs _ (IN2.out.fr F7).r0 (IN2.out.fr F7).r1 (IN2.out.fr F7).rf (by omega) (by omega) (by omega)).mono ?_
    rw [EL.out]
    rintro r w8 ⟨LB8, ld8, rfl, RL8, b8⟩
    have C8 := C7.trans b8
    (try clear x0 x1 x2)
    obtain ⟨x0, x1, x2, _⟩ := (BA1.out.fr (F3.trans C8)).three
    go_wp2_with fail
    refine (equalAns LA LB8 lc ld8 L L _ (HRL.out _ C8) RL8 hLl hLl HLR.out HLR.out).mono ?_
    rw [show decide (L = L) = true from decide_eq_true rfl]
    rintro r w9 ⟨rfl, b9⟩
    go_wp2
    go_ret
    exact ⟨rfl, F2.trans (F3.trans (C8.trans b9))⟩
  have HVF := hid hvf
  have SM := hid (ans_small H4.out HV.out hvf HSM.out)
  have EA : ansO q hd bd fs = ans q hd bd fs := ansO_yes HV.out hvf
  rw [EA] at EL
  clear EA hvf
  obtain ⟨k1, k2, _⟩ := minB_end (q := q) (hd := hd) bd.length bd rfl HV.out
  have hq4 : q ≤ 4 := SM.out.2.2.1
  obtain ⟨k3, k4, k5⟩ := min_homs hq4 HV.out
  have k6 := min_ans HV.out SM.out
  have k7 := (mini_ans (q := q) (hd := hd) (fs := fs) SM.out.1 SM.out.2.1 SM.out.2.2 bd.length bd HV.out).2.1
  have k8 : (minB q hd bd).length ≤ bd.length := mini_len
  have k9 := minR_yes HV.out
  rw [EL.out] at k6
  obtain ⟨P, eP⟩ : ∃ P, minB q hd bd = P := ⟨_, rfl⟩
  rw [eP] at k1 k2 k3 k4 k5 k6 k8 k9
  have k10 : isMin q hd P = true := by unfold isMin; rw [k3]; simpa using k1
  have k11 : ansO q hd P fs = L := by rw [ansO_yes k3 HVF.out]; exact k6
  have K4 := hid k4
  have K5 := hid k5
  have K9 := hid k9
  have K10 := hid k10
  have K11 := hid k11
  clear k1 k2 k3 k4 k5 k6 k7 k9 k10 k11 eP
  go_wp2_with fail
  refine (implMinimize q B0 B1 b0 b1 hd bd ei ea _ (Q2.out.fr F7).r0 (Q2.out.fr F7).r1 (by omega) (by omega) ((F2.trans F7).cell he0) ((F2.trans F7).cell he1)).mono ?_
  rw [K9.out]
  dsimp only
  rintro r w8 ⟨⟨M0, m0, M1, m1, rfl, hR, hE⟩, b8⟩
  have P8 := hid (QIn.mk' hR hE)
  have BM8 := hid (Blk.new w8 26 #[.int .i64 q, .slice M0 hd.length m0, .slice M1 P.length m1])
  have G8 : Fr w8 (w8.alloc (.cells #[.int .i64 q, .slice M0 hd.length m0, .slice M1 P.length m1] 26)) := (Fr.refl _).alloc _
  have F8 := (F7.trans b8).trans G8
  have C8 := (C7.trans b8).trans G8
  clear hR hE x0 x1 x2
  go_wp2_with fail
  generalize (w8.alloc (.cells #[.int .i64 q, .slice M0 hd.length m0, .slice M1 P.length m1] 26)) = W8 at BM8 G8 F8 C8 ⊢
  obtain ⟨s8, es8⟩ : ∃ g, w8.heap.size = g := ⟨_, rfl⟩
  rw [es8] at BM8 ⊢
  have P9 := hid (P8.out.fr G8)
  clear es8 P8 G8 b8
  have keepQ : ∀ W, Fr W8 W → (W.cell? ⟨s, 0, none⟩ = some (.int .i64 q) ∧ W.cell? ⟨s, 1, none⟩ = some (.slice B0 hd.length b0) ∧ W.cell? ⟨s, 2, none⟩ = some (.slice B1 bd.length b1)) ∧ (W.cell? ⟨s8, 0, none⟩ = some (.int .i64 q) ∧ W.cell? ⟨s8, 1, none⟩ = some (.slice M0 hd.length m0) ∧ W.cell? ⟨s8, 2, none⟩ = some (.slice M1 P.length m1)) := fun W h => by
    obtain ⟨x0, x1, x2, _⟩ := (BA1.out.fr (F8.trans h)).three
    obtain ⟨y0, y1, y2, _⟩ := (BM8.out.fr h).three
    exact ⟨⟨x0, x1, x2⟩, y0, y1, y2⟩
  refine wp_region_T (fun W => (W.cell? ⟨s, 0, none⟩ = some (.int .i64 q) ∧ W.cell? ⟨s, 1, none⟩ = some (.slice B0 hd.length b0) ∧ W.cell? ⟨s, 2, none⟩ = some (.slice B1 bd.length b1)) ∧ (W.cell? ⟨s8, 0, none⟩ = some (.int .i64 q) ∧ W.cell? ⟨s8, 1, none⟩ = some (.slice M0 hd.length m0) ∧ W.cell? ⟨s8, 2, none⟩ = some (.slice M1 P.length m1))) 25 (by kernel_rfl) ?_
  have D8 : Fr W8 W8.drew := (Fr.refl _).drew
  have HS := keepQ _ D8
  ((refine wpAnyT_take 0 (v := ?_) rfl (by kernel_rfl) (fun _ _ _ h => h) (Or.inl ⟨by rfl, ?_⟩) (by assumption) ?_; rotate_left; (focus (intro W hSw; (try dsimp only at hSw); go_simp; (try with_reducible rfl); done)); (try simp only [Act.put, List.setIfInBounds_toArray, List.set_cons_zero, List.set_cons_succ])); (refine wpAnyT_take 1 (v := ?_) rfl (by kernel_rfl) (fun _ _ _ h => h) (Or.inl ⟨by rfl, ?_⟩) (by assumption) ?_; rotate_left; (focus (intro W hSw; (try dsimp only at hSw); go_simp; (try with_reducible rfl); done)); (try simp only [Act.put, List.setIfInBounds_toArray, List.set_cons_zero, List.set_cons_succ])))
  ((refine wpAnyT_one 2 rfl (by kernel_rfl) (fun K hK => ?_); go_simp))
  refine (specMinimize q B0 B1 b0 b1 hd bd _ (Q2.out.fr (F8.trans D8)).r0 (Q2.out.fr (F8.trans D8)).r1 (by omega) (by omega) Q2.out.n0 Q2.out.n1).mono ?_
  rw [K9.out]
  dsimp only
  rintro r w9 ⟨⟨S0, s0, S1, s1, rfl, hR, hE⟩, b9⟩
  have S9 := hid (QIn.mk' hR hE)
  clear hR hE
  have D9 := D8.trans b9
  have HS := keepQ _ D9
  ((try dsimp only); refine hK.out _ _ (fun _ => HS) (fun _ => ?_); clear hK K; (try simp only [Act.put, List.setIfInBounds_toArray, List.set_cons_zero, List.set_cons_succ]))
  ((refine wpAnyT_one 3 rfl (by kernel_rfl) (fun K hK => ?_); go_simp))
  refine (equalRules q M0 M1 S0 S1 m0 m1 s0 s1 hd P _ (P9.out.fr D9).r0 (P9.out.fr D9).r1 S9.out.r0 S9.out.r1 (by omega) (by omega)).mono ?_
  rintro r w10 ⟨rfl, b10⟩
  have D10 := D9.trans b10
  have HS := keepQ _ D10
  ((try dsimp only); refine hK.out _ _ (fun _ => HS) (fun _ => ?_); clear hK K; (try simp only [Act.put, List.setIfInBounds_toArray, List.set_cons_zero, List.set_cons_succ]))
  ((refine wpAnyT_take 4 (v := ?_) rfl (by kernel_rfl) (fun _ _ _ h => h) (Or.inl ⟨by rfl, ?_⟩) (by assumption) ?_; rotate_left; (focus (intro W hSw; (try dsimp only at hSw); go_simp; (try with_reducible rfl); done)); (try simp only [Act.put, List.setIfInBounds_toArray, List.set_cons_zero, List.set_cons_succ])); (refine wpAnyT_take 5 (v := ?_) rfl (by kernel_rfl) (fun _ _ _ h => h) (Or.inl ⟨by rfl, ?_⟩) (by assumption) ?_; rotate_left; (focus (intro W hSw; (try dsimp only at hSw); go_simp; (try with_reducible rfl); done)); (try simp only [Act.put, List.setIfInBounds_toArray, List.set_cons_zero, List.set_cons_succ])); (refine wpAnyT_take 6 (v := ?_) rfl (by kernel_rfl) (fun _ _ _ h => h) (Or.inl ⟨by rfl, ?_⟩) (by assumption) ?_; rotate_left; (focus (intro W hSw; (try dsimp only at hSw); go_simp; (try with_reducible rfl); done)); (try simp only [Act.put, List.setIfInBounds_toArray, List.set_cons_zero, List.set_cons_succ])); (refine wpAnyT_take 8 (v := ?_) rfl (by kernel_rfl) (fun _ _ _ h => h) (Or.inl ⟨by rfl, ?_⟩) (by assumption) ?_; rotate_left; (focus (intro W hSw; (try dsimp only at hSw); go_simp; (try with_reducible rfl); done)); (try simp only [Act.put, List.setIfInBounds_toArray, List.set_cons_zero, List.set_cons_succ])))
  ((refine wpAnyT_one 7 rfl (by kernel_rfl) (fun K hK => ?_); go_simp))
  refine (implAnsL q M0 m0 hd M1 m1 P (some ⟨g, 0, none⟩) cap fs _ (P9.out.fr D10).r0 (P9.out.fr D10).r1 (IN2.out.fr (F8.trans D10)).rf (by omega) (by omega) (by omega)).mono ?_
  rw [K11.out]
  rintro r w11 ⟨FA, f11, rfl, RF, b11⟩
  have D11 := D10.trans b11
  have HS := keepQ _ D11
  ((try dsimp only); refine hK.out _ _ (fun _ => HS) (fun _ => ?_); clear hK K; (try simp only [Act.put, List.setIfInBounds_toArray, List.set_cons_zero, List.set_cons_succ]))
  ((refine wpAnyT_one 9 rfl (by kernel_rfl) (fun K hK => ?_); go_simp))
  refine (equalAns FA LA f11 lc L L _ RF (HRL.out _ (C8.trans D11)) hLl hLl HLR.out HLR.out).mono ?_
  rw [show decide (L = L) = true from decide_eq_true rfl]
  rintro r w12 ⟨rfl, b12⟩
  have D12 := D11.trans b12
  have HS := keepQ _ D12
  ((try dsimp only); refine hK.out _ _ (fun _ => HS) (fun _ => ?_); clear hK K; (try simp only [Act.put, List.setIfInBounds_toArray, List.set_cons_zero, List.set_cons_succ]))
  ((refine wpAnyT_take 10 (v := ?_) rfl (by kernel_rfl) (fun _ _ _ h => h) (Or.inl ⟨by rfl, ?_⟩) (by assumption) ?_; rotate_left; (focus (intro W hSw; (try dsimp only at hSw); go_simp; (try with_reducible rfl); done)); (try simp only [Act.put, List.setIfInBounds_toArray, List.set_cons_zero, List.set_cons_succ])); (refine wpAnyT_take 11 (v := ?_) rfl (by kernel_rfl) (fun _ _ _ h => h) (Or.inl ⟨by rfl, ?_⟩) (by assumption) ?_; rotate_left; (focus (intro W hSw; (try dsimp only at hSw); go_simp; (try with_reducible rfl); done)); (try simp only [Act.put, List.setIfInBounds_toArray, List.set_cons_zero, List.set_cons_succ])); (refine wpAnyT_take 12 (v := ?_) rfl (by kernel_rfl) (fun _ _ _ h => h) (Or.inl ⟨by rfl, ?_⟩) (by assumption) ?_; rotate_left; (focus (intro W hSw; (try dsimp only at hSw); go_simp; (try with_reducible rfl); done)); (try simp only [Act.put, List.setIfInBounds_toArray, List.set_cons_zero, List.set_cons_succ])); (refine wpAnyT_take 13 (v := ?_) rfl (by kernel_rfl) (fun _ _ _ h => h) (Or.inl ⟨by rfl, ?_⟩) (by assumption) ?_; rotate_left; (focus (intro W hSw; (try dsimp only at hSw); go_simp; (try with_reducible rfl); done)); (try simp only [Act.put, List.setIfInBounds_toArray, List.set_cons_zero, List.set_cons_succ])))
  ((refine wpAnyT_one 14 rfl (by kernel_rfl) (fun K hK => ?_); go_simp))
  refine (implIsC q q M0 M1 B0 B1 m0 m1 b0 b1 hd hd P bd ei ea _ (P9.out.fr D12).r0 (P9.out.fr D12).r1 (Q2.out.fr (F8.trans D12)).r0 (Q2.out.fr (F8.trans D12)).r1 (by omega) (by omega) (by omega) (by omega) Q2.out.l1 Q2.out.m1 ((F2.trans (F8.trans D12)).cell he0) ((F2.trans (F8.trans D12)).cell he1)).mono ?_
  rw [K4.out]
  rintro r w13 ⟨rfl, b13⟩
  have D13 := D12.trans b13
  have HS := keepQ _ D13
  ((try dsimp only); refine hK.out _ _ (fun _ => HS) (fun _ => ?_); clear hK K; (try simp only [Act.put, List.setIfInBounds_toArray, List.set_cons_zero, List.set_cons_succ]))
  ((refine wpAnyT_take 15 (v := ?_) rfl (by kernel_rfl) (fun _ _ _ h => h) (Or.inl ⟨by rfl, ?_⟩) (by assumption) ?_; rotate_left; (focus (intro W hSw; (try dsimp only at hSw); go_simp; (try with_reducible rfl); done)); (try simp only [Act.put, List.setIfInBounds_toArray, List.set_cons_zero, List.set_cons_succ])); (refine wpAnyT_take 16 (v := ?_) rfl (by kernel_rfl) (fun _ _ _ h => h) (Or.inl ⟨by rfl, ?_⟩) (by assumption) ?_; rotate_left; (focus (intro W hSw; (try dsimp only at hSw); go_simp; (try with_reducible rfl); done)); (try simp only [Act.put, List.setIfInBounds_toArray, List.set_cons_zero, List.set_cons_succ])); (refine wpAnyT_take 17 (v := ?_) rfl (by kernel_rfl) (fun _ _ _ h => h) (Or.inl ⟨by rfl, ?_⟩) (by assumption) ?_; rotate_left; (focus (intro W hSw; (try dsimp only at hSw); go_simp; (try with_reducible rfl); done)); (try simp only [Act.put, List.setIfInBounds_toArray, List.set_cons_zero, List.set_cons_succ])); (refine wpAnyT_take 18 (v := ?_) rfl (by kernel_rfl) (fun _ _ _ h => h) (Or.inl ⟨by rfl, ?_⟩) (by assumption) ?_; rotate_left; (focus (intro W hSw; (try dsimp only at hSw); go_simp; (try with_reducible rfl); done)); (try simp only [Act.put, List.setIfInBounds_toArray, List.set_cons_zero, List.set_cons_succ])))
  ((refine wpAnyT_one 19 rfl (by kernel_rfl) (fun K hK => ?_); go_simp))
  refine (implIsC q q B0 B1 M0 M1 b0 b1 m0 m1 hd hd bd P ei ea _ (Q2.out.fr (F8.trans D13)).r0 (Q2.out.fr (F8.trans D13)).r1 (P9.out.fr D13).r0 (P9.out.fr D13).r1 (by omega) (by omega) (by omega) (by omega) P9.out.l1 P9.out.m1 ((F2.trans (F8.trans D13)).cell he0) ((F2.trans (F8.trans D13)).cell he1)).mono ?_
  rw [K5.out]
  rintro r w14 ⟨rfl, b14⟩
  have D14 := D13.trans b14
  have HS := keepQ _ D14
  ((try dsimp only); refine hK.out _ _ (fun _ => HS) (fun _ => ?_); clear hK K; (try simp only [Act.put, List.setIfInBounds_toArray, List.set_cons_zero, List.set_cons_succ]))
  ((refine wpAnyT_take 20 (v := ?_) rfl (by kernel_rfl) (fun _ _ _ h => h) (Or.inl ⟨by rfl, ?_⟩) (by assumption) ?_; rotate_left; (focus (intro W hSw; (try dsimp only at hSw); go_simp; (try with_reducible rfl); done)); (try simp only [Act.put, List.setIfInBounds_toArray, List.set_cons_zero, List.set_cons_succ])); (refine wpAnyT_take 21 (v := ?_) rfl (by kernel_rfl) (fun _ _ _ h => h) (Or.inl ⟨by rfl, ?_⟩) (by assumption) ?_; rotate_left; (focus (intro W hSw; (try dsimp only at hSw); go_simp; (try with_reducible rfl); done)); (try simp only [Act.put, List.setIfInBounds_toArray, List.set_cons_zero, List.set_cons_succ])); (refine wpAnyT_take 22 (v := ?_) rfl (by kernel_rfl) (fun _ _ _ h => h) (Or.inl ⟨by rfl, ?_⟩) (by assumption) ?_; rotate_left; (focus (intro W hSw; (try dsimp only at hSw); go_simp; (try with_reducible rfl); done)); (try simp only [Act.put, List.setIfInBounds_toArray, List.set_cons_zero, List.set_cons_succ])))
  ((refine wpAnyT_one 23 rfl (by kernel_rfl) (fun K hK => ?_); go_simp))
  refine (implIsMin q M0 M1 m0 m1 hd P ei ea _ (P9.out.fr D14).r0 (P9.out.fr D14).r1 (by omega) (by omega) P9.out.l1 P9.out.m1 ((F2.trans (F8.trans D14)).cell he0) ((F2.trans (F8.trans D14)).cell he1)).mono ?_
  rw [K10.out]
  rintro r w15 ⟨rfl, b15⟩
  have D15 := D14.trans b15
  have HS := keepQ _ D15
  ((try dsimp only); refine hK.out _ _ (fun _ => HS) (fun _ => ?_); clear hK K; (try simp only [Act.put, List.setIfInBounds_toArray, List.set_cons_zero, List.set_cons_succ]))
  ((refine wpAnyT_take 24 (v := ?_) rfl (by kernel_rfl) (fun _ _ _ h => h) (Or.inl ⟨by rfl, ?_⟩) (by assumption) ?_; rotate_left; (focus (intro W hSw; (try dsimp only at hSw); go_simp; (try with_reducible rfl); done)); (try simp only [Act.put, List.setIfInBounds_toArray, List.set_cons_zero, List.set_cons_succ])))
  ((refine wpAnyT_one 25 rfl (by kernel_rfl) (fun K hK => ?_); go_simp))
  ((try dsimp only); refine hK.out _ _ (fun h => absurd rfl h) (fun _ => ?_); clear hK K; (try simp only [Act.put, List.setIfInBounds_toArray, List.set_cons_zero, List.set_cons_succ]); refine wpAnyT_done (by kernel_rfl) ?_ _)
  go_wp2
  go_ret
  exact ⟨rfl, F2.trans (F8.trans D15)⟩
end Go.Proofs.YtahclhldpcboeaaGreatDoor
