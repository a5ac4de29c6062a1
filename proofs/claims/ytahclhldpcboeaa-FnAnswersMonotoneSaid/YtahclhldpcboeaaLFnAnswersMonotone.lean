/- Walk of the law FnAnswersMonotone. -/
import Derived.Test.YtahclhldpcboeaaFctG
import Derived.Test.YtahclhldpcboeaaEqA
import Derived.Test.YtahclhldpcboeaaLaw
namespace Go.Proofs.Ytahclhldpcboeaa
open Go Go.RowKit
set_option maxRecDepth 100000 in
set_option maxHeartbeats 4000000 in
theorem walkFnAnswersMonotone (A0 : Option Addr) (c0 : Nat) (xs : List Nat) (A1 : Option Addr) (c1 : Nat) (ys : List Nat) (w : World) (hx : RdSl rdByte w.cell? 1 A0 xs) (_ : xs.length ≤ maxLen) (hc : xs.length ≤ c0) (_ : RdSl rdByte w.cell? 1 A1 ys) (hly : ys.length ≤ maxLen) (_ : ys.length ≤ c1) :
    Calls Try.prog 9 #[.slice A0 xs.length c0, .slice A1 ys.length c1] w fun r w' => r = .returned (.bool true) ∧ Fr w w' := by
  have HX := hid hx
  clear hx
  by_cases hlen : (1048576 : Int) < xs.length
  · have e0 : decide ((1048576 : Int) < (xs.length : Int)) = true := by simp; omega
    go_enter Try.func9, Try.ntmps9
    go_wp2
    go_ret
    exact ⟨rfl, Fr.refl _⟩
  have e0 : decide ((1048576 : Int) < (xs.length : Int)) = false := by simp; omega
  have hl : xs.length ≤ 1048576 := by omega
  clear hlen
  by_cases hlen : (1048576 : Int) < ys.length
  · have e1 : decide ((1048576 : Int) < (ys.length : Int)) = true := by simp; omega
    go_enter Try.func9, Try.ntmps9
    go_wp2
    go_ret
    exact ⟨rfl, Fr.refl _⟩
  have e1 : decide ((1048576 : Int) < (ys.length : Int)) = false := by simp; omega
  have hl2 : ys.length ≤ 1048576 := by omega
  clear hlen hly
  go_enter Try.func9, Try.ntmps9
  go_wp2_with fail
  refine (drawAnswers A0 c0 xs _ HX.out hl hc).mono ?_
  rintro e w1 ⟨q, hd, bd, fs, B0, b0, B1, b1, g, cap, rfl, ⟨OH, OB, OF⟩, ⟨h0, h4, l0, l1, l9, hsm⟩, F1⟩
  have IN1 := hid (AIn.mk' OH OB OF)
  have HSM := hid hsm
  have H4 := hid h4
  have BA1 := hid (Blk.new w1 30 #[.int .i64 q, .slice B0 hd.length b0, .slice B1 bd.length b1])
  have G1 : Fr w1 (w1.alloc (.cells #[.int .i64 q, .slice B0 hd.length b0, .slice B1 bd.length b1] 30)) := (Fr.refl _).alloc _
  clear OH OB OF HX hsm h4
  go_wp2_with fail
  refine absW fun W2 hW2 => ?_
  rw [← hW2] at BA1 G1
  obtain ⟨s, es⟩ : ∃ s, w1.heap.size = s := ⟨_, rfl⟩
  rw [es] at BA1 ⊢
  clear hW2 es
  have IN2 := hid (IN1.out.fr G1)
  have F2 := F1.trans G1
  clear IN1 G1
  have hcl := IN2.out.l1
  have hcm := IN2.out.m1
  have hfl := IN2.out.lf
  have hfm := IN2.out.mf
  obtain ⟨L, eL⟩ : ∃ L, ansO q hd bd fs = L := ⟨_, rfl⟩
  have EL := hid eL
  have hLl : L.length ≤ 1000000 := by rw [← eL]; exact Nat.le_trans ansO_len (by decide)
  have HLR := hid (fun x (h : x ∈ L) => ansO_row (by rw [eL]; exact h : x ∈ ansO q hd bd fs))
  clear eL
  refine (implAnsL q B0 b0 hd B1 b1 bd _ cap fs _ IN2.out.r0 IN2.out.r1 IN2.out.rf (by omega) (by omega) (by omega)).mono ?_
  rw [EL.out]
  rintro r w3 ⟨LA, lc, rfl, RL, b3⟩
  have F3 := b3
  have HRL := hid (fun W (h : Fr w3 W) => RL.fr rdIL_mono h)
  clear RL
  (try clear x0 x1 x2)
  obtain ⟨x0, x1, x2, _⟩ := (BA1.out.fr (F3)).three
  go_wp2_with fail
  refine (specAnsL q B0 b0 hd B1 b1 bd _ cap fs _ (IN2.out.fr F3).r0 (IN2.out.fr F3).r1 (IN2.out.fr F3).rf (by omega) (by omega) (by omega)).mono ?_
  rw [EL.out]
  rintro r w4 ⟨LB4, ld4, rfl, RL4, b4⟩
  have C4 : Fr w3 w4 := b4
  have F4 := F3.trans C4
  (try clear x0 x1 x2)
  obtain ⟨x0, x1, x2, _⟩ := (BA1.out.fr (F4)).three
  go_wp2_with fail
  refine (equalAns LA LB4 lc ld4 L L _ (HRL.out _ C4) RL4 hLl hLl HLR.out HLR.out).mono ?_
  rw [show decide (L = L) = true from decide_eq_true rfl]
  rintro r w5 ⟨rfl, b5⟩
  have C5 := C4.trans b5
  have F5 := F3.trans C5
  clear RL4 C4 F4 b4 b5
  (try clear x0 x1 x2)
  obtain ⟨x0, x1, x2, _⟩ := (BA1.out.fr (F5)).three
  go_wp2_with fail
  refine (implValidRule q B0 b0 hd B1 b1 bd _ (IN2.out.fr F5).r0 (IN2.out.fr F5).r1 (by omega) (by omega)).mono ?_
  rintro r w6 ⟨rfl, b6⟩
  have C6 := C5.trans b6
  have F6 := F3.trans C6
  (try clear x0 x1 x2)
  obtain ⟨x0, x1, x2, _⟩ := (BA1.out.fr (F6)).three
  clear C5 F5 b6
  cases hv : vrule q hd bd
  · go_wp2_with fail
    refine (specAnsL q B0 b0 hd B1 b1 bd _ cap fs _ (IN2.out.fr F6).r0 (IN2.out.fr F6).r1 (IN2.out.fr F6).rf (by omega) (by omega) (by omega)).mono ?_
    rw [EL.out]
    rintro r w8 ⟨LB8, ld8, rfl, RL8, b8⟩
    have C8 := C6.trans b8
    (try clear x0 x1 x2)
    obtain ⟨x0, x1, x2, _⟩ := (BA1.out.fr (F3.trans C8)).three
    go_wp2_with fail
    refine (equalAns LA LB8 lc ld8 L L _ (HRL.out _ C8) RL8 hLl hLl HLR.out HLR.out).mono ?_
    rw [show decide (L = L) = true from decide_eq_true rfl]
    rintro r w9 ⟨rfl, b9⟩
    go_wp2
    go_ret
    exact ⟨rfl, F2.trans (F3.trans (C8.trans b9))⟩
  have HV := hid hv
  clear hv
  go_wp2_with fail
  refine (implVFacts _ cap fs _ (IN2.out.fr F6).rf (by omega)).mono ?_
  rintro r w7 ⟨rfl, b7⟩
  have C7 := C6.trans b7
  have F7 := F3.trans C7
  (try clear x0 x1 x2)
  obtain ⟨x0, x1, x2, _⟩ := (BA1.out.fr (F7)).three
  clear C6 F6 b7
  cases hvf : vfacts fs
  · go_wp2_with fail
    refine (specAnsL q B0 b0 hd B1 b1 bd _ cap fs _ (IN2.out.fr F7).r0 (IN2.out.fr F7).r1 (IN2.out.fr F7).rf (by omega) (by omega) (by omega)).mono ?_
    rw [EL.out]
    rintro r w8 ⟨LB8, ld8, rfl, RL8, b8⟩
    have C8 := C7.trans b8
    (try clear x0 x1 x2)
    obtain ⟨x0, x1, x2, _⟩ := (BA1.out.fr (F3.trans C8)).three
    go_wp2_with fail
    refine (equalAns LA LB8 lc ld8 L L _ (HRL.out _ C8) RL8 hLl hLl HLR.out HLR.out).mono ?_
    rw [show decide (L = L) = true from decide_eq_true rfl]
    rintro r w9 ⟨rfl, b9⟩
    go_wp2
    go_ret
    exact ⟨rfl, F2.trans (F3.trans (C8.trans b9))⟩
  have HVF := hid hvf
  have SM := hid (ans_small H4.out HV.out hvf HSM.out)
  have EA : ansO q hd bd fs = ans q hd bd fs := ansO_yes HV.out hvf
  rw [EA] at EL
  clear EA hvf
  obtain ⟨j, hj, hjm⟩ : ∃ j : Nat, j ≤ fs.length ∧ (ys.length : Int).tmod ((fs.length : Int) + 1) = (j : Int) := ⟨ys.length % (fs.length + 1), by have := Nat.mod_lt ys.length (show 0 < fs.length + 1 by omega); omega, by rw [show ((fs.length : Int) + 1) = ((fs.length + 1 : Nat) : Int) by simp, ← Int.ofNat_tmod]⟩
  have hn0 : (((fs.length : Int) + 1) == 0) = false := by rw [beq_eq_false_iff_ne]; omega
  have hn0' : ¬ ((fs.length : Int) + 1 = 0) := by omega
  have hjc : j ≤ cap := by omega
  have hjc' : (j : Int) ≤ (cap : Int) := by omega
  have keepQ : ∀ W, Fr W2 W → W.cell? ⟨s, 0, none⟩ = some (.int .i64 q) ∧ W.cell? ⟨s, 1, none⟩ = some (.slice B0 hd.length b0) ∧ W.cell? ⟨s, 2, none⟩ = some (.slice B1 bd.length b1) := fun W h => by
    obtain ⟨x0, x1, x2, _⟩ := (BA1.out.fr h).three
    exact ⟨x0, x1, x2⟩
  clear x0 x1 x2
  obtain ⟨P, eP⟩ : ∃ P, fs.take j = P := ⟨_, rfl⟩
  have lP : P.length = j := by rw [← eP]; simp; omega
  have RP := fun W (h : Fr W2 W) => rd_take (k := j) (IN2.out.fr h).rf
  rw [eP] at RP
  obtain ⟨M, eM⟩ : ∃ M, ansO q hd bd P = M := ⟨_, rfl⟩
  have HM := hid (show ∀ x ∈ M, x ∈ L ∧ x.length ≤ 1000 from fun x hx => by
    rw [← eM] at hx
    refine ⟨?_, ansO_row hx⟩
    rw [← EL.out]
    exact ansO_sub HV.out SM.out (by rw [← eP]; exact List.take_sublist _ _) x hx)
  have hMl : M.length ≤ 1000000 := by rw [← eM]; exact Nat.le_trans ansO_len (by decide)
  have IA := hid (fun W (h : Fr W2 W) => implAnsL q B0 b0 hd B1 b1 bd (some ⟨g, 0, none⟩) cap P W (IN2.out.fr h).r0 (IN2.out.fr h).r1 (RP W h) (by omega) (by omega) (by omega))
  rw [lP, eM] at IA
  clear eP eM RP
  go_wp2_with fail
  refine wp_region_T (fun W => W.cell? ⟨s, 0, none⟩ = some (.int .i64 q) ∧ W.cell? ⟨s, 1, none⟩ = some (.slice B0 hd.length b0) ∧ W.cell? ⟨s, 2, none⟩ = some (.slice B1 bd.length b1)) 5 (by kernel_rfl) ?_
  have D7 : Fr W2 w7.drew := F7.drew
  have HS := keepQ _ D7
  ((refine wpAnyT_take 0 (v := ?_) rfl (by kernel_rfl) (fun _ _ _ h => h) (Or.inl ⟨by rfl, ?_⟩) (by assumption) ?_; rotate_left; (focus (intro W hSw; (try dsimp only at hSw); go_simp; (try with_reducible rfl); done)); (try simp only [Act.put, List.setIfInBounds_toArray, List.set_cons_zero, List.set_cons_succ])); (refine wpAnyT_take 1 (v := ?_) rfl (by kernel_rfl) (fun _ _ _ h => h) (Or.inl ⟨by rfl, ?_⟩) (by assumption) ?_; rotate_left; (focus (intro W hSw; (try dsimp only at hSw); go_simp; (try with_reducible rfl); done)); (try simp only [Act.put, List.setIfInBounds_toArray, List.set_cons_zero, List.set_cons_succ])); (refine wpAnyT_take 2 (v := ?_) rfl (by kernel_rfl) (fun _ _ _ h => h) (Or.inl ⟨by rfl, ?_⟩) (by assumption) ?_; rotate_left; (focus (intro W hSw; (try dsimp only at hSw); go_simp; (try with_reducible rfl); done)); (try simp only [Act.put, List.setIfInBounds_toArray, List.set_cons_zero, List.set_cons_succ])); (refine wpAnyT_take 3 (v := ?_) rfl (by kernel_rfl) (fun _ _ _ h => h) (Or.inl ⟨by rfl, ?_⟩) (by assumption) ?_; rotate_left; (focus (intro W hSw; (try dsimp only at hSw); go_simp; (try with_reducible rfl); done)); (try simp only [Act.put, List.setIfInBounds_toArray, List.set_cons_zero, List.set_cons_succ])))
  ((refine wpAnyT_one 4 rfl (by kernel_rfl) (fun K hK => ?_); go_simp))
  go_at_call 26
  refine (IA.out _ (by (repeat (first | with_reducible exact Fr.refl _ | with_reducible assumption | with_reducible refine Fr.alloc ?_ _ | with_reducible refine Fr.drew ?_ | with_reducible refine Fr.drewN ?_ _ | (with_reducible refine Fr.setNew2 ?_ ?_ _; · (simp <;> omega)) | with_reducible refine Fr.trans ?_ (by assumption))))).mono ?_
  rintro r w8 ⟨FA, f8, rfl, RF, b8⟩
  have D8 := D7.trans b8
  have HS := keepQ _ D8
  ((try dsimp only); refine hK.out _ _ (fun _ => HS) (fun _ => ?_); clear hK K; (try simp only [Act.put, List.setIfInBounds_toArray, List.set_cons_zero, List.set_cons_succ]))
  ((refine wpAnyT_one 5 rfl (by kernel_rfl) (fun K hK => ?_); go_simp))
  ((try dsimp only); refine hK.out _ _ (fun h => absurd rfl h) (fun _ => ?_); clear hK K; (try simp only [Act.put, List.setIfInBounds_toArray, List.set_cons_zero, List.set_cons_succ]); refine wpAnyT_done (by kernel_rfl) ?_ _)
  have HRF := hid RF
  have C8 : Fr w3 w8 := (C7.trans (Fr.refl _).drew).trans b8
  have F28 := F2.trans D8
  clear RF HS D7 D8 b8 keepQ hn0 hn0' hjm
  go_wp2
  go_loopw [10] (fun t wr => ∃ k : Nat, k ≤ M.length ∧ t = .int .i64 k ∧ Hid (Fr w8 wr)) (fun t _ => M.length - (intOf t).toNat)
  case atStart => exact ⟨0, by omega, rfl, hid (by (repeat (first | with_reducible exact Fr.refl _ | with_reducible assumption | with_reducible refine Fr.alloc ?_ _ | with_reducible refine Fr.drew ?_ | with_reducible refine Fr.drewN ?_ _ | (with_reducible refine Fr.setNew2 ?_ ?_ _; · (simp <;> omega)) | with_reducible refine Fr.trans ?_ (by assumption))))⟩
  case round =>
    obtain ⟨k, hk, rfl, hF⟩ := hrel
    by_cases hlt : k < M.length
    · obtain ⟨xb, xo, hA, A9, a9, d0, rA⟩ := HRF.out.at_ hlt
      replace d0 := hF.out.cell d0
      simp only [Nat.mul_one, Nat.add_zero] at d0
      subst hA
      have hm := HM.out _ (List.getElem_mem hlt)
      obtain ⟨x, ex⟩ : ∃ x, M[k] = x := ⟨_, rfl⟩
      rw [ex] at d0 rA hm
      have RA := hid (rA.fr rdInt_mono hF.out)
      have XL := hm.2
      have hd := decide_eq_true hm.1
      clear rA hm ex
      go_wp2_with fail
      refine (hasAns LA A9 lc a9 L x _ (HRL.out _ (C8.trans hF.out)) RA.out hLl HLR.out XL).mono ?_
      rintro e w9 ⟨rfl, hq⟩
      rw [hd]
      have F9 := hid (hF.out.trans hq)
      clear hF d0 hq RA
      go_wp2
      go_roundw
      case rel => exact ⟨k + 1, by omega, by go_num, F9⟩
      case measure => simp [intOf]; omega
    · obtain rfl : k = M.length := by omega
      go_wp2
      go_ret
      exact ⟨rfl, F28.trans hF.out⟩
end Go.Proofs.Ytahclhldpcboeaa
