/- Walk of the law FnAnswersAtoms. -/
import Derived.Test.YtahclhldpcboeaaFctG
import Derived.Test.YtahclhldpcboeaaEqA
import Derived.Test.YtahclhldpcboeaaLaw
namespace Go.Proofs.Ytahclhldpcboeaa
open Go Go.RowKit
set_option maxRecDepth 100000 in
set_option maxHeartbeats 4000000 in
theorem walkFnAnswersAtoms (A0 : Option Addr) (c0 : Nat) (xs : List Nat) (A1 : Option Addr) (c1 : Nat) (ys : List Nat) (w : World) (hx : RdSl rdByte w.cell? 1 A0 xs) (_ : xs.length ≤ maxLen) (hc : xs.length ≤ c0) (_ : RdSl rdByte w.cell? 1 A1 ys) (hly : ys.length ≤ maxLen) (_ : ys.length ≤ c1) :
    Calls Try.prog 8 #[.slice A0 xs.length c0, .slice A1 ys.length c1] w fun r w' => r = .returned (.bool true) ∧ Fr w w' := by
  have HX := hid hx
  clear hx
  by_cases hlen : (1048576 : Int) < xs.length
  · have e0 : decide ((1048576 : Int) < (xs.length : Int)) = true := by simp; omega
    go_enter Try.func8, Try.ntmps8
    go_wp2
    go_ret
    exact ⟨rfl, Fr.refl _⟩
  have e0 : decide ((1048576 : Int) < (xs.length : Int)) = false := by simp; omega
  have hl : xs.length ≤ 1048576 := by omega
  clear hlen
  by_cases hlen : (1048576 : Int) < ys.length
  · have e1 : decide ((1048576 : Int) < (ys.length : Int)) = true := by simp; omega
    go_enter Try.func8, Try.ntmps8
    go_wp2
    go_ret
    exact ⟨rfl, Fr.refl _⟩
  have e1 : decide ((1048576 : Int) < (ys.length : Int)) = false := by simp; omega
  have hl2 : ys.length ≤ 1048576 := by omega
  clear hlen hly
  go_enter Try.func8, Try.ntmps8
  go_wp2_with fail
  refine (drawAnswers A0 c0 xs _ HX.out hl hc).mono ?_
  rintro e w1 ⟨q, hd, bd, fs, B0, b0, B1, b1, g, cap, rfl, ⟨OH, OB, OF⟩, ⟨h0, h4, l0, l1, l9, hsm⟩, F1⟩
  have IN1 := hid (AIn.mk' OH OB OF)
  have HSM := hid hsm
  have H4 := hid h4
  have BA1 := hid (Blk.new w1 30 #[.int .i64 q, .slice B0 hd.length b0, .slice B1 bd.length b1])
  have G1 : Fr w1 (w1.alloc (.cells #[.int .i64 q, .slice B0 hd.length b0, .slice B1 bd.length b1] 30)) := (Fr.refl _).alloc _
  clear OH OB OF HX hsm h4
  go_wp2_with fail
  refine absW fun W2 hW2 => ?_
  rw [← hW2] at BA1 G1
  obtain ⟨s, es⟩ : ∃ s, w1.heap.size = s := ⟨_, rfl⟩
  rw [es] at BA1 ⊢
  clear hW2 es
  have IN2 := hid (IN1.out.fr G1)
  have F2 := F1.trans G1
  clear IN1 G1
  have hcl := IN2.out.l1
  have hcm := IN2.out.m1
  have hfl := IN2.out.lf
  have hfm := IN2.out.mf
  obtain ⟨L, eL⟩ : ∃ L, ansO q hd bd fs = L := ⟨_, rfl⟩
  have EL := hid eL
  have hLl : L.length ≤ 1000000 := by rw [← eL]; exact Nat.le_trans ansO_len (by decide)
  have HLR := hid (fun x (h : x ∈ L) => ansO_row (by rw [eL]; exact h : x ∈ ansO q hd bd fs))
  clear eL
  refine (implAnsL q B0 b0 hd B1 b1 bd _ cap fs _ IN2.out.r0 IN2.out.r1 IN2.out.rf (by omega) (by omega) (by omega)).mono ?_
  rw [EL.out]
  rintro r w3 ⟨LA, lc, rfl, RL, b3⟩
  have F3 := b3
  have HRL := hid (fun W (h : Fr w3 W) => RL.fr rdIL_mono h)
  clear RL
  (try clear x0 x1 x2)
  obtain ⟨x0, x1, x2, _⟩ := (BA1.out.fr (F3)).three
  go_wp2_with fail
  refine (specAnsL q B0 b0 hd B1 b1 bd _ cap fs _ (IN2.out.fr F3).r0 (IN2.out.fr F3).r1 (IN2.out.fr F3).rf (by omega) (by omega) (by omega)).mono ?_
  rw [EL.out]
  rintro r w4 ⟨LB4, ld4, rfl, RL4, b4⟩
  have C4 : Fr w3 w4 := b4
  have F4 := F3.trans C4
  (try clear x0 x1 x2)
  obtain ⟨x0, x1, x2, _⟩ := (BA1.out.fr (F4)).three
  go_wp2_with fail
  refine (equalAns LA LB4 lc ld4 L L _ (HRL.out _ C4) RL4 hLl hLl HLR.out HLR.out).mono ?_
  rw [show decide (L = L) = true from decide_eq_true rfl]
  rintro r w5 ⟨rfl, b5⟩
  have C5 := C4.trans b5
  have F5 := F3.trans C5
  clear RL4 C4 F4 b4 b5
  (try clear x0 x1 x2)
  obtain ⟨x0, x1, x2, _⟩ := (BA1.out.fr (F5)).three
  go_wp2_with fail
  refine (implValidRule q B0 b0 hd B1 b1 bd _ (IN2.out.fr F5).r0 (IN2.out.fr F5).r1 (by omega) (by omega)).mono ?_
  rintro r w6 ⟨rfl, b6⟩
  have C6 := C5.trans b6
  have F6 := F3.trans C6
  (try clear x0 x1 x2)
  obtain ⟨x0, x1, x2, _⟩ := (BA1.out.fr (F6)).three
  clear C5 F5 b6
  cases hv : vrule q hd bd
  · go_wp2_with fail
    refine (specAnsL q B0 b0 hd B1 b1 bd _ cap fs _ (IN2.out.fr F6).r0 (IN2.out.fr F6).r1 (IN2.out.fr F6).rf (by omega) (by omega) (by omega)).mono ?_
    rw [EL.out]
    rintro r w8 ⟨LB8, ld8, rfl, RL8, b8⟩
    have C8 := C6.trans b8
    (try clear x0 x1 x2)
    obtain ⟨x0, x1, x2, _⟩ := (BA1.out.fr (F3.trans C8)).three
    go_wp2_with fail
    refine (equalAns LA LB8 lc ld8 L L _ (HRL.out _ C8) RL8 hLl hLl HLR.out HLR.out).mono ?_
    rw [show decide (L = L) = true from decide_eq_true rfl]
    rintro r w9 ⟨rfl, b9⟩
    go_wp2
    go_ret
    exact ⟨rfl, F2.trans (F3.trans (C8.trans b9))⟩
  have HV := hid hv
  clear hv
  go_wp2_with fail
  refine (implVFacts _ cap fs _ (IN2.out.fr F6).rf (by omega)).mono ?_
  rintro r w7 ⟨rfl, b7⟩
  have C7 := C6.trans b7
  have F7 := F3.trans C7
  (try clear x0 x1 x2)
  obtain ⟨x0, x1, x2, _⟩ := (BA1.out.fr (F7)).three
  clear C6 F6 b7
  cases hvf : vfacts fs
  · go_wp2_with fail
    refine (specAnsL q B0 b0 hd B1 b1 bd _ cap fs _ (IN2.out.fr F7).r0 (IN2.out.fr F7).r1 (IN2.out.fr F7).rf (by omega) (by omega) (by omega)).mono ?_
    rw [EL.out]
    rintro r w8 ⟨LB8, ld8, rfl, RL8, b8⟩
    have C8 := C7.trans b8
    (try clear x0 x1 x2)
    obtain ⟨x0, x1, x2, _⟩ := (BA1.out.fr (F3.trans C8)).three
    go_wp2_with fail
    refine (equalAns LA LB8 lc ld8 L L _ (HRL.out _ C8) RL8 hLl hLl HLR.out HLR.out).mono ?_
    rw [show decide (L = L) = true from decide_eq_true rfl]
    rintro r w9 ⟨rfl, b9⟩
    go_wp2
    go_ret
    exact ⟨rfl, F2.trans (F3.trans (C8.trans b9))⟩
  have HVF := hid hvf
  have SM := hid (ans_small H4.out HV.out hvf HSM.out)
  have EA : ansO q hd bd fs = ans q hd bd fs := ansO_yes HV.out hvf
  rw [EA] at EL
  clear EA hvf
  have keepQ : ∀ W, Fr W2 W → W.cell? ⟨s, 0, none⟩ = some (.int .i64 q) ∧ W.cell? ⟨s, 1, none⟩ = some (.slice B0 hd.length b0) ∧ W.cell? ⟨s, 2, none⟩ = some (.slice B1 bd.length b1) := fun W h => by
    obtain ⟨x0, x1, x2, _⟩ := (BA1.out.fr h).three
    exact ⟨x0, x1, x2⟩
  clear x0 x1 x2
  obtain ⟨_, _, _, hb1, _, _⟩ := vrule_parts HV.out
  obtain ⟨j, hj, hjm⟩ : ∃ j : Nat, j < bd.length ∧ (ys.length : Int).tmod (bd.length : Int) = (j : Int) := ⟨ys.length % bd.length, Nat.mod_lt _ (by omega), by rw [← Int.ofNat_tmod]⟩
  have hn0 : ((bd.length : Int) == 0) = false := by rw [beq_eq_false_iff_ne]; omega
  have hn0' : ¬ ((bd.length : Int) = 0) := by omega
  have hnil : ¬ (bd = []) := by intro e; rw [e] at hb1; simp at hb1
  have q1 : (0 : Int) ≤ 1 + (j : Int) := by omega
  have q2 : 1 + (j : Int) ≤ (b1 : Int) := by omega
  have q3 : IntKind.i64.wrap (1 + (j : Int)) = 1 + (j : Int) := by rw [IntKind.wrap_i64]; omega
  obtain ⟨P, eP⟩ : ∃ P, bd.take (1 + j) = P := ⟨_, rfl⟩
  have lP : P.length = 1 + j := by rw [← eP]; simp; omega
  have RP := fun W (h : Fr W2 W) => rd_take (k := 1 + j) (IN2.out.fr h).r1
  rw [eP] at RP
  obtain ⟨M, eM⟩ : ∃ M, ansO q hd P fs = M := ⟨_, rfl⟩
  have HM := hid (show vrule q hd P = true → ∀ x ∈ L, x ∈ M from fun h2 x hx => by
    rw [← eM, ansO_yes h2 HVF.out]
    rw [← EL.out] at hx
    exact ans_atoms HV.out h2 SM.out.1 SM.out.2.1 SM.out.2.2 (fun a ha => List.mem_of_mem_take (by rw [eP]; exact ha : a ∈ bd.take (1 + j))) x hx)
  have hMl : M.length ≤ 1000000 := by rw [← eM]; exact Nat.le_trans ansO_len (by decide)
  have HMR := hid (fun x (h : x ∈ M) => ansO_row (by rw [eM]; exact h : x ∈ ansO q hd P fs))
  have VR := hid (fun W (h : Fr W2 W) => implValidRule q B0 b0 hd B1 b1 P W (IN2.out.fr h).r0 (RP W h) (by omega) (by omega))
  have IA := hid (fun W (h : Fr W2 W) => implAnsL q B0 b0 hd B1 b1 P (some ⟨g, 0, none⟩) cap fs W (IN2.out.fr h).r0 (RP W h) (IN2.out.fr h).rf (by omega) (by omega) (by omega))
  rw [lP] at VR IA
  rw [eM] at IA
  clear eP eM RP hb1
  go_wp2_with fail
  refine wp_region_T (fun W => W.cell? ⟨s, 0, none⟩ = some (.int .i64 q) ∧ W.cell? ⟨s, 1, none⟩ = some (.slice B0 hd.length b0) ∧ W.cell? ⟨s, 2, none⟩ = some (.slice B1 bd.length b1)) 16 (by kernel_rfl) ?_
  have D7 : Fr W2 w7.drew := F7.drew
  have HS := keepQ _ D7
  ((refine wpAnyT_take 0 (v := ?_) rfl (by kernel_rfl) (fun _ _ _ h => h) (Or.inl ⟨by rfl, ?_⟩) (by assumption) ?_; rotate_left; (focus (intro W hSw; (try dsimp only at hSw); go_simp; (try with_reducible rfl); done)); (try simp only [Act.put, List.setIfInBounds_toArray, List.set_cons_zero, List.set_cons_succ])); (refine wpAnyT_take 1 (v := ?_) rfl (by kernel_rfl) (fun _ _ _ h => h) (Or.inl ⟨by rfl, ?_⟩) (by assumption) ?_; rotate_left; (focus (intro W hSw; (try dsimp only at hSw); go_simp; (try with_reducible rfl); done)); (try simp only [Act.put, List.setIfInBounds_toArray, List.set_cons_zero, List.set_cons_succ])); (refine wpAnyT_take 2 (v := ?_) rfl (by kernel_rfl) (fun _ _ _ h => h) (Or.inl ⟨by rfl, ?_⟩) (by assumption) ?_; rotate_left; (focus (intro W hSw; (try dsimp only at hSw); go_simp; (try with_reducible rfl); done)); (try simp only [Act.put, List.setIfInBounds_toArray, List.set_cons_zero, List.set_cons_succ])); (refine wpAnyT_take 3 (v := ?_) rfl (by kernel_rfl) (fun _ _ _ h => h) (Or.inl ⟨by rfl, ?_⟩) (by assumption) ?_; rotate_left; (focus (intro W hSw; (try dsimp only at hSw); go_simp; (try with_reducible rfl); done)); (try simp only [Act.put, List.setIfInBounds_toArray, List.set_cons_zero, List.set_cons_succ])); (refine wpAnyT_take 4 (v := ?_) rfl (by kernel_rfl) (fun _ _ _ h => h) (Or.inl ⟨by rfl, ?_⟩) (by assumption) ?_; rotate_left; (focus (intro W hSw; (try dsimp only at hSw); go_simp; (try with_reducible rfl); done)); (try simp only [Act.put, List.setIfInBounds_toArray, List.set_cons_zero, List.set_cons_succ])); (refine wpAnyT_take 5 (v := ?_) rfl (by kernel_rfl) (fun _ _ _ h => h) (Or.inl ⟨by rfl, ?_⟩) (by assumption) ?_; rotate_left; (focus (intro W hSw; (try dsimp only at hSw); go_simp; (try with_reducible rfl); done)); (try simp only [Act.put, List.setIfInBounds_toArray, List.set_cons_zero, List.set_cons_succ])); (refine wpAnyT_take 6 (v := ?_) rfl (by kernel_rfl) (fun _ _ _ h => h) (Or.inl ⟨by rfl, ?_⟩) (by assumption) ?_; rotate_left; (focus (intro W hSw; (try dsimp only at hSw); go_simp; (try with_reducible rfl); done)); (try simp only [Act.put, List.setIfInBounds_toArray, List.set_cons_zero, List.set_cons_succ])); (refine wpAnyT_take 7 (v := ?_) rfl (by kernel_rfl) (fun _ _ _ h => h) (Or.inl ⟨by rfl, ?_⟩) (by assumption) ?_; rotate_left; (focus (intro W hSw; (try dsimp only at hSw); go_simp; (try with_reducible rfl); done)); (try simp only [Act.put, List.setIfInBounds_toArray, List.set_cons_zero, List.set_cons_succ])); (refine wpAnyT_take 8 (v := ?_) rfl (by kernel_rfl) (fun _ _ _ h => h) (Or.inl ⟨by rfl, ?_⟩) (by assumption) ?_; rotate_left; (focus (intro W hSw; (try dsimp only at hSw); go_simp; (try with_reducible rfl); done)); (try simp only [Act.put, List.setIfInBounds_toArray, List.set_cons_zero, List.set_cons_succ])); (refine wpAnyT_take 9 (v := ?_) rfl (by kernel_rfl) (fun _ _ _ h => h) (Or.inl ⟨by rfl, ?_⟩) (by assumption) ?_; rotate_left; (focus (intro W hSw; (try dsimp only at hSw); go_simp; (try with_reducible rfl); done)); (try simp only [Act.put, List.setIfInBounds_toArray, List.set_cons_zero, List.set_cons_succ])); (refine wpAnyT_take 10 (v := ?_) rfl (by kernel_rfl) (fun _ _ _ h => h) (Or.inl ⟨by rfl, ?_⟩) (by assumption) ?_; rotate_left; (focus (intro W hSw; (try dsimp only at hSw); go_simp; (try with_reducible rfl); done)); (try simp only [Act.put, List.setIfInBounds_toArray, List.set_cons_zero, List.set_cons_succ])))
  ((refine wpAnyT_take 11 (v := ?_) rfl (by kernel_rfl) (fun _ _ _ h => h) (Or.inl ⟨by rfl, ?_⟩) (by assumption) ?_; rotate_left; (focus (intro W hSw; (try dsimp only at hSw); go_simp; (try with_reducible rfl); done)); (try simp only [Act.put, List.setIfInBounds_toArray, List.set_cons_zero, List.set_cons_succ])); (refine wpAnyT_take 12 (v := ?_) rfl (by kernel_rfl) (fun _ _ _ h => h) (Or.inl ⟨by rfl, ?_⟩) (by assumption) ?_; rotate_left; (focus (intro W hSw; (try dsimp only at hSw); go_simp; (try with_reducible rfl); done)); (try simp only [Act.put, List.setIfInBounds_toArray, List.set_cons_zero, List.set_cons_succ])); (refine wpAnyT_take 13 (v := ?_) rfl (by kernel_rfl) (fun _ _ _ h => h) (Or.inl ⟨by rfl, ?_⟩) (by assumption) ?_; rotate_left; (focus (intro W hSw; (try dsimp only at hSw); go_simp; (try with_reducible rfl); done)); (try simp only [Act.put, List.setIfInBounds_toArray, List.set_cons_zero, List.set_cons_succ])); (refine wpAnyT_take 14 (v := ?_) rfl (by kernel_rfl) (fun _ _ _ h => h) (Or.inl ⟨by rfl, ?_⟩) (by assumption) ?_; rotate_left; (focus (intro W hSw; (try dsimp only at hSw); go_simp; (try with_reducible rfl); done)); (try simp only [Act.put, List.setIfInBounds_toArray, List.set_cons_zero, List.set_cons_succ])))
  ((refine wpAnyT_one 15 rfl (by kernel_rfl) (fun K hK => ?_); go_simp))
  have HS := keepQ _ (D7.alloc (.cells #[.int .i64 0, .slice none 0 0, .slice none 0 0] 30))
  ((try dsimp only); refine hK.out _ _ (fun _ => HS) (fun _ => ?_); clear hK K; (try simp only [Act.put, List.setIfInBounds_toArray, List.set_cons_zero, List.set_cons_succ]))
  ((refine wpAnyT_one 16 rfl (by kernel_rfl) (fun K hK => ?_); go_simp))
  ((try dsimp only); refine hK.out _ _ (fun h => absurd rfl h) (fun _ => ?_); clear hK K; (try simp only [Act.put, List.setIfInBounds_toArray, List.set_cons_zero, List.set_cons_succ]); refine wpAnyT_done (by kernel_rfl) ?_ _)
  obtain ⟨x0, x1, x2, _⟩ := (BA1.out.fr F7).three
  have hg3 := (BA1.out.fr F7).lt
  go_wp2_with fail
  refine absW fun W8 hW8 => ?_
  have BP8 : Blk W8 w7.heap.size 30 #[.int .i64 q, .slice B0 hd.length b0, .slice B1 (1 + j) b1] := by rw [hW8]; exact (Blk.new w7 _ _).fr (Fr.refl _).drew
  have G8 : Fr w7 W8 := by rw [hW8]; exact ((Fr.refl _).alloc _).drew
  clear hW8 x0 x1 x2 HS keepQ D7 hg3
  obtain ⟨g8, eg8⟩ : ∃ g, w7.heap.size = g := ⟨_, rfl⟩
  rw [eg8] at BP8 ⊢
  clear eg8
  have F8 := F7.trans G8
  have C8 := C7.trans G8
  refine (VR.out _ F8).mono ?_
  rintro r w9 ⟨rfl, b9⟩
  have F9 := F8.trans b9
  have C9 := C8.trans b9
  obtain ⟨y0, y1, y2, _⟩ := (BP8.fr b9).three
  cases hv2 : vrule q hd P
  · go_wp2
    go_ret
    exact ⟨rfl, F2.trans F9⟩
  · have HM2 := hid (HM.out hv2)
    clear hv2 HM
    go_wp2_with fail
    refine (IA.out _ F9).mono ?_
    rintro r w10 ⟨FA, f10, rfl, RF, b10⟩
    have C10 := C9.trans b10
    have HRF := hid RF
    have F10 := F2.trans (F9.trans b10)
    clear RF y0 y1 y2
    go_wp2
    go_loopw [10] (fun t wr => ∃ k : Nat, k ≤ L.length ∧ t = .int .i64 k ∧ Hid (Fr w10 wr)) (fun t _ => L.length - (intOf t).toNat)
    case atStart => exact ⟨0, by omega, rfl, hid (by (repeat (first | with_reducible exact Fr.refl _ | with_reducible assumption | with_reducible refine Fr.alloc ?_ _ | with_reducible refine Fr.drew ?_ | with_reducible refine Fr.drewN ?_ _ | (with_reducible refine Fr.setNew2 ?_ ?_ _; · (simp <;> omega)) | with_reducible refine Fr.trans ?_ (by assumption))))⟩
    case round =>
      obtain ⟨k, hk, rfl, hF⟩ := hrel
      by_cases hlt : k < L.length
      · obtain ⟨xb, xo, hA, A9, a9, d0, rA⟩ := (HRL.out _ C10).at_ hlt
        replace d0 := hF.out.cell d0
        simp only [Nat.mul_one, Nat.add_zero] at d0
        subst hA
        have hm := HM2.out _ (List.getElem_mem hlt)
        have XL := HLR.out _ (List.getElem_mem hlt)
        obtain ⟨x, ex⟩ : ∃ x, L[k] = x := ⟨_, rfl⟩
        rw [ex] at d0 rA hm XL
        have RA := hid (rA.fr rdInt_mono hF.out)
        have hd := decide_eq_true hm
        clear rA hm ex
        go_wp2_with fail
        refine (hasAns FA A9 f10 a9 M x _ (HRF.out.fr rdIL_mono hF.out) RA.out hMl HMR.out XL).mono ?_
        rintro e w11 ⟨rfl, hq⟩
        rw [hd]
        have F9 := hid (hF.out.trans hq)
        clear hF d0 hq RA
        go_wp2
        go_roundw
        case rel => exact ⟨k + 1, by omega, by go_num, F9⟩
        case measure => simp [intOf]; omega
      · obtain rfl : k = L.length := by omega
        go_wp2
        go_ret
        exact ⟨rfl, F10.trans hF.out⟩
end Go.Proofs.Ytahclhldpcboeaa
