/- Walk of the law FnAnswersOrder. -/
import Derived.Test.YtahclhldpcboeaaFctG
import Derived.Test.YtahclhldpcboeaaEqA
import Derived.Test.YtahclhldpcboeaaLaw
namespace Go.Proofs.Ytahclhldpcboeaa
open Go Go.RowKit
/-- The query with reversed atoms, while it is made: its block is the first one behind w0. -/
def OSt (w0 w : World) (q : Int) (VH : Value) (cs : List Atom) (VB : Value) : Prop :=
  Blk w w0.heap.size 30 #[.int .i64 q, VH, VB] ∧ w.ownsRow w0.heap.size 60 3 VB cs.length (cs.flatMap cellsA) ∧ Fr w0 w
theorem OSt.next {w0 w4 w5 : World} {q : Int} {o : Obj} {VH VB : Value} {cs cs' : List Atom} {vA : Option Addr} {vc : Nat} (h : OSt w0 w4 q VH cs VB) (hO : w5.ownsRow w0.heap.size 60 3 (.slice vA cs'.length vc) cs'.length (cs'.flatMap cellsA)) (hg : (w4.alloc o).grownBy w5 VB.ownBlock) :
    OSt w0 (w5.setCell ⟨w0.heap.size, 2, none⟩ (.slice vA cs'.length vc)) q VH cs' (.slice vA cs'.length vc) := by
  obtain ⟨hB, hE, hF⟩ := h
  have B5 := blk_grown (hB.alloc o) hg (own_ne hE hB (by decide))
  have hEa := own_fr hE ((Fr.refl w4).alloc o)
  exact ⟨B5.set_ 2 _, own_set hO (own_ne hO B5 (by decide)), (Fr.grown (hF.alloc o) hg hEa).setNew (Nat.le_refl _) _⟩
theorem OSt.fr {w0 w w' : World} {q : Int} {VH VB : Value} {cs : List Atom} (h : OSt w0 w q VH cs VB) (hf : Fr w w') : OSt w0 w' q VH cs VB := ⟨h.1.fr hf, own_fr h.2.1 hf, h.2.2.trans hf⟩
theorem drop_rev {bd : List Atom} {i : Nat} (h : i < bd.length) : (bd.drop i).reverse = (bd.drop (i + 1)).reverse ++ [bd[i]] := by
  rw [List.drop_eq_getElem_cons h, List.reverse_cons]
theorem vrule_rev {q : Int} {hd : List Int} {bd : List Atom} (h : vrule q hd bd = true) : vrule q hd bd.reverse = true := by
  rw [← h]
  unfold vrule
  simp
attribute [-go_sem] Builtin.append_
set_option maxRecDepth 100000 in
set_option maxHeartbeats 4000000 in
theorem walkFnAnswersOrder (A0 : Option Addr) (c0 : Nat) (xs : List Nat) (w : World) (hx : RdSl rdByte w.cell? 1 A0 xs) (_ : xs.length ≤ maxLen) (hc : xs.length ≤ c0) :
    Calls Try.prog 7 #[.slice A0 xs.length c0] w fun r w' => r = .returned (.bool true) ∧ Fr w w' := by
  have HX := hid hx
  clear hx
  by_cases hlen : (1048576 : Int) < xs.length
  · have e0 : decide ((1048576 : Int) < (xs.length : Int)) = true := by simp; omega
    go_enter Try.func7, Try.ntmps7
    go_wp2
    go_ret
    exact ⟨rfl, Fr.refl _⟩
  have e0 : decide ((1048576 : Int) < (xs.length : Int)) = false := by simp; omega
  have hl : xs.length ≤ 1048576 := by omega
  clear hlen
  go_enter Try.func7, Try.ntmps7
  go_wp2_with fail
  refine (drawAnswers A0 c0 xs _ HX.out hl hc).mono ?_
  rintro e w1 ⟨q, hd, bd, fs, B0, b0, B1, b1, g, cap, rfl, ⟨OH, OB, OF⟩, ⟨h0, h4, l0, l1, l9, hsm⟩, F1⟩
  have IN1 := hid (AIn.mk' OH OB OF)
  have HSM := hid hsm
  have H4 := hid h4
  have BA1 := hid (Blk.new w1 30 #[.int .i64 q, .slice B0 hd.length b0, .slice B1 bd.length b1])
  have G1 : Fr w1 (w1.alloc (.cells #[.int .i64 q, .slice B0 hd.length b0, .slice B1 bd.length b1] 30)) := (Fr.refl _).alloc _
  clear OH OB OF HX hsm h4
  go_wp2_with fail
  refine absW fun W2 hW2 => ?_
  rw [← hW2] at BA1 G1
  obtain ⟨s, es⟩ : ∃ s, w1.heap.size = s := ⟨_, rfl⟩
  rw [es] at BA1 ⊢
  clear hW2 es
  have IN2 := hid (IN1.out.fr G1)
  have F2 := F1.trans G1
  clear IN1 G1
  have hcl := IN2.out.l1
  have hcm := IN2.out.m1
  have hfl := IN2.out.lf
  have hfm := IN2.out.mf
  obtain ⟨L, eL⟩ : ∃ L, ansO q hd bd fs = L := ⟨_, rfl⟩
  have EL := hid eL
  have hLl : L.length ≤ 1000000 := by rw [← eL]; exact Nat.le_trans ansO_len (by decide)
  have HLR := hid (fun x (h : x ∈ L) => ansO_row (by rw [eL]; exact h : x ∈ ansO q hd bd fs))
  clear eL
  refine (implAnsL q B0 b0 hd B1 b1 bd _ cap fs _ IN2.out.r0 IN2.out.r1 IN2.out.rf (by omega) (by omega) (by omega)).mono ?_
  rw [EL.out]
  rintro r w3 ⟨LA, lc, rfl, RL, b3⟩
  have F3 := b3
  have HRL := hid (fun W (h : Fr w3 W) => RL.fr rdIL_mono h)
  clear RL
  (try clear x0 x1 x2)
  obtain ⟨x0, x1, x2, _⟩ := (BA1.out.fr (F3)).three
  go_wp2_with fail
  refine (specAnsL q B0 b0 hd B1 b1 bd _ cap fs _ (IN2.out.fr F3).r0 (IN2.out.fr F3).r1 (IN2.out.fr F3).rf (by omega) (by omega) (by omega)).mono ?_
  rw [EL.out]
  rintro r w4 ⟨LB4, ld4, rfl, RL4, b4⟩
  have C4 : Fr w3 w4 := b4
  have F4 := F3.trans C4
  (try clear x0 x1 x2)
  obtain ⟨x0, x1, x2, _⟩ := (BA1.out.fr (F4)).three
  go_wp2_with fail
  refine (equalAns LA LB4 lc ld4 L L _ (HRL.out _ C4) RL4 hLl hLl HLR.out HLR.out).mono ?_
  rw [show decide (L = L) = true from decide_eq_true rfl]
  rintro r w5 ⟨rfl, b5⟩
  have C5 := C4.trans b5
  have F5 := F3.trans C5
  clear RL4 C4 F4 b4 b5
  (try clear x0 x1 x2)
  obtain ⟨x0, x1, x2, _⟩ := (BA1.out.fr (F5)).three
  go_wp2_with fail
  refine (implValidRule q B0 b0 hd B1 b1 bd _ (IN2.out.fr F5).r0 (IN2.out.fr F5).r1 (by omega) (by omega)).mono ?_
  rintro r w6 ⟨rfl, b6⟩
  have C6 := C5.trans b6
  have F6 := F3.trans C6
  (try clear x0 x1 x2)
  obtain ⟨x0, x1, x2, _⟩ := (BA1.out.fr (F6)).three
  clear C5 F5 b6
  cases hv : vrule q hd bd
  · go_wp2_with fail
    refine (specAnsL q B0 b0 hd B1 b1 bd _ cap fs _ (IN2.out.fr F6).r0 (IN2.out.fr F6).r1 (IN2.out.fr F6).rf (by omega) (by omega) (by omega)).mono ?_
    rw [EL.out]
    rintro r w8 ⟨LB8, ld8, rfl, RL8, b8⟩
    have C8 := C6.trans b8
    (try clear x0 x1 x2)
    obtain ⟨x0, x1, x2, _⟩ := (BA1.out.fr (F3.trans C8)).three
    go_wp2_with fail
    refine (equalAns LA LB8 lc ld8 L L _ (HRL.out _ C8) RL8 hLl hLl HLR.out HLR.out).mono ?_
    rw [show decide (L = L) = true from decide_eq_true rfl]
    rintro r w9 ⟨rfl, b9⟩
    go_wp2
    go_ret
    exact ⟨rfl, F2.trans (F3.trans (C8.trans b9))⟩
  have HV := hid hv
  clear hv
  go_wp2_with fail
  refine (implVFacts _ cap fs _ (IN2.out.fr F6).rf (by omega)).mono ?_
  rintro r w7 ⟨rfl, b7⟩
  have C7 := C6.trans b7
  have F7 := F3.trans C7
  (try clear x0 x1 x2)
  obtain ⟨x0, x1, x2, _⟩ := (BA1.out.fr (F7)).three
  clear C6 F6 b7
  cases hvf : vfacts fs
  · go_wp2_with fail
    refine (specAnsL q B0 b0 hd B1 b1 bd _ cap fs _ (IN2.out.fr F7).r0 (IN2.out.fr F7).r1 (IN2.out.fr F7).rf (by omega) (by omega) (by omega)).mono ?_
    rw [EL.out]
    rintro r w8 ⟨LB8, ld8, rfl, RL8, b8⟩
    have C8 := C7.trans b8
    (try clear x0 x1 x2)
    obtain ⟨x0, x1, x2, _⟩ := (BA1.out.fr (F3.trans C8)).three
    go_wp2_with fail
    refine (equalAns LA LB8 lc ld8 L L _ (HRL.out _ C8) RL8 hLl hLl HLR.out HLR.out).mono ?_
    rw [show decide (L = L) = true from decide_eq_true rfl]
    rintro r w9 ⟨rfl, b9⟩
    go_wp2
    go_ret
    exact ⟨rfl, F2.trans (F3.trans (C8.trans b9))⟩
  have HVF := hid hvf
  have SM := hid (ans_small H4.out HV.out hvf HSM.out)
  have EA : ansO q hd bd fs = ans q hd bd fs := ansO_yes HV.out hvf
  rw [EA] at EL
  clear EA hvf
  have hs7 : w7.heap.size = w7.heap.size := rfl
  have BB := (Blk.new w7 30 #[.int .i64 q, .slice B0 hd.length b0, .slice none 0 0])
  have FB : Fr w7 (w7.alloc (.cells #[.int .i64 q, .slice B0 hd.length b0, .slice none 0 0] 30)) := (Fr.refl _).alloc _
  have S0 := hid (show OSt w7 (w7.alloc (.cells #[.int .i64 q, .slice B0 hd.length b0, .slice none 0 0] 30)) q (.slice B0 hd.length b0) [] (.slice none 0 0) from ⟨BB, World.ownsRow_nil _ _ _ _, FB⟩)
  have hb1 := (vrule_parts HV.out).2.2.2.1
  have x2' := (BA1.out.fr (F7.trans FB)).three.2.2.1
  clear BB FB hs7
  go_wp2
  generalize (w7.alloc (.cells #[.int .i64 q, .slice B0 hd.length b0, .slice none 0 0] 30)) = W8 at S0 x2' ⊢
  clear x0 x1 x2 x2'
  go_loopw [7] (fun t wr => ∃ (k : Nat) (y : Int), k ≤ bd.length ∧ t = .int .i64 y ∧ Hid (y = (k : Int) - 1 ∧ ∃ VB, OSt w7 wr q (.slice B0 hd.length b0) (bd.drop k).reverse VB)) (fun t _ => (intOf t + 1).toNat)
  case atStart => exact ⟨bd.length, _, Nat.le_refl _, rfl, hid ⟨rfl, _, by rw [List.drop_length]; exact S0.out⟩⟩
  case round =>
    clear S0
    obtain ⟨k, y, hk, rfl, hS⟩ := hrel
    obtain ⟨hy, VB, hO⟩ := hS.out
    clear hS
    have HO := hid hO
    clear hO
    have hFr : Fr w7 wr := HO.out.2.2
    obtain ⟨x0, x1, x2, _⟩ := (BA1.out.fr (F7.trans hFr)).three
    cases k with
    | succ i =>
      obtain rfl : y = (i : Int) := by omega
      clear hy
      have eg : decide ((0 : Int) ≤ (i : Int)) = true := by simp
      have hi : i < bd.length := by omega
      obtain ⟨ab, ao, hA, a0, a1, a2⟩ := IN2.out.r1.atom hi
      have F7r := F7.trans hFr
      obtain ⟨c0, c1, c2, _⟩ := HO.out.1.three
      obtain ⟨cs, ecs⟩ : ∃ cs, (bd.drop (i + 1)).reverse = cs := ⟨_, rfl⟩
      have hcl : cs.length + (i + 1) = bd.length := by rw [← ecs]; simp; omega
      rw [ecs] at HO
      have NX := hid (show (bd.drop i).reverse = cs ++ [bd[i]] by rw [drop_rev hi, ecs])
      obtain ⟨x, ex⟩ : ∃ x, bd[i] = x := ⟨_, rfl⟩
      rw [ex] at a0 a1 a2 NX
      have hblt := HO.out.1.lt
      obtain ⟨g8, eg8⟩ : ∃ g, w7.heap.size = g := ⟨_, rfl⟩
      have EG := hid eg8
      rw [eg8] at c0 c1 c2 hblt ⊢
      subst hA
      clear ecs ex eg8
      have hE := HO.out.2.1
      have hB := HO.out.1
      rw [EG.out] at hB
      have n1 := own_ne hE hB (by decide)
      have HE := hid hE
      have HB := hid hB
      clear hE hB c0 c1
      have keepQ : ∀ W, Fr wr W → W.cell? ⟨s, 2, none⟩ = some (.slice (some ⟨ab, ao, none⟩) bd.length b1) ∧ W.cell? ⟨g8, 2, none⟩ = some VB ∧ W.cell? ⟨ab, ao + i * 3, none⟩ = some (.int .i64 x.rel) ∧ W.cell? ⟨ab, ao + i * 3 + 1, none⟩ = some (.int .i64 x.x) ∧ W.cell? ⟨ab, ao + i * 3 + 2, none⟩ = some (.int .i64 x.y) := fun W h => ⟨h.cell x2, h.cell c2, (F7r.trans h).cell a0, (F7r.trans h).cell a1, (F7r.trans h).cell a2⟩
      go_wp2_with fail
      refine wp_region_T (fun W => W.cell? ⟨s, 2, none⟩ = some (.slice (some ⟨ab, ao, none⟩) bd.length b1) ∧ W.cell? ⟨g8, 2, none⟩ = some VB ∧ W.cell? ⟨ab, ao + i * 3, none⟩ = some (.int .i64 x.rel) ∧ W.cell? ⟨ab, ao + i * 3 + 1, none⟩ = some (.int .i64 x.x) ∧ W.cell? ⟨ab, ao + i * 3 + 2, none⟩ = some (.int .i64 x.y)) 10 (by kernel_rfl) ?_
      have HS := keepQ _ (Fr.refl wr).drew
      ((refine wpAnyT_take 0 (v := ?_) rfl (by kernel_rfl) (fun _ _ _ h => h) (Or.inl ⟨by rfl, ?_⟩) (by assumption) ?_; rotate_left; (focus (intro W hSw; (try dsimp only at hSw); go_simp; (try with_reducible rfl); done)); (try simp only [Act.put, List.setIfInBounds_toArray, List.set_cons_zero, List.set_cons_succ])); (refine wpAnyT_take 1 (v := ?_) rfl (by kernel_rfl) (fun _ _ _ h => h) (Or.inl ⟨by rfl, ?_⟩) (by assumption) ?_; rotate_left; (focus (intro W hSw; (try dsimp only at hSw); go_simp; (try with_reducible rfl); done)); (try simp only [Act.put, List.setIfInBounds_toArray, List.set_cons_zero, List.set_cons_succ])); (refine wpAnyT_take 2 (v := ?_) rfl (by kernel_rfl) (fun _ _ _ h => h) (Or.inl ⟨by rfl, ?_⟩) (by assumption) ?_; rotate_left; (focus (intro W hSw; (try dsimp only at hSw); go_simp; (try with_reducible rfl); done)); (try simp only [Act.put, List.setIfInBounds_toArray, List.set_cons_zero, List.set_cons_succ])); (refine wpAnyT_take 3 (v := ?_) rfl (by kernel_rfl) (fun _ _ _ h => h) (Or.inl ⟨by rfl, ?_⟩) (by assumption) ?_; rotate_left; (focus (intro W hSw; (try dsimp only at hSw); go_simp; (try with_reducible rfl); done)); (try simp only [Act.put, List.setIfInBounds_toArray, List.set_cons_zero, List.set_cons_succ])); (refine wpAnyT_take 4 (v := ?_) rfl (by kernel_rfl) (fun _ _ _ h => h) (Or.inl ⟨by rfl, ?_⟩) (by assumption) ?_; rotate_left; (focus (intro W hSw; (try dsimp only at hSw); go_simp; (try with_reducible rfl); done)); (try simp only [Act.put, List.setIfInBounds_toArray, List.set_cons_zero, List.set_cons_succ])); (refine wpAnyT_take 5 (v := ?_) rfl (by kernel_rfl) (fun _ _ _ h => h) (Or.inl ⟨by rfl, ?_⟩) (by assumption) ?_; rotate_left; (focus (intro W hSw; (try dsimp only at hSw); go_simp; (try with_reducible rfl); done)); (try simp only [Act.put, List.setIfInBounds_toArray, List.set_cons_zero, List.set_cons_succ])); (refine wpAnyT_take 6 (v := ?_) rfl (by kernel_rfl) (fun _ _ _ h => h) (Or.inl ⟨by rfl, ?_⟩) (by assumption) ?_; rotate_left; (focus (intro W hSw; (try dsimp only at hSw); go_simp; (try with_reducible rfl); done)); (try simp only [Act.put, List.setIfInBounds_toArray, List.set_cons_zero, List.set_cons_succ])))
      have HS := keepQ _ ((Fr.refl wr).drew.alloc (.cells #[.int .i64 x.rel, .int .i64 x.x, .int .i64 x.y] 60))
      ((refine wpAnyT_one 7 rfl (by kernel_rfl) (fun K hK => ?_); go_simp))
      ((try dsimp only); refine hK.out _ _ (fun _ => HS) (fun _ => ?_); clear hK K; (try simp only [Act.put, List.setIfInBounds_toArray, List.set_cons_zero, List.set_cons_succ]))
      ((refine wpAnyT_one 8 rfl (by kernel_rfl) (fun K hK => ?_); go_simp))
      refine upon_appG 28 60 (.agg #[.int .i64 0, .int .i64 0, .int .i64 0]) 3 24 Try.underlying28 (by kernel_rfl) rfl (by decide) (by decide) w7.heap.size VB cs.length (cs.flatMap cellsA) (own_fr HE.out ((Fr.refl _).drew.alloc _)) (by omega) (by simp; have := hFr.size; omega) wr.heap.size 1 1 [iv x.rel, iv x.x, iv x.y] rfl (by omega) (blk_new (by simp)) rfl ?_
      intro v9 w9 hO9 hg9 _
      obtain ⟨vA, vc, rfl⟩ := own_form hO9
      have B9 := blk_grown ((HB.out.fr (Fr.refl wr).drew).alloc (.cells #[.int .i64 x.rel, .int .i64 x.x, .int .i64 x.y] 60)) hg9 n1
      obtain ⟨k0, k1, k2, k3, k4, k5⟩ := B9.three
      have G9 : Fr W2 w9 := Fr.grown ((F7.trans hFr).drew.alloc _) hg9 (own_base (own_fr HE.out ((Fr.refl _).drew.alloc _)) (by have := F7.size; omega))
      have HS : w9.cell? ⟨s, 2, none⟩ = some (.slice (some ⟨ab, ao, none⟩) bd.length b1) ∧ w9.cell? ⟨g8, 2, none⟩ = some VB ∧ w9.cell? ⟨ab, ao + i * 3, none⟩ = some (.int .i64 x.rel) ∧ w9.cell? ⟨ab, ao + i * 3 + 1, none⟩ = some (.int .i64 x.x) ∧ w9.cell? ⟨ab, ao + i * 3 + 2, none⟩ = some (.int .i64 x.y) := ⟨(BA1.out.fr G9).three.2.2.1, B9.three.2.2.1, G9.cell a0, G9.cell a1, G9.cell a2⟩
      ((try dsimp only); refine hK.out _ _ (fun _ => HS) (fun _ => ?_); clear hK K; (try simp only [Act.put, List.setIfInBounds_toArray, List.set_cons_zero, List.set_cons_succ]))
      ((refine wpAnyT_take 9 (v := ?_) rfl (by kernel_rfl) (fun _ _ _ h => h) (Or.inl ⟨by rfl, ?_⟩) (by assumption) ?_; rotate_left; (focus (intro W hSw; (try dsimp only at hSw); go_simp; (try with_reducible rfl); done)); (try simp only [Act.put, List.setIfInBounds_toArray, List.set_cons_zero, List.set_cons_succ])))
      ((refine wpAnyT_one 10 rfl (by kernel_rfl) (fun K hK => ?_); go_simp))
      ((try dsimp only); refine hK.out _ _ (fun h => absurd rfl h) (fun _ => ?_); clear hK K; (try simp only [Act.put, List.setIfInBounds_toArray, List.set_cons_zero, List.set_cons_succ]); refine wpAnyT_done (by kernel_rfl) ?_ _)
      have S9 := hid (OSt.next (cs' := cs ++ [x]) (vA := vA) (vc := vc) (HO.out.fr (Fr.refl wr).drew) (by rw [List.length_append, List.flatMap_append]; exact hO9) hg9)
      rw [EG.out, ← NX.out] at S9
      have hln : (bd.drop i).reverse.length = cs.length + 1 := by rw [NX.out]; simp
      rw [hln] at S9
      clear hO9 hg9 HS B9 G9 n1 HB HE keepQ NX HO k0 k1 k2 k3 k4 k5
      go_wp2
      go_roundw
      case rel => exact ⟨i, _, by omega, rfl, hid ⟨by omega, _, S9.out⟩⟩
      case measure => (simp [intOf] <;> omega)
    | zero =>
      obtain rfl : y = -1 := by omega
      clear hy
      have HO' := HO.out
      rw [List.drop_zero] at HO'
      obtain ⟨P, eP⟩ : ∃ P, bd.reverse = P := ⟨_, rfl⟩
      have lP : P.length = bd.length := by rw [← eP]; simp
      have EP := hid eP
      rw [eP] at HO'
      obtain ⟨hB, hE, _⟩ := HO'
      obtain ⟨vA, vc, rfl⟩ := own_form hE
      obtain ⟨c0, c1, c2, _⟩ := hB.three
      have RP := hid ((own_A hE rfl).mono rdAtom_mono (fromB_le _ _))
      have IA := hid (implAnsL q B0 b0 hd vA vc P (some ⟨g, 0, none⟩) cap fs wr (IN2.out.fr (F7.trans hFr)).r0 RP.out (IN2.out.fr (F7.trans hFr)).rf (by omega) (by omega) (by omega))
      have EQ : ansO q hd P fs = L := by
        have h2 : vrule q hd P = true := by rw [← eP]; exact vrule_rev HV.out
        rw [ansO_yes h2 HVF.out, ← EL.out]
        exact ans_order HV.out h2 SM.out.1 SM.out.2.1 SM.out.2.2 (fun a => by rw [← eP]; simp)
      rw [EQ] at IA
      clear eP EQ HO hB hE
      rw [lP] at c2 IA
      clear lP
      go_wp2_with fail
      refine IA.out.mono ?_
      rintro r w10 ⟨FA, f10, rfl, RF, b10⟩
      go_wp2_with fail
      refine (equalAns FA LA f10 lc L L _ RF (HRL.out _ (C7.trans (hFr.trans b10))) hLl hLl HLR.out HLR.out).mono ?_
      rw [show decide (L = L) = true from decide_eq_true rfl]
      rintro r w11 ⟨rfl, b11⟩
      go_wp2
      go_ret
      exact ⟨rfl, F2.trans (F7.trans (hFr.trans (b10.trans b11)))⟩
end Go.Proofs.Ytahclhldpcboeaa
