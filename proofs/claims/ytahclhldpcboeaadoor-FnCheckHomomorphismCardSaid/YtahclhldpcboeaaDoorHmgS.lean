/- Walk of the reference's homomorphism. -/
import Derived.Test.YtahclhldpcboeaaDoorExtK
import Derived.Test.YtahclhldpcboeaaDoorHmgI
namespace Go.Proofs.YtahclhldpcboeaaDoor
open Go Go.RowKit

/-- What the reference's homomorphism answers. -/
def HsPost (w : World) (o : Option (List Int)) (r : Ending) (w' : World) : Prop := match o with
  | some m' => ∃ g c cs, r = .returned (.tuple #[.slice (some ⟨g, 0, none⟩) m'.length c, .bool true]) ∧ Blk w' g 3 cs ∧ IAt cs m' ∧ m'.length ≤ cs.size ∧ w.heap.size ≤ g
  | none => r = .returned (.tuple #[.slice none 0 0, .bool false])
/-- A matcher whose values are being made. -/
def MkV (W0 : World) (C : MC) (mb k : Nat) (wr : World) : Prop := ∃ V, Blk wr mb 82 #[.slice C.B C.bl C.bc, .slice C.F C.fl C.fc, V, .slice none 0 0, .int .i64 C.most] ∧ wr.ownsRow W0.heap.size 3 1 V k (List.replicate k (.int .i64 (-1))) ∧ W0.heap.size ≤ mb ∧ Fr W0 wr
theorem MkV.parts {W0 : World} {C : MC} {mb k : Nat} {wr : World} (h : MkV W0 C mb k wr) : ∃ A cap, wr.cell? ⟨mb, 2, none⟩ = some (.slice A k cap) ∧ wr.ownsRow W0.heap.size 3 1 (.slice A k cap) k (List.replicate k (.int .i64 (-1))) ∧ W0.heap.size ≤ wr.heap.size ∧ mb < wr.heap.size ∧ Fr W0 wr ∧
    ∀ w' v5 w5, Fr wr w' → w5.ownsRow W0.heap.size 3 1 v5 (k + 1) (List.replicate k (.int .i64 (-1)) ++ [.int .i64 (-1)]) → w'.grownBy w5 (Value.slice A k cap).ownBlock → w5.frozen? ⟨mb, 2, none⟩ = false ∧ (∃ u, w5.cell? ⟨mb, 2, none⟩ = some u) ∧ MkV W0 C mb (k + 1) (w5.setCell ⟨mb, 2, none⟩ v5) := by
  obtain ⟨V, hB, hO, hm, hF⟩ := h
  obtain ⟨A, cap, rfl⟩ := own_form hO
  refine ⟨A, cap, hB.cell 2, hO, hF.size, hB.lt, hF, fun w' v5 w5 hf h5 hg => ?_⟩
  have hO' := own_fr hO hf
  have B5 := mst_grown (hB.fr hf) hg (mrow_ne hO' (hB.fr hf) (by decide))
  have FW : Fr W0 w5 := Fr.grown (hF.trans hf) hg hO'
  refine ⟨B5.frozen 2, B5.cell_some (by simp), v5, by simpa using B5.set_ 2 v5, ?_, hm, FW.setNew hm _⟩
  rw [List.replicate_succ']
  exact mrow_set h5 (mrow_ne h5 B5 (by decide))
/-- Its values made, it is a matcher. -/
theorem MkV.mst {W0 : World} {C : MC} {mb n : Nat} {wr : World} (h : MkV W0 C mb n wr) (hn : 0 < n) : ∃ vb, MSt W0 C mb vb n wr (List.replicate n (-1)) [] := by
  obtain ⟨V, hB, hO, hm, hF⟩ := h
  rcases hO.2 with ⟨_, h0⟩ | ⟨g, cap, cur, rfl, hbg, hh, hnc, _, hs, ht⟩
  · omega
  · refine ⟨g, .slice none 0 0, cap, cur, [], hB, hh, fun i hi => ?_, by simp, by omega, hnc, own_nil, rfl, fun i h => absurd h (by simp), hbg, hm, hF⟩
    simp only [List.length_replicate] at hi
    rw [List.getElem_replicate]
    have h1 : (cur.toList.take (n * 1))[i]? = (List.replicate n (Value.int .i64 (-1)))[i]? := by rw [ht]
    rw [List.getElem?_take_of_lt (by omega), Array.getElem?_toList, List.getElem?_replicate, if_pos hi] at h1
    exact h1
theorem IAt.size {cs : Array Value} {m : List Int} (h : IAt cs m) : m.length ≤ cs.size := by
  rcases Nat.eq_zero_or_pos m.length with h0 | h0
  · omega
  · have h1 := h (m.length - 1) (by omega)
    have := (Array.getElem?_eq_some_iff.1 h1).1
    omega
/-- What the loop over the heads holds. -/
def HdInv (W0 : World) (C : MC) (mb vb n : Nat) (vs xs m : List Int) (k : Nat) (wr : World) : Prop := ∃ m', MSt W0 C mb vb n wr m' [] ∧ bindH (vs.drop k) (xs.drop k) m' = bindH vs xs m
theorem MSt.fr0 {W0 : World} {C : MC} {mb vb n : Nat} {w : World} {m : List Int} {fd : List (List Int)} (h : MSt W0 C mb vb n w m fd) : Fr W0 w := by
  obtain ⟨_, _, _, _, _, _, _, _, _, _, _, _, _, _, _, h12⟩ := h; exact h12
set_option maxRecDepth 100000 in
set_option maxHeartbeats 4000000 in
theorem specHomW (q1 q2 : Int) (A0 A1 B0 B1 : Option Addr) (c0 c1 d0 d1 : Nat) (hd1 hd2 : List Int) (bd1 bd2 : List Atom) (w : World)
    (hx0 : RdSl rdInt w.cell? 1 A0 hd1) (hx1 : RdSl rdAtom w.cell? 3 A1 bd1) (hy0 : RdSl rdInt w.cell? 1 B0 hd2) (hy1 : RdSl rdAtom w.cell? 3 B1 bd2) (hv1 : vrule q1 hd1 bd1 = true) (hv2 : vrule q2 hd2 bd2 = true) :
    Calls Tryd.prog 39 #[.agg #[.int .i64 q1, .slice A0 hd1.length c0, .slice A1 bd1.length c1], .agg #[.int .i64 q2, .slice B0 hd2.length d0, .slice B1 bd2.length d1]] w fun r w' => HsPost w (homO q1 hd1 bd1 hd2 bd2) r w' ∧ Fr w w' := by
  have HX0 := hid hx0
  have HX1 := hid hx1
  have HY0 := hid hy0
  have HY1 := hid hy1
  obtain ⟨q1a, q1b, hh6, hb1, hb6, ha1, hh1⟩ := vrule_parts hv1
  obtain ⟨q2a, q2b, hh62, hb12, hb62, ha2, hh2⟩ := vrule_parts hv2
  obtain ⟨n, rfl⟩ : ∃ n : Nat, q1 = n := ⟨q1.toNat, by omega⟩
  have HA1 := hid ha1
  have HA2 := hid ha2
  have HH1 := hid hh1
  have HH2 := hid hh2
  clear hv1 hv2 ha1 ha2 hh1 hh2 hx0 hx1 hy0 hy1
  have B0' := (Blk.new w 30 #[.int .i64 n, .slice A0 hd1.length c0, .slice A1 bd1.length c1]).alloc (.cells #[.int .i64 q2, .slice B0 hd2.length d0, .slice B1 bd2.length d1] 30)
  have B1' := Blk.new (w.alloc (.cells #[.int .i64 n, .slice A0 hd1.length c0, .slice A1 bd1.length c1] 30)) 30 #[.int .i64 q2, .slice B0 hd2.length d0, .slice B1 bd2.length d1]
  rw [World.size_alloc] at B1'
  have F1 : Fr w ((w.alloc (.cells #[.int .i64 n, .slice A0 hd1.length c0, .slice A1 bd1.length c1] 30)).alloc (.cells #[.int .i64 q2, .slice B0 hd2.length d0, .slice B1 bd2.length d1] 30)) := by (repeat (first | with_reducible exact Fr.refl _ | with_reducible assumption | with_reducible refine Fr.alloc ?_ _ | with_reducible refine Fr.drew ?_ | with_reducible refine Fr.drewN ?_ _ | (with_reducible refine Fr.setNew2 ?_ ?_ _; · (simp <;> omega)) | with_reducible refine Fr.trans ?_ (by assumption)))
  go_enter Tryd.func39, Tryd.ntmps39
  go_wp2_with fail
  generalize (w.alloc (.cells #[.int .i64 n, .slice A0 hd1.length c0, .slice A1 bd1.length c1] 30)).alloc (.cells #[.int .i64 q2, .slice B0 hd2.length d0, .slice B1 bd2.length d1] 30) = w1 at B0' B1' F1 ⊢
  obtain ⟨b0, b1, b2, _⟩ := B0'.three
  obtain ⟨e0, e1, e2, _⟩ := B1'.three
  have FRZ := hid (fun W (h : Fr w1 W) => specFreezeW q2 B0 d0 hd2 B1 d1 bd2 W (HY1.out.fr rdAtom_mono (F1.trans h)) (by omega))
  have keepL : ∀ W' : World, Fr w1 W' → (Fr w1 W' ∧ W'.cell? ⟨w.heap.size, 2, none⟩ = some (.slice A1 bd1.length c1) ∧ W'.cell? ⟨w.heap.size + 1, 0, none⟩ = some (.int .i64 q2) ∧ W'.cell? ⟨w.heap.size + 1, 1, none⟩ = some (.slice B0 hd2.length d0) ∧ W'.cell? ⟨w.heap.size + 1, 2, none⟩ = some (.slice B1 bd2.length d1)) := fun W' F => ⟨F, F.cell b2, F.cell e0, F.cell e1, F.cell e2⟩
  go_region_held3 (fun W' => Fr w1 W' ∧ W'.cell? ⟨w.heap.size, 2, none⟩ = some (.slice A1 bd1.length c1) ∧ W'.cell? ⟨w.heap.size + 1, 0, none⟩ = some (.int .i64 q2) ∧ W'.cell? ⟨w.heap.size + 1, 1, none⟩ = some (.slice B0 hd2.length d0) ∧ W'.cell? ⟨w.heap.size + 1, 2, none⟩ = some (.slice B1 bd2.length d1)) ((refine keepL _ ?_; (repeat (first | with_reducible exact Fr.refl _ | with_reducible assumption | with_reducible refine Fr.alloc ?_ _ | with_reducible refine Fr.drew ?_ | with_reducible refine Fr.drewN ?_ _ | (with_reducible refine Fr.setNew2 ?_ ?_ _; · (simp <;> omega)) | with_reducible refine Fr.trans ?_ (by assumption))); done))
    (first
      | (go_at_call 64; (with_reducible refine (FRZ.out _ ?_).mono ?_); (· (repeat (first | with_reducible exact Fr.refl _ | with_reducible assumption | with_reducible refine Fr.alloc ?_ _ | with_reducible refine Fr.drew ?_ | with_reducible refine Fr.drewN ?_ _ | (with_reducible refine Fr.setNew2 ?_ ?_ _; · (simp <;> omega)) | with_reducible refine Fr.trans ?_ (by assumption)))); rintro r6 w6 ⟨v6, rfl, ⟨FB, FO, fcap, rfl, hFR, _⟩, hF6⟩; have F6 : Fr w1 w6 := Fr.trans (by (repeat (first | with_reducible exact Fr.refl _ | with_reducible assumption | with_reducible refine Fr.alloc ?_ _ | with_reducible refine Fr.drew ?_ | with_reducible refine Fr.drewN ?_ _ | (with_reducible refine Fr.setNew2 ?_ ?_ _; · (simp <;> omega)) | with_reducible refine Fr.trans ?_ (by assumption)))) hF6; have HFR := hid hFR; have hw6 := F6.size; clear hFR hF6)
      | fail)
  clear keepL FRZ b0 b1 b2 e0 e1 e2
  have BM := Blk.new w6 82 #[.slice A1 bd1.length c1, .slice (some ⟨FB, FO, none⟩) (frz bd2).length fcap, .slice none 0 0, .slice none 0 0, .int .i64 1]
  have F7 : Fr w6 (w6.alloc (.cells #[.slice A1 bd1.length c1, .slice (some ⟨FB, FO, none⟩) (frz bd2).length fcap, .slice none 0 0, .slice none 0 0, .int .i64 1] 82)) := (Fr.refl w6).alloc _
  have FW6 : Fr w w6 := F1.trans F6
  replace B0' := B0'.fr F6
  replace B1' := B1'.fr F6
  have HV0 : Hid (MkV w6 ⟨A1, bd1.length, c1, some ⟨FB, FO, none⟩, (frz bd2).length, fcap, 1⟩ w6.heap.size 0 (w6.alloc (.cells #[.slice A1 bd1.length c1, .slice (some ⟨FB, FO, none⟩) (frz bd2).length fcap, .slice none 0 0, .slice none 0 0, .int .i64 1] 82))) := hid ⟨_, BM, own_nil, Nat.le_refl _, F7⟩
  clear BM
  have hbl0 := B0'.lt
  have hbl1 := B1'.lt
  have hn0 : 0 < n := by omega
  obtain ⟨C, eC⟩ : ∃ C : MC, C = ⟨A1, bd1.length, c1, some ⟨FB, FO, none⟩, (frz bd2).length, fcap, 1⟩ := ⟨_, rfl⟩
  rw [← eC] at HV0
  have EC := hid eC
  have EXT := hid (show ∀ (vb : Nat) (W : World) (m : List Int), MSt w6 C w6.heap.size vb n W m [] → Calls Tryd.prog 66 #[.pointer (some ⟨w6.heap.size, 0, none⟩), .int .i64 (0 : Int)] W fun r w' => r = .returned (.tuple #[]) ∧ MSt w6 C w6.heap.size vb n w' m ((mts bd1 (frz bd2) m).take 1) from fun vb W m hM => by
    have h := extendW (W0 := w6) (C := C) (mb := w6.heap.size) (vb := vb) (n := n) (bd := bd1) (fs := frz bd2) 1 (by rw [eC]; rfl) (by omega) hn0 (by omega) (by rw [eC]; exact HX1.out.fr rdAtom_mono FW6) (by rw [eC]) (by rw [eC]; exact HFR.out) (by rw [eC]) (by omega) (by have := frz_len bd2; omega) (fun a ha => (HA1.out a ha).2.2) bd1.length 0 W m [] (by omega) hM (by simp)
    exact h.mono fun r w' ⟨h1, h2, _⟩ => ⟨h1, by simpa using h2⟩)
  clear eC HFR
  go_wp2_with fail
  generalize w6.alloc (.cells #[.slice A1 bd1.length c1, .slice (some ⟨FB, FO, none⟩) (frz bd2).length fcap, .slice none 0 0, .slice none 0 0, .int .i64 1] 82) = w7 at HV0 F7 ⊢
  clear F7
  go_loopw [7] (fun t wr => ∃ k : Nat, k ≤ n ∧ t = .int .i64 k ∧ Hid (MkV w6 C w6.heap.size k wr)) (fun t _ => n - (intOf t).toNat)
  case atStart => exact ⟨0, by omega, rfl, HV0⟩
  case round =>
    obtain ⟨k, hk, rfl, HMV⟩ := hrel
    obtain ⟨A, cap, h2, hO, hs0, hmb, FWr, NX⟩ := HMV.out.parts
    have b0 := (B0'.fr FWr).cell 0
    by_cases hlt : k < n
    · have HO := hid hO
      have HNX := hid NX
      clear hO NX
      have FA := (Fr.refl wr).alloc (.cells #[.int .i64 (-1)] 3)
      go_wp2_with (first | (at_builtin; refine wp_app1 rfl _ _ 22 rfl w6.heap.size 3 (.int .i64 0) 1 8 Tryd.underlying22 (by kernel_rfl) rfl (by decide) (by decide) _ _ _ rfl (own_fr HO.out FA) (by omega) (by simp; omega) wr.heap.size [.int .i64 (-1)] rfl (blk_new rfl) rfl rfl ?_; intro v5 w5 hO5 hg5; obtain ⟨A5, cap5, rfl⟩ := own_form hO5; obtain ⟨fz5, ⟨u5, c5⟩, NX5⟩ := HNX.out _ _ w5 FA hO5 hg5; have HN5 := hid NX5; clear NX5 hO5 hg5) | fail)
      go_roundw
      case rel => exact ⟨k + 1, by omega, by go_num, HN5⟩
      case measure => simp [intOf]; omega
    · obtain rfl : k = n := by omega
      clear NX hO A cap h2
      obtain ⟨vb, HM0⟩ := HMV.out.mst hn0
      obtain ⟨m0, em0⟩ : ∃ m0 : List Int, List.replicate k (-1) = m0 := ⟨_, rfl⟩
      rw [em0] at HM0
      have HM := hid HM0
      have a1 := (B0'.fr FWr).cell 1
      have e1 := (B1'.fr FWr).cell 1
      have hm0 : m0.length = k := by rw [← em0]; simp
      clear HV0 HMV hlt HM0
      by_cases hlen : hd1.length = hd2.length
      · have hle : ((hd1.length : Int) == (hd2.length : Int)) = true := by simp [hlen]
        have HLEN := hid hlen
        have HI0 : Hid (HdInv w6 C w6.heap.size vb k hd1 hd2 m0 0 wr) := hid ⟨m0, HM.out, rfl⟩
        clear hlen HM
        go_wp2_with fail
        go_loopw [8] (fun t wr => ∃ j : Nat, j ≤ hd1.length ∧ t = .int .i64 j ∧ Hid (HdInv w6 C w6.heap.size vb k hd1 hd2 m0 j wr)) (fun t _ => hd1.length - (intOf t).toNat)
        case atStart => exact ⟨0, by omega, rfl, HI0⟩
        case round =>
          clear a1 e1 FWr hs0 hmb
          revert wr
          intro wr hrel
          obtain ⟨j, hj, rfl, HIJ⟩ := hrel
          obtain ⟨m1, hM1, hbi⟩ := HIJ.out
          have FWr := hM1.fr0
          have a1 := (B0'.fr FWr).cell 1
          have e1 := (B1'.fr FWr).cell 1
          have FW := FW6.trans FWr
          have HM1 := hid hM1
          obtain ⟨_, _, vc, c0', c1', c2', c3', c4', hV, hml, hmb, hvb⟩ := hM1.cells
          by_cases hlt : j < hd1.length
          · have hlt2 : j < hd2.length := by rw [← HLEN.out]; exact hlt
            obtain ⟨ab, ao, hA, h0⟩ := (HX0.out.fr rdInt_mono FW).at_ hlt
            obtain ⟨yb, yo, hY, g0⟩ := (HY0.out.fr rdInt_mono FW).at_ hlt2
            subst hA hY
            simp only [rdInt, Nat.mul_one, Nat.add_zero] at h0 g0
            obtain ⟨v0, v1⟩ := HH1.out hd1[j] (List.getElem_mem hlt)
            obtain ⟨v, ev⟩ : ∃ v : Nat, hd1[j] = v := ⟨hd1[j].toNat, by omega⟩
            rw [ev] at h0 v0 v1
            obtain ⟨x, ex⟩ : ∃ x, hd2[j] = x := ⟨_, rfl⟩
            rw [ex] at g0
            have hvk : v < k := by omega
            cases hfit : fitV m1 v x
            · have hom : homO k hd1 bd1 hd2 bd2 = none := by
                unfold homO hom1
                rw [Int.toNat_natCast, em0, ← hbi, bindH_stop hlt hlt2 (by rw [ev, ex]; exact hfit)]; rfl
              have RES := hid (show ∀ W, Fr wr W → HsPost w (homO k hd1 bd1 hd2 bd2) (.returned (.tuple #[.slice none 0 0, .bool false])) W ∧ Fr w W from fun W hW => ⟨by rw [hom]; exact rfl, FW.trans hW⟩)
              have FIT := hid (fun W (h : Fr wr W) => fitsW (HM1.out.fr h) v x hvk)
              rw [hfit] at FIT
              clear hom hfit hbi hM1 hV HIJ c0' c1' c2' c3' c4'
              go_wp2_with fail
              (refine wp_region_quietC (fun w' => Fr _ w') (by kernel_rfl) (by kernel_rfl) (Fr.refl _).drew ?_; (repeat go_big_quiet_step (first | exact fun _ => rfl | exact fun _ => ⟨rfl, rfl⟩ | (intro hw'; replace a1 := hw'.cell a1; replace e1 := hw'.cell e1; replace h0 := hw'.cell h0; replace g0 := hw'.cell g0; go_simp; first | done | exact rfl | exact ⟨rfl, rfl⟩) | (intro hw'; go_at_call 65; refine (FIT.out _ hw').mono ?_; rintro e w8 ⟨rfl, rfl⟩; exact ⟨rfl, hw'⟩))); refine wpQuiet_nil ?_; intro wq hq)
              go_wp2
              go_ret2
              exact RES.out _ hq
            · have NX := hid (show ∀ W, Fr wr W → HdInv w6 C w6.heap.size vb k hd1 hd2 m0 (j + 1) (W.setCell ⟨vb, v, none⟩ (.int .i64 x)).drew from fun W hW => ⟨_, (HM1.out.fr hW).setV.fr (Fr.refl _).drew, by
                rw [← hbi, bindH_step hlt hlt2 (by rw [ev, ex]; exact hfit), ev, ex]; rfl⟩)
              have FIT := hid (fun W (h : Fr wr W) => fitsW (HM1.out.fr h) v x hvk)
              rw [hfit] at FIT
              obtain ⟨vv, vf⟩ := hV v hvk
              clear hfit hbi hM1 hV HIJ c0' c1' c3' c4'
              go_wp2_with fail
              (refine wp_region_quietC (fun w' => Fr _ w') (by kernel_rfl) (by kernel_rfl) (Fr.refl _).drew ?_; (repeat go_big_quiet_step (first | exact fun _ => rfl | exact fun _ => ⟨rfl, rfl⟩ | (intro hw'; replace a1 := hw'.cell a1; replace e1 := hw'.cell e1; replace h0 := hw'.cell h0; replace g0 := hw'.cell g0; go_simp; first | done | exact rfl | exact ⟨rfl, rfl⟩) | (intro hw'; go_at_call 65; refine (FIT.out _ hw').mono ?_; rintro e w8 ⟨rfl, rfl⟩; exact ⟨rfl, hw'⟩))); refine wpQuiet_nil ?_; intro wq hq)
              have NXQ := hid (NX.out _ hq)
              replace vf := hq.frozen vv vf
              replace vv := hq.cell vv
              replace a1 := hq.cell a1
              replace e1 := hq.cell e1
              replace h0 := hq.cell h0
              replace g0 := hq.cell g0
              replace c2' := hq.cell c2'
              clear NX FIT HM1
              go_wp2_with fail
              go_region
              go_wp2
              go_roundw
              case rel => exact ⟨j + 1, by omega, by go_num, NXQ⟩
              case measure => simp [intOf]; omega
          · obtain rfl : j = hd1.length := by omega
            rw [bindH_end (Nat.le_refl _) HLEN.out.symm] at hbi
            have HOM := hid (show homO k hd1 bd1 hd2 bd2 = ((mts bd1 (frz bd2) m1).head?).map (List.map (fun x => max x 0)) by
              unfold homO hom1
              rw [Int.toNat_natCast, em0, ← hbi]; rfl)
            clear hV HIJ c0' c1' c2' c3' c4' hlt hbi hM1 e1 FWr FW
            have CALL := hid (EXT.out vb wr m1 HM1.out)
            clear HM1 EXT
            go_wp2_with fail
            refine CALL.out.mono ?_
            rintro _ w8 ⟨rfl, hM8⟩
            clear CALL
            cases hms : mts bd1 (frz bd2) m1 with
            | nil =>
              rw [hms] at hM8
              obtain ⟨_, _, vc, c0', c1', c2', c3', c4', hV, hml, hmb, hvb⟩ := hM8.cells
              simp only [List.take_nil, List.length_nil] at c3'
              have RES := hid (show HsPost w (homO k hd1 bd1 hd2 bd2) (.returned (.tuple #[.slice none 0 0, .bool false])) w8 ∧ Fr w w8 from ⟨by rw [HOM.out, hms]; exact rfl, FW6.trans hM8.fr0⟩)
              clear hM8 hV HOM hms c0' c1' c2' c4'
              go_wp2
              go_ret2
              exact RES.out
            | cons m9 ms =>
              rw [hms, List.take_succ_cons, List.take_zero] at hM8
              obtain ⟨gF, fcap9, g, cap9, cs9, f3, f0, hB9, hI9, hl9, hg9⟩ := hM8.first
              simp only [List.length_nil, Nat.zero_add] at f3
              have FW8 := FW6.trans hM8.fr0
              have hw66 := FW6.size
              have HMM := hid (show homO k hd1 bd1 hd2 bd2 = some (m9.map (fun x => max x 0)) by rw [HOM.out, hms]; rfl)
              have RA0 : Hid (Rai w8 g cs9.size m9 0 w8) := hid ⟨cs9, hB9, rfl, by simpa using hI9, Ch.refl _⟩
              have hcs9 := hI9.size
              clear hM8 HOM hms hB9 hI9
              go_wp2_with fail
              go_loopw [10] (fun t wr => ∃ j : Nat, j ≤ k ∧ t = .int .i64 j ∧ Hid (Rai w8 g cs9.size m9 j wr)) (fun t _ => k - (intOf t).toNat)
              case atStart => exact ⟨0, by omega, rfl, RA0⟩
              case round =>
                clear f0 f3
                revert wr
                intro wr hrel
                obtain ⟨j, hj, rfl, HRA⟩ := hrel
                obtain ⟨cs10, hB10, hs10, hI10, hC10⟩ := HRA.out
                by_cases hjl : j < k
                · have hu := hB10.cell j
                  have hjm : j < ((m9.take j).map (fun x => max x 0) ++ m9.drop j).length := by simp; omega
                  rw [hI10 j hjm, rai_at (by omega)] at hu
                  have hfz := hB10.frozen j
                  have NX := hid (show Rai w8 g cs9.size m9 (j + 1) (wr.setCell ⟨g, j, none⟩ (.int .i64 (if m9[j] < 0 then 0 else m9[j]))) from by
                    rw [show (if m9[j] < 0 then 0 else m9[j]) = max m9[j] 0 by split <;> omega]
                    exact ⟨_, hB10.set_ j _, by simp [hs10], by
                      rw [← rai_set (by omega)]; exact hI10.set (by simp; omega), hC10.set (.inl rfl) _⟩)
                  clear hB10 hI10 hC10
                  go_wp2
                  go_roundw
                  case rel => exact ⟨j + 1, by omega, by go_num, NX⟩
                  case measure => simp [intOf]; omega
                · obtain rfl : j = k := by omega
                  have RES : Hid (HsPost w (homO j hd1 bd1 hd2 bd2) (.returned (.tuple #[.slice (some ⟨g, 0, none⟩) j cap9, .bool true])) wr ∧ Fr w wr) := hid (by
                    rw [HMM.out]
                    refine ⟨⟨g, cap9, cs10, by simp [hl9], hB10, ?_, by simp; omega, by omega⟩, hC10.fr (fun i hi => by have : i = g := hi; omega) FW8⟩
                    rw [List.take_of_length_le (by omega), List.drop_eq_nil_of_le (by omega), List.append_nil] at hI10
                    exact hI10)
                  clear hB10 hI10 hC10
                  go_wp2
                  go_ret2
                  exact RES.out
      · have hle : ((hd1.length : Int) == (hd2.length : Int)) = false := by simp; omega
        have hom : homO k hd1 bd1 hd2 bd2 = none := by
          unfold homO hom1
          rw [bindH_ne hlen]; rfl
        have RES := hid (show HsPost w (homO k hd1 bd1 hd2 bd2) (.returned (.tuple #[.slice none 0 0, .bool false])) wr ∧ Fr w wr from ⟨by rw [hom]; exact rfl, FW6.trans FWr⟩)
        clear HM hom
        go_wp2
        go_ret2
        exact RES.out
end Go.Proofs.YtahclhldpcboeaaDoor
