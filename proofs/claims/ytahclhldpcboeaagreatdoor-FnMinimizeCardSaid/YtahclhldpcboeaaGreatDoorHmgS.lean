/- Walk of the reference's homomorphism. -/
import Derived.Test.YtahclhldpcboeaaGreatDoorExtJ
import Derived.Test.YtahclhldpcboeaaGreatDoorHmgI
import Derived.Test.YtahclhldpcboeaaGreatDoorMark
namespace Go.Proofs.YtahclhldpcboeaaGreatDoor
open Go Go.RowKit

/-- What the reference's homomorphism answers. -/
def HsPost (w : World) (o : Option (List Int)) (r : Ending) (w' : World) : Prop := match o with
  | some m' => ∃ g c cs, r = .returned (.tuple #[.slice (some ⟨g, 0, none⟩) m'.length c, .bool true]) ∧ Blk w' g 3 cs ∧ IAt cs m' ∧ m'.length ≤ cs.size ∧ w.heap.size ≤ g
  | none => r = .returned (.tuple #[.slice none 0 0, .bool false])
/-- What the loop over the heads holds. -/
def HdInv (W0 : World) (C : MC) (mb vb n : Nat) (vs xs m : List Int) (k : Nat) (wr : World) : Prop := ∃ m', MSt W0 C mb vb n wr m' [] ∧ bindH (vs.drop k) (xs.drop k) m' = bindH vs xs m
set_option maxRecDepth 100000 in
set_option maxHeartbeats 4000000 in
theorem specHomW (q1 q2 : Int) (A0 A1 B0 B1 : Option Addr) (c0 c1 d0 d1 : Nat) (hd1 hd2 : List Int) (bd1 bd2 : List Atom) (w : World)
    (hx0 : RdSl rdInt w.cell? 1 A0 hd1) (hx1 : RdSl rdAtom w.cell? 3 A1 bd1) (hy0 : RdSl rdInt w.cell? 1 B0 hd2) (hy1 : RdSl rdAtom w.cell? 3 B1 bd2) (hv1 : vrule q1 hd1 bd1 = true) (hv2 : vrule q2 hd2 bd2 = true) :
    Calls Tryz.prog 27 #[.agg #[.int .i64 q1, .slice A0 hd1.length c0, .slice A1 bd1.length c1], .agg #[.int .i64 q2, .slice B0 hd2.length d0, .slice B1 bd2.length d1]] w fun r w' => HsPost w (homO q1 hd1 bd1 hd2 bd2) r w' ∧ Fr w w' := by
  have HX0 := hid hx0
  have HX1 := hid hx1
  have HY0 := hid hy0
  have HY1 := hid hy1
  obtain ⟨q1a, q1b, hh6, hb1, hb6, ha1, hh1⟩ := vrule_parts hv1
  obtain ⟨q2a, q2b, hh62, hb12, hb62, ha2, hh2⟩ := vrule_parts hv2
  obtain ⟨n, rfl⟩ : ∃ n : Nat, q1 = n := ⟨q1.toNat, by omega⟩
  have HA1 := hid ha1
  have HA2 := hid ha2
  have HH1 := hid hh1
  have HH2 := hid hh2
  clear hv1 hv2 ha1 ha2 hh1 hh2 hx0 hx1 hy0 hy1
  have B0' := (Blk.new w 26 #[.int .i64 n, .slice A0 hd1.length c0, .slice A1 bd1.length c1]).alloc (.cells #[.int .i64 q2, .slice B0 hd2.length d0, .slice B1 bd2.length d1] 26)
  have B1' := Blk.new (w.alloc (.cells #[.int .i64 n, .slice A0 hd1.length c0, .slice A1 bd1.length c1] 26)) 26 #[.int .i64 q2, .slice B0 hd2.length d0, .slice B1 bd2.length d1]
  rw [World.size_alloc] at B1'
  have F1 : Fr w ((w.alloc (.cells #[.int .i64 n, .slice A0 hd1.length c0, .slice A1 bd1.length c1] 26)).alloc (.cells #[.int .i64 q2, .slice B0 hd2.length d0, .slice B1 bd2.length d1] 26)) := by (repeat (first | with_reducible exact Fr.refl _ | with_reducible assumption | with_reducible refine Fr.alloc ?_ _ | with_reducible refine Fr.drew ?_ | with_reducible refine Fr.drewN ?_ _ | (with_reducible refine Fr.setNew2 ?_ ?_ _; · (simp <;> omega)) | with_reducible refine Fr.trans ?_ (by assumption)))
  go_enter Tryz.func27, Tryz.ntmps27
  go_wp2_with fail
  generalize (w.alloc (.cells #[.int .i64 n, .slice A0 hd1.length c0, .slice A1 bd1.length c1] 26)).alloc (.cells #[.int .i64 q2, .slice B0 hd2.length d0, .slice B1 bd2.length d1] 26) = w1 at B0' B1' F1 ⊢
  obtain ⟨b0, b1, b2, _⟩ := B0'.three
  obtain ⟨e0, e1, e2, _⟩ := B1'.three
  have FRZ := hid (fun W (h : Fr w1 W) => specFreezeW q2 B0 d0 hd2 B1 d1 bd2 W (HY1.out.fr rdAtom_mono (F1.trans h)) (by omega))
  have keepL : ∀ W' : World, Fr w1 W' → (Fr w1 W' ∧ W'.cell? ⟨w.heap.size, 2, none⟩ = some (.slice A1 bd1.length c1) ∧ W'.cell? ⟨w.heap.size + 1, 0, none⟩ = some (.int .i64 q2) ∧ W'.cell? ⟨w.heap.size + 1, 1, none⟩ = some (.slice B0 hd2.length d0) ∧ W'.cell? ⟨w.heap.size + 1, 2, none⟩ = some (.slice B1 bd2.length d1)) := fun W' F => ⟨F, F.cell b2, F.cell e0, F.cell e1, F.cell e2⟩
  go_region_held3 (fun W' => Fr w1 W' ∧ W'.cell? ⟨w.heap.size, 2, none⟩ = some (.slice A1 bd1.length c1) ∧ W'.cell? ⟨w.heap.size + 1, 0, none⟩ = some (.int .i64 q2) ∧ W'.cell? ⟨w.heap.size + 1, 1, none⟩ = some (.slice B0 hd2.length d0) ∧ W'.cell? ⟨w.heap.size + 1, 2, none⟩ = some (.slice B1 bd2.length d1)) ((refine keepL _ ?_; (repeat (first | with_reducible exact Fr.refl _ | with_reducible assumption | with_reducible refine Fr.alloc ?_ _ | with_reducible refine Fr.drew ?_ | with_reducible refine Fr.drewN ?_ _ | (with_reducible refine Fr.setNew2 ?_ ?_ _; · (simp <;> omega)) | with_reducible refine Fr.trans ?_ (by assumption))); done))
    (first
      | (go_at_call 56; (with_reducible refine (FRZ.out _ ?_).mono ?_); (· (repeat (first | with_reducible exact Fr.refl _ | with_reducible assumption | with_reducible refine Fr.alloc ?_ _ | with_reducible refine Fr.drew ?_ | with_reducible refine Fr.drewN ?_ _ | (with_reducible refine Fr.setNew2 ?_ ?_ _; · (simp <;> omega)) | with_reducible refine Fr.trans ?_ (by assumption)))); rintro r6 w6 ⟨v6, rfl, ⟨FB, FO, fcap, rfl, hFR, _⟩, hF6⟩; have F6 : Fr w1 w6 := Fr.trans (by (repeat (first | with_reducible exact Fr.refl _ | with_reducible assumption | with_reducible refine Fr.alloc ?_ _ | with_reducible refine Fr.drew ?_ | with_reducible refine Fr.drewN ?_ _ | (with_reducible refine Fr.setNew2 ?_ ?_ _; · (simp <;> omega)) | with_reducible refine Fr.trans ?_ (by assumption)))) hF6; have HFR := hid hFR; have hw6 := F6.size; clear hFR hF6)
      | fail)
  clear keepL FRZ b0 b1 b2 e0 e1 e2
  have BM := Blk.new w6 83 #[.slice A1 bd1.length c1, .slice (some ⟨FB, FO, none⟩) (frz bd2).length fcap, .slice none 0 0, .slice none 0 0, .int .i64 1]
  have F7 : Fr w6 (w6.alloc (.cells #[.slice A1 bd1.length c1, .slice (some ⟨FB, FO, none⟩) (frz bd2).length fcap, .slice none 0 0, .slice none 0 0, .int .i64 1] 83)) := (Fr.refl w6).alloc _
  have FW6 : Fr w w6 := F1.trans F6
  replace B0' := B0'.fr F6
  replace B1' := B1'.fr F6
  have HV0 : Hid (MkV w6 ⟨A1, bd1.length, c1, some ⟨FB, FO, none⟩, (frz bd2).length, fcap, 1⟩ w6.heap.size 0 (w6.alloc (.cells #[.slice A1 bd1.length c1, .slice (some ⟨FB, FO, none⟩) (frz bd2).length fcap, .slice none 0 0, .slice none 0 0, .int .i64 1] 83))) := hid ⟨_, BM, own_nil, Nat.le_refl _, F7⟩
  clear BM
  have hbl0 := B0'.lt
  have hbl1 := B1'.lt
  have hn0 : 0 < n := by omega
  obtain ⟨C, eC⟩ : ∃ C : MC, C = ⟨A1, bd1.length, c1, some ⟨FB, FO, none⟩, (frz bd2).length, fcap, 1⟩ := ⟨_, rfl⟩
  rw [← eC] at HV0
  have EC := hid eC
  have EXT := hid (show ∀ (vb : Nat) (W : World) (m : List Int), MSt w6 C w6.heap.size vb n W m [] → Calls Tryz.prog 58 #[.pointer (some ⟨w6.heap.size, 0, none⟩), .int .i64 (0 : Int)] W fun r w' => r = .returned (.tuple #[]) ∧ MSt w6 C w6.heap.size vb n w' m ((mts bd1 (frz bd2) m).take 1) from fun vb W m hM => by
    have h := extendW (W0 := w6) (C := C) (mb := w6.heap.size) (vb := vb) (n := n) (bd := bd1) (fs := frz bd2) 1 (by rw [eC]; rfl) (by omega) hn0 (by omega) (by rw [eC]; exact HX1.out.fr rdAtom_mono FW6) (by rw [eC]) (by rw [eC]; exact HFR.out) (by rw [eC]) (by omega) (by have := frz_len bd2; omega) (fun a ha => (HA1.out a ha).2.2) bd1.length 0 W m [] (by omega) hM (by simp)
    exact h.mono fun r w' ⟨h1, h2, _⟩ => ⟨h1, by simpa using h2⟩)
  clear eC HFR
  go_wp2_with fail
  generalize w6.alloc (.cells #[.slice A1 bd1.length c1, .slice (some ⟨FB, FO, none⟩) (frz bd2).length fcap, .slice none 0 0, .slice none 0 0, .int .i64 1] 83) = w7 at HV0 F7 ⊢
  clear F7
  go_loopw [7] (fun t wr => ∃ k : Nat, k ≤ n ∧ t = .int .i64 k ∧ Hid (MkV w6 C w6.heap.size k wr)) (fun t _ => n - (intOf t).toNat)
  case atStart => exact ⟨0, by omega, rfl, HV0⟩
  case round =>
    obtain ⟨k, hk, rfl, HMV⟩ := hrel
    obtain ⟨A, cap, h2, hO, hs0, hmb, FWr, NX⟩ := HMV.out.parts
    have b0 := (B0'.fr FWr).cell 0
    by_cases hlt : k < n
    · have HO := hid hO
      have HNX := hid NX
      clear hO NX
      have FA := (Fr.refl wr).alloc (.cells #[.int .i64 (-1)] 3)
      go_wp2_with (first | (at_builtin; refine wp_app1 rfl _ _ 23 rfl w6.heap.size 3 (.int .i64 0) 1 8 Tryz.underlying23 (by kernel_rfl) rfl (by decide) (by decide) _ _ _ rfl (own_fr HO.out FA) (by omega) (by simp; omega) wr.heap.size [.int .i64 (-1)] rfl (blk_new rfl) rfl rfl ?_; intro v5 w5 hO5 hg5; obtain ⟨A5, cap5, rfl⟩ := own_form hO5; obtain ⟨fz5, ⟨u5, c5⟩, NX5⟩ := HNX.out _ _ w5 FA hO5 hg5; have HN5 := hid NX5; clear NX5 hO5 hg5) | fail)
      go_roundw
      case rel => exact ⟨k + 1, by omega, by go_num, HN5⟩
      case measure => simp [intOf]; omega
    · obtain rfl : k = n := by omega
      clear NX hO A cap h2
      obtain ⟨vb, HM0⟩ := HMV.out.mst hn0
      obtain ⟨m0, em0⟩ : ∃ m0 : List Int, List.replicate k (-1) = m0 := ⟨_, rfl⟩
      rw [em0] at HM0
      have HM := hid HM0
      have a1 := (B0'.fr FWr).cell 1
      have e1 := (B1'.fr FWr).cell 1
      have hm0 : m0.length = k := by rw [← em0]; simp
      clear HV0 HMV hlt HM0
      by_cases hlen : hd1.length = hd2.length
      · have hle : ((hd1.length : Int) == (hd2.length : Int)) = true := by simp [hlen]
        have HLEN := hid hlen
        have HI0 : Hid (HdInv w6 C w6.heap.size vb k hd1 hd2 m0 0 wr) := hid ⟨m0, HM.out, rfl⟩
        clear hlen HM
        go_wp2_with fail
        go_loopw [8] (fun t wr => ∃ j : Nat, j ≤ hd1.length ∧ t = .int .i64 j ∧ Hid (HdInv w6 C w6.heap.size vb k hd1 hd2 m0 j wr)) (fun t _ => hd1.length - (intOf t).toNat)
        case atStart => exact ⟨0, by omega, rfl, HI0⟩
        case round =>
          clear a1 e1 FWr hs0 hmb
          revert wr
          intro wr hrel
          obtain ⟨j, hj, rfl, HIJ⟩ := hrel
          obtain ⟨m1, hM1, hbi⟩ := HIJ.out
          have FWr := hM1.fr0
          have a1 := (B0'.fr FWr).cell 1
          have e1 := (B1'.fr FWr).cell 1
          have FW := FW6.trans FWr
          have HM1 := hid hM1
          obtain ⟨_, _, vc, c0', c1', c2', c3', c4', hV, hml, hmb, hvb⟩ := hM1.cells
          by_cases hlt : j < hd1.length
          · have hlt2 : j < hd2.length := by rw [← HLEN.out]; exact hlt
            obtain ⟨ab, ao, hA, h0⟩ := (HX0.out.fr rdInt_mono FW).at_ hlt
            obtain ⟨yb, yo, hY, g0⟩ := (HY0.out.fr rdInt_mono FW).at_ hlt2
            subst hA hY
            simp only [rdInt, Nat.mul_one, Nat.add_zero] at h0 g0
            obtain ⟨v0, v1⟩ := HH1.out hd1[j] (List.getElem_mem hlt)
            obtain ⟨v, ev⟩ : ∃ v : Nat, hd1[j] = v := ⟨hd1[j].toNat, by omega⟩
            rw [ev] at h0 v0 v1
            obtain ⟨x, ex⟩ : ∃ x, hd2[j] = x := ⟨_, rfl⟩
            rw [ex] at g0
            have hvk : v < k := by omega
            cases hfit : fitV m1 v x
            · have hom : homO k hd1 bd1 hd2 bd2 = none := by
                unfold homO hom1
                rw [Int.toNat_natCast, em0, ← hbi, bindH_stop hlt hlt2 (by rw [ev, ex]; exact hfit)]; rfl
              have RES := hid (show ∀ W, Fr wr W → HsPost w (homO k hd1 bd1 hd2 bd2) (.returned (.tuple #[.slice none 0 0, .bool false])) W ∧ Fr w W from fun W hW => ⟨by rw [hom]; exact rfl, FW.trans hW⟩)
              have FIT := hid (fun W (h : Fr wr W) => fitsW (HM1.out.fr h) v x hvk)
              rw [hfit] at FIT
              clear hom hfit hbi hM1 hV HIJ c0' c1' c2' c3' c4'
              go_wp2_with fail
              (refine wp_region_quietC (fun w' => Fr _ w') (by kernel_rfl) (by kernel_rfl) (Fr.refl _).drew ?_; (repeat go_big_quiet_step (first | exact fun _ => rfl | exact fun _ => ⟨rfl, rfl⟩ | (intro hw'; replace a1 := hw'.cell a1; replace e1 := hw'.cell e1; replace h0 := hw'.cell h0; replace g0 := hw'.cell g0; go_simp; first | done | exact rfl | exact ⟨rfl, rfl⟩) | (intro hw'; go_at_call 57; refine (FIT.out _ hw').mono ?_; rintro e w8 ⟨rfl, rfl⟩; exact ⟨rfl, hw'⟩))); refine wpQuiet_nil ?_; intro wq hq)
              go_wp2
              go_ret2
              exact RES.out _ hq
            · have NX := hid (show ∀ W, Fr wr W → HdInv w6 C w6.heap.size vb k hd1 hd2 m0 (j + 1) (W.setCell ⟨vb, v, none⟩ (.int .i64 x)).drew from fun W hW => ⟨_, (HM1.out.fr hW).setV.fr (Fr.refl _).drew, by
                rw [← hbi, bindH_step hlt hlt2 (by rw [ev, ex]; exact hfit), ev, ex]; rfl⟩)
              have FIT := hid (fun W (h : Fr wr W) => fitsW (HM1.out.fr h) v x hvk)
              rw [hfit] at FIT
              obtain ⟨vv, vf⟩ := hV v hvk
              clear hfit hbi hM1 hV HIJ c0' c1' c3' c4'
              go_wp2_with fail
              (refine wp_region_quietC (fun w' => Fr _ w') (by kernel_rfl) (by kernel_rfl) (Fr.refl _).drew ?_; (repeat go_big_quiet_step (first | exact fun _ => rfl | exact fun _ => ⟨rfl, rfl⟩ | (intro hw'; replace a1 := hw'.cell a1; replace e1 := hw'.cell e1; replace h0 := hw'.cell h0; replace g0 := hw'.cell g0; go_simp; first | done | exact rfl | exact ⟨rfl, rfl⟩) | (intro hw'; go_at_call 57; refine (FIT.out _ hw').mono ?_; rintro e w8 ⟨rfl, rfl⟩; exact ⟨rfl, hw'⟩))); refine wpQuiet_nil ?_; intro wq hq)
              have NXQ := hid (NX.out _ hq)
              replace vf := hq.frozen vv vf
              replace vv := hq.cell vv
              replace a1 := hq.cell a1
              replace e1 := hq.cell e1
              replace h0 := hq.cell h0
              replace g0 := hq.cell g0
              replace c2' := hq.cell c2'
              clear NX FIT HM1
              go_wp2_with fail
              go_region
              go_wp2
              go_roundw
              case rel => exact ⟨j + 1, by omega, by go_num, NXQ⟩
              case measure => simp [intOf]; omega
          · obtain rfl : j = hd1.length := by omega
            rw [bindH_end (Nat.le_refl _) HLEN.out.symm] at hbi
            have HOM := hid (show homO k hd1 bd1 hd2 bd2 = ((mts bd1 (frz bd2) m1).head?).map (List.map (fun x => max x 0)) by
              unfold homO hom1
              rw [Int.toNat_natCast, em0, ← hbi]; rfl)
            clear hV HIJ c0' c1' c2' c3' c4' hlt hbi hM1 e1 FWr FW
            have CALL := hid (EXT.out vb wr m1 HM1.out)
            clear HM1 EXT
            go_wp2_with fail
            refine CALL.out.mono ?_
            rintro _ w8 ⟨rfl, hM8⟩
            clear CALL
            cases hms : mts bd1 (frz bd2) m1 with
            | nil =>
              rw [hms] at hM8
              obtain ⟨_, _, vc, c0', c1', c2', c3', c4', hV, hml, hmb, hvb⟩ := hM8.cells
              simp only [List.take_nil, List.length_nil] at c3'
              have RES := hid (show HsPost w (homO k hd1 bd1 hd2 bd2) (.returned (.tuple #[.slice none 0 0, .bool false])) w8 ∧ Fr w w8 from ⟨by rw [HOM.out, hms]; exact rfl, FW6.trans hM8.fr0⟩)
              clear hM8 hV HOM hms c0' c1' c2' c4'
              go_wp2
              go_ret2
              exact RES.out
            | cons m9 ms =>
              rw [hms, List.take_succ_cons, List.take_zero] at hM8
              obtain ⟨gF, fcap9, g, cap9, cs9, f3, f0, hB9, hI9, hl9, hg9⟩ := hM8.first
              simp only [List.length_nil, Nat.zero_add] at f3
              have FW8 := FW6.trans hM8.fr0
              have hw66 := FW6.size
              have HMM := hid (show homO k hd1 bd1 hd2 bd2 = some (m9.map (fun x => max x 0)) by rw [HOM.out, hms]; rfl)
              have RA0 : Hid (Rai w8 g cs9.size m9 0 w8) := hid ⟨cs9, hB9, rfl, by simpa using hI9, Ch.refl _⟩
              have hcs9 := hI9.size
              clear hM8 HOM hms hB9 hI9
              go_wp2_with fail
              go_loopw [10] (fun t wr => ∃ j : Nat, j ≤ k ∧ t = .int .i64 j ∧ Hid (Rai w8 g cs9.size m9 j wr)) (fun t _ => k - (intOf t).toNat)
              case atStart => exact ⟨0, by omega, rfl, RA0⟩
              case round =>
                clear f0 f3
                revert wr
                intro wr hrel
                obtain ⟨j, hj, rfl, HRA⟩ := hrel
                obtain ⟨cs10, hB10, hs10, hI10, hC10⟩ := HRA.out
                by_cases hjl : j < k
                · have hu := hB10.cell j
                  have hjm : j < ((m9.take j).map (fun x => max x 0) ++ m9.drop j).length := by simp; omega
                  rw [hI10 j hjm, rai_at (by omega)] at hu
                  have hfz := hB10.frozen j
                  have NX := hid (show Rai w8 g cs9.size m9 (j + 1) (wr.setCell ⟨g, j, none⟩ (.int .i64 (if m9[j] < 0 then 0 else m9[j]))) from by
                    rw [show (if m9[j] < 0 then 0 else m9[j]) = max m9[j] 0 by split <;> omega]
                    exact ⟨_, hB10.set_ j _, by simp [hs10], by
                      rw [← rai_set (by omega)]; exact hI10.set (by simp; omega), hC10.set (.inl rfl) _⟩)
                  clear hB10 hI10 hC10
                  go_wp2
                  go_roundw
                  case rel => exact ⟨j + 1, by omega, by go_num, NX⟩
                  case measure => simp [intOf]; omega
                · obtain rfl : j = k := by omega
                  have RES : Hid (HsPost w (homO j hd1 bd1 hd2 bd2) (.returned (.tuple #[.slice (some ⟨g, 0, none⟩) j cap9, .bool true])) wr ∧ Fr w wr) := hid (by
                    rw [HMM.out]
                    refine ⟨⟨g, cap9, cs10, by simp [hl9], hB10, ?_, by simp; omega, by omega⟩, hC10.fr (fun i hi => by have : i = g := hi; omega) FW8⟩
                    rw [List.take_of_length_le (by omega), List.drop_eq_nil_of_le (by omega), List.append_nil] at hI10
                    exact hI10)
                  clear hB10 hI10 hC10
                  go_wp2
                  go_ret2
                  exact RES.out
      · have hle : ((hd1.length : Int) == (hd2.length : Int)) = false := by simp; omega
        have hom : homO k hd1 bd1 hd2 bd2 = none := by
          unfold homO hom1
          rw [bindH_ne hlen]; rfl
        have RES := hid (show HsPost w (homO k hd1 bd1 hd2 bd2) (.returned (.tuple #[.slice none 0 0, .bool false])) wr ∧ Fr w wr from ⟨by rw [hom]; exact rfl, FW6.trans FWr⟩)
        clear HM hom
        go_wp2
        go_ret2
        exact RES.out
/- Walks of FindHomomorphism and IsContained on both sides. -/

/-- What FindHomomorphism answers. -/
def fndO (q1 : Int) (hd1 : List Int) (bd1 : List Atom) (q2 : Int) (hd2 : List Int) (bd2 : List Atom) : Option (List Int) := if vrule q1 hd1 bd1 && vrule q2 hd2 bd2 then homO q1 hd1 bd1 hd2 bd2 else none
section
variable (q1 q2 : Int) (A0 A1 B0 B1 : Option Addr) (c0 c1 d0 d1 : Nat) (hd1 hd2 : List Int) (bd1 bd2 : List Atom)
theorem HsPost.form {w w' : World} {o : Option (List Int)} {r : Ending} (h : HsPost w o r w') : ∃ v, r = .returned (.tuple #[v, .bool o.isSome]) := by
  cases o with
  | none => exact ⟨_, h⟩
  | some m' => obtain ⟨g, c, cs, h, _⟩ := h; exact ⟨_, h⟩
theorem HsPost.low {w w0 w' : World} {o : Option (List Int)} {r : Ending} (h : HsPost w o r w') (h1 : w0.heap.size ≤ w.heap.size) : HsPost w0 o r w' := by
  cases o with
  | none => exact h
  | some m' => obtain ⟨g, c, cs, h, h2, h3, h4, h5⟩ := h; exact ⟨g, c, cs, h, h2, h3, h4, by omega⟩
theorem HgPost.form {w w' : World} {ei ea : Addr} {ok : Bool} {o : Option (List Int)} {r : Ending} (h : HgPost w ei ea ok o r w') :
    (∃ v, r = .returned (.tuple #[v, .nilIface]) ∧ ok = true ∧ o.isSome = true ∧ HsPost w o (.returned (.tuple #[v, .bool true])) w') ∨ ∃ v a, r = .returned (.tuple #[v, noHom a]) ∧ (ok && o.isSome) = false := by
  cases ok with
  | false => exact .inr ⟨_, _, h, rfl⟩
  | true =>
    cases o with
    | none => exact .inr ⟨_, _, h, rfl⟩
    | some m' =>
      obtain ⟨g, c, cs, h, h2⟩ := h
      exact .inl ⟨_, h, rfl, rfl, g, c, cs, rfl, h2⟩
theorem HgPost.pair {w w' : World} {ei ea : Addr} {ok : Bool} {o : Option (List Int)} {r : Ending} (h : HgPost w ei ea ok o r w') :
    ∃ v e, r = .returned (.tuple #[v, e]) ∧ ((e = .nilIface ∧ (ok && o.isSome) = true) ∨ ∃ a, e = noHom a ∧ (ok && o.isSome) = false) := by
  rcases h.form with ⟨v, h1, h2, h3, _⟩ | ⟨v, a, h1, h2⟩
  · exact ⟨v, _, h1, .inl ⟨rfl, by rw [h2, h3]; rfl⟩⟩
  · exact ⟨v, _, h1, .inr ⟨a, rfl, h2⟩⟩
end
/- Plain maths: where there is a homomorphism, one is found. -/

theorem fndO_some {q1 q2 : Int} {hd1 hd2 M : List Int} {bd1 bd2 : List Atom} (h1 : vrule q1 hd1 bd1 = true) (h2 : vrule q2 hd2 bd2 = true) (hM : M.length = q1.toNat) (hh : hd1.map (var M) = hd2) (hb : ∀ a ∈ bd1, a.by M ∈ bd2) : (fndO q1 hd1 bd1 q2 hd2 bd2).isSome = true := by
  obtain ⟨k1, _, _, _, _, k6, k7⟩ := vrule_parts h1
  subst hh
  have e0 : List.replicate q1.toNat (-1 : Int) = List.replicate M.length (-1) := by rw [hM]
  obtain ⟨m0, e1, l1⟩ := bindH_le (vs := hd1) (le_new M) fun v hv => by have := k7 v hv; omega
  obtain ⟨m', h3, _⟩ := mts_le (fs := frz bd2) (bd := bd1) l1 fun a ha => by
    have := k6 a ha
    exact ⟨by omega, by omega, by_frz.2 (hb a ha)⟩
  unfold fndO homO hom1
  rw [if_pos (by rw [h1, h2]; rfl), e0, e1]
  cases e : mts bd1 (frz bd2) m0 with
  | nil => rw [e] at h3; cases h3
  | cons x r => simp [Option.bind, e]
/-- A query with fewer atoms contains it. -/
theorem fndO_sub {q : Int} {hd : List Int} {bd1 bd2 : List Atom} (h1 : vrule q hd bd1 = true) (h2 : vrule q hd bd2 = true) (hs : ∀ a ∈ bd1, a ∈ bd2) : (fndO q hd bd1 q hd bd2).isSome = true := by
  obtain ⟨_, _, _, _, _, k6, k7⟩ := vrule_parts h1
  refine fndO_some (M := idM q) h1 h2 (idM_len q) (map_idM fun v hv => k7 v hv) fun a ha => ?_
  have := k6 a ha
  rw [by_idM ⟨by omega, by omega, by omega, by omega⟩]
  exact hs a ha
/-- An accepted mapping tells that one is found. -/
theorem fndO_chk {q1 q2 : Int} {hd1 hd2 m : List Int} {bd1 bd2 : List Atom} (h : chkHom q1 hd1 bd1 q2 hd2 bd2 m = true) : (fndO q1 hd1 bd1 q2 hd2 bd2).isSome = true := by
  unfold chkHom isHom at h
  simp only [Bool.and_eq_true, decide_eq_true_eq, List.all_eq_true] at h
  obtain ⟨⟨⟨h1, h2⟩, h3⟩, _, h4, h5⟩ := h
  exact fndO_some h1 h2 (by omega) h5 fun a ha => inA_iff.1 (h4 a ha)
/-- The identity is accepted. -/
theorem chk_id {q : Int} {hd : List Int} {bd : List Atom} (h : vrule q hd bd = true) : chkHom q hd bd q hd bd (idM q) = true := by
  obtain ⟨k1, _, _, _, _, k6, k7⟩ := vrule_parts h
  unfold chkHom isHom
  simp only [Bool.and_eq_true, decide_eq_true_eq, List.all_eq_true]
  refine ⟨⟨⟨h, h⟩, by rw [idM_len]; omega⟩, fun x hx => ?_, fun a ha => ?_, map_idM fun v hv => k7 v hv⟩
  · unfold idM at hx
    obtain ⟨n, hn, rfl⟩ := List.mem_map.1 hx
    have := List.mem_range.1 hn
    simp only [hasV, Bool.and_eq_true, decide_eq_true_eq]
    omega
  · have := k6 a ha
    rw [by_idM ⟨by omega, by omega, by omega, by omega⟩]
    exact inA_iff.2 ha

/-- The mapping that is found is accepted. -/
theorem chk_fnd {q1 q2 : Int} {hd1 hd2 M : List Int} {bd1 bd2 : List Atom} (h : fndO q1 hd1 bd1 q2 hd2 bd2 = some M) : chkHom q1 hd1 bd1 q2 hd2 bd2 M = true := by
  unfold fndO at h
  split at h
  · rename_i hv
    rw [Bool.and_eq_true] at hv
    obtain ⟨h1, h2⟩ := hv
    unfold homO at h
    obtain ⟨m, hm, rfl⟩ := Option.map_eq_some_iff.1 h
    obtain ⟨k1, _, _, _, _, k6, k7⟩ := vrule_parts h1
    obtain ⟨j1, _, _, _, _, j6, j7⟩ := vrule_parts h2
    have hlen := hom1_len hm
    have hrng := hom1_rng (B := q2) hm (by omega) (fun x hx => by have := j7 x hx; omega) (fun a ha => by have := j6 a ha; omega)
    unfold hom1 at hm
    obtain ⟨m0, e0, e1⟩ := Option.bind_eq_some_iff.1 hm
    have hl0 : m0.length = q1.toNat := by rw [bindH_len e0, List.length_replicate]
    obtain ⟨_, b2⟩ := bindH_ext e0 (fun v hv => by have := k7 v hv; rw [List.length_replicate]; omega) (fun x hx => (j7 x hx).1)
    obtain ⟨c1, c2⟩ := mts_ext (List.mem_of_head? e1) (fun a ha => by have := k6 a ha; rw [hl0]; omega) (fun f hf => by
      obtain ⟨a, ha, rfl⟩ := mem_frz.1 hf
      have := j6 a ha
      exact ⟨this.2.2.1, this.2.2.2.2.1⟩)
    unfold chkHom isHom
    simp only [Bool.and_eq_true, decide_eq_true_eq, List.all_eq_true]
    refine ⟨⟨⟨h1, h2⟩, by rw [List.length_map, hlen]; omega⟩, fun x hx => ?_, fun a ha => ?_, ?_⟩
    · obtain ⟨y, hy, rfl⟩ := List.mem_map.1 hx
      have := hrng y hy
      simp only [hasV, Bool.and_eq_true, decide_eq_true_eq]
      omega
    · obtain ⟨d1, d2, d3⟩ := c2 a ha
      have : a.by (m.map (fun x => max x 0)) = a.by m := by unfold Atom.by; rw [var_max d2, var_max d3]
      rw [this]
      exact inA_iff.2 (by_frz.1 d1)
    · rw [← b2]
      refine List.map_congr_left fun v hv => ?_
      have hx : var m0 v ∈ hd2 := by rw [← b2]; exact List.mem_map_of_mem hv
      have h0 : 0 ≤ var m0 v := (j7 _ hx).1
      have hvm : var m v = var m0 v := c1.var (by have := k7 v hv; rw [hl0]; omega) h0
      rw [var_max (by rw [hvm]; exact h0), hvm]
  · cases h
/- FindHomomorphism and IsContained on both sides, as the exact laws take them. -/

/-- A slice of ints of the call's own, and a bool. -/
def FhPost (base : Nat) (L : List Int) (b : Bool) (r : Ending) (w' : World) : Prop := ∃ A' cap', r = .returned (.tuple #[.slice A' L.length cap', .bool b]) ∧ RdSl rdInt (fromB w' base) 1 A' L ∧ Mk w' A' L.length ∧ ∀ k, AtB A' k → base ≤ k
theorem fhPost_out {base : Nat} {L : List Int} {b : Bool} {r : Ending} {w' : World} (h : FhPost base L b r w') : ∃ A' cap', r = .returned (.tuple #[.slice A' L.length cap', .bool b]) ∧ RdSl rdInt (fromB w' base) 1 A' L ∧ Mk w' A' L.length ∧ ∀ k, AtB A' k → base ≤ k := h
theorem HsPost.fh {w w' : World} {o : Option (List Int)} {r : Ending} (h : HsPost w o r w') : FhPost w.heap.size (o.getD []) o.isSome r w' := by
  cases o with
  | none => exact ⟨none, 0, h, RdSl.nil, fun h => absurd rfl h, fun k ⟨_, h, _⟩ => by cases h⟩
  | some m =>
    obtain ⟨g, c, cs, h, hB, hI, hs, hg⟩ := h
    refine ⟨some ⟨g, 0, none⟩, c, h, fun _ => ⟨g, 0, rfl, fun i hi => ?_⟩, fun _ => ⟨g, _, cs, rfl, hB, hs⟩, fun k ⟨ad, h1, h2⟩ => by cases h1; rw [← h2]; exact hg⟩
    show fromB w' w.heap.size ⟨g, 0 + i * 1 + 0, none⟩ = _
    unfold fromB
    rw [if_pos hg, hB.cell]
    have h1 := hI i hi
    simpa using h1
section
variable (q1 q2 : Int) (A0 A1 B0 B1 : Option Addr) (c0 c1 d0 d1 : Nat) (hd1 hd2 : List Int) (bd1 bd2 : List Atom)
theorem fndL_len {q1 q2 : Int} {hd1 hd2 : List Int} {bd1 bd2 : List Atom} : ((fndO q1 hd1 bd1 q2 hd2 bd2).getD []).length ≤ 2000 := by
  unfold fndO
  split
  · rename_i h
    cases ho : homO q1 hd1 bd1 hd2 bd2 with
    | none => simp
    | some m =>
      unfold homO at ho
      obtain ⟨m0, h0, rfl⟩ := Option.map_eq_some_iff.1 ho
      have := hom1_len h0
      rw [Bool.and_eq_true] at h
      have := vrule_parts h.1
      simp; omega
  · simp
set_option maxRecDepth 100000 in
set_option maxHeartbeats 2000000 in
/-- IsContained(a, b): is there a homomorphism from b to a? -/
theorem specIsC (w : World) (hx0 : RdSl rdInt w.cell? 1 A0 hd1) (hx1 : RdSl rdAtom w.cell? 3 A1 bd1) (hy0 : RdSl rdInt w.cell? 1 B0 hd2) (hy1 : RdSl rdAtom w.cell? 3 B1 bd2) (hl0 : hd1.length ≤ 1048576) (hl1 : bd1.length ≤ 1048576) (hl2 : hd2.length ≤ 1048576) (hl3 : bd2.length ≤ 1048576) :
    Calls Tryz.prog 8 #[.agg #[.int .i64 q1, .slice A0 hd1.length c0, .slice A1 bd1.length c1], .agg #[.int .i64 q2, .slice B0 hd2.length d0, .slice B1 bd2.length d1]] w fun r w' => r = .returned (.bool (fndO q2 hd2 bd2 q1 hd1 bd1).isSome) ∧ Fr w w' := by
  have B0' := (Blk.new w 26 #[.int .i64 q1, .slice A0 hd1.length c0, .slice A1 bd1.length c1]).alloc (.cells #[.int .i64 q2, .slice B0 hd2.length d0, .slice B1 bd2.length d1] 26)
  have B1' := Blk.new (w.alloc (.cells #[.int .i64 q1, .slice A0 hd1.length c0, .slice A1 bd1.length c1] 26)) 26 #[.int .i64 q2, .slice B0 hd2.length d0, .slice B1 bd2.length d1]
  rw [World.size_alloc] at B1'
  have F1 : Fr w ((w.alloc (.cells #[.int .i64 q1, .slice A0 hd1.length c0, .slice A1 bd1.length c1] 26)).alloc (.cells #[.int .i64 q2, .slice B0 hd2.length d0, .slice B1 bd2.length d1] 26)) := by (repeat (first | with_reducible exact Fr.refl _ | with_reducible assumption | with_reducible refine Fr.alloc ?_ _ | with_reducible refine Fr.drew ?_ | with_reducible refine Fr.drewN ?_ _ | (with_reducible refine Fr.setNew2 ?_ ?_ _; · (simp <;> omega)) | with_reducible refine Fr.trans ?_ (by assumption)))
  have V1 := hid (fun W (h : Fr w W) => specVRule q1 A0 c0 hd1 A1 c1 bd1 W (hx0.fr rdInt_mono h) (hx1.fr rdAtom_mono h) hl0 hl1)
  have V2 := hid (fun W (h : Fr w W) => specVRule q2 B0 d0 hd2 B1 d1 bd2 W (hy0.fr rdInt_mono h) (hy1.fr rdAtom_mono h) hl2 hl3)
  have HM := hid (fun W (h : Fr w W) (e1 : vrule q1 hd1 bd1 = true) (e2 : vrule q2 hd2 bd2 = true) => specHomW q2 q1 B0 B1 A0 A1 d0 d1 c0 c1 hd2 hd1 bd2 bd1 W (hy0.fr rdInt_mono h) (hy1.fr rdAtom_mono h) (hx0.fr rdInt_mono h) (hx1.fr rdAtom_mono h) e2 e1)
  clear hx0 hx1 hy0 hy1
  go_enter Tryz.func8, Tryz.ntmps8
  go_wp2_with fail
  generalize (w.alloc (.cells #[.int .i64 q1, .slice A0 hd1.length c0, .slice A1 bd1.length c1] 26)).alloc (.cells #[.int .i64 q2, .slice B0 hd2.length d0, .slice B1 bd2.length d1] 26) = w1 at B0' B1' F1 ⊢
  refine (V1.out w1 F1).mono ?_
  rintro _ w2 ⟨rfl, hF2⟩
  have F2 := F1.trans hF2
  replace B0' := B0'.fr hF2
  replace B1' := B1'.fr hF2
  clear hF2 F1
  cases hv1 : vrule q1 hd1 bd1
  · have RES : Hid ((fndO q2 hd2 bd2 q1 hd1 bd1).isSome = false) := hid (by unfold fndO; rw [hv1, Bool.and_false]; rfl)
    clear hv1
    go_wp2
    go_ret
    exact ⟨ret_bool RES.out.symm, F2⟩
  obtain ⟨b0, b1, b2, _⟩ := B0'.three
  obtain ⟨e0, e1, e2, _⟩ := B1'.three
  go_wp2_with fail
  refine (V2.out w2 F2).mono ?_
  rintro _ w3 ⟨rfl, hF3⟩
  have F3 := F2.trans hF3
  replace B0' := B0'.fr hF3
  replace B1' := B1'.fr hF3
  clear hF3 F2 b0 b1 b2 e0 e1 e2
  cases hv2 : vrule q2 hd2 bd2
  · have RES : Hid ((fndO q2 hd2 bd2 q1 hd1 bd1).isSome = false) := hid (by unfold fndO; rw [hv2]; rfl)
    clear hv1
    go_wp2
    go_ret
    exact ⟨ret_bool RES.out.symm, F3⟩
  obtain ⟨b0, b1, b2, _⟩ := B0'.three
  obtain ⟨e0, e1, e2, _⟩ := B1'.three
  have HMC := hid (HM.out w3 F3 hv1 hv2)
  have EQ := hid (show fndO q2 hd2 bd2 q1 hd1 bd1 = homO q2 hd2 bd2 hd1 bd1 by unfold fndO; rw [hv1, hv2]; rfl)
  clear hv1 hv2 V1 V2 HM
  go_wp2_with fail
  refine HMC.out.mono ?_
  rintro r w4 ⟨hP, hF4⟩
  obtain ⟨v, rfl⟩ := hP.form
  clear hP HMC
  go_wp2
  go_ret
  exact ⟨ret_bool (by rw [EQ.out]), F3.trans hF4⟩
set_option maxRecDepth 100000 in
set_option maxHeartbeats 2000000 in
theorem implIsC (ei ea : Addr) (w : World) (hx0 : RdSl rdInt w.cell? 1 A0 hd1) (hx1 : RdSl rdAtom w.cell? 3 A1 bd1) (hy0 : RdSl rdInt w.cell? 1 B0 hd2) (hy1 : RdSl rdAtom w.cell? 3 B1 bd2) (hl0 : hd1.length ≤ 1048576) (hl1 : bd1.length ≤ 1048576) (hl2 : hd2.length ≤ 1048576) (hl3 : bd2.length ≤ 1048576)
    (hc : bd2.length ≤ d1) (hc2 : d1 ≤ maxLen) (he0 : w.cell? ⟨0, 0, none⟩ = some (noHom ei)) (he1 : w.cell? ⟨1, 0, none⟩ = some (noHom ea)) :
    Calls Tryz.prog 7 #[.agg #[.int .i64 q1, .slice A0 hd1.length c0, .slice A1 bd1.length c1], .agg #[.int .i64 q2, .slice B0 hd2.length d0, .slice B1 bd2.length d1]] w fun r w' => r = .returned (.bool (fndO q2 hd2 bd2 q1 hd1 bd1).isSome) ∧ Fr w w' := by
  have F1 : Fr w ((w.alloc (.cells #[.int .i64 q1, .slice A0 hd1.length c0, .slice A1 bd1.length c1] 26)).alloc (.cells #[.int .i64 q2, .slice B0 hd2.length d0, .slice B1 bd2.length d1] 26)) := by (repeat (first | with_reducible exact Fr.refl _ | with_reducible assumption | with_reducible refine Fr.alloc ?_ _ | with_reducible refine Fr.drew ?_ | with_reducible refine Fr.drewN ?_ _ | (with_reducible refine Fr.setNew2 ?_ ?_ _; · (simp <;> omega)) | with_reducible refine Fr.trans ?_ (by assumption)))
  have HM := hid (fun W (h : Fr w W) => implHomW q2 q1 B0 B1 A0 A1 d0 d1 c0 c1 hd2 hd1 bd2 bd1 ei ea W (hy0.fr rdInt_mono h) (hy1.fr rdAtom_mono h) (hx0.fr rdInt_mono h) (hx1.fr rdAtom_mono h) hl2 hl3 hl0 hl1 hc hc2 (h.cell he0) (h.cell he1))
  clear hx0 hx1 hy0 hy1 he0 he1
  go_enter Tryz.func7, Tryz.ntmps7
  go_wp2_with fail
  generalize (w.alloc (.cells #[.int .i64 q1, .slice A0 hd1.length c0, .slice A1 bd1.length c1] 26)).alloc (.cells #[.int .i64 q2, .slice B0 hd2.length d0, .slice B1 bd2.length d1] 26) = w1 at F1 ⊢
  refine (HM.out w1 F1).mono ?_
  rintro r w4 ⟨hP, hF4⟩
  rcases hP.form with ⟨v, rfl, hok, hso, hs⟩ | ⟨v, a, rfl, hno⟩
  · have RES := hid (show (fndO q2 hd2 bd2 q1 hd1 bd1).isSome = true by unfold fndO; rw [hok]; exact hso)
    clear hP HM hs hok hso
    go_wp2
    go_ret
    exact ⟨ret_bool RES.out.symm, F1.trans hF4⟩
  · have RES := hid (show (fndO q2 hd2 bd2 q1 hd1 bd1).isSome = false by
      unfold fndO
      cases hok : (vrule q2 hd2 bd2 && vrule q1 hd1 bd1)
      · rfl
      · rw [hok, Bool.true_and] at hno
        exact hno)
    clear hP HM hno
    go_wp2
    go_ret
    exact ⟨ret_bool RES.out.symm, F1.trans hF4⟩
end
end Go.Proofs.YtahclhldpcboeaaGreatDoor
