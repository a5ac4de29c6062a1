/- Walks of CheckHomomorphism, on the spec's side. -/
import Derived.Test.YtahclhldpcboeaaHomW
import Derived.Deep.RegionHeld3
namespace Go.Proofs.Ytahclhldpcboeaa
open Go Go.RowKit

theorem var_mem {m : List Int} {v : Int} (h0 : 0 ≤ v) (h1 : v < m.length) : var m v ∈ m := by
  obtain ⟨n, rfl⟩ : ∃ n : Nat, v = n := ⟨v.toNat, by omega⟩
  have hn : n < m.length := by omega
  rw [var_at rfl hn]
  exact List.getElem_mem hn
set_option maxRecDepth 100000 in
set_option maxHeartbeats 4000000 in
theorem specIsHom (q1 q2 : Int) (A0 A1 B0 B1 M : Option Addr) (c0 c1 d0 d1 cm : Nat) (hd1 hd2 m : List Int) (bd1 bd2 : List Atom) (w : World) (hx0 : RdSl rdInt w.cell? 1 A0 hd1) (hx1 : RdSl rdAtom w.cell? 3 A1 bd1) (hy0 : RdSl rdInt w.cell? 1 B0 hd2) (hy1 : RdSl rdAtom w.cell? 3 B1 bd2) (hm : RdSl rdInt w.cell? 1 M m)
    (l0 : hd1.length ≤ 6) (l1 : bd1.length ≤ 6) (l2 : hd2.length ≤ 6) (l3 : bd2.length ≤ 6) (hb : ∀ a ∈ bd1, 0 ≤ a.x ∧ a.x < m.length ∧ 0 ≤ a.y ∧ a.y < m.length) (hv : ∀ v ∈ hd1, 0 ≤ v ∧ v < m.length) (hmb : ∀ v ∈ m, -100000 ≤ v ∧ v ≤ 100000) (hhb : ∀ v ∈ hd2, -100000 ≤ v ∧ v ≤ 100000) :
    Calls Try.prog 40 #[.agg #[.int .i64 q1, .slice A0 hd1.length c0, .slice A1 bd1.length c1], .agg #[.int .i64 q2, .slice B0 hd2.length d0, .slice B1 bd2.length d1], .slice M m.length cm] w fun r w' => r = .returned (.bool (isHom hd1 bd1 hd2 bd2 m)) ∧ Fr w w' := by
  have HX0 := hid hx0
  have HX1 := hid hx1
  have HY0 := hid hy0
  have HY1 := hid hy1
  have HM := hid hm
  have HB := hid hb
  have HV := hid hv
  have HMB := hid hmb
  have HHB := hid hhb
  clear hx0 hx1 hy0 hy1 hm hb hv hmb hhb
  have BA := (Blk.new w 30 #[.int .i64 q1, .slice A0 hd1.length c0, .slice A1 bd1.length c1]).alloc (.cells #[.int .i64 q2, .slice B0 hd2.length d0, .slice B1 bd2.length d1] 30)
  have BB := Blk.new (w.alloc (.cells #[.int .i64 q1, .slice A0 hd1.length c0, .slice A1 bd1.length c1] 30)) 30 #[.int .i64 q2, .slice B0 hd2.length d0, .slice B1 bd2.length d1]
  rw [World.size_alloc] at BB
  have F1 : Fr w ((w.alloc (.cells #[.int .i64 q1, .slice A0 hd1.length c0, .slice A1 bd1.length c1] 30)).alloc (.cells #[.int .i64 q2, .slice B0 hd2.length d0, .slice B1 bd2.length d1] 30)) := ((Fr.refl _).alloc _).alloc _
  go_enter Try.func40, Try.ntmps40
  go_wp2_with fail
  generalize (w.alloc (.cells #[.int .i64 q1, .slice A0 hd1.length c0, .slice A1 bd1.length c1] 30)).alloc (.cells #[.int .i64 q2, .slice B0 hd2.length d0, .slice B1 bd2.length d1] 30) = W1 at BA BB F1 ⊢
  refine (specFreezeW q2 B0 d0 hd2 B1 d1 bd2 W1 (HY1.out.fr rdAtom_mono F1) l3).mono ?_
  rintro r w2 ⟨fv, rfl, ⟨fb, fo, fc, rfl, hF, hfc⟩, b2⟩
  have HF := hid hF
  have hfl := frz_len bd2
  clear hF
  have F2 := F1.trans b2
  go_wp2
  go_loopw [8] (fun t wr => ∃ (k : Nat), k ≤ bd1.length ∧ t = .int .i64 k ∧ Fr w2 wr ∧ ∀ i (h1 : i < bd1.length), i < k → bd1[i].by m ∈ bd2) (fun t _ => bd1.length - (intOf t).toNat)
  case atStart => exact ⟨0, by omega, rfl, Fr.refl _, fun i _ h => absurd h (by omega)⟩
  case round =>
    obtain ⟨k, hk, rfl, hf, hv⟩ := hrel
    have HV2 := hid hv
    clear hv
    have FF := F2.trans hf
    obtain ⟨a0, a1, a2, _⟩ := (BA.fr (b2.trans hf)).three
    obtain ⟨b0, b1, b2', _⟩ := (BB.fr (b2.trans hf)).three
    by_cases hlt : k < bd1.length
    · obtain ⟨ab, ao, hA, g0, g1, g2⟩ := HX1.out.atom hlt
      subst hA
      have FA : Fr wr (wr.alloc (.cells #[.int .i64 bd1[k].rel, .int .i64 bd1[k].x, .int .i64 bd1[k].y] 60)) := (Fr.refl _).alloc _
      obtain ⟨e0, e1, e2, _⟩ := (Blk.new wr 60 #[.int .i64 bd1[k].rel, .int .i64 bd1[k].x, .int .i64 bd1[k].y]).three
      have hbk := HB.out bd1[k] (List.getElem_mem hlt)
      obtain ⟨nx, hnx⟩ : ∃ j : Nat, bd1[k].x = j := ⟨bd1[k].x.toNat, by omega⟩
      obtain ⟨ny, hny⟩ : ∃ j : Nat, bd1[k].y = j := ⟨bd1[k].y.toNat, by omega⟩
      have lx : nx < m.length := by omega
      have ly : ny < m.length := by omega
      obtain ⟨mb, mo, hMA, m0⟩ := HM.out.at_ lx
      subst hMA
      obtain ⟨mb', mo', hMA, m1⟩ := HM.out.at_ ly
      cases hMA
      have eby : bd1[k].by m = ⟨bd1[k].rel, m[nx], m[ny]⟩ := by unfold Atom.by; rw [var_at hnx lx, var_at hny ly]
      have EBY := hid eby
      replace g0 := FF.cell g0
      replace g1 := FF.cell g1
      replace g2 := FF.cell g2
      simp only [hnx, hny] at FA e0 e1 e2 g0 g1 g2
      have m0' := (FF.trans FA).cell m0
      have m1' := (FF.trans FA).cell m1
      simp only [Nat.mul_one, Nat.add_zero] at m0' m1'
      clear m0 m1 hbk eby hnx hny
      by_cases hin : bd1[k].by m ∈ bd2
      · have R := hid (show decide ((⟨bd1[k].rel, m[nx], m[ny]⟩ : Fact) ∈ frz bd2) = true by
          simp only [decide_eq_true_eq]
          have := by_frz (m := m) (a := bd1[k]) (bd := bd2)
          rw [EBY.out] at this
          rw [EBY.out] at hin
          exact this.2 hin)
        have HI := hid hin
        clear hin
        go_wp2_with fail
        (refine wp_region_quietC (fun w' => Fr _ w') (by kernel_rfl) (by kernel_rfl) (Fr.refl _).drew ?_; (repeat go_big_quiet_step (first | exact fun _ => rfl | exact fun _ => ⟨rfl, rfl⟩ | (intro hw'; replace e0 := hw'.cell e0; replace e1 := hw'.cell e1; replace e2 := hw'.cell e2; replace m0' := hw'.cell m0'; replace m1' := hw'.cell m1'; go_simp; first | done | exact rfl | exact ⟨rfl, rfl⟩) | (intro hw'; go_at_call 67; refine (hasFact _ _ (frz bd2) ⟨bd1[k].rel, m[nx], m[ny]⟩ _ (HF.out.fr rdFact_mono ((hf.trans FA).trans hw')) (by omega)).mono ?_; rintro r w5 ⟨rfl, b5⟩; rw [R.out]; exact ⟨rfl, Fr.trans hw' b5⟩))); refine wpQuiet_nil ?_; intro wq hq)
        go_wp2
        go_roundw
        case rel => exact ⟨k + 1, by omega, by go_num, (hf.trans FA).trans hq, fun i h hi => by
          by_cases q : i = k
          · subst q; exact HI.out
          · exact HV2.out i h (by omega)⟩
        case measure => simp [intOf]; omega
      · have R := hid (show decide ((⟨bd1[k].rel, m[nx], m[ny]⟩ : Fact) ∈ frz bd2) = false by
          simp only [decide_eq_false_iff_not]
          have := by_frz (m := m) (a := bd1[k]) (bd := bd2)
          rw [EBY.out] at this
          rw [EBY.out] at hin
          exact fun h => hin (this.1 h))
        have NO := hid (show isHom hd1 bd1 hd2 bd2 m = false by
          unfold isHom
          rw [all_no (p := fun a => inA bd2 (a.by m)) hlt (by rw [← Bool.not_eq_true, inA_iff]; exact hin)]; rfl)
        clear hin
        go_wp2_with fail
        (refine wp_region_quietC (fun w' => Fr _ w') (by kernel_rfl) (by kernel_rfl) (Fr.refl _).drew ?_; (repeat go_big_quiet_step (first | exact fun _ => rfl | exact fun _ => ⟨rfl, rfl⟩ | (intro hw'; replace e0 := hw'.cell e0; replace e1 := hw'.cell e1; replace e2 := hw'.cell e2; replace m0' := hw'.cell m0'; replace m1' := hw'.cell m1'; go_simp; first | done | exact rfl | exact ⟨rfl, rfl⟩) | (intro hw'; go_at_call 67; refine (hasFact _ _ (frz bd2) ⟨bd1[k].rel, m[nx], m[ny]⟩ _ (HF.out.fr rdFact_mono ((hf.trans FA).trans hw')) (by omega)).mono ?_; rintro r w5 ⟨rfl, b5⟩; rw [R.out]; exact ⟨rfl, Fr.trans hw' b5⟩))); refine wpQuiet_nil ?_; intro wq hq)
        go_wp2
        go_ret
        exact ⟨ret_bool NO.out.symm, (FF.trans FA).trans hq⟩
    · have AE := hid (show isHom hd1 bd1 hd2 bd2 m = decide (hd1.map (var m) = hd2) by
        unfold isHom
        rw [all_yes (p := fun a => inA bd2 (a.by m)) (fun i hi => inA_iff.2 (HV2.out i hi (by omega))), Bool.true_and])
      have BV := hid (show ∀ v ∈ hd1.map (var m), -100000 ≤ v ∧ v ≤ 100000 from fun v hv => by
        obtain ⟨u, hu, rfl⟩ := List.mem_map.1 hv
        obtain ⟨h1, h2⟩ := HV.out u hu
        exact HMB.out _ (var_mem h1 h2))
      have hml : (hd1.map (var m)).length = hd1.length := by simp
      have HML := hid hml
      clear hml
      go_wp2_with fail
      have keepL : ∀ W' : World, Fr wr W' → (Fr wr W' ∧ W'.cell? ⟨w.heap.size, 1, none⟩ = some (.slice A0 hd1.length c0) ∧ W'.cell? ⟨w.heap.size + 1, 1, none⟩ = some (.slice B0 hd2.length d0)) := fun W' F => ⟨F, F.cell a1, F.cell b1⟩
      go_region_held3 (fun W' => Fr wr W' ∧ W'.cell? ⟨w.heap.size, 1, none⟩ = some (.slice A0 hd1.length c0) ∧ W'.cell? ⟨w.heap.size + 1, 1, none⟩ = some (.slice B0 hd2.length d0)) ((refine keepL _ ?_; (repeat (first | with_reducible exact Fr.refl _ | with_reducible assumption | with_reducible refine Fr.alloc ?_ _ | with_reducible refine Fr.drew ?_ | with_reducible refine Fr.drewN ?_ _ | (with_reducible refine Fr.setNew2 ?_ ?_ _; · (simp <;> omega)) | with_reducible refine Fr.trans ?_ (by assumption))); done))
        (first
          | (go_at_call 69; refine (headOf A0 M c0 cm hd1 m _ (HX0.out.fr rdInt_mono (FF.trans (Fr.refl wr).drew)) (HM.out.fr rdInt_mono (FF.trans (Fr.refl wr).drew)) (by omega) HV.out).mono ?_; rintro r w6 ⟨A', c', rfl, hR6, b6⟩; have F6 : Fr wr w6 := (Fr.refl wr).drew.trans b6; have HR6 := hid (hR6.mono rdInt_mono (fromB_le _ _)); clear hR6)
          | (go_at_call 68; refine (specEqInts' A' B0 c' d0 hd1.length (hd1.map (var m)) hd2 _ HML.out HR6.out (HY0.out.fr rdInt_mono (FF.trans F6)) (by omega) (by omega) BV.out HHB.out).mono ?_; rintro r w7 ⟨rfl, b7⟩; have F7 := F6.trans b7)
          | fail)
      all_goals go_wp2
      all_goals go_ret
      all_goals exact ⟨ret_bool AE.out.symm, FF.trans F7⟩
end Go.Proofs.Ytahclhldpcboeaa
