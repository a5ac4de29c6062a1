/- Walk of the law FnContainmentComplete. -/
import Derived.Test.YtahclhldpcboeaaGreatDoorConD
import Derived.Test.YtahclhldpcboeaaGreatDoorEqA
import Derived.Test.YtahclhldpcboeaaGreatDoorFrzI
import Derived.Test.YtahclhldpcboeaaGreatDoorLawD
namespace Go.Proofs.YtahclhldpcboeaaGreatDoor
open Go Go.RowKit
set_option maxRecDepth 100000 in
set_option maxHeartbeats 4000000 in
theorem walkFnContainmentComplete (P0 : Option Addr) (p0 : Nat) (xs : List Nat) (ei ea : Addr) (w : World) (hx : RdSl rdByte w.cell? 1 P0 xs) (_ : xs.length ≤ maxLen) (hc : xs.length ≤ p0) (he0 : w.cell? ⟨0, 0, none⟩ = some (noHom ei)) (he1 : w.cell? ⟨1, 0, none⟩ = some (noHom ea)) :
    Calls Tryz.prog 4 #[.slice P0 xs.length p0] w fun r w' => r = .returned (.bool true) ∧ Fr w w' := by
  have HX := hid hx
  clear hx
  by_cases hlen : (1048576 : Int) < xs.length
  · have e0 : decide ((1048576 : Int) < (xs.length : Int)) = true := by simp; omega
    go_enter Tryz.func4, Tryz.ntmps4
    go_wp2
    go_ret
    exact ⟨rfl, Fr.refl _⟩
  have e0 : decide ((1048576 : Int) < (xs.length : Int)) = false := by simp; omega
  have hl : xs.length ≤ 1048576 := by omega
  clear hlen
  go_enter Tryz.func4, Tryz.ntmps4
  go_wp2_with fail
  refine (drawContainment P0 p0 xs _ HX.out hl hc).mono ?_
  rintro e w1 ⟨qa, ha, ba, qb, hb, bb, fs, A0, a0, A1, a1, B0, b0, B1, b1, g, cap, rfl, QA, QB, OF, ⟨l1, l2, l3, l4, _, h4a, _, h4b⟩, ⟨l9, hsm⟩, F1⟩
  have HF := hid ((own_F OF rfl).mono rdFact_mono (fromB_le _ _))
  have hfl := (own_capM OF).1
  have hfm := (own_capM OF).2
  have HQA := hid QA
  have HQB := hid QB
  have HSM := hid hsm
  have H4a := hid h4a
  have H4b := hid h4b
  have BA1 := hid ((Blk.new w1 26 #[.int .i64 qa, .slice A0 ha.length a0, .slice A1 ba.length a1]).alloc (.cells #[.int .i64 qb, .slice B0 hb.length b0, .slice B1 bb.length b1] 26))
  have BB1 := hid (blk_new1 w1 (.cells #[.int .i64 qa, .slice A0 ha.length a0, .slice A1 ba.length a1] 26) 26 #[.int .i64 qb, .slice B0 hb.length b0, .slice B1 bb.length b1])
  have G1 : Fr w1 ((w1.alloc (.cells #[.int .i64 qa, .slice A0 ha.length a0, .slice A1 ba.length a1] 26)).alloc (.cells #[.int .i64 qb, .slice B0 hb.length b0, .slice B1 bb.length b1] 26)) := by (repeat (first | with_reducible exact Fr.refl _ | with_reducible assumption | with_reducible refine Fr.alloc ?_ _ | with_reducible refine Fr.drew ?_ | with_reducible refine Fr.drewN ?_ _ | (with_reducible refine Fr.setNew2 ?_ ?_ _; · (simp <;> omega)) | with_reducible refine Fr.trans ?_ (by assumption)))
  clear QA QB OF HX hsm h4a h4b
  go_wp2_with fail
  refine absW fun W2 hW2 => ?_
  rw [← hW2] at BA1 BB1 G1
  obtain ⟨s, es⟩ : ∃ g, w1.heap.size = g := ⟨_, rfl⟩
  rw [es] at BA1 BB1 ⊢
  clear hW2 es
  have BA2 := BA1
  have BB2 := BB1
  have QA2 := hid (HQA.out.fr G1)
  have QB2 := hid (HQB.out.fr G1)
  have HF2 := hid (HF.out.fr rdFact_mono G1)
  have F2 := F1.trans G1
  clear HQA HQB HF G1 BA1 BB1 F1
  obtain ⟨ok, eok⟩ : ∃ b, (fndO qb hb bb qa ha ba).isSome = b := ⟨_, rfl⟩
  have EOK := hid eok
  clear eok
  refine (implIsC qa qb A0 A1 B0 B1 a0 a1 b0 b1 ha hb ba bb ei ea _ QA2.out.r0 QA2.out.r1 QB2.out.r0 QB2.out.r1 (by omega) (by omega) (by omega) (by omega) QB2.out.l1 QB2.out.m1 (F2.cell he0) (F2.cell he1)).mono ?_
  rw [EOK.out]
  rintro r w3 ⟨rfl, b3⟩
  (try clear x0 x1 x2 y0 y1 y2)
  obtain ⟨x0, x1, x2, _⟩ := (BA2.out.fr (b3)).three
  obtain ⟨y0, y1, y2, _⟩ := (BB2.out.fr (b3)).three
  go_wp2_with fail
  refine (specIsC qa qb A0 A1 B0 B1 a0 a1 b0 b1 ha hb ba bb _ (QA2.out.fr b3).r0 (QA2.out.fr b3).r1 (QB2.out.fr b3).r0 (QB2.out.fr b3).r1 (by omega) (by omega) (by omega) (by omega)).mono ?_
  rw [EOK.out]
  rintro r w4 ⟨rfl, b4⟩
  have F4 := b3.trans b4
  clear b3 b4
  (try clear x0 x1 x2 y0 y1 y2)
  obtain ⟨x0, x1, x2, _⟩ := (BA2.out.fr (F4)).three
  obtain ⟨y0, y1, y2, _⟩ := (BB2.out.fr (F4)).three
  cases ok with
  | true =>
    go_wp2_with fail
    refine (specIsC qa qb A0 A1 B0 B1 a0 a1 b0 b1 ha hb ba bb _ (QA2.out.fr F4).r0 (QA2.out.fr F4).r1 (QB2.out.fr F4).r0 (QB2.out.fr F4).r1 (by omega) (by omega) (by omega) (by omega)).mono ?_
    rw [EOK.out]
    rintro r w20 ⟨rfl, b20⟩
    have F20 := (F4).trans b20
    go_wp2_with fail
    refine (implVFacts (some ⟨g, 0, none⟩) cap fs _ (HF2.out.fr rdFact_mono F20) (by omega)).mono ?_
    rintro r w21 ⟨rfl, b21⟩
    have F21 := F20.trans b21
    go_wp2_with fail
    refine (specValidFacts (some ⟨g, 0, none⟩) cap fs _ (HF2.out.fr rdFact_mono F21) (by omega)).mono ?_
    rintro r w22 ⟨rfl, b22⟩
    go_wp2
    go_ret
    exact ⟨by simp, F2.trans (F21.trans b22)⟩
  | false =>
    go_wp2_with fail
    refine (implValidRule qa A0 a0 ha A1 a1 ba _ (QA2.out.fr F4).r0 (QA2.out.fr F4).r1 (by omega) (by omega)).mono ?_
    rintro r w5 ⟨rfl, b5⟩
    have F5 := F4.trans b5
    clear b5
    (try clear x0 x1 x2 y0 y1 y2)
    obtain ⟨x0, x1, x2, _⟩ := (BA2.out.fr (F5)).three
    obtain ⟨y0, y1, y2, _⟩ := (BB2.out.fr (F5)).three
    cases hva : vrule qa ha ba
    · go_wp2_with fail
      refine (specIsC qa qb A0 A1 B0 B1 a0 a1 b0 b1 ha hb ba bb _ (QA2.out.fr F5).r0 (QA2.out.fr F5).r1 (QB2.out.fr F5).r0 (QB2.out.fr F5).r1 (by omega) (by omega) (by omega) (by omega)).mono ?_
      rw [EOK.out]
      rintro r w20 ⟨rfl, b20⟩
      have F20 := (F5).trans b20
      go_wp2_with fail
      refine (implVFacts (some ⟨g, 0, none⟩) cap fs _ (HF2.out.fr rdFact_mono F20) (by omega)).mono ?_
      rintro r w21 ⟨rfl, b21⟩
      have F21 := F20.trans b21
      go_wp2_with fail
      refine (specValidFacts (some ⟨g, 0, none⟩) cap fs _ (HF2.out.fr rdFact_mono F21) (by omega)).mono ?_
      rintro r w22 ⟨rfl, b22⟩
      go_wp2
      go_ret
      exact ⟨by simp, F2.trans (F21.trans b22)⟩
    have HVA := hid hva
    clear hva
    go_wp2_with fail
    refine (implValidRule qb B0 b0 hb B1 b1 bb _ (QB2.out.fr F5).r0 (QB2.out.fr F5).r1 (by omega) (by omega)).mono ?_
    rintro r w6 ⟨rfl, b6⟩
    have F6 := F5.trans b6
    clear b6
    (try clear x0 x1 x2 y0 y1 y2)
    obtain ⟨x0, x1, x2, _⟩ := (BA2.out.fr (F6)).three
    obtain ⟨y0, y1, y2, _⟩ := (BB2.out.fr (F6)).three
    cases hvb : vrule qb hb bb
    · go_wp2_with fail
      refine (specIsC qa qb A0 A1 B0 B1 a0 a1 b0 b1 ha hb ba bb _ (QA2.out.fr F6).r0 (QA2.out.fr F6).r1 (QB2.out.fr F6).r0 (QB2.out.fr F6).r1 (by omega) (by omega) (by omega) (by omega)).mono ?_
      rw [EOK.out]
      rintro r w20 ⟨rfl, b20⟩
      have F20 := (F6).trans b20
      go_wp2_with fail
      refine (implVFacts (some ⟨g, 0, none⟩) cap fs _ (HF2.out.fr rdFact_mono F20) (by omega)).mono ?_
      rintro r w21 ⟨rfl, b21⟩
      have F21 := F20.trans b21
      go_wp2_with fail
      refine (specValidFacts (some ⟨g, 0, none⟩) cap fs _ (HF2.out.fr rdFact_mono F21) (by omega)).mono ?_
      rintro r w22 ⟨rfl, b22⟩
      go_wp2
      go_ret
      exact ⟨by simp, F2.trans (F21.trans b22)⟩
    have HVB := hid hvb
    clear hvb
    by_cases hlen : ha.length = hb.length
    · have en : ((ha.length : Int) != (hb.length : Int)) = false := by rw [hlen]; simp
      clear hlen
      obtain ⟨z1, z2⟩ := cont_complete HVA.out HVB.out H4a.out H4b.out EOK.out
      obtain ⟨L, eL⟩ : ∃ L, frzOf qa ha ba = L := ⟨_, rfl⟩
      have eL2 : frz ba = L := by rw [← eL]; unfold frzOf; rw [HVA.out]; rfl
      rw [eL2] at z1 z2
      have EL := hid eL
      have hLl : L.length ≤ ba.length := by rw [← eL2]; exact frz_len ba
      have hin := decide_eq_true z1
      have hout := decide_eq_false z2
      clear eL eL2 z1 z2
      go_wp2_with fail
      refine (implFreeze qa A0 a0 ha A1 a1 ba _ (QA2.out.fr F6).r0 (QA2.out.fr F6).r1 (by omega) (by omega)).mono ?_
      rw [EL.out]
      rintro r w7 ⟨⟨GA, gc, rfl, hgr, _, _, hgc⟩, b7⟩
      have F7 := F6.trans b7
      have HG := hid (hgr.mono rdFact_mono (fromB_le _ _))
      clear hgr b7 en x0 x1 x2 y0 y1 y2
      have keepQ : ∀ W, Fr W2 W → (W.cell? ⟨s, 0, none⟩ = some (.int .i64 qa) ∧ W.cell? ⟨s, 1, none⟩ = some (.slice A0 ha.length a0) ∧ W.cell? ⟨s, 2, none⟩ = some (.slice A1 ba.length a1)) ∧ (W.cell? ⟨s + 1, 0, none⟩ = some (.int .i64 qb) ∧ W.cell? ⟨s + 1, 1, none⟩ = some (.slice B0 hb.length b0) ∧ W.cell? ⟨s + 1, 2, none⟩ = some (.slice B1 bb.length b1)) := fun W h => by
        obtain ⟨x0, x1, x2, _⟩ := (BA2.out.fr h).three
        obtain ⟨y0, y1, y2, _⟩ := (BB2.out.fr h).three
        exact ⟨⟨x0, x1, x2⟩, y0, y1, y2⟩
      go_wp2_with fail
      refine wp_region_T (fun W => (W.cell? ⟨s, 0, none⟩ = some (.int .i64 qa) ∧ W.cell? ⟨s, 1, none⟩ = some (.slice A0 ha.length a0) ∧ W.cell? ⟨s, 2, none⟩ = some (.slice A1 ba.length a1)) ∧ (W.cell? ⟨s + 1, 0, none⟩ = some (.int .i64 qb) ∧ W.cell? ⟨s + 1, 1, none⟩ = some (.slice B0 hb.length b0) ∧ W.cell? ⟨s + 1, 2, none⟩ = some (.slice B1 bb.length b1))) 15 (by kernel_rfl) ?_
      have D7 : Fr W2 w7.drew := F7.drew
      have G7 : Fr w7 w7.drew := (Fr.refl _).drew
      have HS := keepQ _ D7
      ((refine wpAnyT_take 0 (v := ?_) rfl (by kernel_rfl) (fun _ _ _ h => h) (Or.inl ⟨by rfl, ?_⟩) (by assumption) ?_; rotate_left; (focus (intro W hSw; (try dsimp only at hSw); go_simp; (try with_reducible rfl); done)); (try simp only [Act.put, List.setIfInBounds_toArray, List.set_cons_zero, List.set_cons_succ])); (refine wpAnyT_take 1 (v := ?_) rfl (by kernel_rfl) (fun _ _ _ h => h) (Or.inl ⟨by rfl, ?_⟩) (by assumption) ?_; rotate_left; (focus (intro W hSw; (try dsimp only at hSw); go_simp; (try with_reducible rfl); done)); (try simp only [Act.put, List.setIfInBounds_toArray, List.set_cons_zero, List.set_cons_succ])); (refine wpAnyT_take 3 (v := ?_) rfl (by kernel_rfl) (fun _ _ _ h => h) (Or.inl ⟨by rfl, ?_⟩) (by assumption) ?_; rotate_left; (focus (intro W hSw; (try dsimp only at hSw); go_simp; (try with_reducible rfl); done)); (try simp only [Act.put, List.setIfInBounds_toArray, List.set_cons_zero, List.set_cons_succ])); (refine wpAnyT_take 4 (v := ?_) rfl (by kernel_rfl) (fun _ _ _ h => h) (Or.inl ⟨by rfl, ?_⟩) (by assumption) ?_; rotate_left; (focus (intro W hSw; (try dsimp only at hSw); go_simp; (try with_reducible rfl); done)); (try simp only [Act.put, List.setIfInBounds_toArray, List.set_cons_zero, List.set_cons_succ])))
      ((refine wpAnyT_one 2 rfl (by kernel_rfl) (fun K hK => ?_); go_simp))
      refine (implAnsL qa A0 a0 ha A1 a1 ba GA gc L _ (QA2.out.fr D7).r0 (QA2.out.fr D7).r1 (HG.out.fr rdFact_mono G7) (by omega) (by omega) (by omega)).mono ?_
      rintro r w8 ⟨FA, f8, rfl, RF, b8⟩
      have D8 := D7.trans b8
      have G8 := G7.trans b8
      have HS := keepQ _ D8
      ((try dsimp only); refine hK.out _ _ (fun _ => HS) (fun _ => ?_); clear hK K; (try simp only [Act.put, List.setIfInBounds_toArray, List.set_cons_zero, List.set_cons_succ]))
      ((refine wpAnyT_one 5 rfl (by kernel_rfl) (fun K hK => ?_); go_simp))
      refine (hasAns FA A0 f8 a0 (ansO qa ha ba L) ha _ RF (QA2.out.fr D8).r0 (Nat.le_trans ansO_len (by decide)) (fun x h => ansO_row h) (by omega)).mono ?_
      rw [hin]
      rintro r w9 ⟨rfl, b9⟩
      have D9 := D8.trans b9
      have G9 := G8.trans b9
      have HS := keepQ _ D9
      ((try dsimp only); refine hK.out _ _ (fun _ => HS) (fun _ => ?_); clear hK K; (try simp only [Act.put, List.setIfInBounds_toArray, List.set_cons_zero, List.set_cons_succ]))
      ((refine wpAnyT_take 6 (v := ?_) rfl (by kernel_rfl) (fun _ _ _ h => h) (Or.inl ⟨by rfl, ?_⟩) (by assumption) ?_; rotate_left; (focus (intro W hSw; (try dsimp only at hSw); go_simp; (try with_reducible rfl); done)); (try simp only [Act.put, List.setIfInBounds_toArray, List.set_cons_zero, List.set_cons_succ])); (refine wpAnyT_take 7 (v := ?_) rfl (by kernel_rfl) (fun _ _ _ h => h) (Or.inl ⟨by rfl, ?_⟩) (by assumption) ?_; rotate_left; (focus (intro W hSw; (try dsimp only at hSw); go_simp; (try with_reducible rfl); done)); (try simp only [Act.put, List.setIfInBounds_toArray, List.set_cons_zero, List.set_cons_succ])); (refine wpAnyT_take 8 (v := ?_) rfl (by kernel_rfl) (fun _ _ _ h => h) (Or.inl ⟨by rfl, ?_⟩) (by assumption) ?_; rotate_left; (focus (intro W hSw; (try dsimp only at hSw); go_simp; (try with_reducible rfl); done)); (try simp only [Act.put, List.setIfInBounds_toArray, List.set_cons_zero, List.set_cons_succ])); (refine wpAnyT_take 10 (v := ?_) rfl (by kernel_rfl) (fun _ _ _ h => h) (Or.inl ⟨by rfl, ?_⟩) (by assumption) ?_; rotate_left; (focus (intro W hSw; (try dsimp only at hSw); go_simp; (try with_reducible rfl); done)); (try simp only [Act.put, List.setIfInBounds_toArray, List.set_cons_zero, List.set_cons_succ])); (refine wpAnyT_take 11 (v := ?_) rfl (by kernel_rfl) (fun _ _ _ h => h) (Or.inl ⟨by rfl, ?_⟩) (by assumption) ?_; rotate_left; (focus (intro W hSw; (try dsimp only at hSw); go_simp; (try with_reducible rfl); done)); (try simp only [Act.put, List.setIfInBounds_toArray, List.set_cons_zero, List.set_cons_succ])))
      ((refine wpAnyT_one 9 rfl (by kernel_rfl) (fun K hK => ?_); go_simp))
      refine (implAnsL qb B0 b0 hb B1 b1 bb GA gc L _ (QB2.out.fr D9).r0 (QB2.out.fr D9).r1 (HG.out.fr rdFact_mono G9) (by omega) (by omega) (by omega)).mono ?_
      rintro r w10 ⟨FB, f10, rfl, RF2, b10⟩
      have D10 := D9.trans b10
      have HS := keepQ _ D10
      ((try dsimp only); refine hK.out _ _ (fun _ => HS) (fun _ => ?_); clear hK K; (try simp only [Act.put, List.setIfInBounds_toArray, List.set_cons_zero, List.set_cons_succ]))
      ((refine wpAnyT_one 12 rfl (by kernel_rfl) (fun K hK => ?_); go_simp))
      refine (hasAns FB A0 f10 a0 (ansO qb hb bb L) ha _ RF2 (QA2.out.fr D10).r0 (Nat.le_trans ansO_len (by decide)) (fun x h => ansO_row h) (by omega)).mono ?_
      rw [hout]
      rintro r w11 ⟨rfl, b11⟩
      have D11 := D10.trans b11
      have HS := keepQ _ D11
      ((try dsimp only); refine hK.out _ _ (fun _ => HS) (fun _ => ?_); clear hK K; (try simp only [Act.put, List.setIfInBounds_toArray, List.set_cons_zero, List.set_cons_succ]))
      ((refine wpAnyT_take 13 (v := ?_) rfl (by kernel_rfl) (fun _ _ _ h => h) (Or.inl ⟨by rfl, ?_⟩) (by assumption) ?_; rotate_left; (focus (intro W hSw; (try dsimp only at hSw); go_simp; (try with_reducible rfl); done)); (try simp only [Act.put, List.setIfInBounds_toArray, List.set_cons_zero, List.set_cons_succ])); (refine wpAnyT_take 14 (v := ?_) rfl (by kernel_rfl) (fun _ _ _ h => h) (Or.inl ⟨by rfl, ?_⟩) (by assumption) ?_; rotate_left; (focus (intro W hSw; (try dsimp only at hSw); go_simp; (try with_reducible rfl); done)); (try simp only [Act.put, List.setIfInBounds_toArray, List.set_cons_zero, List.set_cons_succ])))
      ((refine wpAnyT_one 15 rfl (by kernel_rfl) (fun K hK => ?_); go_simp))
      ((try dsimp only); refine hK.out _ _ (fun h => absurd rfl h) (fun _ => ?_); clear hK K; (try simp only [Act.put, List.setIfInBounds_toArray, List.set_cons_zero, List.set_cons_succ]); refine wpAnyT_done (by kernel_rfl) ?_ _)
      go_wp2
      go_ret
      exact ⟨rfl, F2.trans D11⟩
    · have en : ((ha.length : Int) != (hb.length : Int)) = true := by simp; omega
      have HN := hid hlen
      clear hlen
      go_wp2_with fail
      refine (specIsC qa qb A0 A1 B0 B1 a0 a1 b0 b1 ha hb ba bb _ (QA2.out.fr F6).r0 (QA2.out.fr F6).r1 (QB2.out.fr F6).r0 (QB2.out.fr F6).r1 (by omega) (by omega) (by omega) (by omega)).mono ?_
      rw [EOK.out]
      rintro r w20 ⟨rfl, b20⟩
      have F20 := (F6).trans b20
      go_wp2_with fail
      refine (implVFacts (some ⟨g, 0, none⟩) cap fs _ (HF2.out.fr rdFact_mono F20) (by omega)).mono ?_
      rintro r w21 ⟨rfl, b21⟩
      have F21 := F20.trans b21
      go_wp2_with fail
      refine (specValidFacts (some ⟨g, 0, none⟩) cap fs _ (HF2.out.fr rdFact_mono F21) (by omega)).mono ?_
      rintro r w22 ⟨rfl, b22⟩
      go_wp2
      go_ret
      exact ⟨by simp, F2.trans (F21.trans b22)⟩
end Go.Proofs.YtahclhldpcboeaaGreatDoor
