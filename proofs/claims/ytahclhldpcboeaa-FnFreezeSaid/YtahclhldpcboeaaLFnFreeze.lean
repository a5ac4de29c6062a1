/- Walk of the law FnFreeze. -/
import Derived.Test.YtahclhldpcboeaaFctG
import Derived.Test.YtahclhldpcboeaaEqA
import Derived.Test.YtahclhldpcboeaaLaw
namespace Go.Proofs.Ytahclhldpcboeaa
open Go Go.RowKit
set_option maxRecDepth 100000 in
set_option maxHeartbeats 4000000 in
theorem walkFnFreeze (A0 : Option Addr) (c0 : Nat) (xs : List Nat) (w : World) (hx : RdSl rdByte w.cell? 1 A0 xs) (_ : xs.length ≤ maxLen) (hc : xs.length ≤ c0) :
    Calls Try.prog 6 #[.slice A0 xs.length c0] w fun r w' => r = .returned (.bool true) ∧ Fr w w' := by
  have HX := hid hx
  clear hx
  by_cases hlen : (1048576 : Int) < xs.length
  · have e0 : decide ((1048576 : Int) < (xs.length : Int)) = true := by simp; omega
    go_enter Try.func6, Try.ntmps6
    go_wp2
    go_ret
    exact ⟨rfl, Fr.refl _⟩
  have e0 : decide ((1048576 : Int) < (xs.length : Int)) = false := by simp; omega
  have hl : xs.length ≤ 1048576 := by omega
  clear hlen
  go_enter Try.func6, Try.ntmps6
  go_wp2_with fail
  refine (drawFreeze A0 c0 xs _ HX.out hl hc).mono ?_
  rintro e w1 ⟨q, hd, bd, ⟨B0, b0, B1, b1, rfl, OH, OB⟩, h0, h4, l0, l1, F1⟩
  have R01 := hid ((own_int OH rfl).mono rdInt_mono (fromB_le _ _))
  have R11 := hid ((own_A OB rfl).mono rdAtom_mono (fromB_le _ _))
  have H4 := hid h4
  have BA1 := hid (Blk.new w1 30 #[.int .i64 q, .slice B0 hd.length b0, .slice B1 bd.length b1])
  have G1 : Fr w1 (w1.alloc (.cells #[.int .i64 q, .slice B0 hd.length b0, .slice B1 bd.length b1] 30)) := (Fr.refl _).alloc _
  clear OH OB HX h4
  go_wp2_with fail
  refine absW fun W2 hW2 => ?_
  rw [← hW2] at BA1 G1
  obtain ⟨s, es⟩ : ∃ s, w1.heap.size = s := ⟨_, rfl⟩
  rw [es] at BA1 ⊢
  clear hW2 es
  have IN := hid (fun W (h : Fr W2 W) => And.intro (R01.out.fr rdInt_mono (G1.trans h)) (R11.out.fr rdAtom_mono (G1.trans h)))
  have F2 := F1.trans G1
  clear R01 R11 G1 F1
  obtain ⟨L, eL⟩ : ∃ L, frzOf q hd bd = L := ⟨_, rfl⟩
  have EL := hid eL
  have hLl : L.length ≤ bd.length := by
    rw [← eL]
    unfold frzOf
    split
    · exact frz_len bd
    · simp
  clear eL
  refine (implFreeze q B0 b0 hd B1 b1 bd _ (IN.out _ (Fr.refl _)).1 (IN.out _ (Fr.refl _)).2 (by omega) (by omega)).mono ?_
  rw [EL.out]
  rintro r w3 ⟨⟨GA, gc, rfl, hgr, _, _, hgc⟩, b3⟩
  have HG3 := hid (hgr.mono rdFact_mono (fromB_le _ _))
  clear hgr
  obtain ⟨x0, x1, x2, _⟩ := (BA1.out.fr b3).three
  go_wp2_with fail
  refine (specFreeze q B0 b0 hd B1 b1 bd _ (IN.out _ b3).1 (IN.out _ b3).2 (by omega) (by omega)).mono ?_
  rw [EL.out]
  rintro r w4 ⟨⟨SA, sc, rfl, hsr⟩, b4⟩
  have HZ := hid (hsr.mono rdFact_mono (fromB_le _ _))
  have HG := hid (HG3.out.fr rdFact_mono b4)
  have F4 := b3.trans b4
  have e2 : ((L.length : Int) != (L.length : Int)) = false := by simp
  clear hsr HG3 b3 b4 x0 x1 x2
  go_wp2
  go_loopw [6] (fun t wr => ∃ k : Nat, k ≤ L.length ∧ t = .int .i64 k ∧ Hid (Fr w4 wr)) (fun t _ => L.length - (intOf t).toNat)
  case atStart => exact ⟨0, by omega, rfl, hid (Fr.refl _)⟩
  case round =>
    clear e2
    obtain ⟨k, hk, rfl, hF⟩ := hrel
    by_cases hlt : k < L.length
    · obtain ⟨xb, xo, hA, c0, c1, c2⟩ := HG.out.fact hlt
      obtain ⟨yb, yo, hB, d0, d1, d2⟩ := HZ.out.fact hlt
      subst hA hB
      replace c0 := hF.out.cell c0
      replace c1 := hF.out.cell c1
      replace c2 := hF.out.cell c2
      replace d0 := hF.out.cell d0
      replace d1 := hF.out.cell d1
      replace d2 := hF.out.cell d2
      obtain ⟨x, ex⟩ : ∃ x, L[k] = x := ⟨_, rfl⟩
      rw [ex] at c0 c1 c2 d0 d1 d2
      have E1 : (x.rel == x.rel) = true := by simp
      have E2 : (x.x == x.x) = true := by simp
      have E3 : (x.y == x.y) = true := by simp
      clear ex
      go_wp2_with fail
      (refine wp_region_quietC (fun w' => Fr _ w') (by kernel_rfl) (by kernel_rfl) (Fr.refl _).drew ?_; (repeat go_big_quiet_step (first | exact fun _ => rfl | exact fun _ => ⟨rfl, rfl⟩ | (intro hw'; replace c0 := hw'.cell c0; replace c1 := hw'.cell c1; replace c2 := hw'.cell c2; replace d0 := hw'.cell d0; replace d1 := hw'.cell d1; replace d2 := hw'.cell d2; go_simp; first | done | exact rfl | exact ⟨rfl, rfl⟩) )); refine wpQuiet_nil ?_; intro wq hq)
      have F9 := hid (hF.out.trans hq)
      clear hF c0 c1 c2 d0 d1 d2 hq E1 E2 E3
      go_wp2
      go_roundw
      case rel => exact ⟨k + 1, by omega, by go_num, F9⟩
      case measure => simp [intOf]; omega
    · obtain rfl : k = L.length := by omega
      have F5 := F4.trans hF.out
      have HG5 := hid (HG.out.fr rdFact_mono hF.out)
      obtain ⟨x0, x1, x2, _⟩ := (BA1.out.fr F5).three
      go_wp2_with fail
      refine (implValidRule q B0 b0 hd B1 b1 bd _ (IN.out _ F5).1 (IN.out _ F5).2 (by omega) (by omega)).mono ?_
      rintro r w6 ⟨rfl, b6⟩
      have F6 := F5.trans b6
      have HG6 := hid (HG5.out.fr rdFact_mono b6)
      clear x0 x1 x2
      obtain ⟨x0, x1, x2, _⟩ := (BA1.out.fr F6).three
      cases hv : vrule q hd bd
      · have hn : L.length = 0 := by rw [← EL.out]; unfold frzOf; rw [hv]; rfl
        have en : ((L.length : Int) == 0) = true := by rw [hn]; rfl
        have HN := hid hn
        clear hn
        go_wp2
        go_ret
        exact ⟨rfl, F2.trans F6⟩
      · have HV := hid hv
        have e3 : frzOf q hd bd = frz bd := by unfold frzOf; rw [hv]; rfl
        have hq4 : q ≤ 4 := by have := (vrule_parts hv).2.1; have := H4.out; omega
        have HVF := hid (show vfacts L = true by rw [← EL.out, e3]; exact vfacts_frz hv)
        have HM := hid (show hd ∈ ansO q hd bd L by rw [← EL.out, e3, ansO_yes hv (vfacts_frz hv)]; exact ans_frozen hv hq4)
        have hin := decide_eq_true HM.out
        have ele : decide ((L.length : Int) ≤ (bd.length : Int)) = true := by simp; omega
        clear e3 hv HM
        have keepQ : ∀ W, Fr W2 W → W.cell? ⟨s, 0, none⟩ = some (.int .i64 q) ∧ W.cell? ⟨s, 1, none⟩ = some (.slice B0 hd.length b0) ∧ W.cell? ⟨s, 2, none⟩ = some (.slice B1 bd.length b1) := fun W h => by
          obtain ⟨x0, x1, x2, _⟩ := (BA1.out.fr h).three
          exact ⟨x0, x1, x2⟩
        clear x0 x1 x2
        go_wp2_with fail
        refine wp_region_T (fun W => W.cell? ⟨s, 0, none⟩ = some (.int .i64 q) ∧ W.cell? ⟨s, 1, none⟩ = some (.slice B0 hd.length b0) ∧ W.cell? ⟨s, 2, none⟩ = some (.slice B1 bd.length b1)) 18 (by kernel_rfl) ?_
        have D6 : Fr W2 w6.drew := F6.drew
        have G6 : Fr w6 w6.drew := (Fr.refl _).drew
        have HS := keepQ _ D6
        ((refine wpAnyT_take 0 (v := ?_) rfl (by kernel_rfl) (fun _ _ _ h => h) (Or.inl ⟨by rfl, ?_⟩) (by assumption) ?_; rotate_left; (focus (intro W hSw; (try dsimp only at hSw); go_simp; (try with_reducible rfl); done)); (try simp only [Act.put, List.setIfInBounds_toArray, List.set_cons_zero, List.set_cons_succ])))
        ((refine wpAnyT_one 1 rfl (by kernel_rfl) (fun K hK => ?_); go_simp))
        refine (implVFacts GA gc L _ (HG6.out.fr rdFact_mono G6) (by omega)).mono ?_
        rw [HVF.out]
        rintro r w7 ⟨rfl, b7⟩
        have D7 := D6.trans b7
        have G7 := G6.trans b7
        have HS := keepQ _ D7
        ((try dsimp only); refine hK.out _ _ (fun _ => HS) (fun _ => ?_); clear hK K; (try simp only [Act.put, List.setIfInBounds_toArray, List.set_cons_zero, List.set_cons_succ]))
        ((refine wpAnyT_take 2 (v := ?_) rfl (by kernel_rfl) (fun _ _ _ h => h) (Or.inl ⟨by rfl, ?_⟩) (by assumption) ?_; rotate_left; (focus (intro W hSw; (try dsimp only at hSw); go_simp; (try with_reducible rfl); done)); (try simp only [Act.put, List.setIfInBounds_toArray, List.set_cons_zero, List.set_cons_succ])); (refine wpAnyT_take 3 (v := ?_) rfl (by kernel_rfl) (fun _ _ _ h => h) (Or.inl ⟨by rfl, ?_⟩) (by assumption) ?_; rotate_left; (focus (intro W hSw; (try dsimp only at hSw); go_simp; (try with_reducible rfl); done)); (try simp only [Act.put, List.setIfInBounds_toArray, List.set_cons_zero, List.set_cons_succ])); (refine wpAnyT_take 4 (v := ?_) rfl (by kernel_rfl) (fun _ _ _ h => h) (Or.inl ⟨by rfl, ?_⟩) (by assumption) ?_; rotate_left; (focus (intro W hSw; (try dsimp only at hSw); go_simp; (try with_reducible rfl); done)); (try simp only [Act.put, List.setIfInBounds_toArray, List.set_cons_zero, List.set_cons_succ])); (refine wpAnyT_take 5 (v := ?_) rfl (by kernel_rfl) (fun _ _ _ h => h) (Or.inl ⟨by rfl, ?_⟩) (by assumption) ?_; rotate_left; (focus (intro W hSw; (try dsimp only at hSw); go_simp; (try with_reducible rfl); done)); (try simp only [Act.put, List.setIfInBounds_toArray, List.set_cons_zero, List.set_cons_succ])); (refine wpAnyT_take 6 (v := ?_) rfl (by kernel_rfl) (fun _ _ _ h => h) (Or.inl ⟨by rfl, ?_⟩) (by assumption) ?_; rotate_left; (focus (intro W hSw; (try dsimp only at hSw); go_simp; (try with_reducible rfl); done)); (try simp only [Act.put, List.setIfInBounds_toArray, List.set_cons_zero, List.set_cons_succ])); (refine wpAnyT_take 7 (v := ?_) rfl (by kernel_rfl) (fun _ _ _ h => h) (Or.inl ⟨by rfl, ?_⟩) (by assumption) ?_; rotate_left; (focus (intro W hSw; (try dsimp only at hSw); go_simp; (try with_reducible rfl); done)); (try simp only [Act.put, List.setIfInBounds_toArray, List.set_cons_zero, List.set_cons_succ])); (refine wpAnyT_take 8 (v := ?_) rfl (by kernel_rfl) (fun _ _ _ h => h) (Or.inl ⟨by rfl, ?_⟩) (by assumption) ?_; rotate_left; (focus (intro W hSw; (try dsimp only at hSw); go_simp; (try with_reducible rfl); done)); (try simp only [Act.put, List.setIfInBounds_toArray, List.set_cons_zero, List.set_cons_succ])); (refine wpAnyT_take 9 (v := ?_) rfl (by kernel_rfl) (fun _ _ _ h => h) (Or.inl ⟨by rfl, ?_⟩) (by assumption) ?_; rotate_left; (focus (intro W hSw; (try dsimp only at hSw); go_simp; (try with_reducible rfl); done)); (try simp only [Act.put, List.setIfInBounds_toArray, List.set_cons_zero, List.set_cons_succ])); (refine wpAnyT_take 10 (v := ?_) rfl (by kernel_rfl) (fun _ _ _ h => h) (Or.inl ⟨by rfl, ?_⟩) (by assumption) ?_; rotate_left; (focus (intro W hSw; (try dsimp only at hSw); go_simp; (try with_reducible rfl); done)); (try simp only [Act.put, List.setIfInBounds_toArray, List.set_cons_zero, List.set_cons_succ])))
        ((refine wpAnyT_take 11 (v := ?_) rfl (by kernel_rfl) (fun _ _ _ h => h) (Or.inl ⟨by rfl, ?_⟩) (by assumption) ?_; rotate_left; (focus (intro W hSw; (try dsimp only at hSw); go_simp; (try with_reducible rfl); done)); (try simp only [Act.put, List.setIfInBounds_toArray, List.set_cons_zero, List.set_cons_succ])); (refine wpAnyT_take 12 (v := ?_) rfl (by kernel_rfl) (fun _ _ _ h => h) (Or.inl ⟨by rfl, ?_⟩) (by assumption) ?_; rotate_left; (focus (intro W hSw; (try dsimp only at hSw); go_simp; (try with_reducible rfl); done)); (try simp only [Act.put, List.setIfInBounds_toArray, List.set_cons_zero, List.set_cons_succ])); (refine wpAnyT_take 14 (v := ?_) rfl (by kernel_rfl) (fun _ _ _ h => h) (Or.inl ⟨by rfl, ?_⟩) (by assumption) ?_; rotate_left; (focus (intro W hSw; (try dsimp only at hSw); go_simp; (try with_reducible rfl); done)); (try simp only [Act.put, List.setIfInBounds_toArray, List.set_cons_zero, List.set_cons_succ])); (refine wpAnyT_take 15 (v := ?_) rfl (by kernel_rfl) (fun _ _ _ h => h) (Or.inl ⟨by rfl, ?_⟩) (by assumption) ?_; rotate_left; (focus (intro W hSw; (try dsimp only at hSw); go_simp; (try with_reducible rfl); done)); (try simp only [Act.put, List.setIfInBounds_toArray, List.set_cons_zero, List.set_cons_succ])))
        ((refine wpAnyT_one 13 rfl (by kernel_rfl) (fun K hK => ?_); go_simp))
        refine (implAnsL q B0 b0 hd B1 b1 bd GA gc L _ (IN.out _ D7).1 (IN.out _ D7).2 (HG6.out.fr rdFact_mono G7) (by omega) (by omega) (by omega)).mono ?_
        rintro r w8 ⟨FA, f8, rfl, RF, b8⟩
        have D8 := D7.trans b8
        have HS := keepQ _ D8
        ((try dsimp only); refine hK.out _ _ (fun _ => HS) (fun _ => ?_); clear hK K; (try simp only [Act.put, List.setIfInBounds_toArray, List.set_cons_zero, List.set_cons_succ]))
        ((refine wpAnyT_one 16 rfl (by kernel_rfl) (fun K hK => ?_); go_simp))
        refine (hasAns FA B0 f8 b0 (ansO q hd bd L) hd _ RF (IN.out _ D8).1 (Nat.le_trans ansO_len (by decide)) (fun x h => ansO_row h) (by omega)).mono ?_
        rw [hin]
        rintro r w9 ⟨rfl, b9⟩
        have D9 := D8.trans b9
        have HS := keepQ _ D9
        ((try dsimp only); refine hK.out _ _ (fun _ => HS) (fun _ => ?_); clear hK K; (try simp only [Act.put, List.setIfInBounds_toArray, List.set_cons_zero, List.set_cons_succ]))
        ((refine wpAnyT_take 17 (v := ?_) rfl (by kernel_rfl) (fun _ _ _ h => h) (Or.inl ⟨by rfl, ?_⟩) (by assumption) ?_; rotate_left; (focus (intro W hSw; (try dsimp only at hSw); go_simp; (try with_reducible rfl); done)); (try simp only [Act.put, List.setIfInBounds_toArray, List.set_cons_zero, List.set_cons_succ])))
        ((refine wpAnyT_one 18 rfl (by kernel_rfl) (fun K hK => ?_); go_simp))
        ((try dsimp only); refine hK.out _ _ (fun h => absurd rfl h) (fun _ => ?_); clear hK K; (try simp only [Act.put, List.setIfInBounds_toArray, List.set_cons_zero, List.set_cons_succ]); refine wpAnyT_done (by kernel_rfl) ?_ _)
        go_wp2
        go_ret
        exact ⟨rfl, F2.trans D9⟩
end Go.Proofs.Ytahclhldpcboeaa
