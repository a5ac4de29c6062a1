/- Walk of the law FnExactConjuncts. -/
import Derived.Test.YtfillcjpdnpaiaaConjD
import Derived.Test.YtfillcjpdnpaiaaConjL
import Derived.Test.YtfillcjpdnpaiaaRExprU
import Derived.Test.YtfillcjpdnpaiaaTot
import Derived.Test.YtfillcjpdnpaiaaLaw
import Derived.Deep.RegionWith
namespace Go.Proofs.Ytfillcjpdnpaiaa
open Go Go.RowKit
theorem sm_vE {wd : Int} : ∀ {n d : Nat} {e : Ex}, vE wd n d e = true → exSm n e.kids
  | 0, d, e, hv => by have := vE_two hv; show e.kids.length ≤ 1048576; omega
  | n + 1, d, e, hv => ⟨by have := vE_two hv; omega, fun i hi => by
    obtain ⟨d0, rfl, hv0⟩ := vE_down hv hi
    exact sm_vE hv0⟩
theorem xconj_sm {n : Nat} {e : Ex} (hd : Dp n e) : exSm (n + 1) (xconj n e) ∧ tot (n + 1) (xconj n e) ≤ 200000 := by
  unfold xconj
  cases hv : vexpr 6 n e
  · simp only [Bool.false_eq_true, if_false]
    exact ⟨exSm_nil _, by rw [tot_nil]; omega⟩
  · simp only [if_true]
    have hvE := vexpr_vE hv
    have hl : (cnj n e).length ≤ 256 := (cnj_len hvE).2
    refine ⟨⟨by omega, fun i hi => ?_⟩, ?_⟩
    · obtain ⟨_, ⟨d', _, h3⟩, _⟩ := cnj_parts hvE hd _ (List.getElem_mem hi)
      exact sm_vE h3
    · have h2 := sumT_bound (f := fun x => tot n x.kids) (B := 512) (xs := cnj n e) fun x hx => by
        obtain ⟨h1, ⟨d', h2, h3⟩, _⟩ := cnj_parts hvE hd _ hx
        exact tot_vE h1 h2 h3
      simp only [tot]; omega
set_option maxRecDepth 100000 in
set_option maxHeartbeats 4000000 in
theorem walkFnExactConjuncts (n : Nat) (e : Ex) (A : Option Addr) (c : Nat) (w : World) (hx : RdSl (rdEx n) w.cell? 5 A e.kids) (hm : e.kids.length ≤ maxLen) :
    Calls Try.prog 4 #[.agg #[.int .i64 e.kind, .int .i64 e.col, .bool e.val.null, .int .i64 e.val.n, .slice A e.kids.length c]] w fun r w' => r = .returned (.bool true) ∧ Fr w w' := by
  have hdp := dp_of n hx
  have HX := hid hx
  clear hx
  have BA := Blk.new w 26 #[.int .i64 e.kind, .int .i64 e.col, .bool e.val.null, .int .i64 e.val.n, .slice A e.kids.length c]
  have F0 : Fr w (w.alloc (.cells #[.int .i64 e.kind, .int .i64 e.col, .bool e.val.null, .int .i64 e.val.n, .slice A e.kids.length c] 26)) := (Fr.refl _).alloc _
  rcases exSz_facts n 1048576 e.kids (by omega) (by omega) with h | ⟨h1, h2, hs⟩
  · have R := hid h
    clear hdp
    go_enter Try.func4, Try.ntmps4
    go_wp2_with fail
    refine (szEx (szExS n) _ _ _ _ _ (HX.out.fr (rdEx_mono n) F0) hm (by omega) (by omega)).mono ?_
    rintro r w1 ⟨rfl, b1⟩
    rw [R.out]
    go_wp2
    go_ret
    exact ⟨rfl, F0.trans b1⟩
  · have htot : (tot n e.kids : Int) ≤ 1048576 := by
      rcases exSz_tot n 1048576 e.kids (by omega) (by omega) with h | ⟨h3, h4⟩ <;> omega
    obtain ⟨lf, elf⟩ : ∃ lf, exSz n 1048576 e.kids = lf := ⟨_, rfl⟩
    rw [elf] at h1 h2
    have ELF := hid elf
    have d0 : decide (lf < 0) = false := by simp; omega
    have HS := hid hs
    obtain ⟨L, eL⟩ : ∃ L, xconj n e = L := ⟨_, rfl⟩
    have hLf := xconj_sm hdp
    rw [eL] at hLf
    have HLS := hid hLf.1
    have hLt := hLf.2
    have EL := hid eL
    clear hs elf eL hdp hLf
    obtain ⟨T, eT⟩ : ∃ T, 1 + 4 * tot n e.kids = T := ⟨_, rfl⟩
    have hT : T ≤ 5000000 := by omega
    have ET := hid eT
    clear eT
    obtain ⟨M, eM⟩ : ∃ M, 1 + 4 * tot (n + 1) L = M := ⟨_, rfl⟩
    have hM : M ≤ 5000000 := by omega
    have EM := hid eM
    clear eM hLt
    have dM : decide ((M : Int) < 0) = false := by simp
    have dT : decide ((T : Int) < 0) = false := by simp
    go_enter Try.func4, Try.ntmps4
    go_wp2_with fail
    refine (szEx (szExS n) _ _ _ _ _ (HX.out.fr (rdEx_mono n) F0) hm (by omega) (by omega)).mono ?_
    rintro r w1 ⟨rfl, b1⟩
    rw [ELF.out]
    obtain ⟨a0, a1, a2, a3, a4, _⟩ := (BA.fr b1).five
    have F1 := F0.trans b1
    go_wp2_with fail
    refine (toExU (toExSU n) _ _ _ _ (HX.out.fr (rdEx_mono n) F1) HS.out).mono ?_
    rintro r w2 ⟨g0, rfl, x0, _, b2⟩
    clear a0 a1 a2 a3 a4
    have X0 := hid ((x0.mono (rdEx_mono n) (fromU_le _ _)).mono (rdEx_mono n) (fromB_le _ _))
    clear x0
    go_wp2_with fail
    refine (specConjuncts n e _ _ _ X0.out HS.out).mono ?_
    rw [EL.out]
    rintro r w3 ⟨S', sc, rfl, hS3, b3⟩
    have HS3 := hid hS3
    clear hS3
    have B3 := (b1.trans b2).trans b3
    have F3 := F0.trans B3
    have hs3 := B3.size
    have hb0 := BA.lt
    obtain ⟨a0, a1, a2, a3, a4, _⟩ := (BA.fr B3).five
    go_wp2_with fail
    refine (toExU (toExSU n) _ _ _ _ (HX.out.fr (rdEx_mono n) F3) HS.out).mono ?_
    rintro r w4 ⟨k0, rfl, y0, hSh, b4⟩
    clear a0 a1 a2 a3 a4
    have Y0 := hid ((y0.mono (rdEx_mono n) (fromU_le _ _)).mono (rdEx_mono n) (fromB_le _ _))
    have SH := hid hSh
    clear y0 hSh
    have F4 := F3.trans b4
    have hs4 := b4.size
    go_wp2_with fail
    refine absW fun W5 hW5 => ?_
    have B5 : Blk W5 w4.heap.size 33 #[.int .i64 e.kind, .int .i64 e.col, .bool e.val.null, .int .i64 e.val.n, .slice (some ⟨k0, 0, none⟩) e.kids.length e.kids.length] := by rw [hW5]; exact Blk.new _ _ _
    have b5 : Fr w4 W5 := by rw [hW5]; (repeat (first | with_reducible exact Fr.refl _ | with_reducible assumption | with_reducible refine Fr.alloc ?_ _ | with_reducible refine Fr.drew ?_ | with_reducible refine Fr.drewN ?_ _ | (with_reducible refine Fr.setNew2 ?_ ?_ _; · (simp <;> omega)) | with_reducible refine Fr.trans ?_ (by assumption)))
    clear hW5
    have hs5 := b5.size
    refine (implConjuncts2 n e _ _ _ (Y0.out.fr (rdEx_mono n) b5) HS.out (Nat.le_refl _)).mono ?_
    rintro r w6 ⟨v, q, rfl, hRow, hq, b6, hTr⟩
    obtain ⟨G, gc, rfl⟩ := own_form hRow.own
    rw [EL.out] at hq
    have hql : q.length = L.length := by rw [← hq, List.length_map]
    have hG := hRow.rd
    obtain ⟨S, hS1, hS2⟩ := RowT.shS hRow hTr
    rw [hq] at hG hS1
    have HG := hid hG
    have HSS := hid hS1
    have HSB := hid hS2
    clear hG hS1 hS2 hRow hTr hq
    rw [hql]
    clear hql
    have F6 := (F4.trans b5).trans b6
    have B36 := (b4.trans b5).trans b6
    go_wp2_with fail
    refine (eqExS (n + 1) G S' gc sc L _ (HG.out.mono (rdEx_mono _) (fromB_le _ _)) (HS3.out.fr (rdEx_mono _) B36) HLS.out).mono ?_
    rintro r w7 ⟨rfl, b7⟩
    have F7 := F6.trans b7
    have B37 := B36.trans b7
    obtain ⟨c0, c1, c2, c3, c4, _⟩ := (B5.fr (b6.trans b7)).five
    obtain ⟨a0, a1, a2, a3, a4, _⟩ := (BA.fr (B3.trans B37)).five
    have Z0 := hid (Y0.out.fr (rdEx_mono n) ((b5.trans b6).trans b7))
    go_wp2_with fail
    first | (go_region_with (first
      | (go_at_call 11; refine (toExU (toExSU n) _ _ _ _ (HX.out.fr (rdEx_mono n) F7.drew) HS.out).mono ?_; rintro r w8 ⟨m0, rfl, z0, _, b8⟩; have U0 := hid ((z0.mono (rdEx_mono n) (fromU_le _ _)).mono (rdEx_mono n) (fromB_le _ _)); clear z0; have F8 := F7.drew.trans b8; have G8 : Fr w7 w8 := (Fr.refl _).drew.trans b8; have T0 := hid (Z0.out.fr (rdEx_mono n) G8); have q0 := b8.cell c0; have q1 := b8.cell c1; have q2 := b8.cell c2; have q3 := b8.cell c3; have q4 := b8.cell c4)
      | (go_at_call 14; refine (eqEx (eqExS n) _ _ _ _ _ _ T0.out U0.out HS.out).mono ?_; rintro r w9 ⟨rfl, b9⟩; have F9 := F8.trans b9; have G9 := G8.trans b9)
      | fail)) | fail
    all_goals clear q0 q1 q2 q3 q4 c0 c1 c2 c3 c4 a0 a1 a2 a3 a4 T0 U0
    all_goals obtain ⟨c0, c1, c2, c3, c4, _⟩ := (B5.fr ((b6.trans b7).trans G9)).five
    all_goals have B39 := B37.trans G9
    all_goals go_wp2_with fail
    all_goals refine (markE n e (some ⟨k0, 0, none⟩) e.kids.length 1 w3.heap.size w4.heap.size _ (SH.out.km (((b5.trans b6).trans b7).trans G9).km) (by have := ET.out; omega)).mono ?_
    all_goals rw [ET.out]
    all_goals rintro r w10 ⟨rfl, C10⟩
    all_goals have E10 : Fr w3 w10 := C10.fr (fun k hk => hk.1) B39
    all_goals have F10 : Fr w w10 := F3.trans E10
    all_goals have G10 := hid ((HG.out.mono (rdEx_mono _) ((b7.trans G9).mle_from W5.heap.size)).mono (rdEx_mono _) (C10.mle_from (lo := W5.heap.size) (fun k hk => by have := hk.2; omega)))
    all_goals have S10 := hid ((HSS.out.keep (b7.trans G9).keepS).keep (C10.keepS fun k hk hh => by have := HSB.out k hk; have := hh.2; omega))
    all_goals clear c0 c1 c2 c3 c4
    all_goals go_wp2_with fail
    all_goals refine (eqExS (n + 1) G S' gc sc L _ (G10.out.mono (rdEx_mono _) (fromB_le _ _)) (HS3.out.fr (rdEx_mono _) E10) HLS.out).mono ?_
    all_goals rintro r w11 ⟨rfl, b11⟩
    all_goals go_wp2_with fail
    all_goals refine (markT (n + 1) G gc L 1 S _ (S10.out.keep b11.keepS) (by have := EM.out; omega)).mono ?_
    all_goals rw [EM.out]
    all_goals rintro r w12 ⟨rfl, C12, hMk⟩
    all_goals have E12 : Fr w3 w12 := C12.fr (fun k hk => by have := HSB.out k hk; omega) (E10.trans b11)
    all_goals have HMK := hid hMk
    all_goals clear hMk
    all_goals go_wp2_with fail
    all_goals refine (heldT (n + 1) G gc L 1 S _ HMK.out (by have := EM.out; omega)).mono ?_
    all_goals rw [EM.out]
    all_goals rintro r w13 ⟨rfl, rfl⟩
    all_goals obtain ⟨a0, a1, a2, a3, a4, _⟩ := (BA.fr (B3.trans E12)).five
    all_goals go_wp2_with fail
    all_goals refine (toExU (toExSU n) _ _ _ _ (HX.out.fr (rdEx_mono n) (F3.trans E12)) HS.out).mono ?_
    all_goals rintro r w14 ⟨v0, rfl, v1, _, b14⟩
    all_goals have V0 := hid ((v1.mono (rdEx_mono n) (fromU_le _ _)).mono (rdEx_mono n) (fromB_le _ _))
    all_goals clear v1 a0 a1 a2 a3 a4
    all_goals go_wp2_with fail
    all_goals refine (implConjuncts n e _ _ _ V0.out HS.out (Nat.le_refl _)).mono ?_
    all_goals rintro r w15 ⟨v', q', rfl, hRow', hq', b15⟩
    all_goals obtain ⟨H', hc', rfl⟩ := own_form hRow'.own
    all_goals rw [EL.out] at hq'
    all_goals have hql' : q'.length = L.length := by rw [← hq', List.length_map]
    all_goals have hH := hRow'.rd
    all_goals rw [hq'] at hH
    all_goals have HH := hid hH
    all_goals clear hH hRow' hq'
    all_goals rw [hql']
    all_goals clear hql'
    all_goals go_wp2_with fail
    all_goals refine (eqExS (n + 1) H' S' hc' sc L _ (HH.out.mono (rdEx_mono _) (fromB_le _ _)) (HS3.out.fr (rdEx_mono _) ((E12.trans b14).trans b15)) HLS.out).mono ?_
    all_goals rintro r w16 ⟨rfl, b16⟩
    all_goals go_wp2_with fail
    all_goals refine (heldT (n + 1) G gc L 1 S _ (HMK.out.keep ((b14.trans b15).trans b16).keepS) (by have := EM.out; omega)).mono ?_
    all_goals rw [EM.out]
    all_goals rintro r w17 ⟨rfl, rfl⟩
    all_goals go_wp2
    all_goals go_ret
    all_goals exact ⟨rfl, (F3.trans E12).trans ((b14.trans b15).trans b16)⟩
end Go.Proofs.Ytfillcjpdnpaiaa
