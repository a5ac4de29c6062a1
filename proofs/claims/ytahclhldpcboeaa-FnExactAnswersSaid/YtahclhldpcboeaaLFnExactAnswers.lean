/- Walk of the law FnExactAnswers. -/
import Derived.Test.YtahclhldpcboeaaRuleU
import Derived.Test.YtahclhldpcboeaaFactsU
import Derived.Test.YtahclhldpcboeaaMarkS
import Derived.Test.YtahclhldpcboeaaLaw
import Derived.Test.YtahclhldpcboeaaBxL
import Derived.Deep.RegionHeld3
namespace Go.Proofs.Ytahclhldpcboeaa
open Go Go.RowKit
set_option maxRecDepth 100000 in
set_option maxHeartbeats 4000000 in
theorem walkFnExactAnswers (q0 : Int) (A00 : Option Addr) (c00 : Nat) (hd0 : List Int) (A01 : Option Addr) (c01 : Nat) (bd0 : List Atom) (A10 : Option Addr) (c10 : Nat) (fs1 : List Fact) (w : World) (hx00 : RdSl rdInt w.cell? 1 A00 hd0) (hx01 : RdSl rdAtom w.cell? 3 A01 bd0) (hm00 : hd0.length ≤ maxLen) (hm01 : bd0.length ≤ maxLen) (hx10 : RdSl rdFact w.cell? 3 A10 fs1) (hm10 : fs1.length ≤ maxLen) :
    Calls Try.prog 5 #[.agg #[.int .i64 q0, .slice A00 hd0.length c00, .slice A01 bd0.length c01], .slice A10 fs1.length c10] w fun r w' => r = .returned (.bool true) ∧ Fr w w' := by
  have HX00 := hid hx00
  have HX01 := hid hx01
  have HX10 := hid hx10
  clear hx00 hx01 hx10
  rcases lft2_ways (m := hd0.length) (n := bd0.length) (left := 1048576) (by omega) (by omega) with h | ⟨pz0, qz0, l00, l01⟩
  · have R := hid h
    clear h
    go_enter Try.func5, Try.ntmps5
    go_wp2_with fail
    refine absW fun W hW => ?_
    obtain ⟨BA0, F0⟩ := bx_one hW
    clear hW
    refine (szRule q0 _ _ _ _ _ _ _ _ hm00 hm01 (by omega) (by omega)).mono ?_
    rintro r wz ⟨rfl, bz⟩
    rw [R.out]
    go_wp2
    go_ret
    exact ⟨rfl, F0.trans bz⟩
  obtain ⟨lf0, elf0⟩ : ∃ l, lft2 1048576 hd0.length bd0.length = l := ⟨_, rfl⟩
  rw [elf0] at pz0 qz0
  have ELF0 := hid elf0
  have dl0 : decide (lf0 < 0) = false := by simp; omega
  clear elf0
  rcases szF_ways (n := fs1.length) (left := lf0) (by omega) (by omega) with h | ⟨pz1, qz1, l10⟩
  · have R := hid h
    clear h
    go_enter Try.func5, Try.ntmps5
    go_wp2_with fail
    refine absW fun W hW => ?_
    obtain ⟨BA0, F0⟩ := bx_one hW
    clear hW
    refine (szRule q0 _ _ _ _ _ _ _ _ hm00 hm01 (by omega) (by omega)).mono ?_
    rintro r w0 ⟨rfl, b0⟩
    rw [ELF0.out]
    have F1 := F0.trans b0
    replace BA0 := BA0.fr b0
    go_wp2_with fail
    refine (szFactsN _ _ _ _ _ hm10 (by omega) (by omega)).mono ?_
    rintro r wz ⟨rfl, bz⟩
    rw [R.out]
    go_wp2
    go_ret
    exact ⟨rfl, F1.trans bz⟩
  obtain ⟨lf1, elf1⟩ : ∃ l, szF lf0 fs1.length = l := ⟨_, rfl⟩
  rw [elf1] at pz1 qz1
  have ELF1 := hid elf1
  have dl1 : decide (lf1 < 0) = false := by simp; omega
  clear elf1
  have T0 := hid (fun (W : World) (hW : Fr w W) => toRuleU q0 A00 c00 hd0 A01 c01 bd0 W (HX00.out.fr rdInt_mono hW) (HX01.out.fr rdAtom_mono hW) l00 l01)
  have T1 := hid (fun (W : World) (hW : Fr w W) => toFactSU A10 c10 fs1 W (HX10.out.fr rdFact_mono hW) l10)
  obtain ⟨L, eL⟩ : ∃ L, ansO q0 hd0 bd0 fs1 = L := ⟨_, rfl⟩
  have EL := hid eL
  have hL : L.length ≤ 2000 := by rw [← eL]; exact ansO_len
  clear eL
  have HLR := hid (show ∀ x ∈ L, x.length ≤ 1000 from fun x hx => ansO_row (q := q0) (hd := hd0) (bd := bd0) (fs := fs1) (by rw [EL.out]; exact hx))
  go_enter Try.func5, Try.ntmps5
  go_wp2_with fail
  refine absW fun W hW => ?_
  obtain ⟨BA0, F0⟩ := bx_one hW
  clear hW
  refine (szRule q0 _ _ _ _ _ _ _ _ hm00 hm01 (by omega) (by omega)).mono ?_
  rintro r w0 ⟨rfl, b0⟩
  rw [ELF0.out]
  have F1 := F0.trans b0
  replace BA0 := BA0.fr b0
  go_wp2_with fail
  refine (szFactsN _ _ _ _ _ hm10 (by omega) (by omega)).mono ?_
  rintro r w1 ⟨rfl, b1⟩
  rw [ELF1.out]
  have F2 := F1.trans b1
  replace BA0 := BA0.fr b1
  have FM := F2
  clear F0 F1 F2 b0 b1
  obtain ⟨a00, a01, a02, _⟩ := BA0.three
  go_wp2_with fail
  refine (T0.out _ FM).mono ?_
  rintro r uy0 ⟨y00, y01, rfl, hy00, hy01, buy0⟩
  have Hy00 := hid ((hy00.mono rdInt_mono (fromU_le _ _)).mono rdInt_mono (fromB_le _ _))
  clear hy00
  have Hy01 := hid ((hy01.mono rdAtom_mono (fromU_le _ _)).mono rdAtom_mono (fromB_le _ _))
  clear hy01
  have Fuy0 : Fr w1 uy0 := buy0
  go_wp2_with fail
  refine (T1.out _ (FM.trans Fuy0)).mono ?_
  rintro r uy1 ⟨y10, rfl, hy10, buy1⟩
  have Hy10 := hid ((hy10.mono rdFact_mono (fromU_le _ _)).mono rdFact_mono (fromB_le _ _))
  clear hy10
  have Fuy1 : Fr w1 uy1 := Fuy0.trans buy1
  have Guy1 : Fr uy0 uy1 := buy1
  go_wp2_with fail
  refine (specAnswers q0 _ _ hd0 _ _ bd0 _ _ fs1 _ (Hy00.out.fr rdInt_mono Guy1) (Hy01.out.fr rdAtom_mono Guy1) Hy10.out l00 l01 l10).mono ?_
  rw [EL.out]
  intro r ws hpost
  obtain ⟨hpost, bws⟩ := hpost
  obtain ⟨sA, sc, rfl, hsr⟩ := ilPost_out hpost
  have Fws : Fr w1 ws := Fuy1.trans bws
  clear Hy00 Hy01 Hy10 a00 a01 a02
  have hBA0 := (BA0.fr Fws).lt
  have HS := hid (hsr.mono rdIL_mono (fromB_le _ _))
  clear hsr
  have FS := FM.trans Fws
  replace BA0 := BA0.fr Fws
  clear Fuy0 buy0 Fuy1 buy1 Fws bws Guy1
  obtain ⟨a00, a01, a02, _⟩ := BA0.three
  go_wp2_with fail
  refine (T0.out _ FS).mono ?_
  rintro r k0 ⟨x00, x01, rfl, hx00, hx01, g0⟩
  have hz0 : ws.heap.size ≤ k0.heap.size := g0.size
  have V00 := hid (hx00.mono rdInt_mono (fromU_in (hi := k0.heap.size) (Nat.le_refl _)))
  have V01 := hid (hx01.mono rdAtom_mono (fromU_in (hi := k0.heap.size) (Nat.le_refl _)))
  clear hx00 hx01 a00 a01 a02
  have FK0 := FS.trans g0
  have K0 : Fr k0 (k0.alloc (.cells #[.int .i64 q0, .slice (some ⟨x00, 0, none⟩) hd0.length hd0.length, .slice (some ⟨x01, 0, none⟩) bd0.length bd0.length] 30)) := (Fr.refl _).alloc _
  have BX0 := Blk.new k0 30 #[.int .i64 q0, .slice (some ⟨x00, 0, none⟩) hd0.length hd0.length, .slice (some ⟨x01, 0, none⟩) bd0.length bd0.length]
  replace BA0 := BA0.fr (g0.trans K0)
  go_wp2_with fail
  refine (T1.out _ (FK0.trans K0)).mono ?_
  rintro r k1 ⟨x10, rfl, hx10, g1⟩
  have hz1 : k0.heap.size ≤ k1.heap.size := (K0.trans g1).size
  have V10 := hid ((hx10.mono rdFact_mono (fromU_lo (lo' := k0.heap.size) (by simp))).mono rdFact_mono (fromU_in (hi := k1.heap.size) (Nat.le_refl _)))
  clear hx10
  have FK1 := (FK0.trans K0).trans g1
  replace BA0 := BA0.fr g1
  replace BX0 := BX0.fr g1
  replace V00 := hid (V00.out.mono rdInt_mono ((K0.trans g1).mle_in _ _))
  replace V01 := hid (V01.out.mono rdAtom_mono ((K0.trans g1).mle_in _ _))
  obtain ⟨d00, d01, d02, _⟩ := BX0.three
  go_wp2_with fail
  refine absW fun W5 hW5 => ?_
  have F5 : Fr w W5 := by rw [hW5]; exact FK1
  rw [← hW5] at BX0 BA0
  rw [← hW5] at V00
  rw [← hW5] at V01
  rw [← hW5] at V10
  have E5 : Fr ws W5 := by
    rw [hW5]; exact ((g0.trans K0).trans g1)
  have hzl : k1.heap.size ≤ W5.heap.size := by rw [hW5]; exact Nat.le_refl _
  clear hW5 d00 d01 d02 g0 g1 FK0 FK1 K0
  refine (implAnswersN q0 _ _ hd0 _ _ bd0 _ _ fs1 _ (V00.out.mono rdInt_mono inU_cell) (V01.out.mono rdAtom_mono inU_cell) (V10.out.mono rdFact_mono inU_cell) l00 l01 l10).mono ?_
  rw [EL.out]
  intro r w6 hpost
  obtain ⟨hpost, b6⟩ := hpost
  obtain ⟨gA, gc, gD, rfl, hgr, hgm, hga⟩ := ssPost_out hpost
  have HG := hid hgr
  have HMk := hid hgm
  have HAt := hid hga
  clear hgr hgm hga
  have F6 := F5.trans b6
  have E6 := E5.trans b6
  have hs6 := b6.size
  replace BX0 := BX0.fr b6
  replace BA0 := BA0.fr b6
  replace V00 := hid (V00.out.mono rdInt_mono (b6.mle_in _ _))
  replace V01 := hid (V01.out.mono rdAtom_mono (b6.mle_in _ _))
  replace V10 := hid (V10.out.mono rdFact_mono (b6.mle_in _ _))
  go_wp2_with fail
  refine (eqSS gA sA gc sc L L _ (HG.out.mono rdIL_mono (fromB_le _ _)) (HS.out.fr rdIL_mono E6) (by omega) (by omega) HLR.out HLR.out).mono ?_
  rintro r w7 ⟨rfl, bw7⟩
  rw [decide_eq_true (rfl : L = L)]
  have F7 := F6.trans bw7
  have E7 := E6.trans bw7
  have M7 := bw7
  replace BX0 := BX0.fr bw7
  replace BA0 := BA0.fr bw7
  replace V00 := hid (V00.out.mono rdInt_mono (bw7.mle_in _ _))
  replace V01 := hid (V01.out.mono rdAtom_mono (bw7.mle_in _ _))
  replace V10 := hid (V10.out.mono rdFact_mono (bw7.mle_in _ _))
  clear b6 bw7
  obtain ⟨a00, a01, a02, _⟩ := BA0.three
  obtain ⟨d00, d01, d02, _⟩ := BX0.three
  go_wp2_with fail
  have keepL : ∀ W' : World, Fr w7 W' → (Fr w7 W' ∧ W'.cell? ⟨w.heap.size, 0, none⟩ = some (.int .i64 q0) ∧ W'.cell? ⟨w.heap.size, 1, none⟩ = some (.slice A00 hd0.length c00) ∧ W'.cell? ⟨w.heap.size, 2, none⟩ = some (.slice A01 bd0.length c01) ∧ W'.cell? ⟨k0.heap.size, 0, none⟩ = some (.int .i64 q0) ∧ W'.cell? ⟨k0.heap.size, 1, none⟩ = some (.slice (some ⟨x00, 0, none⟩) hd0.length hd0.length) ∧ W'.cell? ⟨k0.heap.size, 2, none⟩ = some (.slice (some ⟨x01, 0, none⟩) bd0.length bd0.length)) := fun W' F => ⟨F, F.cell a00, F.cell a01, F.cell a02, F.cell d00, F.cell d01, F.cell d02⟩
  go_region_held3 (fun W' => Fr w7 W' ∧ W'.cell? ⟨w.heap.size, 0, none⟩ = some (.int .i64 q0) ∧ W'.cell? ⟨w.heap.size, 1, none⟩ = some (.slice A00 hd0.length c00) ∧ W'.cell? ⟨w.heap.size, 2, none⟩ = some (.slice A01 bd0.length c01) ∧ W'.cell? ⟨k0.heap.size, 0, none⟩ = some (.int .i64 q0) ∧ W'.cell? ⟨k0.heap.size, 1, none⟩ = some (.slice (some ⟨x00, 0, none⟩) hd0.length hd0.length) ∧ W'.cell? ⟨k0.heap.size, 2, none⟩ = some (.slice (some ⟨x01, 0, none⟩) bd0.length bd0.length)) ((refine keepL _ ?_; (repeat (first | with_reducible exact Fr.refl _ | with_reducible assumption | with_reducible refine Fr.alloc ?_ _ | with_reducible refine Fr.drew ?_ | with_reducible refine Fr.drewN ?_ _ | (with_reducible refine Fr.setNew2 ?_ ?_ _; · (simp <;> omega)) | with_reducible refine Fr.trans ?_ (by assumption))); done))
    (first
      | (go_at_call 12; with_reducible refine (T0.out _ ?_).mono ?_; (· exact F7.trans (by (repeat (first | with_reducible exact Fr.refl _ | with_reducible assumption | with_reducible refine Fr.alloc ?_ _ | with_reducible refine Fr.drew ?_ | with_reducible refine Fr.drewN ?_ _ | (with_reducible refine Fr.setNew2 ?_ ?_ _; · (simp <;> omega)) | with_reducible refine Fr.trans ?_ (by assumption))))); rintro r z0 ⟨z00, z01, rfl, hz00, hz01, bz0⟩; have Hz00 := hid ((hz00.mono rdInt_mono (fromU_le _ _)).mono rdInt_mono (fromB_le _ _)); clear hz00; have Hz01 := hid ((hz01.mono rdAtom_mono (fromU_le _ _)).mono rdAtom_mono (fromB_le _ _)); clear hz01; have Fz0 : Fr w7 z0 := Fr.trans (by (repeat (first | with_reducible exact Fr.refl _ | with_reducible assumption | with_reducible refine Fr.alloc ?_ _ | with_reducible refine Fr.drew ?_ | with_reducible refine Fr.drewN ?_ _ | (with_reducible refine Fr.setNew2 ?_ ?_ _; · (simp <;> omega)) | with_reducible refine Fr.trans ?_ (by assumption)))) bz0)
      | (go_at_call 15; refine (eqRule q0 _ _ hd0 _ _ bd0 _ _ _ _ _ ((V00.out.mono rdInt_mono inU_cell).fr rdInt_mono Fz0) ((V01.out.mono rdAtom_mono inU_cell).fr rdAtom_mono Fz0) Hz00.out Hz01.out l00 l01).mono ?_; rintro r w8 ⟨rfl, bw8⟩; have FFw8 : Fr w7 w8 := Fr.trans (by (repeat (first | with_reducible exact Fr.refl _ | with_reducible assumption | with_reducible refine Fr.alloc ?_ _ | with_reducible refine Fr.drew ?_ | with_reducible refine Fr.drewN ?_ _ | (with_reducible refine Fr.setNew2 ?_ ?_ _; · (simp <;> omega)) | with_reducible refine Fr.trans ?_ (by assumption)))) bw8)
      | fail)
  clear keepL a00 a01 a02 d00 d01 d02 Hz00 Hz01
  replace BX0 := BX0.fr FFw8
  replace BA0 := BA0.fr FFw8
  replace V00 := hid (V00.out.mono rdInt_mono (FFw8.mle_in _ _))
  replace V01 := hid (V01.out.mono rdAtom_mono (FFw8.mle_in _ _))
  replace V10 := hid (V10.out.mono rdFact_mono (FFw8.mle_in _ _))
  have F8 := F7.trans FFw8
  have E8 := E7.trans FFw8
  replace M7 := M7.trans FFw8
  clear Fz0 bz0 bw8 FFw8
  go_wp2_with fail
  refine (T1.out _ F8).mono ?_
  rintro r z1 ⟨z10, rfl, hz10, bz1⟩
  have Hz10 := hid ((hz10.mono rdFact_mono (fromU_le _ _)).mono rdFact_mono (fromB_le _ _))
  clear hz10
  have Fz1 := bz1
  go_wp2_with fail
  refine (eqFactS _ _ _ _ fs1 fs1 _ ((V10.out.mono rdFact_mono inU_cell).fr rdFact_mono Fz1) Hz10.out l10 l10).mono ?_
  rintro r w9 ⟨rfl, bw9⟩
  have FFw9 : Fr w8 w9 := Fz1.trans bw9
  rw [decide_eq_true (rfl : fs1 = fs1)]
  replace BX0 := BX0.fr FFw9
  replace BA0 := BA0.fr FFw9
  replace V00 := hid (V00.out.mono rdInt_mono (FFw9.mle_in _ _))
  replace V01 := hid (V01.out.mono rdAtom_mono (FFw9.mle_in _ _))
  replace V10 := hid (V10.out.mono rdFact_mono (FFw9.mle_in _ _))
  have F9 := F8.trans FFw9
  have E9 := E8.trans FFw9
  replace M7 := M7.trans FFw9
  clear Fz1 bz1 bw9 FFw9
  have hs7 := M7.size
  have HGb := hid (HG.out.mono rdIL_mono (M7.mle_from W5.heap.size))
  have HMb := hid (HMk.out.fr M7)
  obtain ⟨d00, d01, d02, _⟩ := BX0.three
  go_wp2_with fail
  refine (markRuleU q0 _ _ hd0 _ _ bd0 1 ws.heap.size k0.heap.size _ (V00.out.sc rdInt_sc) (V01.out.sc rdAtom_sc) l00 l01 (by omega) (by omega)).mono ?_
  rintro r w10 ⟨rfl, C0, _⟩
  have hsc0 := C0.size
  obtain ⟨m0, em0⟩ : ∃ k, 1 + hd0.length + bd0.length * 3 = k := ⟨_, rfl⟩
  rw [em0]
  have hmk0 : m0 ≤ 10000000 := by omega
  clear em0
  clear d00 d01 d02
  replace BA0 := BA0.chI C0 (.inr (by have := hBA0; omega))
  replace V10 := hid (V10.out.mono rdFact_mono (C0.mle_in (.inl (by omega))))
  replace HGb := hid (HGb.out.mono rdIL_mono (C0.mle_from (lo := W5.heap.size) (fun k hk => by have := hk.2; omega)))
  replace HMb := hid (HMb.out.from_ (Fr.refl _) C0 (fun k hk hS => by have := HAt.out k hk; have := hS.2; omega))
  have E10 : Fr ws w10 := C0.fr (fun k hk => by have := hk.1; omega) E9
  clear C0
  go_wp2_with fail
  refine (markFactSU _ _ fs1 m0 k0.heap.size W5.heap.size _ (V10.out.sc rdFact_sc) l10 (by omega)).mono ?_
  rintro r w11 ⟨rfl, C1, _⟩
  have hsc1 := C1.size
  obtain ⟨m1, em1⟩ : ∃ k, m0 + fs1.length * 3 = k := ⟨_, rfl⟩
  rw [em1]
  have hmk1 : m1 ≤ 20000000 := by omega
  clear em1
  replace BA0 := BA0.chI C1 (.inr (by have := hBA0; omega))
  replace HGb := hid (HGb.out.mono rdIL_mono (C1.mle_from (lo := W5.heap.size) (fun k hk => by have := hk.2; omega)))
  replace HMb := hid (HMb.out.from_ (Fr.refl _) C1 (fun k hk hS => by have := HAt.out k hk; have := hS.2; omega))
  have E11 : Fr ws w11 := C1.fr (fun k hk => by have := hk.1; omega) E10
  clear C1
  have dk : decide ((m1 : Int) < 0) = false := by simp
  go_wp2_with fail
  refine (eqSS gA sA gc sc L L _ (HGb.out.mono rdIL_mono (fromB_le _ _)) (HS.out.fr rdIL_mono E11) (by omega) (by omega) HLR.out HLR.out).mono ?_
  rintro r wq ⟨rfl, bwq⟩
  rw [decide_eq_true (rfl : L = L)]
  go_wp2_with fail
  refine (markN gA L.length gc 1 gD _ (by omega) (by omega) (HMb.out.fr bwq)).mono ?_
  rintro r wr ⟨rfl, Cr, hR, _⟩
  have Er : Fr ws wr := Cr.fr (fun k hk => by have := HAt.out k hk; have := E5.size; omega) (E11.trans bwq)
  have HR := hid hR
  clear hR
  replace BA0 := (BA0.fr bwq).chS Cr (fun hk => by have := HAt.out _ hk; have := hBA0; have := E5.size; omega)
  go_wp2_with fail
  refine (heldN gA L.length gc 1 gD _ (by omega) (by omega) HR.out).mono ?_
  rintro r wv ⟨rfl, rfl⟩
  have FR := FS.trans Er
  obtain ⟨a00, a01, a02, _⟩ := BA0.three
  go_wp2_with fail
  refine (T0.out _ FR).mono ?_
  rintro r uv0 ⟨v00, v01, rfl, hv00, hv01, buv0⟩
  have Hv00 := hid ((hv00.mono rdInt_mono (fromU_le _ _)).mono rdInt_mono (fromB_le _ _))
  clear hv00
  have Hv01 := hid ((hv01.mono rdAtom_mono (fromU_le _ _)).mono rdAtom_mono (fromB_le _ _))
  clear hv01
  have Fuv0 : Fr wr uv0 := buv0
  go_wp2_with fail
  refine (T1.out _ (FR.trans Fuv0)).mono ?_
  rintro r uv1 ⟨v10, rfl, hv10, buv1⟩
  have Hv10 := hid ((hv10.mono rdFact_mono (fromU_le _ _)).mono rdFact_mono (fromB_le _ _))
  clear hv10
  have Fuv1 : Fr wr uv1 := Fuv0.trans buv1
  have Guv1 : Fr uv0 uv1 := buv1
  go_wp2_with fail
  refine (implAnswersN q0 _ _ hd0 _ _ bd0 _ _ fs1 _ (Hv00.out.fr rdInt_mono Guv1) (Hv01.out.fr rdAtom_mono Guv1) Hv10.out l00 l01 l10).mono ?_
  rw [EL.out]
  intro r wx hpost
  obtain ⟨hpost, bwx⟩ := hpost
  obtain ⟨hA, hc, hD, rfl, hhr, hhm, hha⟩ := ssPost_out hpost
  have Fwx : Fr wr wx := Fuv1.trans bwx
  clear Hv00 Hv01 Hv10 a00 a01 a02
  have HH := hid (hhr.mono rdIL_mono (fromB_le _ _))
  clear hhr hhm hha
  go_wp2_with fail
  refine (eqSS hA sA hc sc L L _ HH.out (HS.out.fr rdIL_mono (Er.trans Fwx)) (by omega) (by omega) HLR.out HLR.out).mono ?_
  rintro r wy ⟨rfl, bwy⟩
  rw [decide_eq_true (rfl : L = L)]
  go_wp2_with fail
  refine (heldN gA L.length gc 1 gD _ (by omega) (by omega) (HR.out.fr rdIL_mono (Fwx.trans bwy))).mono ?_
  rintro r wz ⟨rfl, rfl⟩
  go_wp2
  go_ret
  exact ⟨rfl, (FR.trans Fwx).trans bwy⟩
end Go.Proofs.Ytahclhldpcboeaa
