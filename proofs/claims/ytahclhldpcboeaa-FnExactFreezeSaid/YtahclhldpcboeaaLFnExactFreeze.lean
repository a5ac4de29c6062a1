/- Walk of the law FnExactFreeze. -/
import Derived.Test.YtahclhldpcboeaaRuleU
import Derived.Test.YtahclhldpcboeaaFrzI
import Derived.Test.YtahclhldpcboeaaMarkF
import Derived.Test.YtahclhldpcboeaaLaw
import Derived.Test.YtahclhldpcboeaaBxL
import Derived.Deep.RegionHeld3
namespace Go.Proofs.Ytahclhldpcboeaa
open Go Go.RowKit
set_option maxRecDepth 100000 in
set_option maxHeartbeats 4000000 in
theorem walkFnExactFreeze (q0 : Int) (A00 : Option Addr) (c00 : Nat) (hd0 : List Int) (A01 : Option Addr) (c01 : Nat) (bd0 : List Atom) (w : World) (hx00 : RdSl rdInt w.cell? 1 A00 hd0) (hx01 : RdSl rdAtom w.cell? 3 A01 bd0) (hm00 : hd0.length ≤ maxLen) (hm01 : bd0.length ≤ maxLen) :
    Calls Try.prog 4 #[.agg #[.int .i64 q0, .slice A00 hd0.length c00, .slice A01 bd0.length c01]] w fun r w' => r = .returned (.bool true) ∧ Fr w w' := by
  have HX00 := hid hx00
  have HX01 := hid hx01
  clear hx00 hx01
  rcases lft2_ways (m := hd0.length) (n := bd0.length) (left := 1048576) (by omega) (by omega) with h | ⟨pz0, qz0, l00, l01⟩
  · have R := hid h
    clear h
    go_enter Try.func4, Try.ntmps4
    go_wp2_with fail
    refine absW fun W hW => ?_
    obtain ⟨BA0, F0⟩ := bx_one hW
    clear hW
    refine (szRule q0 _ _ _ _ _ _ _ _ hm00 hm01 (by omega) (by omega)).mono ?_
    rintro r wz ⟨rfl, bz⟩
    rw [R.out]
    go_wp2
    go_ret
    exact ⟨rfl, F0.trans bz⟩
  obtain ⟨lf0, elf0⟩ : ∃ l, lft2 1048576 hd0.length bd0.length = l := ⟨_, rfl⟩
  rw [elf0] at pz0 qz0
  have ELF0 := hid elf0
  have dl0 : decide (lf0 < 0) = false := by simp; omega
  clear elf0
  have T0 := hid (fun (W : World) (hW : Fr w W) => toRuleU q0 A00 c00 hd0 A01 c01 bd0 W (HX00.out.fr rdInt_mono hW) (HX01.out.fr rdAtom_mono hW) l00 l01)
  obtain ⟨L, eL⟩ : ∃ L, frzOf q0 hd0 bd0 = L := ⟨_, rfl⟩
  have EL := hid eL
  have hL : L.length ≤ 2000 := by rw [← eL]; exact frzOf_len
  clear eL
  go_enter Try.func4, Try.ntmps4
  go_wp2_with fail
  refine absW fun W hW => ?_
  obtain ⟨BA0, F0⟩ := bx_one hW
  clear hW
  refine (szRule q0 _ _ _ _ _ _ _ _ hm00 hm01 (by omega) (by omega)).mono ?_
  rintro r w0 ⟨rfl, b0⟩
  rw [ELF0.out]
  have F1 := F0.trans b0
  replace BA0 := BA0.fr b0
  have FM := F1
  clear F0 F1 b0
  obtain ⟨a00, a01, a02, _⟩ := BA0.three
  go_wp2_with fail
  refine (T0.out _ FM).mono ?_
  rintro r uy0 ⟨y00, y01, rfl, hy00, hy01, buy0⟩
  have Hy00 := hid ((hy00.mono rdInt_mono (fromU_le _ _)).mono rdInt_mono (fromB_le _ _))
  clear hy00
  have Hy01 := hid ((hy01.mono rdAtom_mono (fromU_le _ _)).mono rdAtom_mono (fromB_le _ _))
  clear hy01
  have Fuy0 : Fr w0 uy0 := buy0
  clear a00 a01 a02
  go_wp2_with fail
  refine (specFreeze q0 _ _ hd0 _ _ bd0 _ Hy00.out Hy01.out l00 l01).mono ?_
  rw [EL.out]
  intro r ws hpost
  obtain ⟨hpost, bws⟩ := hpost
  obtain ⟨sA, sc, rfl, hsr⟩ := spPost_out hpost
  have Fws : Fr w0 ws := Fuy0.trans bws
  clear Hy00 Hy01 
  have hBA0 := (BA0.fr Fws).lt
  have HS := hid (hsr.mono rdFact_mono (fromB_le _ _))
  clear hsr
  have FS := FM.trans Fws
  replace BA0 := BA0.fr Fws
  clear Fuy0 buy0 Fws bws
  obtain ⟨a00, a01, a02, _⟩ := BA0.three
  go_wp2_with fail
  refine (T0.out _ FS).mono ?_
  rintro r k0 ⟨x00, x01, rfl, hx00, hx01, g0⟩
  have hz0 : ws.heap.size ≤ k0.heap.size := g0.size
  have V00 := hid (hx00.mono rdInt_mono (fromU_in (hi := k0.heap.size) (Nat.le_refl _)))
  have V01 := hid (hx01.mono rdAtom_mono (fromU_in (hi := k0.heap.size) (Nat.le_refl _)))
  clear hx00 hx01 a00 a01 a02
  have FK0 := FS.trans g0
  have K0 : Fr k0 (k0.alloc (.cells #[.int .i64 q0, .slice (some ⟨x00, 0, none⟩) hd0.length hd0.length, .slice (some ⟨x01, 0, none⟩) bd0.length bd0.length] 30)) := (Fr.refl _).alloc _
  have BX0 := Blk.new k0 30 #[.int .i64 q0, .slice (some ⟨x00, 0, none⟩) hd0.length hd0.length, .slice (some ⟨x01, 0, none⟩) bd0.length bd0.length]
  replace BA0 := BA0.fr (g0.trans K0)
  obtain ⟨d00, d01, d02, _⟩ := BX0.three
  go_wp2_with fail
  refine absW fun W5 hW5 => ?_
  replace K0 : Fr k0 W5 := by rw [hW5]; exact K0
  have F5 : Fr w W5 := FK0.trans K0
  rw [← hW5] at BX0 BA0
  replace V00 := hid (V00.out.mono rdInt_mono (K0.mle_in _ _))
  replace V01 := hid (V01.out.mono rdAtom_mono (K0.mle_in _ _))
  have E5 : Fr ws W5 := by
    exact (g0.trans K0)
  have hzl : k0.heap.size ≤ W5.heap.size := K0.size
  clear hW5 d00 d01 d02 g0 FK0 K0
  refine (implFreeze q0 _ _ hd0 _ _ bd0 _ (V00.out.mono rdInt_mono inU_cell) (V01.out.mono rdAtom_mono inU_cell) l00 l01).mono ?_
  rw [EL.out]
  intro r w6 hpost
  obtain ⟨hpost, b6⟩ := hpost
  obtain ⟨gA, gc, rfl, hgr, hgm, hga⟩ := fcPost_out hpost
  have HG := hid hgr
  have HMk := hid hgm
  have HAt := hid hga
  clear hgr hgm hga
  have F6 := F5.trans b6
  have E6 := E5.trans b6
  have hs6 := b6.size
  replace BX0 := BX0.fr b6
  replace BA0 := BA0.fr b6
  replace V00 := hid (V00.out.mono rdInt_mono (b6.mle_in _ _))
  replace V01 := hid (V01.out.mono rdAtom_mono (b6.mle_in _ _))
  go_wp2_with fail
  refine (eqFactS gA sA gc sc L L _ (HG.out.mono rdFact_mono (fromB_le _ _)) (HS.out.fr rdFact_mono E6) (by omega) (by omega)).mono ?_
  rintro r w7 ⟨rfl, bw7⟩
  rw [decide_eq_true (rfl : L = L)]
  have F7 := F6.trans bw7
  have E7 := E6.trans bw7
  have M7 := bw7
  replace BX0 := BX0.fr bw7
  replace BA0 := BA0.fr bw7
  replace V00 := hid (V00.out.mono rdInt_mono (bw7.mle_in _ _))
  replace V01 := hid (V01.out.mono rdAtom_mono (bw7.mle_in _ _))
  clear b6 bw7
  obtain ⟨a00, a01, a02, _⟩ := BA0.three
  obtain ⟨d00, d01, d02, _⟩ := BX0.three
  go_wp2_with fail
  have keepL : ∀ W' : World, Fr w7 W' → (Fr w7 W' ∧ W'.cell? ⟨w.heap.size, 0, none⟩ = some (.int .i64 q0) ∧ W'.cell? ⟨w.heap.size, 1, none⟩ = some (.slice A00 hd0.length c00) ∧ W'.cell? ⟨w.heap.size, 2, none⟩ = some (.slice A01 bd0.length c01) ∧ W'.cell? ⟨k0.heap.size, 0, none⟩ = some (.int .i64 q0) ∧ W'.cell? ⟨k0.heap.size, 1, none⟩ = some (.slice (some ⟨x00, 0, none⟩) hd0.length hd0.length) ∧ W'.cell? ⟨k0.heap.size, 2, none⟩ = some (.slice (some ⟨x01, 0, none⟩) bd0.length bd0.length)) := fun W' F => ⟨F, F.cell a00, F.cell a01, F.cell a02, F.cell d00, F.cell d01, F.cell d02⟩
  go_region_held3 (fun W' => Fr w7 W' ∧ W'.cell? ⟨w.heap.size, 0, none⟩ = some (.int .i64 q0) ∧ W'.cell? ⟨w.heap.size, 1, none⟩ = some (.slice A00 hd0.length c00) ∧ W'.cell? ⟨w.heap.size, 2, none⟩ = some (.slice A01 bd0.length c01) ∧ W'.cell? ⟨k0.heap.size, 0, none⟩ = some (.int .i64 q0) ∧ W'.cell? ⟨k0.heap.size, 1, none⟩ = some (.slice (some ⟨x00, 0, none⟩) hd0.length hd0.length) ∧ W'.cell? ⟨k0.heap.size, 2, none⟩ = some (.slice (some ⟨x01, 0, none⟩) bd0.length bd0.length)) ((refine keepL _ ?_; (repeat (first | with_reducible exact Fr.refl _ | with_reducible assumption | with_reducible refine Fr.alloc ?_ _ | with_reducible refine Fr.drew ?_ | with_reducible refine Fr.drewN ?_ _ | (with_reducible refine Fr.setNew2 ?_ ?_ _; · (simp <;> omega)) | with_reducible refine Fr.trans ?_ (by assumption))); done))
    (first
      | (go_at_call 12; with_reducible refine (T0.out _ ?_).mono ?_; (· exact F7.trans (by (repeat (first | with_reducible exact Fr.refl _ | with_reducible assumption | with_reducible refine Fr.alloc ?_ _ | with_reducible refine Fr.drew ?_ | with_reducible refine Fr.drewN ?_ _ | (with_reducible refine Fr.setNew2 ?_ ?_ _; · (simp <;> omega)) | with_reducible refine Fr.trans ?_ (by assumption))))); rintro r z0 ⟨z00, z01, rfl, hz00, hz01, bz0⟩; have Hz00 := hid ((hz00.mono rdInt_mono (fromU_le _ _)).mono rdInt_mono (fromB_le _ _)); clear hz00; have Hz01 := hid ((hz01.mono rdAtom_mono (fromU_le _ _)).mono rdAtom_mono (fromB_le _ _)); clear hz01; have Fz0 : Fr w7 z0 := Fr.trans (by (repeat (first | with_reducible exact Fr.refl _ | with_reducible assumption | with_reducible refine Fr.alloc ?_ _ | with_reducible refine Fr.drew ?_ | with_reducible refine Fr.drewN ?_ _ | (with_reducible refine Fr.setNew2 ?_ ?_ _; · (simp <;> omega)) | with_reducible refine Fr.trans ?_ (by assumption)))) bz0)
      | (go_at_call 15; refine (eqRule q0 _ _ hd0 _ _ bd0 _ _ _ _ _ ((V00.out.mono rdInt_mono inU_cell).fr rdInt_mono Fz0) ((V01.out.mono rdAtom_mono inU_cell).fr rdAtom_mono Fz0) Hz00.out Hz01.out l00 l01).mono ?_; rintro r w8 ⟨rfl, bw8⟩; have FFw8 : Fr w7 w8 := Fr.trans (by (repeat (first | with_reducible exact Fr.refl _ | with_reducible assumption | with_reducible refine Fr.alloc ?_ _ | with_reducible refine Fr.drew ?_ | with_reducible refine Fr.drewN ?_ _ | (with_reducible refine Fr.setNew2 ?_ ?_ _; · (simp <;> omega)) | with_reducible refine Fr.trans ?_ (by assumption)))) bw8)
      | fail)
  clear keepL a00 a01 a02 d00 d01 d02 Hz00 Hz01
  replace BX0 := BX0.fr FFw8
  replace BA0 := BA0.fr FFw8
  replace V00 := hid (V00.out.mono rdInt_mono (FFw8.mle_in _ _))
  replace V01 := hid (V01.out.mono rdAtom_mono (FFw8.mle_in _ _))
  have F8 := F7.trans FFw8
  have E8 := E7.trans FFw8
  replace M7 := M7.trans FFw8
  clear Fz0 bz0 bw8 FFw8
  have hs7 := M7.size
  have HGb := hid (HG.out.mono rdFact_mono (M7.mle_from W5.heap.size))
  have HMb := hid (HMk.out.fr M7)
  obtain ⟨d00, d01, d02, _⟩ := BX0.three
  go_wp2_with fail
  refine (markRuleU q0 _ _ hd0 _ _ bd0 1 ws.heap.size k0.heap.size _ (V00.out.sc rdInt_sc) (V01.out.sc rdAtom_sc) l00 l01 (by omega) (by omega)).mono ?_
  rintro r w9 ⟨rfl, C0, _⟩
  have hsc0 := C0.size
  obtain ⟨m0, em0⟩ : ∃ k, 1 + hd0.length + bd0.length * 3 = k := ⟨_, rfl⟩
  rw [em0]
  have hmk0 : m0 ≤ 10000000 := by omega
  clear em0
  clear d00 d01 d02
  replace BA0 := BA0.chI C0 (.inr (by have := hBA0; omega))
  replace HGb := hid (HGb.out.mono rdFact_mono (C0.mle_from (lo := W5.heap.size) (fun k hk => by have := hk.2; omega)))
  replace HMb := hid (HMb.out.from_ (Fr.refl _) C0 (fun k hk hS => by have := HAt.out k hk; have := hS.2; omega))
  have E9 : Fr ws w9 := C0.fr (fun k hk => by have := hk.1; omega) E8
  clear C0
  have dk : decide ((m0 : Int) < 0) = false := by simp
  go_wp2_with fail
  refine (eqFactS gA sA gc sc L L _ (HGb.out.mono rdFact_mono (fromB_le _ _)) (HS.out.fr rdFact_mono E9) (by omega) (by omega)).mono ?_
  rintro r wq ⟨rfl, bwq⟩
  rw [decide_eq_true (rfl : L = L)]
  go_wp2_with fail
  refine (markFacts gA L.length gc 1 _ (by omega) (by omega) (HMb.out.fr bwq)).mono ?_
  rintro r wr ⟨rfl, Cr, hR, _⟩
  have Er : Fr ws wr := Cr.fr (fun k hk => by have := HAt.out k hk; have := E5.size; omega) (E9.trans bwq)
  have HR := hid hR
  clear hR
  replace BA0 := (BA0.fr bwq).chS Cr (fun hk => by have := HAt.out _ hk; have := hBA0; have := E5.size; omega)
  go_wp2_with fail
  refine (heldFacts gA L.length gc 1 _ (by omega) (by omega) HR.out).mono ?_
  rintro r wv ⟨rfl, rfl⟩
  have FR := FS.trans Er
  obtain ⟨a00, a01, a02, _⟩ := BA0.three
  go_wp2_with fail
  refine (T0.out _ FR).mono ?_
  rintro r uv0 ⟨v00, v01, rfl, hv00, hv01, buv0⟩
  have Hv00 := hid ((hv00.mono rdInt_mono (fromU_le _ _)).mono rdInt_mono (fromB_le _ _))
  clear hv00
  have Hv01 := hid ((hv01.mono rdAtom_mono (fromU_le _ _)).mono rdAtom_mono (fromB_le _ _))
  clear hv01
  have Fuv0 : Fr wr uv0 := buv0
  clear a00 a01 a02
  go_wp2_with fail
  refine (implFreeze q0 _ _ hd0 _ _ bd0 _ Hv00.out Hv01.out l00 l01).mono ?_
  rw [EL.out]
  intro r wx hpost
  obtain ⟨hpost, bwx⟩ := hpost
  obtain ⟨hA, hc, rfl, hhr, hhm, hha⟩ := fcPost_out hpost
  have Fwx : Fr wr wx := Fuv0.trans bwx
  clear Hv00 Hv01 
  have HH := hid (hhr.mono rdFact_mono (fromB_le _ _))
  clear hhr hhm hha
  go_wp2_with fail
  refine (eqFactS hA sA hc sc L L _ HH.out (HS.out.fr rdFact_mono (Er.trans Fwx)) (by omega) (by omega)).mono ?_
  rintro r wy ⟨rfl, bwy⟩
  rw [decide_eq_true (rfl : L = L)]
  go_wp2_with fail
  refine (heldFacts gA L.length gc 1 _ (by omega) (by omega) (HR.out.fr rdFact_mono (Fwx.trans bwy))).mono ?_
  rintro r wz ⟨rfl, rfl⟩
  go_wp2
  go_ret
  exact ⟨rfl, (FR.trans Fwx).trans bwy⟩
end Go.Proofs.Ytahclhldpcboeaa
