/- Walk of the law FnExactLeavesOf. -/
import Derived.Test.YtgjbmigplomekaaGraphU
import Derived.Test.YtgjbmigplomekaaJoinTreeU
import Derived.Test.YtgjbmigplomekaaJtT
import Derived.Test.YtgjbmigplomekaaInts
import Derived.Test.YtgjbmigplomekaaLaw
import Derived.Test.YtgjbmigplomekaaBxL
import Derived.Deep.RegionHeld3
namespace Go.Proofs.Ytgjbmigplomekaa
open Go Go.RowKit
set_option maxRecDepth 100000 in
set_option maxHeartbeats 4000000 in
theorem walkFnExactLeavesOf (A00 : Option Addr) (c00 : Nat) (rs0 : List Int) (A01 : Option Addr) (c01 : Nat) (es0 : List Edge) (n1 : Nat) (e1 : JT) (A10 : Option Addr) (c10 : Nat) (w : World) (hx00 : RdSl rdInt w.cell? 1 A00 rs0) (hx01 : RdSl rdEdge w.cell? 3 A01 es0) (hm00 : rs0.length ≤ maxLen) (hm01 : es0.length ≤ maxLen) (hx10 : RdSl (rdJT n1) w.cell? 2 A10 e1.kids) (hm10 : e1.kids.length ≤ maxLen) :
    Calls Try.prog 4 #[.agg #[.slice A00 rs0.length c00, .slice A01 es0.length c01], .agg #[.int .i64 e1.leaf, .slice A10 e1.kids.length c10]] w fun r w' => r = .returned (.bool true) ∧ Fr w w' := by
  have HX00 := hid hx00
  have HX01 := hid hx01
  have HX10 := hid hx10
  clear hx00 hx01 hx10
  rcases lft2_ways (m := rs0.length) (n := es0.length) (left := 1048576) (by omega) (by omega) with h | ⟨p0, q0, l00, l01⟩
  · have R := hid h
    clear h
    go_enter Try.func4, Try.ntmps4
    go_wp2_with fail
    refine absW fun W hW => ?_
    obtain ⟨BA0, BA1, F0⟩ := bx_two hW
    clear hW
    refine (szGraph _ _ _ _ _ _ _ _ hm00 hm01 (by omega) (by omega)).mono ?_
    rintro r wz ⟨rfl, bz⟩
    rw [R.out]
    go_wp2
    go_ret
    exact ⟨rfl, F0.trans bz⟩
  obtain ⟨lf0, elf0⟩ : ∃ l, lft2 1048576 rs0.length es0.length = l := ⟨_, rfl⟩
  rw [elf0] at p0 q0
  have ELF0 := hid elf0
  have dl0 : decide (lf0 < 0) = false := by simp; omega
  clear elf0
  rcases jtSz_ways (n := n1) (xs := e1.kids) (left := lf0) (by omega) (by omega) with h | ⟨p1, q1, l10, t10⟩
  · have R := hid h
    clear h
    go_enter Try.func4, Try.ntmps4
    go_wp2_with fail
    refine absW fun W hW => ?_
    obtain ⟨BA0, BA1, F0⟩ := bx_two hW
    clear hW
    refine (szGraph _ _ _ _ _ _ _ _ hm00 hm01 (by omega) (by omega)).mono ?_
    rintro r w0 ⟨rfl, b0⟩
    rw [ELF0.out]
    have F1 := F0.trans b0
    replace BA0 := BA0.fr b0
    replace BA1 := BA1.fr b0
    obtain ⟨s10, s11, _⟩ := BA1.pair
    go_wp2_with fail
    refine (szJT (szJTS n1) e1 _ _ _ _ (HX10.out.fr (rdJT_mono n1) F1) hm10 (by omega) (by omega)).mono ?_
    rintro r wz ⟨rfl, bz⟩
    rw [R.out]
    go_wp2
    go_ret
    exact ⟨rfl, F1.trans bz⟩
  obtain ⟨lf1, elf1⟩ : ∃ l, jtSz n1 lf0 e1.kids = l := ⟨_, rfl⟩
  rw [elf1] at p1 q1
  have ELF1 := hid elf1
  have dl1 : decide (lf1 < 0) = false := by simp; omega
  clear elf1
  have T0 := hid (fun (W : World) (hW : Fr w W) => toGraphU A00 c00 rs0 A01 c01 es0 W (HX00.out.fr rdInt_mono hW) (HX01.out.fr rdEdge_mono hW) l00 l01)
  have T1 := hid (fun (W : World) (hW : Fr w W) => toJTU (toJTSU n1) e1 A10 c10 W (HX10.out.fr (rdJT_mono n1) hW) l10)
  obtain ⟨L, eL⟩ : ∃ L, lvOf n1 (vgraph rs0 es0) rs0.length e1 = L := ⟨_, rfl⟩
  have EL := hid eL
  have hL : L.length ≤ 2000 := by rw [← eL]; exact lvOf_len
  clear eL
  go_enter Try.func4, Try.ntmps4
  go_wp2_with fail
  refine absW fun W hW => ?_
  obtain ⟨BA0, BA1, F0⟩ := bx_two hW
  clear hW
  refine (szGraph _ _ _ _ _ _ _ _ hm00 hm01 (by omega) (by omega)).mono ?_
  rintro r w0 ⟨rfl, b0⟩
  rw [ELF0.out]
  have F1 := F0.trans b0
  replace BA0 := BA0.fr b0
  replace BA1 := BA1.fr b0
  obtain ⟨s10, s11, _⟩ := BA1.pair
  go_wp2_with fail
  refine (szJT (szJTS n1) e1 _ _ _ _ (HX10.out.fr (rdJT_mono n1) F1) hm10 (by omega) (by omega)).mono ?_
  rintro r w1 ⟨rfl, b1⟩
  rw [ELF1.out]
  have F2 := F1.trans b1
  replace BA0 := BA0.fr b1
  replace BA1 := BA1.fr b1
  have FM := F2
  clear F0 F1 F2 b0 b1
  obtain ⟨a00, a01, _⟩ := BA0.pair
  obtain ⟨a10, a11, _⟩ := BA1.pair
  go_wp2_with fail
  have keepL : ∀ W' : World, Fr w1 W' → (Fr w1 W' ∧ W'.cell? ⟨w.heap.size, 0, none⟩ = some (.slice A00 rs0.length c00) ∧ W'.cell? ⟨w.heap.size, 1, none⟩ = some (.slice A01 es0.length c01) ∧ W'.cell? ⟨w.heap.size + 1, 0, none⟩ = some (.int .i64 e1.leaf) ∧ W'.cell? ⟨w.heap.size + 1, 1, none⟩ = some (.slice A10 e1.kids.length c10)) := fun W' F => ⟨F, F.cell a00, F.cell a01, F.cell a10, F.cell a11⟩
  go_region_held3 (fun W' => Fr w1 W' ∧ W'.cell? ⟨w.heap.size, 0, none⟩ = some (.slice A00 rs0.length c00) ∧ W'.cell? ⟨w.heap.size, 1, none⟩ = some (.slice A01 es0.length c01) ∧ W'.cell? ⟨w.heap.size + 1, 0, none⟩ = some (.int .i64 e1.leaf) ∧ W'.cell? ⟨w.heap.size + 1, 1, none⟩ = some (.slice A10 e1.kids.length c10)) ((refine keepL _ ?_; (repeat (first | with_reducible exact Fr.refl _ | with_reducible assumption | with_reducible refine Fr.alloc ?_ _ | with_reducible refine Fr.drew ?_ | with_reducible refine Fr.drewN ?_ _ | (with_reducible refine Fr.setNew2 ?_ ?_ _; · (simp <;> omega)) | with_reducible refine Fr.trans ?_ (by assumption))); done))
    (first
      | (go_at_call 13; with_reducible refine (T0.out _ ?_).mono ?_; (· exact FM.trans (by (repeat (first | with_reducible exact Fr.refl _ | with_reducible assumption | with_reducible refine Fr.alloc ?_ _ | with_reducible refine Fr.drew ?_ | with_reducible refine Fr.drewN ?_ _ | (with_reducible refine Fr.setNew2 ?_ ?_ _; · (simp <;> omega)) | with_reducible refine Fr.trans ?_ (by assumption))))); rintro r uy0 ⟨y00, y01, rfl, hy00, hy01, buy0⟩; have Hy00 := hid ((hy00.mono rdInt_mono (fromU_le _ _)).mono rdInt_mono (fromB_le _ _)); clear hy00; have Hy01 := hid ((hy01.mono rdEdge_mono (fromU_le _ _)).mono rdEdge_mono (fromB_le _ _)); clear hy01; have Fuy0 : Fr w1 uy0 := Fr.trans (by (repeat (first | with_reducible exact Fr.refl _ | with_reducible assumption | with_reducible refine Fr.alloc ?_ _ | with_reducible refine Fr.drew ?_ | with_reducible refine Fr.drewN ?_ _ | (with_reducible refine Fr.setNew2 ?_ ?_ _; · (simp <;> omega)) | with_reducible refine Fr.trans ?_ (by assumption)))) buy0)
      | (go_at_call 14; with_reducible refine (T1.out _ ?_).mono ?_; (· exact FM.trans (by (repeat (first | with_reducible exact Fr.refl _ | with_reducible assumption | with_reducible refine Fr.alloc ?_ _ | with_reducible refine Fr.drew ?_ | with_reducible refine Fr.drewN ?_ _ | (with_reducible refine Fr.setNew2 ?_ ?_ _; · (simp <;> omega)) | with_reducible refine Fr.trans ?_ (by assumption))))); rintro r uy1 ⟨y10, rfl, hy10, buy1⟩; have Hy10 := hid ((hy10.mono (rdJT_mono n1) (fromU_le _ _)).mono (rdJT_mono n1) (fromB_le _ _)); clear hy10; have Fuy1 : Fr w1 uy1 := Fr.trans (by (repeat (first | with_reducible exact Fr.refl _ | with_reducible assumption | with_reducible refine Fr.alloc ?_ _ | with_reducible refine Fr.drew ?_ | with_reducible refine Fr.drewN ?_ _ | (with_reducible refine Fr.setNew2 ?_ ?_ _; · (simp <;> omega)) | with_reducible refine Fr.trans ?_ (by assumption)))) buy1; have Guy1 : Fr uy0 uy1 := Fr.trans (by (repeat (first | with_reducible exact Fr.refl _ | with_reducible assumption | with_reducible refine Fr.alloc ?_ _ | with_reducible refine Fr.drew ?_ | with_reducible refine Fr.drewN ?_ _ | (with_reducible refine Fr.setNew2 ?_ ?_ _; · (simp <;> omega)) | with_reducible refine Fr.trans ?_ (by assumption)))) buy1)
      | (go_at_call 9; refine (specLeavesOf n1 _ _ rs0 _ _ es0 e1 _ _ _ (Hy00.out.fr rdInt_mono Guy1) (Hy01.out.fr rdEdge_mono Guy1) l00 l01 Hy10.out (jtSm_len l10)).mono ?_; rw [EL.out]; intro r ws hpost; obtain ⟨hpost, bws⟩ := hpost; obtain ⟨sA, sc, rfl, hsr, hsm, hsa⟩ := lvPost_out hpost; have Fws : Fr w1 ws := Fr.trans (by (repeat (first | with_reducible exact Fr.refl _ | with_reducible assumption | with_reducible refine Fr.alloc ?_ _ | with_reducible refine Fr.drew ?_ | with_reducible refine Fr.drewN ?_ _ | (with_reducible refine Fr.setNew2 ?_ ?_ _; · (simp <;> omega)) | with_reducible refine Fr.trans ?_ (by assumption)))) bws)
      | fail)
  clear keepL
  clear Hy00 Hy01 Hy10 a00 a01 a10 a11
  have hBA0 := (BA0.fr Fws).lt
  have hBA1 := (BA1.fr Fws).lt
  have HS := hid (hsr.mono rdInt_mono (fromB_le _ _))
  clear hsr hsm hsa
  have FS := FM.trans Fws
  replace BA0 := BA0.fr Fws
  replace BA1 := BA1.fr Fws
  clear Fuy0 buy0 Fuy1 buy1 Fws bws Guy1
  obtain ⟨a00, a01, _⟩ := BA0.pair
  go_wp2_with fail
  refine (T0.out _ FS).mono ?_
  rintro r k0 ⟨x00, x01, rfl, hx00, hx01, g0⟩
  have hz0 : ws.heap.size ≤ k0.heap.size := g0.size
  have V00 := hid (hx00.mono rdInt_mono (fromU_in (hi := k0.heap.size) (Nat.le_refl _)))
  have V01 := hid (hx01.mono rdEdge_mono (fromU_in (hi := k0.heap.size) (Nat.le_refl _)))
  clear hx00 hx01 a00 a01
  have FK0 := FS.trans g0
  have K0 : Fr k0 (k0.alloc (.cells #[.slice (some ⟨x00, 0, none⟩) rs0.length rs0.length, .slice (some ⟨x01, 0, none⟩) es0.length es0.length] 26)) := (Fr.refl _).alloc _
  have BX0 := Blk.new k0 26 #[.slice (some ⟨x00, 0, none⟩) rs0.length rs0.length, .slice (some ⟨x01, 0, none⟩) es0.length es0.length]
  replace BA0 := BA0.fr (g0.trans K0)
  replace BA1 := BA1.fr (g0.trans K0)
  obtain ⟨a10, a11, _⟩ := BA1.pair
  go_wp2_with fail
  refine (T1.out _ (FK0.trans K0)).mono ?_
  rintro r k1 ⟨x10, rfl, hx10, g1⟩
  have hz1 : k0.heap.size ≤ k1.heap.size := (K0.trans g1).size
  have V10 := hid ((hx10.mono (rdJT_mono n1) (fromU_lo (lo' := k0.heap.size) (by simp))).mono (rdJT_mono n1) (fromU_in (hi := k1.heap.size) (Nat.le_refl _)))
  clear hx10 a10 a11
  have FK1 := (FK0.trans K0).trans g1
  have K1 : Fr k1 (k1.alloc (.cells #[.int .i64 e1.leaf, .slice (some ⟨x10, 0, none⟩) e1.kids.length e1.kids.length] 29)) := (Fr.refl _).alloc _
  have BX1 := Blk.new k1 29 #[.int .i64 e1.leaf, .slice (some ⟨x10, 0, none⟩) e1.kids.length e1.kids.length]
  replace BA0 := BA0.fr (g1.trans K1)
  replace BA1 := BA1.fr (g1.trans K1)
  replace BX0 := BX0.fr (g1.trans K1)
  replace V00 := hid (V00.out.mono rdInt_mono ((K0.trans (g1.trans K1)).mle_in _ _))
  replace V01 := hid (V01.out.mono rdEdge_mono ((K0.trans (g1.trans K1)).mle_in _ _))
  obtain ⟨d00, d01, _⟩ := BX0.pair
  obtain ⟨d10, d11, _⟩ := BX1.pair
  go_wp2_with fail
  refine absW fun W5 hW5 => ?_
  replace K1 : Fr k1 W5 := by rw [hW5]; exact K1
  have F5 : Fr w W5 := FK1.trans K1
  rw [← hW5] at BX0 BX1 BA0 BA1
  rw [← hW5] at V00
  rw [← hW5] at V01
  replace V10 := hid (V10.out.mono (rdJT_mono n1) (K1.mle_in _ _))
  have E5 : Fr ws W5 := by
    exact (((g0.trans K0).trans g1).trans K1)
  have hzl : k1.heap.size ≤ W5.heap.size := K1.size
  clear hW5 d00 d01 d10 d11 g0 g1 FK0 FK1 K0 K1
  refine (implLeavesOf n1 _ _ rs0 _ _ es0 e1 _ _ _ (V00.out.mono rdInt_mono inU_cell) (V01.out.mono rdEdge_mono inU_cell) l00 l01 (V10.out.mono (rdJT_mono n1) inU_cell) (jtSm_len l10) (Nat.le_refl _)).mono ?_
  rw [EL.out]
  intro r w6 hpost
  obtain ⟨hpost, b6⟩ := hpost
  obtain ⟨gA, gc, rfl, hgr, hgm, hga⟩ := lvPost_out hpost
  have HG := hid hgr
  have HMk := hid hgm
  have HAt := hid hga
  clear hgr hgm hga
  have F6 := F5.trans b6
  have E6 := E5.trans b6
  have hs6 := b6.size
  replace BX0 := BX0.fr b6
  replace BA0 := BA0.fr b6
  replace BX1 := BX1.fr b6
  replace BA1 := BA1.fr b6
  replace V00 := hid (V00.out.mono rdInt_mono (b6.mle_in _ _))
  replace V01 := hid (V01.out.mono rdEdge_mono (b6.mle_in _ _))
  replace V10 := hid (V10.out.mono (rdJT_mono n1) (b6.mle_in _ _))
  go_wp2_with fail
  refine (eqInts gA sA gc sc L L _ (HG.out.mono rdInt_mono (fromB_le _ _)) (HS.out.fr rdInt_mono E6) (by unfold maxLen; omega) (by unfold maxLen; omega)).mono ?_
  rintro r w7 ⟨rfl, bw7⟩
  rw [decide_eq_true (rfl : L = L)]
  have F7 := F6.trans bw7
  have E7 := E6.trans bw7
  have M7 := bw7
  replace BX0 := BX0.fr bw7
  replace BA0 := BA0.fr bw7
  replace BX1 := BX1.fr bw7
  replace BA1 := BA1.fr bw7
  replace V00 := hid (V00.out.mono rdInt_mono (bw7.mle_in _ _))
  replace V01 := hid (V01.out.mono rdEdge_mono (bw7.mle_in _ _))
  replace V10 := hid (V10.out.mono (rdJT_mono n1) (bw7.mle_in _ _))
  clear b6 bw7
  obtain ⟨a00, a01, _⟩ := BA0.pair
  obtain ⟨d00, d01, _⟩ := BX0.pair
  go_wp2_with fail
  have keepL : ∀ W' : World, Fr w7 W' → (Fr w7 W' ∧ W'.cell? ⟨w.heap.size, 0, none⟩ = some (.slice A00 rs0.length c00) ∧ W'.cell? ⟨w.heap.size, 1, none⟩ = some (.slice A01 es0.length c01) ∧ W'.cell? ⟨k0.heap.size, 0, none⟩ = some (.slice (some ⟨x00, 0, none⟩) rs0.length rs0.length) ∧ W'.cell? ⟨k0.heap.size, 1, none⟩ = some (.slice (some ⟨x01, 0, none⟩) es0.length es0.length)) := fun W' F => ⟨F, F.cell a00, F.cell a01, F.cell d00, F.cell d01⟩
  go_region_held3 (fun W' => Fr w7 W' ∧ W'.cell? ⟨w.heap.size, 0, none⟩ = some (.slice A00 rs0.length c00) ∧ W'.cell? ⟨w.heap.size, 1, none⟩ = some (.slice A01 es0.length c01) ∧ W'.cell? ⟨k0.heap.size, 0, none⟩ = some (.slice (some ⟨x00, 0, none⟩) rs0.length rs0.length) ∧ W'.cell? ⟨k0.heap.size, 1, none⟩ = some (.slice (some ⟨x01, 0, none⟩) es0.length es0.length)) ((refine keepL _ ?_; (repeat (first | with_reducible exact Fr.refl _ | with_reducible assumption | with_reducible refine Fr.alloc ?_ _ | with_reducible refine Fr.drew ?_ | with_reducible refine Fr.drewN ?_ _ | (with_reducible refine Fr.setNew2 ?_ ?_ _; · (simp <;> omega)) | with_reducible refine Fr.trans ?_ (by assumption))); done))
    (first
      | (go_at_call 13; with_reducible refine (T0.out _ ?_).mono ?_; (· exact F7.trans (by (repeat (first | with_reducible exact Fr.refl _ | with_reducible assumption | with_reducible refine Fr.alloc ?_ _ | with_reducible refine Fr.drew ?_ | with_reducible refine Fr.drewN ?_ _ | (with_reducible refine Fr.setNew2 ?_ ?_ _; · (simp <;> omega)) | with_reducible refine Fr.trans ?_ (by assumption))))); rintro r z0 ⟨z00, z01, rfl, hz00, hz01, bz0⟩; have Hz00 := hid ((hz00.mono rdInt_mono (fromU_le _ _)).mono rdInt_mono (fromB_le _ _)); clear hz00; have Hz01 := hid ((hz01.mono rdEdge_mono (fromU_le _ _)).mono rdEdge_mono (fromB_le _ _)); clear hz01; have Fz0 : Fr w7 z0 := Fr.trans (by (repeat (first | with_reducible exact Fr.refl _ | with_reducible assumption | with_reducible refine Fr.alloc ?_ _ | with_reducible refine Fr.drew ?_ | with_reducible refine Fr.drewN ?_ _ | (with_reducible refine Fr.setNew2 ?_ ?_ _; · (simp <;> omega)) | with_reducible refine Fr.trans ?_ (by assumption)))) bz0)
      | (go_at_call 16; refine (eqGraph _ _ rs0 _ _ es0 _ _ _ _ _ ((V00.out.mono rdInt_mono inU_cell).fr rdInt_mono Fz0) ((V01.out.mono rdEdge_mono inU_cell).fr rdEdge_mono Fz0) Hz00.out Hz01.out l00 l01).mono ?_; rintro r w8 ⟨rfl, bw8⟩; have FFw8 : Fr w7 w8 := Fr.trans (by (repeat (first | with_reducible exact Fr.refl _ | with_reducible assumption | with_reducible refine Fr.alloc ?_ _ | with_reducible refine Fr.drew ?_ | with_reducible refine Fr.drewN ?_ _ | (with_reducible refine Fr.setNew2 ?_ ?_ _; · (simp <;> omega)) | with_reducible refine Fr.trans ?_ (by assumption)))) bw8)
      | fail)
  clear keepL a00 a01 d00 d01 Hz00 Hz01
  replace BX0 := BX0.fr FFw8
  replace BA0 := BA0.fr FFw8
  replace BX1 := BX1.fr FFw8
  replace BA1 := BA1.fr FFw8
  replace V00 := hid (V00.out.mono rdInt_mono (FFw8.mle_in _ _))
  replace V01 := hid (V01.out.mono rdEdge_mono (FFw8.mle_in _ _))
  replace V10 := hid (V10.out.mono (rdJT_mono n1) (FFw8.mle_in _ _))
  have F8 := F7.trans FFw8
  have E8 := E7.trans FFw8
  replace M7 := M7.trans FFw8
  clear Fz0 bz0 bw8 FFw8
  obtain ⟨a10, a11, _⟩ := BA1.pair
  obtain ⟨d10, d11, _⟩ := BX1.pair
  go_wp2_with fail
  have keepL : ∀ W' : World, Fr w8 W' → (Fr w8 W' ∧ W'.cell? ⟨w.heap.size + 1, 0, none⟩ = some (.int .i64 e1.leaf) ∧ W'.cell? ⟨w.heap.size + 1, 1, none⟩ = some (.slice A10 e1.kids.length c10) ∧ W'.cell? ⟨k1.heap.size, 0, none⟩ = some (.int .i64 e1.leaf) ∧ W'.cell? ⟨k1.heap.size, 1, none⟩ = some (.slice (some ⟨x10, 0, none⟩) e1.kids.length e1.kids.length)) := fun W' F => ⟨F, F.cell a10, F.cell a11, F.cell d10, F.cell d11⟩
  go_region_held3 (fun W' => Fr w8 W' ∧ W'.cell? ⟨w.heap.size + 1, 0, none⟩ = some (.int .i64 e1.leaf) ∧ W'.cell? ⟨w.heap.size + 1, 1, none⟩ = some (.slice A10 e1.kids.length c10) ∧ W'.cell? ⟨k1.heap.size, 0, none⟩ = some (.int .i64 e1.leaf) ∧ W'.cell? ⟨k1.heap.size, 1, none⟩ = some (.slice (some ⟨x10, 0, none⟩) e1.kids.length e1.kids.length)) ((refine keepL _ ?_; (repeat (first | with_reducible exact Fr.refl _ | with_reducible assumption | with_reducible refine Fr.alloc ?_ _ | with_reducible refine Fr.drew ?_ | with_reducible refine Fr.drewN ?_ _ | (with_reducible refine Fr.setNew2 ?_ ?_ _; · (simp <;> omega)) | with_reducible refine Fr.trans ?_ (by assumption))); done))
    (first
      | (go_at_call 14; with_reducible refine (T1.out _ ?_).mono ?_; (· exact F8.trans (by (repeat (first | with_reducible exact Fr.refl _ | with_reducible assumption | with_reducible refine Fr.alloc ?_ _ | with_reducible refine Fr.drew ?_ | with_reducible refine Fr.drewN ?_ _ | (with_reducible refine Fr.setNew2 ?_ ?_ _; · (simp <;> omega)) | with_reducible refine Fr.trans ?_ (by assumption))))); rintro r z1 ⟨z10, rfl, hz10, bz1⟩; have Hz10 := hid ((hz10.mono (rdJT_mono n1) (fromU_le _ _)).mono (rdJT_mono n1) (fromB_le _ _)); clear hz10; have Fz1 : Fr w8 z1 := Fr.trans (by (repeat (first | with_reducible exact Fr.refl _ | with_reducible assumption | with_reducible refine Fr.alloc ?_ _ | with_reducible refine Fr.drew ?_ | with_reducible refine Fr.drewN ?_ _ | (with_reducible refine Fr.setNew2 ?_ ?_ _; · (simp <;> omega)) | with_reducible refine Fr.trans ?_ (by assumption)))) bz1)
      | (go_at_call 17; refine (eqJT (eqJTS n1) e1 _ _ _ _ _ ((V10.out.mono (rdJT_mono n1) inU_cell).fr (rdJT_mono n1) Fz1) Hz10.out l10).mono ?_; rintro r w9 ⟨rfl, bw9⟩; have FFw9 : Fr w8 w9 := Fr.trans (by (repeat (first | with_reducible exact Fr.refl _ | with_reducible assumption | with_reducible refine Fr.alloc ?_ _ | with_reducible refine Fr.drew ?_ | with_reducible refine Fr.drewN ?_ _ | (with_reducible refine Fr.setNew2 ?_ ?_ _; · (simp <;> omega)) | with_reducible refine Fr.trans ?_ (by assumption)))) bw9)
      | fail)
  clear keepL a10 a11 d10 d11 Hz10
  replace BX0 := BX0.fr FFw9
  replace BA0 := BA0.fr FFw9
  replace BX1 := BX1.fr FFw9
  replace BA1 := BA1.fr FFw9
  replace V00 := hid (V00.out.mono rdInt_mono (FFw9.mle_in _ _))
  replace V01 := hid (V01.out.mono rdEdge_mono (FFw9.mle_in _ _))
  replace V10 := hid (V10.out.mono (rdJT_mono n1) (FFw9.mle_in _ _))
  have F9 := F8.trans FFw9
  have E9 := E8.trans FFw9
  replace M7 := M7.trans FFw9
  clear Fz1 bz1 bw9 FFw9
  have hs7 := M7.size
  have HGb := hid (HG.out.mono rdInt_mono (M7.mle_from W5.heap.size))
  have HMb := hid (HMk.out.fr M7)
  obtain ⟨d00, d01, _⟩ := BX0.pair
  go_wp2_with fail
  refine (markGraphU _ _ rs0 _ _ es0 1 ws.heap.size k0.heap.size _ (V00.out.sc rdInt_sc) (V01.out.sc rdEdge_sc) l00 l01 (by omega) (by omega)).mono ?_
  rintro r w10 ⟨rfl, C0, _⟩
  have hsc0 := C0.size
  obtain ⟨m0, em0⟩ : ∃ k, 1 + rs0.length + es0.length * 3 = k := ⟨_, rfl⟩
  rw [em0]
  have hmk0 : m0 ≤ 10000000 := by omega
  clear em0
  clear d00 d01
  replace BA0 := BA0.chI C0 (.inr (by have := hBA0; omega))
  replace BA1 := BA1.chI C0 (.inr (by have := hBA1; omega))
  replace BX1 := BX1.chI C0 (.inl (by omega))
  replace V10 := hid (V10.out.mono (rdJT_mono n1) (C0.mle_in (.inl (by omega))))
  replace HGb := hid (HGb.out.mono rdInt_mono (C0.mle_from (lo := W5.heap.size) (fun k hk => by have := hk.2; omega)))
  replace HMb := hid (HMb.out.from_ (Fr.refl _) C0 (fun k hk hS => by have := HAt.out k hk; have := hS.2; omega))
  have E10 : Fr ws w10 := C0.fr (fun k hk => by have := hk.1; omega) E9
  clear C0
  obtain ⟨d10, d11, _⟩ := BX1.pair
  go_wp2_with fail
  refine (markJT n1 e1 _ _ m0 k0.heap.size k1.heap.size _ (shp_of V10.out) (by omega)).mono ?_
  rintro r w11 ⟨rfl, C1, _⟩
  have hsc1 := C1.size
  obtain ⟨m1, em1⟩ : ∃ k, m0 + jtot n1 e1.kids = k := ⟨_, rfl⟩
  rw [em1]
  have hmk1 : m1 ≤ 20000000 := by omega
  clear em1
  clear d10 d11
  replace BA0 := BA0.chI C1 (.inr (by have := hBA0; omega))
  replace BA1 := BA1.chI C1 (.inr (by have := hBA1; omega))
  replace HGb := hid (HGb.out.mono rdInt_mono (C1.mle_from (lo := W5.heap.size) (fun k hk => by have := hk.2; omega)))
  replace HMb := hid (HMb.out.from_ (Fr.refl _) C1 (fun k hk hS => by have := HAt.out k hk; have := hS.2; omega))
  have E11 : Fr ws w11 := C1.fr (fun k hk => by have := hk.1; omega) E10
  clear C1
  have dk : decide ((m1 : Int) < 0) = false := by simp
  go_wp2_with fail
  refine (eqInts gA sA gc sc L L _ (HGb.out.mono rdInt_mono (fromB_le _ _)) (HS.out.fr rdInt_mono E11) (by unfold maxLen; omega) (by unfold maxLen; omega)).mono ?_
  rintro r wq ⟨rfl, bwq⟩
  rw [decide_eq_true (rfl : L = L)]
  go_wp2_with fail
  refine (markInts gA L.length gc 1 _ (by omega) (by omega) (HMb.out.fr bwq)).mono ?_
  rintro r wr ⟨rfl, Cr, hR, _⟩
  have Er : Fr ws wr := Cr.fr (fun k hk => by have := HAt.out k hk; have := E5.size; omega) (E11.trans bwq)
  have HR := hid hR
  clear hR
  replace BA0 := (BA0.fr bwq).chS Cr (fun hk => by have := HAt.out _ hk; have := hBA0; have := E5.size; omega)
  replace BA1 := (BA1.fr bwq).chS Cr (fun hk => by have := HAt.out _ hk; have := hBA1; have := E5.size; omega)
  go_wp2_with fail
  refine (heldInts gA L.length gc 1 _ (by omega) (by omega) HR.out).mono ?_
  rintro r wv ⟨rfl, rfl⟩
  have FR := FS.trans Er
  obtain ⟨a00, a01, _⟩ := BA0.pair
  obtain ⟨a10, a11, _⟩ := BA1.pair
  go_wp2_with fail
  have keepL : ∀ W' : World, Fr wr W' → (Fr wr W' ∧ W'.cell? ⟨w.heap.size, 0, none⟩ = some (.slice A00 rs0.length c00) ∧ W'.cell? ⟨w.heap.size, 1, none⟩ = some (.slice A01 es0.length c01) ∧ W'.cell? ⟨w.heap.size + 1, 0, none⟩ = some (.int .i64 e1.leaf) ∧ W'.cell? ⟨w.heap.size + 1, 1, none⟩ = some (.slice A10 e1.kids.length c10)) := fun W' F => ⟨F, F.cell a00, F.cell a01, F.cell a10, F.cell a11⟩
  go_region_held3 (fun W' => Fr wr W' ∧ W'.cell? ⟨w.heap.size, 0, none⟩ = some (.slice A00 rs0.length c00) ∧ W'.cell? ⟨w.heap.size, 1, none⟩ = some (.slice A01 es0.length c01) ∧ W'.cell? ⟨w.heap.size + 1, 0, none⟩ = some (.int .i64 e1.leaf) ∧ W'.cell? ⟨w.heap.size + 1, 1, none⟩ = some (.slice A10 e1.kids.length c10)) ((refine keepL _ ?_; (repeat (first | with_reducible exact Fr.refl _ | with_reducible assumption | with_reducible refine Fr.alloc ?_ _ | with_reducible refine Fr.drew ?_ | with_reducible refine Fr.drewN ?_ _ | (with_reducible refine Fr.setNew2 ?_ ?_ _; · (simp <;> omega)) | with_reducible refine Fr.trans ?_ (by assumption))); done))
    (first
      | (go_at_call 13; with_reducible refine (T0.out _ ?_).mono ?_; (· exact FR.trans (by (repeat (first | with_reducible exact Fr.refl _ | with_reducible assumption | with_reducible refine Fr.alloc ?_ _ | with_reducible refine Fr.drew ?_ | with_reducible refine Fr.drewN ?_ _ | (with_reducible refine Fr.setNew2 ?_ ?_ _; · (simp <;> omega)) | with_reducible refine Fr.trans ?_ (by assumption))))); rintro r uv0 ⟨v00, v01, rfl, hv00, hv01, buv0⟩; have Hv00 := hid ((hv00.mono rdInt_mono (fromU_le _ _)).mono rdInt_mono (fromB_le _ _)); clear hv00; have Hv01 := hid ((hv01.mono rdEdge_mono (fromU_le _ _)).mono rdEdge_mono (fromB_le _ _)); clear hv01; have Fuv0 : Fr wr uv0 := Fr.trans (by (repeat (first | with_reducible exact Fr.refl _ | with_reducible assumption | with_reducible refine Fr.alloc ?_ _ | with_reducible refine Fr.drew ?_ | with_reducible refine Fr.drewN ?_ _ | (with_reducible refine Fr.setNew2 ?_ ?_ _; · (simp <;> omega)) | with_reducible refine Fr.trans ?_ (by assumption)))) buv0)
      | (go_at_call 14; with_reducible refine (T1.out _ ?_).mono ?_; (· exact FR.trans (by (repeat (first | with_reducible exact Fr.refl _ | with_reducible assumption | with_reducible refine Fr.alloc ?_ _ | with_reducible refine Fr.drew ?_ | with_reducible refine Fr.drewN ?_ _ | (with_reducible refine Fr.setNew2 ?_ ?_ _; · (simp <;> omega)) | with_reducible refine Fr.trans ?_ (by assumption))))); rintro r uv1 ⟨v10, rfl, hv10, buv1⟩; have Hv10 := hid ((hv10.mono (rdJT_mono n1) (fromU_le _ _)).mono (rdJT_mono n1) (fromB_le _ _)); clear hv10; have Fuv1 : Fr wr uv1 := Fr.trans (by (repeat (first | with_reducible exact Fr.refl _ | with_reducible assumption | with_reducible refine Fr.alloc ?_ _ | with_reducible refine Fr.drew ?_ | with_reducible refine Fr.drewN ?_ _ | (with_reducible refine Fr.setNew2 ?_ ?_ _; · (simp <;> omega)) | with_reducible refine Fr.trans ?_ (by assumption)))) buv1; have Guv1 : Fr uv0 uv1 := Fr.trans (by (repeat (first | with_reducible exact Fr.refl _ | with_reducible assumption | with_reducible refine Fr.alloc ?_ _ | with_reducible refine Fr.drew ?_ | with_reducible refine Fr.drewN ?_ _ | (with_reducible refine Fr.setNew2 ?_ ?_ _; · (simp <;> omega)) | with_reducible refine Fr.trans ?_ (by assumption)))) buv1)
      | (go_at_call 7; refine (implLeavesOf n1 _ _ rs0 _ _ es0 e1 _ _ _ (Hv00.out.fr rdInt_mono Guv1) (Hv01.out.fr rdEdge_mono Guv1) l00 l01 Hv10.out (jtSm_len l10) (Nat.le_refl _)).mono ?_; rw [EL.out]; intro r wx hpost; obtain ⟨hpost, bwx⟩ := hpost; obtain ⟨hA, hc, rfl, hhr, hhm, hha⟩ := lvPost_out hpost; have Fwx : Fr wr wx := Fr.trans (by (repeat (first | with_reducible exact Fr.refl _ | with_reducible assumption | with_reducible refine Fr.alloc ?_ _ | with_reducible refine Fr.drew ?_ | with_reducible refine Fr.drewN ?_ _ | (with_reducible refine Fr.setNew2 ?_ ?_ _; · (simp <;> omega)) | with_reducible refine Fr.trans ?_ (by assumption)))) bwx)
      | fail)
  clear keepL
  clear Hv00 Hv01 Hv10 a00 a01 a10 a11
  have HH := hid (hhr.mono rdInt_mono (fromB_le _ _))
  clear hhr hhm hha
  go_wp2_with fail
  refine (eqInts hA sA hc sc L L _ HH.out (HS.out.fr rdInt_mono (Er.trans Fwx)) (by unfold maxLen; omega) (by unfold maxLen; omega)).mono ?_
  rintro r wy ⟨rfl, bwy⟩
  rw [decide_eq_true (rfl : L = L)]
  go_wp2_with fail
  refine (heldInts gA L.length gc 1 _ (by omega) (by omega) (HR.out.fr rdInt_mono (Fwx.trans bwy))).mono ?_
  rintro r wz ⟨rfl, rfl⟩
  go_wp2
  go_ret
  exact ⟨rfl, (FR.trans Fwx).trans bwy⟩
end Go.Proofs.Ytgjbmigplomekaa
