/- Walk of the law FnExactIsContained. -/
import Derived.Test.YtahclhldpcboeaaDoorRuleU
import Derived.Test.YtahclhldpcboeaaDoorHmgX
import Derived.Test.YtahclhldpcboeaaDoorLawD
import Derived.Test.YtahclhldpcboeaaDoorLaw
import Derived.Test.YtahclhldpcboeaaDoorBxL
import Derived.Deep.RegionHeld3
namespace Go.Proofs.YtahclhldpcboeaaDoor
open Go Go.RowKit
set_option maxRecDepth 100000 in
set_option maxHeartbeats 4000000 in
theorem walkFnExactIsContained (q0 : Int) (A00 : Option Addr) (c00 : Nat) (hd0 : List Int) (A01 : Option Addr) (c01 : Nat) (bd0 : List Atom) (q1 : Int) (A10 : Option Addr) (c10 : Nat) (hd1 : List Int) (A11 : Option Addr) (c11 : Nat) (bd1 : List Atom) (ei ea : Addr) (w : World) (hx00 : RdSl rdInt w.cell? 1 A00 hd0) (hx01 : RdSl rdAtom w.cell? 3 A01 bd0) (hm00 : hd0.length ≤ maxLen) (hm01 : bd0.length ≤ maxLen) (hx10 : RdSl rdInt w.cell? 1 A10 hd1) (hx11 : RdSl rdAtom w.cell? 3 A11 bd1) (hm10 : hd1.length ≤ maxLen) (hm11 : bd1.length ≤ maxLen) (he0 : w.cell? ⟨0, 0, none⟩ = some (noHom ei)) (he1 : w.cell? ⟨1, 0, none⟩ = some (noHom ea)) :
    Calls Tryd.prog 3 #[.agg #[.int .i64 q0, .slice A00 hd0.length c00, .slice A01 bd0.length c01], .agg #[.int .i64 q1, .slice A10 hd1.length c10, .slice A11 bd1.length c11]] w fun r w' => r = .returned (.bool true) ∧ Fr w w' := by
  have HX00 := hid hx00
  have HX01 := hid hx01
  have HX10 := hid hx10
  have HX11 := hid hx11
  clear hx00 hx01 hx10 hx11
  rcases lft2_ways (m := hd0.length) (n := bd0.length) (left := 1048576) (by omega) (by omega) with h | ⟨pz0, qz0, l00, l01⟩
  · have R := hid h
    clear h
    go_enter Tryd.func3, Tryd.ntmps3
    go_wp2_with fail
    refine absW fun W hW => ?_
    obtain ⟨BA0, BA1, F0⟩ := bx_two hW
    clear hW
    refine (szRule q0 _ _ _ _ _ _ _ _ hm00 hm01 (by omega) (by omega)).mono ?_
    rintro r wz ⟨rfl, bz⟩
    rw [R.out]
    go_wp2
    go_ret
    exact ⟨rfl, F0.trans bz⟩
  obtain ⟨lf0, elf0⟩ : ∃ l, lft2 1048576 hd0.length bd0.length = l := ⟨_, rfl⟩
  rw [elf0] at pz0 qz0
  have ELF0 := hid elf0
  have dl0 : decide (lf0 < 0) = false := by simp; omega
  clear elf0
  rcases lft2_ways (m := hd1.length) (n := bd1.length) (left := lf0) (by omega) (by omega) with h | ⟨pz1, qz1, l10, l11⟩
  · have R := hid h
    clear h
    go_enter Tryd.func3, Tryd.ntmps3
    go_wp2_with fail
    refine absW fun W hW => ?_
    obtain ⟨BA0, BA1, F0⟩ := bx_two hW
    clear hW
    refine (szRule q0 _ _ _ _ _ _ _ _ hm00 hm01 (by omega) (by omega)).mono ?_
    rintro r w0 ⟨rfl, b0⟩
    rw [ELF0.out]
    have F1 := F0.trans b0
    replace BA0 := BA0.fr b0
    replace BA1 := BA1.fr b0
    obtain ⟨s10, s11, s12, _⟩ := BA1.three
    go_wp2_with fail
    refine (szRule q1 _ _ _ _ _ _ _ _ hm10 hm11 (by omega) (by omega)).mono ?_
    rintro r wz ⟨rfl, bz⟩
    rw [R.out]
    go_wp2
    go_ret
    exact ⟨rfl, F1.trans bz⟩
  obtain ⟨lf1, elf1⟩ : ∃ l, lft2 lf0 hd1.length bd1.length = l := ⟨_, rfl⟩
  rw [elf1] at pz1 qz1
  have ELF1 := hid elf1
  have dl1 : decide (lf1 < 0) = false := by simp; omega
  clear elf1
  have T0 := hid (fun (W : World) (hW : Fr w W) => toRuleU q0 A00 c00 hd0 A01 c01 bd0 W (HX00.out.fr rdInt_mono hW) (HX01.out.fr rdAtom_mono hW) l00 l01)
  have T1 := hid (fun (W : World) (hW : Fr w W) => toRuleU q1 A10 c10 hd1 A11 c11 bd1 W (HX10.out.fr rdInt_mono hW) (HX11.out.fr rdAtom_mono hW) l10 l11)
  obtain ⟨L, eL⟩ : ∃ L, (fndO q1 hd1 bd1 q0 hd0 bd0).isSome = L := ⟨_, rfl⟩
  have EL := hid eL
  clear eL
  have ev : (L != L) = false := by simp
  go_enter Tryd.func3, Tryd.ntmps3
  go_wp2_with fail
  refine absW fun W hW => ?_
  obtain ⟨BA0, BA1, F0⟩ := bx_two hW
  clear hW
  refine (szRule q0 _ _ _ _ _ _ _ _ hm00 hm01 (by omega) (by omega)).mono ?_
  rintro r w0 ⟨rfl, b0⟩
  rw [ELF0.out]
  have F1 := F0.trans b0
  replace BA0 := BA0.fr b0
  replace BA1 := BA1.fr b0
  obtain ⟨s10, s11, s12, _⟩ := BA1.three
  go_wp2_with fail
  refine (szRule q1 _ _ _ _ _ _ _ _ hm10 hm11 (by omega) (by omega)).mono ?_
  rintro r w1 ⟨rfl, b1⟩
  rw [ELF1.out]
  have F2 := F1.trans b1
  replace BA0 := BA0.fr b1
  replace BA1 := BA1.fr b1
  have FM := F2
  clear F0 F1 F2 b0 b1
  obtain ⟨a00, a01, a02, _⟩ := BA0.three
  obtain ⟨a10, a11, a12, _⟩ := BA1.three
  go_wp2_with fail
  have keepL : ∀ W' : World, Fr w1 W' → (Fr w1 W' ∧ W'.cell? ⟨w.heap.size, 0, none⟩ = some (.int .i64 q0) ∧ W'.cell? ⟨w.heap.size, 1, none⟩ = some (.slice A00 hd0.length c00) ∧ W'.cell? ⟨w.heap.size, 2, none⟩ = some (.slice A01 bd0.length c01) ∧ W'.cell? ⟨w.heap.size + 1, 0, none⟩ = some (.int .i64 q1) ∧ W'.cell? ⟨w.heap.size + 1, 1, none⟩ = some (.slice A10 hd1.length c10) ∧ W'.cell? ⟨w.heap.size + 1, 2, none⟩ = some (.slice A11 bd1.length c11)) := fun W' F => ⟨F, F.cell a00, F.cell a01, F.cell a02, F.cell a10, F.cell a11, F.cell a12⟩
  go_region_held3 (fun W' => Fr w1 W' ∧ W'.cell? ⟨w.heap.size, 0, none⟩ = some (.int .i64 q0) ∧ W'.cell? ⟨w.heap.size, 1, none⟩ = some (.slice A00 hd0.length c00) ∧ W'.cell? ⟨w.heap.size, 2, none⟩ = some (.slice A01 bd0.length c01) ∧ W'.cell? ⟨w.heap.size + 1, 0, none⟩ = some (.int .i64 q1) ∧ W'.cell? ⟨w.heap.size + 1, 1, none⟩ = some (.slice A10 hd1.length c10) ∧ W'.cell? ⟨w.heap.size + 1, 2, none⟩ = some (.slice A11 bd1.length c11)) ((refine keepL _ ?_; (repeat (first | with_reducible exact Fr.refl _ | with_reducible assumption | with_reducible refine Fr.alloc ?_ _ | with_reducible refine Fr.drew ?_ | with_reducible refine Fr.drewN ?_ _ | (with_reducible refine Fr.setNew2 ?_ ?_ _; · (simp <;> omega)) | with_reducible refine Fr.trans ?_ (by assumption))); done))
    (first
      | (go_at_call 13; with_reducible refine (T0.out _ ?_).mono ?_; (· exact FM.trans (by (repeat (first | with_reducible exact Fr.refl _ | with_reducible assumption | with_reducible refine Fr.alloc ?_ _ | with_reducible refine Fr.drew ?_ | with_reducible refine Fr.drewN ?_ _ | (with_reducible refine Fr.setNew2 ?_ ?_ _; · (simp <;> omega)) | with_reducible refine Fr.trans ?_ (by assumption))))); rintro r uy0 ⟨y00, y01, rfl, hy00, hy01, buy0⟩; have Hy00 := hid ((hy00.mono rdInt_mono (fromU_le _ _)).mono rdInt_mono (fromB_le _ _)); clear hy00; have Hy01 := hid ((hy01.mono rdAtom_mono (fromU_le _ _)).mono rdAtom_mono (fromB_le _ _)); clear hy01; have Fuy0 : Fr w1 uy0 := Fr.trans (by (repeat (first | with_reducible exact Fr.refl _ | with_reducible assumption | with_reducible refine Fr.alloc ?_ _ | with_reducible refine Fr.drew ?_ | with_reducible refine Fr.drewN ?_ _ | (with_reducible refine Fr.setNew2 ?_ ?_ _; · (simp <;> omega)) | with_reducible refine Fr.trans ?_ (by assumption)))) buy0)
      | (go_at_call 13; with_reducible refine (T1.out _ ?_).mono ?_; (· exact FM.trans (by (repeat (first | with_reducible exact Fr.refl _ | with_reducible assumption | with_reducible refine Fr.alloc ?_ _ | with_reducible refine Fr.drew ?_ | with_reducible refine Fr.drewN ?_ _ | (with_reducible refine Fr.setNew2 ?_ ?_ _; · (simp <;> omega)) | with_reducible refine Fr.trans ?_ (by assumption))))); rintro r uy1 ⟨y10, y11, rfl, hy10, hy11, buy1⟩; have Hy10 := hid ((hy10.mono rdInt_mono (fromU_le _ _)).mono rdInt_mono (fromB_le _ _)); clear hy10; have Hy11 := hid ((hy11.mono rdAtom_mono (fromU_le _ _)).mono rdAtom_mono (fromB_le _ _)); clear hy11; have Fuy1 : Fr w1 uy1 := Fr.trans (by (repeat (first | with_reducible exact Fr.refl _ | with_reducible assumption | with_reducible refine Fr.alloc ?_ _ | with_reducible refine Fr.drew ?_ | with_reducible refine Fr.drewN ?_ _ | (with_reducible refine Fr.setNew2 ?_ ?_ _; · (simp <;> omega)) | with_reducible refine Fr.trans ?_ (by assumption)))) buy1; have Guy1 : Fr uy0 uy1 := Fr.trans (by (repeat (first | with_reducible exact Fr.refl _ | with_reducible assumption | with_reducible refine Fr.alloc ?_ _ | with_reducible refine Fr.drew ?_ | with_reducible refine Fr.drewN ?_ _ | (with_reducible refine Fr.setNew2 ?_ ?_ _; · (simp <;> omega)) | with_reducible refine Fr.trans ?_ (by assumption)))) buy1)
      | (go_at_call 12; refine (specIsC q0 q1 _ _ _ _ _ _ _ _ hd0 hd1 bd0 bd1 _ (Hy00.out.fr rdInt_mono Guy1) (Hy01.out.fr rdAtom_mono Guy1) Hy10.out Hy11.out l00 l01 l10 l11).mono ?_; rw [EL.out]; intro r ws hpost; obtain ⟨hpost, bws⟩ := hpost; obtain rfl := hpost; have Fws : Fr w1 ws := Fr.trans (by (repeat (first | with_reducible exact Fr.refl _ | with_reducible assumption | with_reducible refine Fr.alloc ?_ _ | with_reducible refine Fr.drew ?_ | with_reducible refine Fr.drewN ?_ _ | (with_reducible refine Fr.setNew2 ?_ ?_ _; · (simp <;> omega)) | with_reducible refine Fr.trans ?_ (by assumption)))) bws)
      | fail)
  clear keepL
  clear Hy00 Hy01 Hy10 Hy11 a00 a01 a02 a10 a11 a12
  have hsr := True.intro
  have hBA0 := (BA0.fr Fws).lt
  have hBA1 := (BA1.fr Fws).lt
  have HS := hid (hsr)
  have FS := FM.trans Fws
  replace BA0 := BA0.fr Fws
  replace BA1 := BA1.fr Fws
  clear Fuy0 buy0 Fuy1 buy1 Fws bws Guy1
  obtain ⟨a00, a01, a02, _⟩ := BA0.three
  go_wp2_with fail
  refine (T0.out _ FS).mono ?_
  rintro r k0 ⟨x00, x01, rfl, hx00, hx01, g0⟩
  have hz0 : ws.heap.size ≤ k0.heap.size := g0.size
  have V00 := hid (hx00.mono rdInt_mono (fromU_in (hi := k0.heap.size) (Nat.le_refl _)))
  have V01 := hid (hx01.mono rdAtom_mono (fromU_in (hi := k0.heap.size) (Nat.le_refl _)))
  clear hx00 hx01 a00 a01 a02
  have FK0 := FS.trans g0
  have K0 : Fr k0 (k0.alloc (.cells #[.int .i64 q0, .slice (some ⟨x00, 0, none⟩) hd0.length hd0.length, .slice (some ⟨x01, 0, none⟩) bd0.length bd0.length] 30)) := (Fr.refl _).alloc _
  have BX0 := Blk.new k0 30 #[.int .i64 q0, .slice (some ⟨x00, 0, none⟩) hd0.length hd0.length, .slice (some ⟨x01, 0, none⟩) bd0.length bd0.length]
  replace BA0 := BA0.fr (g0.trans K0)
  replace BA1 := BA1.fr (g0.trans K0)
  obtain ⟨a10, a11, a12, _⟩ := BA1.three
  go_wp2_with fail
  refine (T1.out _ (FK0.trans K0)).mono ?_
  rintro r k1 ⟨x10, x11, rfl, hx10, hx11, g1⟩
  have hz1 : k0.heap.size ≤ k1.heap.size := (K0.trans g1).size
  have V10 := hid ((hx10.mono rdInt_mono (fromU_lo (lo' := k0.heap.size) (by simp))).mono rdInt_mono (fromU_in (hi := k1.heap.size) (Nat.le_refl _)))
  have V11 := hid ((hx11.mono rdAtom_mono (fromU_lo (lo' := k0.heap.size) (by simp))).mono rdAtom_mono (fromU_in (hi := k1.heap.size) (Nat.le_refl _)))
  clear hx10 hx11 a10 a11 a12
  have FK1 := (FK0.trans K0).trans g1
  have K1 : Fr k1 (k1.alloc (.cells #[.int .i64 q1, .slice (some ⟨x10, 0, none⟩) hd1.length hd1.length, .slice (some ⟨x11, 0, none⟩) bd1.length bd1.length] 30)) := (Fr.refl _).alloc _
  have BX1 := Blk.new k1 30 #[.int .i64 q1, .slice (some ⟨x10, 0, none⟩) hd1.length hd1.length, .slice (some ⟨x11, 0, none⟩) bd1.length bd1.length]
  replace BA0 := BA0.fr (g1.trans K1)
  replace BA1 := BA1.fr (g1.trans K1)
  replace BX0 := BX0.fr (g1.trans K1)
  replace V00 := hid (V00.out.mono rdInt_mono ((K0.trans (g1.trans K1)).mle_in _ _))
  replace V01 := hid (V01.out.mono rdAtom_mono ((K0.trans (g1.trans K1)).mle_in _ _))
  obtain ⟨d00, d01, d02, _⟩ := BX0.three
  obtain ⟨d10, d11, d12, _⟩ := BX1.three
  go_wp2_with fail
  refine absW fun W5 hW5 => ?_
  replace K1 : Fr k1 W5 := by rw [hW5]; exact K1
  have F5 : Fr w W5 := FK1.trans K1
  rw [← hW5] at BX0 BX1 BA0 BA1
  rw [← hW5] at V00
  rw [← hW5] at V01
  replace V10 := hid (V10.out.mono rdInt_mono (K1.mle_in _ _))
  replace V11 := hid (V11.out.mono rdAtom_mono (K1.mle_in _ _))
  have E5 : Fr ws W5 := by
    exact (((g0.trans K0).trans g1).trans K1)
  have hzl : k1.heap.size ≤ W5.heap.size := K1.size
  clear hW5 d00 d01 d02 d10 d11 d12 g0 g1 FK0 FK1 K0 K1
  refine (implIsC q0 q1 _ _ _ _ _ _ _ _ hd0 hd1 bd0 bd1 ei ea _ (V00.out.mono rdInt_mono inU_cell) (V01.out.mono rdAtom_mono inU_cell) (V10.out.mono rdInt_mono inU_cell) (V11.out.mono rdAtom_mono inU_cell) l00 l01 l10 l11 (Nat.le_refl _) (by omega) (F5.cell he0) (F5.cell he1)).mono ?_
  rw [EL.out]
  intro r w6 hpost
  obtain ⟨hpost, b6⟩ := hpost
  obtain rfl := hpost
  have F6 := F5.trans b6
  have E6 := E5.trans b6
  have hs6 := b6.size
  replace BX0 := BX0.fr b6
  replace BA0 := BA0.fr b6
  replace BX1 := BX1.fr b6
  replace BA1 := BA1.fr b6
  replace V00 := hid (V00.out.mono rdInt_mono (b6.mle_in _ _))
  replace V01 := hid (V01.out.mono rdAtom_mono (b6.mle_in _ _))
  replace V10 := hid (V10.out.mono rdInt_mono (b6.mle_in _ _))
  replace V11 := hid (V11.out.mono rdAtom_mono (b6.mle_in _ _))
  have bw7 : Fr w6 w6 := Fr.refl w6
  have F7 := F6.trans bw7
  have E7 := E6.trans bw7
  have M7 := bw7
  replace BX0 := BX0.fr bw7
  replace BA0 := BA0.fr bw7
  replace BX1 := BX1.fr bw7
  replace BA1 := BA1.fr bw7
  replace V00 := hid (V00.out.mono rdInt_mono (bw7.mle_in _ _))
  replace V01 := hid (V01.out.mono rdAtom_mono (bw7.mle_in _ _))
  replace V10 := hid (V10.out.mono rdInt_mono (bw7.mle_in _ _))
  replace V11 := hid (V11.out.mono rdAtom_mono (bw7.mle_in _ _))
  clear b6 bw7
  obtain ⟨a00, a01, a02, _⟩ := BA0.three
  obtain ⟨d00, d01, d02, _⟩ := BX0.three
  go_wp2_with fail
  have keepL : ∀ W' : World, Fr w6 W' → (Fr w6 W' ∧ W'.cell? ⟨w.heap.size, 0, none⟩ = some (.int .i64 q0) ∧ W'.cell? ⟨w.heap.size, 1, none⟩ = some (.slice A00 hd0.length c00) ∧ W'.cell? ⟨w.heap.size, 2, none⟩ = some (.slice A01 bd0.length c01) ∧ W'.cell? ⟨k0.heap.size, 0, none⟩ = some (.int .i64 q0) ∧ W'.cell? ⟨k0.heap.size, 1, none⟩ = some (.slice (some ⟨x00, 0, none⟩) hd0.length hd0.length) ∧ W'.cell? ⟨k0.heap.size, 2, none⟩ = some (.slice (some ⟨x01, 0, none⟩) bd0.length bd0.length)) := fun W' F => ⟨F, F.cell a00, F.cell a01, F.cell a02, F.cell d00, F.cell d01, F.cell d02⟩
  go_region_held3 (fun W' => Fr w6 W' ∧ W'.cell? ⟨w.heap.size, 0, none⟩ = some (.int .i64 q0) ∧ W'.cell? ⟨w.heap.size, 1, none⟩ = some (.slice A00 hd0.length c00) ∧ W'.cell? ⟨w.heap.size, 2, none⟩ = some (.slice A01 bd0.length c01) ∧ W'.cell? ⟨k0.heap.size, 0, none⟩ = some (.int .i64 q0) ∧ W'.cell? ⟨k0.heap.size, 1, none⟩ = some (.slice (some ⟨x00, 0, none⟩) hd0.length hd0.length) ∧ W'.cell? ⟨k0.heap.size, 2, none⟩ = some (.slice (some ⟨x01, 0, none⟩) bd0.length bd0.length)) ((refine keepL _ ?_; (repeat (first | with_reducible exact Fr.refl _ | with_reducible assumption | with_reducible refine Fr.alloc ?_ _ | with_reducible refine Fr.drew ?_ | with_reducible refine Fr.drewN ?_ _ | (with_reducible refine Fr.setNew2 ?_ ?_ _; · (simp <;> omega)) | with_reducible refine Fr.trans ?_ (by assumption))); done))
    (first
      | (go_at_call 13; with_reducible refine (T0.out _ ?_).mono ?_; (· exact F7.trans (by (repeat (first | with_reducible exact Fr.refl _ | with_reducible assumption | with_reducible refine Fr.alloc ?_ _ | with_reducible refine Fr.drew ?_ | with_reducible refine Fr.drewN ?_ _ | (with_reducible refine Fr.setNew2 ?_ ?_ _; · (simp <;> omega)) | with_reducible refine Fr.trans ?_ (by assumption))))); rintro r z0 ⟨z00, z01, rfl, hz00, hz01, bz0⟩; have Hz00 := hid ((hz00.mono rdInt_mono (fromU_le _ _)).mono rdInt_mono (fromB_le _ _)); clear hz00; have Hz01 := hid ((hz01.mono rdAtom_mono (fromU_le _ _)).mono rdAtom_mono (fromB_le _ _)); clear hz01; have Fz0 : Fr w6 z0 := Fr.trans (by (repeat (first | with_reducible exact Fr.refl _ | with_reducible assumption | with_reducible refine Fr.alloc ?_ _ | with_reducible refine Fr.drew ?_ | with_reducible refine Fr.drewN ?_ _ | (with_reducible refine Fr.setNew2 ?_ ?_ _; · (simp <;> omega)) | with_reducible refine Fr.trans ?_ (by assumption)))) bz0)
      | (go_at_call 15; refine (eqRule q0 _ _ hd0 _ _ bd0 _ _ _ _ _ ((V00.out.mono rdInt_mono inU_cell).fr rdInt_mono Fz0) ((V01.out.mono rdAtom_mono inU_cell).fr rdAtom_mono Fz0) Hz00.out Hz01.out l00 l01).mono ?_; rintro r w8 ⟨rfl, bw8⟩; have FFw8 : Fr w6 w8 := Fr.trans (by (repeat (first | with_reducible exact Fr.refl _ | with_reducible assumption | with_reducible refine Fr.alloc ?_ _ | with_reducible refine Fr.drew ?_ | with_reducible refine Fr.drewN ?_ _ | (with_reducible refine Fr.setNew2 ?_ ?_ _; · (simp <;> omega)) | with_reducible refine Fr.trans ?_ (by assumption)))) bw8)
      | fail)
  clear keepL a00 a01 a02 d00 d01 d02 Hz00 Hz01
  replace BX0 := BX0.fr FFw8
  replace BA0 := BA0.fr FFw8
  replace BX1 := BX1.fr FFw8
  replace BA1 := BA1.fr FFw8
  replace V00 := hid (V00.out.mono rdInt_mono (FFw8.mle_in _ _))
  replace V01 := hid (V01.out.mono rdAtom_mono (FFw8.mle_in _ _))
  replace V10 := hid (V10.out.mono rdInt_mono (FFw8.mle_in _ _))
  replace V11 := hid (V11.out.mono rdAtom_mono (FFw8.mle_in _ _))
  have F8 := F7.trans FFw8
  have E8 := E7.trans FFw8
  replace M7 := M7.trans FFw8
  clear Fz0 bz0 bw8 FFw8
  obtain ⟨a10, a11, a12, _⟩ := BA1.three
  obtain ⟨d10, d11, d12, _⟩ := BX1.three
  go_wp2_with fail
  have keepL : ∀ W' : World, Fr w8 W' → (Fr w8 W' ∧ W'.cell? ⟨w.heap.size + 1, 0, none⟩ = some (.int .i64 q1) ∧ W'.cell? ⟨w.heap.size + 1, 1, none⟩ = some (.slice A10 hd1.length c10) ∧ W'.cell? ⟨w.heap.size + 1, 2, none⟩ = some (.slice A11 bd1.length c11) ∧ W'.cell? ⟨k1.heap.size, 0, none⟩ = some (.int .i64 q1) ∧ W'.cell? ⟨k1.heap.size, 1, none⟩ = some (.slice (some ⟨x10, 0, none⟩) hd1.length hd1.length) ∧ W'.cell? ⟨k1.heap.size, 2, none⟩ = some (.slice (some ⟨x11, 0, none⟩) bd1.length bd1.length)) := fun W' F => ⟨F, F.cell a10, F.cell a11, F.cell a12, F.cell d10, F.cell d11, F.cell d12⟩
  go_region_held3 (fun W' => Fr w8 W' ∧ W'.cell? ⟨w.heap.size + 1, 0, none⟩ = some (.int .i64 q1) ∧ W'.cell? ⟨w.heap.size + 1, 1, none⟩ = some (.slice A10 hd1.length c10) ∧ W'.cell? ⟨w.heap.size + 1, 2, none⟩ = some (.slice A11 bd1.length c11) ∧ W'.cell? ⟨k1.heap.size, 0, none⟩ = some (.int .i64 q1) ∧ W'.cell? ⟨k1.heap.size, 1, none⟩ = some (.slice (some ⟨x10, 0, none⟩) hd1.length hd1.length) ∧ W'.cell? ⟨k1.heap.size, 2, none⟩ = some (.slice (some ⟨x11, 0, none⟩) bd1.length bd1.length)) ((refine keepL _ ?_; (repeat (first | with_reducible exact Fr.refl _ | with_reducible assumption | with_reducible refine Fr.alloc ?_ _ | with_reducible refine Fr.drew ?_ | with_reducible refine Fr.drewN ?_ _ | (with_reducible refine Fr.setNew2 ?_ ?_ _; · (simp <;> omega)) | with_reducible refine Fr.trans ?_ (by assumption))); done))
    (first
      | (go_at_call 13; with_reducible refine (T1.out _ ?_).mono ?_; (· exact F8.trans (by (repeat (first | with_reducible exact Fr.refl _ | with_reducible assumption | with_reducible refine Fr.alloc ?_ _ | with_reducible refine Fr.drew ?_ | with_reducible refine Fr.drewN ?_ _ | (with_reducible refine Fr.setNew2 ?_ ?_ _; · (simp <;> omega)) | with_reducible refine Fr.trans ?_ (by assumption))))); rintro r z1 ⟨z10, z11, rfl, hz10, hz11, bz1⟩; have Hz10 := hid ((hz10.mono rdInt_mono (fromU_le _ _)).mono rdInt_mono (fromB_le _ _)); clear hz10; have Hz11 := hid ((hz11.mono rdAtom_mono (fromU_le _ _)).mono rdAtom_mono (fromB_le _ _)); clear hz11; have Fz1 : Fr w8 z1 := Fr.trans (by (repeat (first | with_reducible exact Fr.refl _ | with_reducible assumption | with_reducible refine Fr.alloc ?_ _ | with_reducible refine Fr.drew ?_ | with_reducible refine Fr.drewN ?_ _ | (with_reducible refine Fr.setNew2 ?_ ?_ _; · (simp <;> omega)) | with_reducible refine Fr.trans ?_ (by assumption)))) bz1)
      | (go_at_call 15; refine (eqRule q1 _ _ hd1 _ _ bd1 _ _ _ _ _ ((V10.out.mono rdInt_mono inU_cell).fr rdInt_mono Fz1) ((V11.out.mono rdAtom_mono inU_cell).fr rdAtom_mono Fz1) Hz10.out Hz11.out l10 l11).mono ?_; rintro r w9 ⟨rfl, bw9⟩; have FFw9 : Fr w8 w9 := Fr.trans (by (repeat (first | with_reducible exact Fr.refl _ | with_reducible assumption | with_reducible refine Fr.alloc ?_ _ | with_reducible refine Fr.drew ?_ | with_reducible refine Fr.drewN ?_ _ | (with_reducible refine Fr.setNew2 ?_ ?_ _; · (simp <;> omega)) | with_reducible refine Fr.trans ?_ (by assumption)))) bw9)
      | fail)
  clear keepL a10 a11 a12 d10 d11 d12 Hz10 Hz11
  replace BX0 := BX0.fr FFw9
  replace BA0 := BA0.fr FFw9
  replace BX1 := BX1.fr FFw9
  replace BA1 := BA1.fr FFw9
  replace V00 := hid (V00.out.mono rdInt_mono (FFw9.mle_in _ _))
  replace V01 := hid (V01.out.mono rdAtom_mono (FFw9.mle_in _ _))
  replace V10 := hid (V10.out.mono rdInt_mono (FFw9.mle_in _ _))
  replace V11 := hid (V11.out.mono rdAtom_mono (FFw9.mle_in _ _))
  have F9 := F8.trans FFw9
  have E9 := E8.trans FFw9
  replace M7 := M7.trans FFw9
  clear Fz1 bz1 bw9 FFw9
  go_wp2
  go_ret
  exact ⟨rfl, F9⟩
end Go.Proofs.YtahclhldpcboeaaDoor
