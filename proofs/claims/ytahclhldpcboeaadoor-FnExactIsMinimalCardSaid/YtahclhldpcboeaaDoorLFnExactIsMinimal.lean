/- Walk of the law FnExactIsMinimal. -/
import Derived.Test.YtahclhldpcboeaaDoorRuleU
import Derived.Test.YtahclhldpcboeaaDoorRedU
import Derived.Test.YtahclhldpcboeaaDoorLawD
import Derived.Test.YtahclhldpcboeaaDoorLaw
import Derived.Test.YtahclhldpcboeaaDoorBxL
import Derived.Deep.RegionHeld3
namespace Go.Proofs.YtahclhldpcboeaaDoor
open Go Go.RowKit
set_option maxRecDepth 100000 in
set_option maxHeartbeats 4000000 in
theorem walkFnExactIsMinimal (q0 : Int) (A00 : Option Addr) (c00 : Nat) (hd0 : List Int) (A01 : Option Addr) (c01 : Nat) (bd0 : List Atom) (ei ea : Addr) (w : World) (hx00 : RdSl rdInt w.cell? 1 A00 hd0) (hx01 : RdSl rdAtom w.cell? 3 A01 bd0) (hm00 : hd0.length ≤ maxLen) (hm01 : bd0.length ≤ maxLen) (he0 : w.cell? ⟨0, 0, none⟩ = some (noHom ei)) (he1 : w.cell? ⟨1, 0, none⟩ = some (noHom ea)) :
    Calls Tryd.prog 5 #[.agg #[.int .i64 q0, .slice A00 hd0.length c00, .slice A01 bd0.length c01]] w fun r w' => r = .returned (.bool true) ∧ Fr w w' := by
  have HX00 := hid hx00
  have HX01 := hid hx01
  clear hx00 hx01
  rcases lft2_ways (m := hd0.length) (n := bd0.length) (left := 1048576) (by omega) (by omega) with h | ⟨pz0, qz0, l00, l01⟩
  · have R := hid h
    clear h
    go_enter Tryd.func5, Tryd.ntmps5
    go_wp2_with fail
    refine absW fun W hW => ?_
    obtain ⟨BA0, F0⟩ := bx_one hW
    clear hW
    refine (szRule q0 _ _ _ _ _ _ _ _ hm00 hm01 (by omega) (by omega)).mono ?_
    rintro r wz ⟨rfl, bz⟩
    rw [R.out]
    go_wp2
    go_ret
    exact ⟨rfl, F0.trans bz⟩
  obtain ⟨lf0, elf0⟩ : ∃ l, lft2 1048576 hd0.length bd0.length = l := ⟨_, rfl⟩
  rw [elf0] at pz0 qz0
  have ELF0 := hid elf0
  have dl0 : decide (lf0 < 0) = false := by simp; omega
  clear elf0
  have T0 := hid (fun (W : World) (hW : Fr w W) => toRuleU q0 A00 c00 hd0 A01 c01 bd0 W (HX00.out.fr rdInt_mono hW) (HX01.out.fr rdAtom_mono hW) l00 l01)
  obtain ⟨L, eL⟩ : ∃ L, isMin q0 hd0 bd0 = L := ⟨_, rfl⟩
  have EL := hid eL
  clear eL
  have ev : (L != L) = false := by simp
  go_enter Tryd.func5, Tryd.ntmps5
  go_wp2_with fail
  refine absW fun W hW => ?_
  obtain ⟨BA0, F0⟩ := bx_one hW
  clear hW
  refine (szRule q0 _ _ _ _ _ _ _ _ hm00 hm01 (by omega) (by omega)).mono ?_
  rintro r w0 ⟨rfl, b0⟩
  rw [ELF0.out]
  have F1 := F0.trans b0
  replace BA0 := BA0.fr b0
  have FM := F1
  clear F0 F1 b0
  obtain ⟨a00, a01, a02, _⟩ := BA0.three
  go_wp2_with fail
  refine (T0.out _ FM).mono ?_
  rintro r uy0 ⟨y00, y01, rfl, hy00, hy01, buy0⟩
  have Hy00 := hid ((hy00.mono rdInt_mono (fromU_le _ _)).mono rdInt_mono (fromB_le _ _))
  clear hy00
  have Hy01 := hid ((hy01.mono rdAtom_mono (fromU_le _ _)).mono rdAtom_mono (fromB_le _ _))
  clear hy01
  have Fuy0 : Fr w0 uy0 := buy0
  clear a00 a01 a02
  go_wp2_with fail
  refine (specIsMin q0 _ _ _ _ hd0 bd0 _ Hy00.out Hy01.out l00 l01 (fun h => by cases h) (Nat.le_refl _) (by unfold maxLen; omega)).mono ?_
  rw [EL.out]
  intro r ws hpost
  obtain ⟨hpost, bws⟩ := hpost
  obtain rfl := hpost
  have Fws : Fr w0 ws := Fuy0.trans bws
  clear Hy00 Hy01 
  have hsr := True.intro
  have hBA0 := (BA0.fr Fws).lt
  have HS := hid (hsr)
  have FS := FM.trans Fws
  replace BA0 := BA0.fr Fws
  clear Fuy0 buy0 Fws bws
  obtain ⟨a00, a01, a02, _⟩ := BA0.three
  go_wp2_with fail
  refine (T0.out _ FS).mono ?_
  rintro r k0 ⟨x00, x01, rfl, hx00, hx01, g0⟩
  have hz0 : ws.heap.size ≤ k0.heap.size := g0.size
  have V00 := hid (hx00.mono rdInt_mono (fromU_in (hi := k0.heap.size) (Nat.le_refl _)))
  have V01 := hid (hx01.mono rdAtom_mono (fromU_in (hi := k0.heap.size) (Nat.le_refl _)))
  clear hx00 hx01 a00 a01 a02
  have FK0 := FS.trans g0
  have K0 : Fr k0 (k0.alloc (.cells #[.int .i64 q0, .slice (some ⟨x00, 0, none⟩) hd0.length hd0.length, .slice (some ⟨x01, 0, none⟩) bd0.length bd0.length] 30)) := (Fr.refl _).alloc _
  have BX0 := Blk.new k0 30 #[.int .i64 q0, .slice (some ⟨x00, 0, none⟩) hd0.length hd0.length, .slice (some ⟨x01, 0, none⟩) bd0.length bd0.length]
  replace BA0 := BA0.fr (g0.trans K0)
  obtain ⟨d00, d01, d02, _⟩ := BX0.three
  go_wp2_with fail
  refine absW fun W5 hW5 => ?_
  replace K0 : Fr k0 W5 := by rw [hW5]; exact K0
  have F5 : Fr w W5 := FK0.trans K0
  rw [← hW5] at BX0 BA0
  replace V00 := hid (V00.out.mono rdInt_mono (K0.mle_in _ _))
  replace V01 := hid (V01.out.mono rdAtom_mono (K0.mle_in _ _))
  have E5 : Fr ws W5 := by
    exact (g0.trans K0)
  have hzl : k0.heap.size ≤ W5.heap.size := K0.size
  clear hW5 d00 d01 d02 g0 FK0 K0
  refine (implIsMin q0 _ _ _ _ hd0 bd0 ei ea _ (V00.out.mono rdInt_mono inU_cell) (V01.out.mono rdAtom_mono inU_cell) l00 l01 (Nat.le_refl _) (by unfold maxLen; omega) (F5.cell he0) (F5.cell he1)).mono ?_
  rw [EL.out]
  intro r w6 hpost
  obtain ⟨hpost, b6⟩ := hpost
  obtain rfl := hpost
  have F6 := F5.trans b6
  have E6 := E5.trans b6
  have hs6 := b6.size
  replace BX0 := BX0.fr b6
  replace BA0 := BA0.fr b6
  replace V00 := hid (V00.out.mono rdInt_mono (b6.mle_in _ _))
  replace V01 := hid (V01.out.mono rdAtom_mono (b6.mle_in _ _))
  have bw7 : Fr w6 w6 := Fr.refl w6
  have F7 := F6.trans bw7
  have E7 := E6.trans bw7
  have M7 := bw7
  replace BX0 := BX0.fr bw7
  replace BA0 := BA0.fr bw7
  replace V00 := hid (V00.out.mono rdInt_mono (bw7.mle_in _ _))
  replace V01 := hid (V01.out.mono rdAtom_mono (bw7.mle_in _ _))
  clear b6 bw7
  obtain ⟨a00, a01, a02, _⟩ := BA0.three
  obtain ⟨d00, d01, d02, _⟩ := BX0.three
  go_wp2_with fail
  have keepL : ∀ W' : World, Fr w6 W' → (Fr w6 W' ∧ W'.cell? ⟨w.heap.size, 0, none⟩ = some (.int .i64 q0) ∧ W'.cell? ⟨w.heap.size, 1, none⟩ = some (.slice A00 hd0.length c00) ∧ W'.cell? ⟨w.heap.size, 2, none⟩ = some (.slice A01 bd0.length c01) ∧ W'.cell? ⟨k0.heap.size, 0, none⟩ = some (.int .i64 q0) ∧ W'.cell? ⟨k0.heap.size, 1, none⟩ = some (.slice (some ⟨x00, 0, none⟩) hd0.length hd0.length) ∧ W'.cell? ⟨k0.heap.size, 2, none⟩ = some (.slice (some ⟨x01, 0, none⟩) bd0.length bd0.length)) := fun W' F => ⟨F, F.cell a00, F.cell a01, F.cell a02, F.cell d00, F.cell d01, F.cell d02⟩
  go_region_held3 (fun W' => Fr w6 W' ∧ W'.cell? ⟨w.heap.size, 0, none⟩ = some (.int .i64 q0) ∧ W'.cell? ⟨w.heap.size, 1, none⟩ = some (.slice A00 hd0.length c00) ∧ W'.cell? ⟨w.heap.size, 2, none⟩ = some (.slice A01 bd0.length c01) ∧ W'.cell? ⟨k0.heap.size, 0, none⟩ = some (.int .i64 q0) ∧ W'.cell? ⟨k0.heap.size, 1, none⟩ = some (.slice (some ⟨x00, 0, none⟩) hd0.length hd0.length) ∧ W'.cell? ⟨k0.heap.size, 2, none⟩ = some (.slice (some ⟨x01, 0, none⟩) bd0.length bd0.length)) ((refine keepL _ ?_; (repeat (first | with_reducible exact Fr.refl _ | with_reducible assumption | with_reducible refine Fr.alloc ?_ _ | with_reducible refine Fr.drew ?_ | with_reducible refine Fr.drewN ?_ _ | (with_reducible refine Fr.setNew2 ?_ ?_ _; · (simp <;> omega)) | with_reducible refine Fr.trans ?_ (by assumption))); done))
    (first
      | (go_at_call 13; with_reducible refine (T0.out _ ?_).mono ?_; (· exact F7.trans (by (repeat (first | with_reducible exact Fr.refl _ | with_reducible assumption | with_reducible refine Fr.alloc ?_ _ | with_reducible refine Fr.drew ?_ | with_reducible refine Fr.drewN ?_ _ | (with_reducible refine Fr.setNew2 ?_ ?_ _; · (simp <;> omega)) | with_reducible refine Fr.trans ?_ (by assumption))))); rintro r z0 ⟨z00, z01, rfl, hz00, hz01, bz0⟩; have Hz00 := hid ((hz00.mono rdInt_mono (fromU_le _ _)).mono rdInt_mono (fromB_le _ _)); clear hz00; have Hz01 := hid ((hz01.mono rdAtom_mono (fromU_le _ _)).mono rdAtom_mono (fromB_le _ _)); clear hz01; have Fz0 : Fr w6 z0 := Fr.trans (by (repeat (first | with_reducible exact Fr.refl _ | with_reducible assumption | with_reducible refine Fr.alloc ?_ _ | with_reducible refine Fr.drew ?_ | with_reducible refine Fr.drewN ?_ _ | (with_reducible refine Fr.setNew2 ?_ ?_ _; · (simp <;> omega)) | with_reducible refine Fr.trans ?_ (by assumption)))) bz0)
      | (go_at_call 15; refine (eqRule q0 _ _ hd0 _ _ bd0 _ _ _ _ _ ((V00.out.mono rdInt_mono inU_cell).fr rdInt_mono Fz0) ((V01.out.mono rdAtom_mono inU_cell).fr rdAtom_mono Fz0) Hz00.out Hz01.out l00 l01).mono ?_; rintro r w8 ⟨rfl, bw8⟩; have FFw8 : Fr w6 w8 := Fr.trans (by (repeat (first | with_reducible exact Fr.refl _ | with_reducible assumption | with_reducible refine Fr.alloc ?_ _ | with_reducible refine Fr.drew ?_ | with_reducible refine Fr.drewN ?_ _ | (with_reducible refine Fr.setNew2 ?_ ?_ _; · (simp <;> omega)) | with_reducible refine Fr.trans ?_ (by assumption)))) bw8)
      | fail)
  clear keepL a00 a01 a02 d00 d01 d02 Hz00 Hz01
  replace BX0 := BX0.fr FFw8
  replace BA0 := BA0.fr FFw8
  replace V00 := hid (V00.out.mono rdInt_mono (FFw8.mle_in _ _))
  replace V01 := hid (V01.out.mono rdAtom_mono (FFw8.mle_in _ _))
  have F8 := F7.trans FFw8
  have E8 := E7.trans FFw8
  replace M7 := M7.trans FFw8
  clear Fz0 bz0 bw8 FFw8
  go_wp2
  go_ret
  exact ⟨rfl, F8⟩
end Go.Proofs.YtahclhldpcboeaaDoor
