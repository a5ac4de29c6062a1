/- Walk of the law FnExactCheckHomomorphism. -/
import Derived.Test.YtahclhldpcboeaaHomI
import Derived.Test.YtahclhldpcboeaaOpenI
import Derived.Test.YtahclhldpcboeaaLaw
import Derived.Deep.RegionHeld3
namespace Go.Proofs.Ytahclhldpcboeaa
open Go Go.RowKit
theorem hm_two {w W : World} {cs ds : Array Value} (hW : W = (w.alloc (.cells cs 25)).alloc (.cells ds 25)) : Blk W w.heap.size 25 cs ∧ Blk W (w.heap.size + 1) 25 ds ∧ Fr w W := by
  subst hW
  refine ⟨(Blk.new _ _ _).alloc _, ?_, ((Fr.refl _).alloc _).alloc _⟩
  have := Blk.new (w.alloc (.cells cs 25)) 25 ds
  rwa [World.size_alloc] at this
def Rul (q : Int) (hd : List Int) (bd : List Atom) (g0 g1 : Nat) : Value := .agg #[.int .i64 q, .slice (some ⟨g0, 0, none⟩) hd.length hd.length, .slice (some ⟨g1, 0, none⟩) bd.length bd.length]
set_option maxRecDepth 100000 in
set_option maxHeartbeats 4000000 in
theorem walkFnExactCheckHomomorphism (q1 : Int) (A0 : Option Addr) (c0 : Nat) (hd1 : List Int) (A1 : Option Addr) (c1 : Nat) (bd1 : List Atom) (q2 : Int) (B0 : Option Addr) (d0 : Nat) (hd2 : List Int) (B1 : Option Addr) (d1 : Nat) (bd2 : List Atom) (M : Option Addr) (cm : Nat) (m : List Int) (w : World)
    (hx0 : RdSl rdInt w.cell? 1 A0 hd1) (hx1 : RdSl rdAtom w.cell? 3 A1 bd1) (hm0 : hd1.length ≤ maxLen) (hm1 : bd1.length ≤ maxLen) (hy0 : RdSl rdInt w.cell? 1 B0 hd2) (hy1 : RdSl rdAtom w.cell? 3 B1 bd2) (hm2 : hd2.length ≤ maxLen) (hm3 : bd2.length ≤ maxLen) (hz : RdSl rdInt w.cell? 1 M m) (hm4 : m.length ≤ maxLen) :
    Calls Try.prog 3 #[.agg #[.int .i64 q1, .slice A0 hd1.length c0, .slice A1 bd1.length c1], .agg #[.int .i64 q2, .slice B0 hd2.length d0, .slice B1 bd2.length d1], .slice M m.length cm] w fun e w' => e = .returned (.bool true) ∧ Fr w w' := by
  have HX0 := hid hx0
  have HX1 := hid hx1
  have HY0 := hid hy0
  have HY1 := hid hy1
  have HZ := hid hz
  clear hx0 hx1 hy0 hy1 hz
  by_cases hlen : (1048576 : Int) < m.length
  · have e0 : decide ((1048576 : Int) < (m.length : Int)) = true := by simp; omega
    go_enter Try.func3, Try.ntmps3
    go_wp2
    go_ret
    exact ⟨rfl, by (repeat (first | with_reducible exact Fr.refl _ | with_reducible assumption | with_reducible refine Fr.alloc ?_ _ | with_reducible refine Fr.drew ?_ | with_reducible refine Fr.drewN ?_ _ | (with_reducible refine Fr.setNew2 ?_ ?_ _; · (simp <;> omega)) | with_reducible refine Fr.trans ?_ (by assumption)))⟩
  have e0 : decide ((1048576 : Int) < (m.length : Int)) = false := by simp; omega
  have hl4 : m.length ≤ 1048576 := by omega
  clear hlen
  obtain ⟨lf, elf⟩ : ∃ lf, lft2 1048576 hd1.length bd1.length = lf := ⟨_, rfl⟩
  have ELF := hid elf
  by_cases h1 : hd1.length + bd1.length ≤ 1048576
  rotate_left
  · have e1 := hid (show lft2 1048576 hd1.length bd1.length = -1 from if_pos (by omega))
    clear h1 elf
    go_enter Try.func3, Try.ntmps3
    go_wp2_with fail
    refine absW fun W hW => ?_
    obtain ⟨BA, BB, F0⟩ := hm_two hW
    clear hW
    refine (szRule _ _ _ _ _ _ _ _ _ hm0 hm1 (by omega) (by omega)).mono ?_
    rintro r w1 ⟨rfl, b1⟩
    rw [e1.out]
    go_wp2
    go_ret
    exact ⟨rfl, F0.trans b1⟩
  have hlf : 0 ≤ lf ∧ lf ≤ 1048576 := by rw [← elf]; unfold lft2; split <;> omega
  have hl0 : hd1.length ≤ 1048576 := by omega
  have hl1 : bd1.length ≤ 1048576 := by omega
  have dl : decide (lf < 0) = false := by simp; omega
  clear h1 elf
  obtain ⟨lg, elg⟩ : ∃ lg, lft2 lf hd2.length bd2.length = lg := ⟨_, rfl⟩
  have ELG := hid elg
  by_cases h2 : (hd2.length : Int) + bd2.length ≤ lf
  rotate_left
  · have e1 := hid (show lft2 lf hd2.length bd2.length = -1 from if_pos (by omega))
    clear h2 elg
    go_enter Try.func3, Try.ntmps3
    go_wp2_with fail
    refine absW fun W hW => ?_
    obtain ⟨BA, BB, F0⟩ := hm_two hW
    clear hW
    refine (szRule _ _ _ _ _ _ _ _ _ hm0 hm1 (by omega) (by omega)).mono ?_
    rintro r w1 ⟨rfl, b1⟩
    rw [ELF.out]
    obtain ⟨b0, b1', b2, _⟩ := (BB.fr b1).three
    go_wp2_with fail
    refine (szRule _ _ _ _ _ _ _ _ _ hm2 hm3 (by omega) (by omega)).mono ?_
    rintro r w2 ⟨rfl, g2⟩
    rw [e1.out]
    go_wp2
    go_ret
    exact ⟨rfl, (F0.trans b1).trans g2⟩
  have hlg : 0 ≤ lg := by rw [← elg]; unfold lft2; split <;> omega
  have hl2 : hd2.length ≤ 1048576 := by omega
  have hl3 : bd2.length ≤ 1048576 := by omega
  have dg : decide (lg < 0) = false := by simp; omega
  clear h2 elg
  obtain ⟨z, ez⟩ : ∃ z, chkHom q1 hd1 bd1 q2 hd2 bd2 m = z := ⟨_, rfl⟩
  have EZ := hid ez
  have ev : (z != z) = false := by simp
  have T1 := hid (fun (W : World) (hW : Fr w W) => toRule q1 A0 c0 hd1 A1 c1 bd1 W (HX0.out.fr rdInt_mono hW) (HX1.out.fr rdAtom_mono hW) hl0 hl1)
  have T2 := hid (fun (W : World) (hW : Fr w W) => toRule q2 B0 d0 hd2 B1 d1 bd2 W (HY0.out.fr rdInt_mono hW) (HY1.out.fr rdAtom_mono hW) hl2 hl3)
  have T3 := hid (fun (W : World) (hW : Fr w W) => toIntsB M cm m W (HZ.out.fr rdInt_mono hW) hl4)
  clear ez
  go_enter Try.func3, Try.ntmps3
  go_wp2_with fail
  refine absW fun W hW => ?_
  obtain ⟨BA, BB, F0⟩ := hm_two hW
  clear hW
  refine (szRule _ _ _ _ _ _ _ _ _ hm0 hm1 (by omega) (by omega)).mono ?_
  rintro r w1 ⟨rfl, g1⟩
  rw [ELF.out]
  obtain ⟨b0, b1, b2, _⟩ := (BB.fr g1).three
  go_wp2_with fail
  refine (szRule _ _ _ _ _ _ _ _ _ hm2 hm3 (by omega) (by omega)).mono ?_
  rintro r w2 ⟨rfl, g2⟩
  rw [ELG.out]
  have F2 := (F0.trans g1).trans g2
  replace BA := BA.fr (g1.trans g2)
  replace BB := BB.fr (g1.trans g2)
  clear b0 b1 b2 g1 g2
  obtain ⟨a0, a1, a2, _⟩ := BA.three
  obtain ⟨b0, b1, b2, _⟩ := BB.three
  go_wp2_with fail
  have keepL : ∀ W' : World, Fr w2 W' → (Fr w2 W' ∧ W'.cell? ⟨w.heap.size, 0, none⟩ = some (.int .i64 q1) ∧ W'.cell? ⟨w.heap.size, 1, none⟩ = some (.slice A0 hd1.length c0) ∧ W'.cell? ⟨w.heap.size, 2, none⟩ = some (.slice A1 bd1.length c1) ∧ W'.cell? ⟨w.heap.size + 1, 0, none⟩ = some (.int .i64 q2) ∧ W'.cell? ⟨w.heap.size + 1, 1, none⟩ = some (.slice B0 hd2.length d0) ∧ W'.cell? ⟨w.heap.size + 1, 2, none⟩ = some (.slice B1 bd2.length d1)) := fun W' F => ⟨F, F.cell a0, F.cell a1, F.cell a2, F.cell b0, F.cell b1, F.cell b2⟩
  go_region_held3 (fun W' => Fr w2 W' ∧ W'.cell? ⟨w.heap.size, 0, none⟩ = some (.int .i64 q1) ∧ W'.cell? ⟨w.heap.size, 1, none⟩ = some (.slice A0 hd1.length c0) ∧ W'.cell? ⟨w.heap.size, 2, none⟩ = some (.slice A1 bd1.length c1) ∧ W'.cell? ⟨w.heap.size + 1, 0, none⟩ = some (.int .i64 q2) ∧ W'.cell? ⟨w.heap.size + 1, 1, none⟩ = some (.slice B0 hd2.length d0) ∧ W'.cell? ⟨w.heap.size + 1, 2, none⟩ = some (.slice B1 bd2.length d1)) ((refine keepL _ ?_; (repeat (first | with_reducible exact Fr.refl _ | with_reducible assumption | with_reducible refine Fr.alloc ?_ _ | with_reducible refine Fr.drew ?_ | with_reducible refine Fr.drewN ?_ _ | (with_reducible refine Fr.setNew2 ?_ ?_ _; · (simp <;> omega)) | with_reducible refine Fr.trans ?_ (by assumption))); done))
    (first
      | (go_at_call 12; with_reducible refine (T1.out _ ?_).mono ?_; (· exact F2.trans (by (repeat (first | with_reducible exact Fr.refl _ | with_reducible assumption | with_reducible refine Fr.alloc ?_ _ | with_reducible refine Fr.drew ?_ | with_reducible refine Fr.drewN ?_ _ | (with_reducible refine Fr.setNew2 ?_ ?_ _; · (simp <;> omega)) | with_reducible refine Fr.trans ?_ (by assumption))))); rintro r wa ⟨u0, u1, rfl, hU0, hU1, bwa⟩; have HU0 := hid (hU0.mono rdInt_mono (fromB_le _ _)); have HU1 := hid (hU1.mono rdAtom_mono (fromB_le _ _)); clear hU0 hU1; have Fwa : Fr w2 wa := Fr.trans (by (repeat (first | with_reducible exact Fr.refl _ | with_reducible assumption | with_reducible refine Fr.alloc ?_ _ | with_reducible refine Fr.drew ?_ | with_reducible refine Fr.drewN ?_ _ | (with_reducible refine Fr.setNew2 ?_ ?_ _; · (simp <;> omega)) | with_reducible refine Fr.trans ?_ (by assumption)))) bwa)
      | (go_at_call 12; with_reducible refine (T2.out _ ?_).mono ?_; (· exact F2.trans (by (repeat (first | with_reducible exact Fr.refl _ | with_reducible assumption | with_reducible refine Fr.alloc ?_ _ | with_reducible refine Fr.drew ?_ | with_reducible refine Fr.drewN ?_ _ | (with_reducible refine Fr.setNew2 ?_ ?_ _; · (simp <;> omega)) | with_reducible refine Fr.trans ?_ (by assumption))))); rintro r wb ⟨v0, v1, rfl, hV0, hV1, bwb⟩; have HV0 := hid (hV0.mono rdInt_mono (fromB_le _ _)); have HV1 := hid (hV1.mono rdAtom_mono (fromB_le _ _)); clear hV0 hV1; have Fwb : Fr w2 wb := Fr.trans (by (repeat (first | with_reducible exact Fr.refl _ | with_reducible assumption | with_reducible refine Fr.alloc ?_ _ | with_reducible refine Fr.drew ?_ | with_reducible refine Fr.drewN ?_ _ | (with_reducible refine Fr.setNew2 ?_ ?_ _; · (simp <;> omega)) | with_reducible refine Fr.trans ?_ (by assumption)))) bwb; have Gwb : Fr wa wb := Fr.trans (by (repeat (first | with_reducible exact Fr.refl _ | with_reducible assumption | with_reducible refine Fr.alloc ?_ _ | with_reducible refine Fr.drew ?_ | with_reducible refine Fr.drewN ?_ _ | (with_reducible refine Fr.setNew2 ?_ ?_ _; · (simp <;> omega)) | with_reducible refine Fr.trans ?_ (by assumption)))) bwb)
      | (go_at_call 13; with_reducible refine (T3.out _ ?_).mono ?_; (· exact F2.trans (by (repeat (first | with_reducible exact Fr.refl _ | with_reducible assumption | with_reducible refine Fr.alloc ?_ _ | with_reducible refine Fr.drew ?_ | with_reducible refine Fr.drewN ?_ _ | (with_reducible refine Fr.setNew2 ?_ ?_ _; · (simp <;> omega)) | with_reducible refine Fr.trans ?_ (by assumption))))); rintro r wc ⟨t0, rfl, hT0, bwc⟩; have HT0 := hid (hT0.mono rdInt_mono (fromB_le _ _)); clear hT0; have Fwc : Fr w2 wc := Fr.trans (by (repeat (first | with_reducible exact Fr.refl _ | with_reducible assumption | with_reducible refine Fr.alloc ?_ _ | with_reducible refine Fr.drew ?_ | with_reducible refine Fr.drewN ?_ _ | (with_reducible refine Fr.setNew2 ?_ ?_ _; · (simp <;> omega)) | with_reducible refine Fr.trans ?_ (by assumption)))) bwc; have Gwc : Fr wb wc := Fr.trans (by (repeat (first | with_reducible exact Fr.refl _ | with_reducible assumption | with_reducible refine Fr.alloc ?_ _ | with_reducible refine Fr.drew ?_ | with_reducible refine Fr.drewN ?_ _ | (with_reducible refine Fr.setNew2 ?_ ?_ _; · (simp <;> omega)) | with_reducible refine Fr.trans ?_ (by assumption)))) bwc)
      | (go_at_call 11; refine (specCheckHom q1 q2 _ _ _ _ _ _ _ _ _ _ hd1 hd2 m bd1 bd2 _ (HU0.out.fr rdInt_mono (Gwb.trans Gwc)) (HU1.out.fr rdAtom_mono (Gwb.trans Gwc)) (HV0.out.fr rdInt_mono Gwc) (HV1.out.fr rdAtom_mono Gwc) HT0.out hl0 hl1 hl2 hl3 hl4).mono ?_; rw [EZ.out]; rintro r wd ⟨rfl, bwd⟩; have Fwd : Fr w2 wd := Fr.trans (by (repeat (first | with_reducible exact Fr.refl _ | with_reducible assumption | with_reducible refine Fr.alloc ?_ _ | with_reducible refine Fr.drew ?_ | with_reducible refine Fr.drewN ?_ _ | (with_reducible refine Fr.setNew2 ?_ ?_ _; · (simp <;> omega)) | with_reducible refine Fr.trans ?_ (by assumption)))) bwd)
      | fail)
  clear keepL HU0 HU1 HV0 HV1 HT0
  replace F2 := F2.trans Fwd
  replace BA := BA.fr Fwd
  replace BB := BB.fr Fwd
  clear a0 a1 a2 b0 b1 b2 Fwa Fwb Fwc Gwb Gwc Fwd bwa bwb bwc bwd
  obtain ⟨a0, a1, a2, _⟩ := BA.three
  go_wp2_with fail
  refine (T1.out _ F2).mono ?_
  rintro r w3 ⟨x0, x1, rfl, hX0, hX1, g3⟩
  have X0 := hid (hX0.mono rdInt_mono (fromB_le _ _))
  have X1 := hid (hX1.mono rdAtom_mono (fromB_le _ _))
  have F3 := F2.trans g3
  have K3 : Fr w3 (w3.alloc (.cells #[.int .i64 q1, .slice (some ⟨x0, 0, none⟩) hd1.length hd1.length, .slice (some ⟨x1, 0, none⟩) bd1.length bd1.length] 30)) := (Fr.refl _).alloc _
  have BX := Blk.new w3 30 #[.int .i64 q1, .slice (some ⟨x0, 0, none⟩) hd1.length hd1.length, .slice (some ⟨x1, 0, none⟩) bd1.length bd1.length]
  replace BA := BA.fr (g3.trans K3)
  replace BB := BB.fr (g3.trans K3)
  clear hX0 hX1 a0 a1 a2
  obtain ⟨b0, b1, b2, _⟩ := BB.three
  go_wp2_with fail
  refine (T2.out _ (F3.trans K3)).mono ?_
  rintro r w4 ⟨y0, y1, rfl, hY0, hY1, g4⟩
  have Y0 := hid (hY0.mono rdInt_mono (fromB_le _ _))
  have Y1 := hid (hY1.mono rdAtom_mono (fromB_le _ _))
  have F4 := (F3.trans K3).trans g4
  have K4 : Fr w4 (w4.alloc (.cells #[.int .i64 q2, .slice (some ⟨y0, 0, none⟩) hd2.length hd2.length, .slice (some ⟨y1, 0, none⟩) bd2.length bd2.length] 30)) := (Fr.refl _).alloc _
  have BY := Blk.new w4 30 #[.int .i64 q2, .slice (some ⟨y0, 0, none⟩) hd2.length hd2.length, .slice (some ⟨y1, 0, none⟩) bd2.length bd2.length]
  replace BX := BX.fr (g4.trans K4)
  replace BA := BA.fr (g4.trans K4)
  replace BB := BB.fr (g4.trans K4)
  clear hY0 hY1 b0 b1 b2
  go_wp2_with fail
  refine (T3.out _ (F4.trans K4)).mono ?_
  rintro r w5 ⟨z0, rfl, hZ0, g5⟩
  have Z0 := hid (hZ0.mono rdInt_mono (fromB_le _ _))
  have F5 := (F4.trans K4).trans g5
  have P5 := (K4.trans g5)
  replace BX := BX.fr g5
  replace BY := BY.fr g5
  replace BA := BA.fr g5
  replace BB := BB.fr g5
  clear hZ0
  obtain ⟨x00, x01, x02, _⟩ := BX.three
  obtain ⟨y00, y01, y02, _⟩ := BY.three
  go_wp2_with fail
  refine (implCheckHom q1 q2 _ _ _ _ _ _ _ _ _ _ hd1 hd2 m bd1 bd2 w5 (X0.out.fr rdInt_mono ((K3.trans g4).trans P5)) (X1.out.fr rdAtom_mono ((K3.trans g4).trans P5)) (Y0.out.fr rdInt_mono P5) (Y1.out.fr rdAtom_mono P5) Z0.out hl0 hl1 hl2 hl3 hl4).mono ?_
  rw [EZ.out]
  rintro r w6 ⟨rfl, g6⟩
  have F6 := F5.trans g6
  have XX := (((K3.trans g4).trans P5).trans g6)
  have YY := P5.trans g6
  replace BX := BX.fr g6
  replace BY := BY.fr g6
  replace BA := BA.fr g6
  replace BB := BB.fr g6
  clear x00 x01 x02 y00 y01 y02
  obtain ⟨x00, x01, x02, _⟩ := BX.three
  obtain ⟨a0, a1, a2, _⟩ := BA.three
  go_wp2_with fail
  have keepL : ∀ W' : World, Fr w6 W' → (Fr w6 W' ∧ W'.cell? ⟨w.heap.size, 0, none⟩ = some (.int .i64 q1) ∧ W'.cell? ⟨w.heap.size, 1, none⟩ = some (.slice A0 hd1.length c0) ∧ W'.cell? ⟨w.heap.size, 2, none⟩ = some (.slice A1 bd1.length c1) ∧ W'.cell? ⟨w3.heap.size, 0, none⟩ = some (.int .i64 q1) ∧ W'.cell? ⟨w3.heap.size, 1, none⟩ = some (.slice (some ⟨x0, 0, none⟩) hd1.length hd1.length) ∧ W'.cell? ⟨w3.heap.size, 2, none⟩ = some (.slice (some ⟨x1, 0, none⟩) bd1.length bd1.length)) := fun W' F => ⟨F, F.cell a0, F.cell a1, F.cell a2, F.cell x00, F.cell x01, F.cell x02⟩
  go_region_held3 (fun W' => Fr w6 W' ∧ W'.cell? ⟨w.heap.size, 0, none⟩ = some (.int .i64 q1) ∧ W'.cell? ⟨w.heap.size, 1, none⟩ = some (.slice A0 hd1.length c0) ∧ W'.cell? ⟨w.heap.size, 2, none⟩ = some (.slice A1 bd1.length c1) ∧ W'.cell? ⟨w3.heap.size, 0, none⟩ = some (.int .i64 q1) ∧ W'.cell? ⟨w3.heap.size, 1, none⟩ = some (.slice (some ⟨x0, 0, none⟩) hd1.length hd1.length) ∧ W'.cell? ⟨w3.heap.size, 2, none⟩ = some (.slice (some ⟨x1, 0, none⟩) bd1.length bd1.length)) ((refine keepL _ ?_; (repeat (first | with_reducible exact Fr.refl _ | with_reducible assumption | with_reducible refine Fr.alloc ?_ _ | with_reducible refine Fr.drew ?_ | with_reducible refine Fr.drewN ?_ _ | (with_reducible refine Fr.setNew2 ?_ ?_ _; · (simp <;> omega)) | with_reducible refine Fr.trans ?_ (by assumption))); done))
    (first
      | (go_at_call 12; with_reducible refine (T1.out _ ?_).mono ?_; (· exact F6.trans (by (repeat (first | with_reducible exact Fr.refl _ | with_reducible assumption | with_reducible refine Fr.alloc ?_ _ | with_reducible refine Fr.drew ?_ | with_reducible refine Fr.drewN ?_ _ | (with_reducible refine Fr.setNew2 ?_ ?_ _; · (simp <;> omega)) | with_reducible refine Fr.trans ?_ (by assumption))))); rintro r wa ⟨u0, u1, rfl, hU0, hU1, bwa⟩; have HU0 := hid (hU0.mono rdInt_mono (fromB_le _ _)); have HU1 := hid (hU1.mono rdAtom_mono (fromB_le _ _)); clear hU0 hU1; have Fwa : Fr w6 wa := Fr.trans (by (repeat (first | with_reducible exact Fr.refl _ | with_reducible assumption | with_reducible refine Fr.alloc ?_ _ | with_reducible refine Fr.drew ?_ | with_reducible refine Fr.drewN ?_ _ | (with_reducible refine Fr.setNew2 ?_ ?_ _; · (simp <;> omega)) | with_reducible refine Fr.trans ?_ (by assumption)))) bwa)
      | (go_at_call 15; refine (eqRule q1 _ _ hd1 _ _ bd1 _ _ _ _ _ (X0.out.fr rdInt_mono (XX.trans Fwa)) (X1.out.fr rdAtom_mono (XX.trans Fwa)) HU0.out HU1.out hl0 hl1).mono ?_; rintro r wb ⟨rfl, bwb⟩; have Fwb : Fr w6 wb := Fr.trans (by (repeat (first | with_reducible exact Fr.refl _ | with_reducible assumption | with_reducible refine Fr.alloc ?_ _ | with_reducible refine Fr.drew ?_ | with_reducible refine Fr.drewN ?_ _ | (with_reducible refine Fr.setNew2 ?_ ?_ _; · (simp <;> omega)) | with_reducible refine Fr.trans ?_ (by assumption)))) bwb)
      | fail)
  clear keepL HU0 HU1 a0 a1 a2 x00 x01 x02
  have F7 := F6.trans Fwb
  have YY7 := YY.trans Fwb
  replace BY := BY.fr Fwb
  replace BB := BB.fr Fwb
  have ZZ7 := g6.trans Fwb
  clear Fwa Fwb bwa bwb
  obtain ⟨y00, y01, y02, _⟩ := BY.three
  obtain ⟨b0, b1, b2, _⟩ := BB.three
  go_wp2_with fail
  have keepL : ∀ W' : World, Fr wb W' → (Fr wb W' ∧ W'.cell? ⟨w.heap.size + 1, 0, none⟩ = some (.int .i64 q2) ∧ W'.cell? ⟨w.heap.size + 1, 1, none⟩ = some (.slice B0 hd2.length d0) ∧ W'.cell? ⟨w.heap.size + 1, 2, none⟩ = some (.slice B1 bd2.length d1) ∧ W'.cell? ⟨w4.heap.size, 0, none⟩ = some (.int .i64 q2) ∧ W'.cell? ⟨w4.heap.size, 1, none⟩ = some (.slice (some ⟨y0, 0, none⟩) hd2.length hd2.length) ∧ W'.cell? ⟨w4.heap.size, 2, none⟩ = some (.slice (some ⟨y1, 0, none⟩) bd2.length bd2.length)) := fun W' F => ⟨F, F.cell b0, F.cell b1, F.cell b2, F.cell y00, F.cell y01, F.cell y02⟩
  go_region_held3 (fun W' => Fr wb W' ∧ W'.cell? ⟨w.heap.size + 1, 0, none⟩ = some (.int .i64 q2) ∧ W'.cell? ⟨w.heap.size + 1, 1, none⟩ = some (.slice B0 hd2.length d0) ∧ W'.cell? ⟨w.heap.size + 1, 2, none⟩ = some (.slice B1 bd2.length d1) ∧ W'.cell? ⟨w4.heap.size, 0, none⟩ = some (.int .i64 q2) ∧ W'.cell? ⟨w4.heap.size, 1, none⟩ = some (.slice (some ⟨y0, 0, none⟩) hd2.length hd2.length) ∧ W'.cell? ⟨w4.heap.size, 2, none⟩ = some (.slice (some ⟨y1, 0, none⟩) bd2.length bd2.length)) ((refine keepL _ ?_; (repeat (first | with_reducible exact Fr.refl _ | with_reducible assumption | with_reducible refine Fr.alloc ?_ _ | with_reducible refine Fr.drew ?_ | with_reducible refine Fr.drewN ?_ _ | (with_reducible refine Fr.setNew2 ?_ ?_ _; · (simp <;> omega)) | with_reducible refine Fr.trans ?_ (by assumption))); done))
    (first
      | (go_at_call 12; with_reducible refine (T2.out _ ?_).mono ?_; (· exact F7.trans (by (repeat (first | with_reducible exact Fr.refl _ | with_reducible assumption | with_reducible refine Fr.alloc ?_ _ | with_reducible refine Fr.drew ?_ | with_reducible refine Fr.drewN ?_ _ | (with_reducible refine Fr.setNew2 ?_ ?_ _; · (simp <;> omega)) | with_reducible refine Fr.trans ?_ (by assumption))))); rintro r wc ⟨u0, u1, rfl, hU0, hU1, bwc⟩; have HU0 := hid (hU0.mono rdInt_mono (fromB_le _ _)); have HU1 := hid (hU1.mono rdAtom_mono (fromB_le _ _)); clear hU0 hU1; have Fwc : Fr wb wc := Fr.trans (by (repeat (first | with_reducible exact Fr.refl _ | with_reducible assumption | with_reducible refine Fr.alloc ?_ _ | with_reducible refine Fr.drew ?_ | with_reducible refine Fr.drewN ?_ _ | (with_reducible refine Fr.setNew2 ?_ ?_ _; · (simp <;> omega)) | with_reducible refine Fr.trans ?_ (by assumption)))) bwc)
      | (go_at_call 15; refine (eqRule q2 _ _ hd2 _ _ bd2 _ _ _ _ _ (Y0.out.fr rdInt_mono (YY7.trans Fwc)) (Y1.out.fr rdAtom_mono (YY7.trans Fwc)) HU0.out HU1.out hl2 hl3).mono ?_; rintro r wd ⟨rfl, bwd⟩; have Fwd : Fr wb wd := Fr.trans (by (repeat (first | with_reducible exact Fr.refl _ | with_reducible assumption | with_reducible refine Fr.alloc ?_ _ | with_reducible refine Fr.drew ?_ | with_reducible refine Fr.drewN ?_ _ | (with_reducible refine Fr.setNew2 ?_ ?_ _; · (simp <;> omega)) | with_reducible refine Fr.trans ?_ (by assumption)))) bwd)
      | fail)
  clear keepL HU0 HU1 b0 b1 b2 y00 y01 y02
  have F8 := F7.trans Fwd
  have ZZ8 := ZZ7.trans Fwd
  go_wp2_with fail
  refine (T3.out _ F8).mono ?_
  rintro r w9 ⟨s0, rfl, hS0, g9⟩
  have S0 := hid (hS0.mono rdInt_mono (fromB_le _ _))
  clear hS0
  go_wp2_with fail
  refine (eqInts _ _ _ _ m m w9 (Z0.out.fr rdInt_mono (ZZ8.trans g9)) S0.out hm4 hm4).mono ?_
  rintro r w10 ⟨rfl, g10⟩
  rw [decide_eq_true (rfl : m = m)]
  go_wp2
  go_ret
  exact ⟨rfl, (F8.trans g9).trans g10⟩
end Go.Proofs.Ytahclhldpcboeaa
