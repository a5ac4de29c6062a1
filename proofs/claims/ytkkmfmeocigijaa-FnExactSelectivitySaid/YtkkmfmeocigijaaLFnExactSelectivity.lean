/- Walk of the law FnExactSelectivity. -/
import Derived.Test.YtkkmfmeocigijaaSelS
import Derived.Test.YtkkmfmeocigijaaStatL
import Derived.Test.YtkkmfmeocigijaaLaw
import Derived.Deep.RegionHeld3
namespace Go.Proofs.Ytkkmfmeocigijaa
open Go Go.RowKit

def left3 (left : Int) (m n : Nat) : Int := if left < (m : Int) + n then -1 else left - m - n
theorem szStatsL (r : Int) (A A' : Option Addr) (m n c c' : Nat) (left : Int) (w : World) (hm : m ≤ maxLen) (hn : n ≤ maxLen) (h0 : 0 ≤ left) (hL : left ≤ 1048576) :
    Calls Try.prog 28 #[.agg #[.int .i64 r, .slice A m c, .slice A' n c'], .int .i64 left] w fun e w' => e = .returned (.int .i64 (left3 left m n)) ∧ Fr w w' := by
  by_cases h1 : left < (m : Int)
  · have e1 := hid (show (if left < (m : Int) then (-1 : Int) else left - m) = -1 by rw [if_pos h1])
    have R := hid (show left3 left m n = -1 from if_pos (by omega))
    clear h1
    go_enter Try.func28, Try.ntmps28
    go_wp2_with fail
    refine (szInts _ _ _ _ _ hm (by omega) (by omega)).mono ?_
    rintro e w' ⟨rfl, rfl⟩
    rw [e1.out]
    go_wp2
    go_ret
    exact ⟨ret_int (by rw [R.out]), by (repeat (first | with_reducible exact Fr.refl _ | with_reducible assumption | with_reducible refine Fr.alloc ?_ _ | with_reducible refine Fr.drew ?_ | with_reducible refine Fr.drewN ?_ _ | (with_reducible refine Fr.setNew2 ?_ ?_ _; · (simp <;> omega)) | with_reducible refine Fr.trans ?_ (by assumption)))⟩
  · have e1 := hid (show (if left < (m : Int) then (-1 : Int) else left - m) = left - m by rw [if_neg h1])
    have d1 : decide (left - (m : Int) < 0) = false := by simp; omega
    have R := hid (show left3 left m n = if left - (m : Int) < (n : Int) then (-1 : Int) else left - m - n by
      unfold left3
      by_cases h2 : left < (m : Int) + n
      · rw [if_pos h2, if_pos (by omega)]
      · rw [if_neg h2, if_neg (by omega)])
    obtain ⟨z, ez⟩ : ∃ z, (if left - (m : Int) < (n : Int) then (-1 : Int) else left - m - n) = z := ⟨_, rfl⟩
    have EZ := hid ez
    have hz : z = -1 ∨ 0 ≤ z := by
      rw [← ez]
      split
      · exact .inl rfl
      · exact .inr (by omega)
    clear ez
    rcases hz with hz | hz
    · subst hz
      go_enter Try.func28, Try.ntmps28
      go_wp2_with fail
      refine (szInts _ _ _ _ _ hm (by omega) (by omega)).mono ?_
      rintro e w' ⟨rfl, rfl⟩
      rw [e1.out]
      go_wp2_with fail
      refine (szInts _ _ _ _ _ hn (by omega) (by omega)).mono ?_
      rintro e w' ⟨rfl, rfl⟩
      rw [EZ.out]
      go_wp2
      go_ret
      exact ⟨ret_int (by rw [R.out, EZ.out]), by (repeat (first | with_reducible exact Fr.refl _ | with_reducible assumption | with_reducible refine Fr.alloc ?_ _ | with_reducible refine Fr.drew ?_ | with_reducible refine Fr.drewN ?_ _ | (with_reducible refine Fr.setNew2 ?_ ?_ _; · (simp <;> omega)) | with_reducible refine Fr.trans ?_ (by assumption)))⟩
    · have d2 : decide (z < 0) = false := by simp; omega
      go_enter Try.func28, Try.ntmps28
      go_wp2_with fail
      refine (szInts _ _ _ _ _ hm (by omega) (by omega)).mono ?_
      rintro e w' ⟨rfl, rfl⟩
      rw [e1.out]
      go_wp2_with fail
      refine (szInts _ _ _ _ _ hn (by omega) (by omega)).mono ?_
      rintro e w' ⟨rfl, rfl⟩
      rw [EZ.out]
      go_wp2
      go_ret
      exact ⟨ret_int (by rw [R.out, EZ.out]), by (repeat (first | with_reducible exact Fr.refl _ | with_reducible assumption | with_reducible refine Fr.alloc ?_ _ | with_reducible refine Fr.drew ?_ | with_reducible refine Fr.drewN ?_ _ | (with_reducible refine Fr.setNew2 ?_ ?_ _; · (simp <;> omega)) | with_reducible refine Fr.trans ?_ (by assumption)))⟩
set_option maxRecDepth 100000 in
set_option maxHeartbeats 4000000 in
theorem walkFnExactSelectivity (n : Nat) (e : Ex) (A : Option Addr) (c : Nat) (rows : Int) (D : Option Addr) (ds : List Int) (cd : Nat) (M : Option Addr) (ns : List Int) (cm : Nat) (w : World) (hx : RdSl (rdEx n) w.cell? 5 A e.kids) (hm : e.kids.length ≤ maxLen) (hd : RdSl rdInt w.cell? 1 D ds) (hmm : RdSl rdInt w.cell? 1 M ns) (hdl : ds.length ≤ maxLen) (hml : ns.length ≤ maxLen) :
    Calls Try.prog 11 #[.agg #[.int .i64 e.kind, .int .i64 e.col, .bool e.val.null, .int .i64 e.val.n, .slice A e.kids.length c], .agg #[.int .i64 rows, .slice D ds.length cd, .slice M ns.length cm]] w fun r w' => r = .returned (.bool true) ∧ Fr w w' := by
  have HX := hid hx
  have HD := hid hd
  have HM := hid hmm
  clear hx hd hmm
  rcases exSz_facts n 1048576 e.kids (by omega) (by omega) with h | ⟨h1, h2, hs⟩
  · have R := hid h
    go_enter Try.func11, Try.ntmps11
    go_wp2_with fail
    refine absW fun W hW => ?_
    obtain ⟨BE, BS, F0⟩ := selblk hW
    clear hW
    refine (szEx (szExS n) _ _ _ _ _ (HX.out.fr (rdEx_mono n) F0) hm (by omega) (by omega)).mono ?_
    rintro r w1 ⟨rfl, b1⟩
    rw [R.out]
    go_wp2
    go_ret
    exact ⟨rfl, F0.trans b1⟩
  obtain ⟨lf, elf⟩ : ∃ lf, exSz n 1048576 e.kids = lf := ⟨_, rfl⟩
  rw [elf] at h1 h2
  have ELF := hid elf
  have d0 : decide (lf < 0) = false := by simp; omega
  have HS := hid hs
  clear hs elf
  by_cases hq : lf < (ds.length : Int) + ns.length
  · have e1 := hid (show left3 lf ds.length ns.length = -1 from if_pos hq)
    clear hq
    go_enter Try.func11, Try.ntmps11
    go_wp2_with fail
    refine absW fun W hW => ?_
    obtain ⟨BE, BS, F0⟩ := selblk hW
    clear hW
    refine (szEx (szExS n) _ _ _ _ _ (HX.out.fr (rdEx_mono n) F0) hm (by omega) (by omega)).mono ?_
    rintro r w1 ⟨rfl, b1⟩
    rw [ELF.out]
    obtain ⟨s0, s1, s2, _⟩ := (BS.fr b1).three
    go_wp2_with fail
    refine (szStatsL _ _ _ _ _ _ _ _ _ hdl hml h1 h2).mono ?_
    rintro r w2 ⟨rfl, b2⟩
    rw [e1.out]
    go_wp2
    go_ret
    exact ⟨rfl, F0.trans (b1.trans b2)⟩
  have e1 := hid (show left3 lf ds.length ns.length = lf - ds.length - ns.length from if_neg hq)
  obtain ⟨lg, elg⟩ : ∃ lg, lf - (ds.length : Int) - ns.length = lg := ⟨_, rfl⟩
  have d1 : decide (lg < 0) = false := by simp; omega
  rw [elg] at e1
  have hd6 : ds.length ≤ 1048576 := by omega
  have hm6 : ns.length ≤ 1048576 := by omega
  clear hq elg
  obtain ⟨z, ez⟩ : ∃ z, selP rows ds ns n e = z := ⟨_, rfl⟩
  have EZ := hid ez
  have ev : (z != z) = false := by simp
  clear ez
  go_enter Try.func11, Try.ntmps11
  go_wp2_with fail
  refine absW fun W hW => ?_
  obtain ⟨BE, BS, F0⟩ := selblk hW
  clear hW
  refine (szEx (szExS n) _ _ _ _ _ (HX.out.fr (rdEx_mono n) F0) hm (by omega) (by omega)).mono ?_
  rintro r w1 ⟨rfl, b1⟩
  rw [ELF.out]
  obtain ⟨s0, s1, s2, _⟩ := (BS.fr b1).three
  go_wp2_with fail
  refine (szStatsL _ _ _ _ _ _ _ _ _ hdl hml h1 h2).mono ?_
  rintro r w2 ⟨rfl, b2⟩
  rw [e1.out]
  have b12 := b1.trans b2
  have F2 := F0.trans b12
  clear s0 s1 s2
  obtain ⟨s0, s1, s2, _⟩ := (BS.fr b12).three
  obtain ⟨a0, a1, a2, a3, a4, _⟩ := (BE.fr b12).five
  go_wp2_with fail
  have keepL : ∀ W' : World, Fr w2 W' → (Fr w2 W' ∧ W'.cell? ⟨w.heap.size, 0, none⟩ = some (.int .i64 e.kind) ∧ W'.cell? ⟨w.heap.size, 1, none⟩ = some (.int .i64 e.col) ∧ W'.cell? ⟨w.heap.size, 2, none⟩ = some (.bool e.val.null) ∧ W'.cell? ⟨w.heap.size, 3, none⟩ = some (.int .i64 e.val.n) ∧ W'.cell? ⟨w.heap.size, 4, none⟩ = some (.slice A e.kids.length c) ∧ W'.cell? ⟨w.heap.size + 1, 0, none⟩ = some (.int .i64 rows) ∧ W'.cell? ⟨w.heap.size + 1, 1, none⟩ = some (.slice D ds.length cd) ∧ W'.cell? ⟨w.heap.size + 1, 2, none⟩ = some (.slice M ns.length cm)) := fun W' F => ⟨F, F.cell a0, F.cell a1, F.cell a2, F.cell a3, F.cell a4, F.cell s0, F.cell s1, F.cell s2⟩
  go_region_held3 (fun W' => Fr w2 W' ∧ W'.cell? ⟨w.heap.size, 0, none⟩ = some (.int .i64 e.kind) ∧ W'.cell? ⟨w.heap.size, 1, none⟩ = some (.int .i64 e.col) ∧ W'.cell? ⟨w.heap.size, 2, none⟩ = some (.bool e.val.null) ∧ W'.cell? ⟨w.heap.size, 3, none⟩ = some (.int .i64 e.val.n) ∧ W'.cell? ⟨w.heap.size, 4, none⟩ = some (.slice A e.kids.length c) ∧ W'.cell? ⟨w.heap.size + 1, 0, none⟩ = some (.int .i64 rows) ∧ W'.cell? ⟨w.heap.size + 1, 1, none⟩ = some (.slice D ds.length cd) ∧ W'.cell? ⟨w.heap.size + 1, 2, none⟩ = some (.slice M ns.length cm)) ((refine keepL _ ?_; (repeat (first | with_reducible exact Fr.refl _ | with_reducible assumption | with_reducible refine Fr.alloc ?_ _ | with_reducible refine Fr.drew ?_ | with_reducible refine Fr.drewN ?_ _ | (with_reducible refine Fr.setNew2 ?_ ?_ _; · (simp <;> omega)) | with_reducible refine Fr.trans ?_ (by assumption))); done))
    (first
      | (go_at_call 30; refine (toEx (toExS n) e A c _ (HX.out.fr (rdEx_mono n) (F2.trans (by (repeat (first | with_reducible exact Fr.refl _ | with_reducible assumption | with_reducible refine Fr.alloc ?_ _ | with_reducible refine Fr.drew ?_ | with_reducible refine Fr.drewN ?_ _ | (with_reducible refine Fr.setNew2 ?_ ?_ _; · (simp <;> omega)) | with_reducible refine Fr.trans ?_ (by assumption)))))) HS.out).mono ?_; rintro r w3 ⟨g0, rfl, x0, b3⟩; have X0 := hid (x0.mono (rdEx_mono n) (fromB_le _ _)); clear x0; have F3 : Fr w2 w3 := Fr.trans (by (repeat (first | with_reducible exact Fr.refl _ | with_reducible assumption | with_reducible refine Fr.alloc ?_ _ | with_reducible refine Fr.drew ?_ | with_reducible refine Fr.drewN ?_ _ | (with_reducible refine Fr.setNew2 ?_ ?_ _; · (simp <;> omega)) | with_reducible refine Fr.trans ?_ (by assumption)))) b3)
      | (go_at_call 31; refine (toStats rows D M cd cm ds ns _ (HD.out.fr rdInt_mono (F2.trans (by (repeat (first | with_reducible exact Fr.refl _ | with_reducible assumption | with_reducible refine Fr.alloc ?_ _ | with_reducible refine Fr.drew ?_ | with_reducible refine Fr.drewN ?_ _ | (with_reducible refine Fr.setNew2 ?_ ?_ _; · (simp <;> omega)) | with_reducible refine Fr.trans ?_ (by assumption)))))) (HM.out.fr rdInt_mono (F2.trans (by (repeat (first | with_reducible exact Fr.refl _ | with_reducible assumption | with_reducible refine Fr.alloc ?_ _ | with_reducible refine Fr.drew ?_ | with_reducible refine Fr.drewN ?_ _ | (with_reducible refine Fr.setNew2 ?_ ?_ _; · (simp <;> omega)) | with_reducible refine Fr.trans ?_ (by assumption)))))) hd6 hm6).mono ?_; rintro r w4 ⟨g1, g2, rfl, y1, y2, b4⟩; have Y1 := hid y1; have Y2 := hid y2; clear y1 y2; have F4 : Fr w2 w4 := Fr.trans (by (repeat (first | with_reducible exact Fr.refl _ | with_reducible assumption | with_reducible refine Fr.alloc ?_ _ | with_reducible refine Fr.drew ?_ | with_reducible refine Fr.drewN ?_ _ | (with_reducible refine Fr.setNew2 ?_ ?_ _; · (simp <;> omega)) | with_reducible refine Fr.trans ?_ (by assumption)))) b4; have G4 : Fr w3 w4 := Fr.trans (by (repeat (first | with_reducible exact Fr.refl _ | with_reducible assumption | with_reducible refine Fr.alloc ?_ _ | with_reducible refine Fr.drew ?_ | with_reducible refine Fr.drewN ?_ _ | (with_reducible refine Fr.setNew2 ?_ ?_ _; · (simp <;> omega)) | with_reducible refine Fr.trans ?_ (by assumption)))) b4)
      | (go_at_call 29; refine (specSel n e _ _ rows ds ns _ _ _ _ _ (X0.out.fr (rdEx_mono n) (Fr.trans G4 (by (repeat (first | with_reducible exact Fr.refl _ | with_reducible assumption | with_reducible refine Fr.alloc ?_ _ | with_reducible refine Fr.drew ?_ | with_reducible refine Fr.drewN ?_ _ | (with_reducible refine Fr.setNew2 ?_ ?_ _; · (simp <;> omega)) | with_reducible refine Fr.trans ?_ (by assumption)))))) HS.out (Y1.out.fr rdInt_mono (by (repeat (first | with_reducible exact Fr.refl _ | with_reducible assumption | with_reducible refine Fr.alloc ?_ _ | with_reducible refine Fr.drew ?_ | with_reducible refine Fr.drewN ?_ _ | (with_reducible refine Fr.setNew2 ?_ ?_ _; · (simp <;> omega)) | with_reducible refine Fr.trans ?_ (by assumption))))) (Y2.out.fr rdInt_mono (by (repeat (first | with_reducible exact Fr.refl _ | with_reducible assumption | with_reducible refine Fr.alloc ?_ _ | with_reducible refine Fr.drew ?_ | with_reducible refine Fr.drewN ?_ _ | (with_reducible refine Fr.setNew2 ?_ ?_ _; · (simp <;> omega)) | with_reducible refine Fr.trans ?_ (by assumption))))) hdl hml).mono ?_; rintro r w5 ⟨rfl, b5⟩; rw [EZ.out]; have F5 : Fr w2 w5 := Fr.trans (by (repeat (first | with_reducible exact Fr.refl _ | with_reducible assumption | with_reducible refine Fr.alloc ?_ _ | with_reducible refine Fr.drew ?_ | with_reducible refine Fr.drewN ?_ _ | (with_reducible refine Fr.setNew2 ?_ ?_ _; · (simp <;> omega)) | with_reducible refine Fr.trans ?_ (by assumption)))) b5))
  clear keepL
  replace a0 := F5.cell a0; replace a1 := F5.cell a1; replace a2 := F5.cell a2; replace a3 := F5.cell a3; replace a4 := F5.cell a4; replace s0 := F5.cell s0; replace s1 := F5.cell s1; replace s2 := F5.cell s2
  have F25 := F2.trans F5
  clear F3 F4 G4 b3 b4 b5 X0 Y1 Y2
  go_wp2_with fail
  refine (toEx (toExS n) e A c _ (HX.out.fr (rdEx_mono n) F25) HS.out).mono ?_
  rintro r w6 ⟨k0, rfl, y0, b6⟩
  have Y0 := hid (y0.mono (rdEx_mono n) (fromB_le _ _))
  clear y0
  have K6 : Fr w6 (w6.alloc (.cells #[.int .i64 e.kind, .int .i64 e.col, .bool e.val.null, .int .i64 e.val.n, .slice (some ⟨k0, 0, none⟩) e.kids.length e.kids.length] 27)) := (Fr.refl _).alloc _
  have b7 := b6.trans K6
  have BX := Blk.new w6 27 #[.int .i64 e.kind, .int .i64 e.col, .bool e.val.null, .int .i64 e.val.n, .slice (some ⟨k0, 0, none⟩) e.kids.length e.kids.length]
  replace a0 := b7.cell a0; replace a1 := b7.cell a1; replace a2 := b7.cell a2; replace a3 := b7.cell a3; replace a4 := b7.cell a4; replace s0 := b7.cell s0; replace s1 := b7.cell s1; replace s2 := b7.cell s2
  have F7 := F25.trans b7
  have Y7 := hid (Y0.out.fr (rdEx_mono n) K6)
  go_wp2_with fail
  refine (toStats rows D M cd cm ds ns _ (HD.out.fr rdInt_mono F7) (HM.out.fr rdInt_mono F7) hd6 hm6).mono ?_
  rintro r w8 ⟨k1, k2, rfl, z1, z2, b8⟩
  have Z1 := hid z1
  have Z2 := hid z2
  clear z1 z2
  have K8 : Fr w8 (w8.alloc (.cells #[.int .i64 rows, .slice (some ⟨k1, 0, none⟩) ds.length ds.length, .slice (some ⟨k2, 0, none⟩) ns.length ns.length] 53)) := (Fr.refl _).alloc _
  have b9 := b8.trans K8
  replace a0 := b9.cell a0; replace a1 := b9.cell a1; replace a2 := b9.cell a2; replace a3 := b9.cell a3; replace a4 := b9.cell a4; replace s0 := b9.cell s0; replace s1 := b9.cell s1; replace s2 := b9.cell s2
  obtain ⟨c0, c1, c2, c3, c4, _⟩ := (BX.fr b9).five
  obtain ⟨t0, t1, t2, _⟩ := (Blk.new w8 53 #[.int .i64 rows, .slice (some ⟨k1, 0, none⟩) ds.length ds.length, .slice (some ⟨k2, 0, none⟩) ns.length ns.length]).three
  have F9 := F7.trans b9
  have Y9 := hid (Y7.out.fr (rdEx_mono n) b9)
  have Z19 := hid (Z1.out.fr rdInt_mono K8)
  have Z29 := hid (Z2.out.fr rdInt_mono K8)
  clear b6 K6 b7 BX Y0 Y7 b8 K8 b9 Z1 Z2 F7 F25 F5
  go_wp2_with fail
  refine (implSel n e _ _ rows ds ns _ _ _ _ _ Y9.out HS.out (Nat.le_refl _) Z19.out Z29.out hdl hml).mono ?_
  rintro r w10 ⟨rfl, b10⟩
  rw [EZ.out]
  replace a0 := b10.cell a0; replace a1 := b10.cell a1; replace a2 := b10.cell a2; replace a3 := b10.cell a3; replace a4 := b10.cell a4; replace s0 := b10.cell s0; replace s1 := b10.cell s1; replace s2 := b10.cell s2
  replace c0 := b10.cell c0; replace c1 := b10.cell c1; replace c2 := b10.cell c2; replace c3 := b10.cell c3; replace c4 := b10.cell c4; replace t0 := b10.cell t0; replace t1 := b10.cell t1; replace t2 := b10.cell t2
  have F10 := F9.trans b10
  have Y10 := hid (Y9.out.fr (rdEx_mono n) b10)
  have Z110 := hid (Z19.out.fr rdInt_mono b10)
  have Z210 := hid (Z29.out.fr rdInt_mono b10)
  clear Y9 Z19 Z29 b10 F9
  go_wp2_with fail
  have keepL : ∀ W' : World, Fr w10 W' → (Fr w10 W' ∧ W'.cell? ⟨w.heap.size, 0, none⟩ = some (.int .i64 e.kind) ∧ W'.cell? ⟨w.heap.size, 1, none⟩ = some (.int .i64 e.col) ∧ W'.cell? ⟨w.heap.size, 2, none⟩ = some (.bool e.val.null) ∧ W'.cell? ⟨w.heap.size, 3, none⟩ = some (.int .i64 e.val.n) ∧ W'.cell? ⟨w.heap.size, 4, none⟩ = some (.slice A e.kids.length c) ∧ W'.cell? ⟨w6.heap.size, 0, none⟩ = some (.int .i64 e.kind) ∧ W'.cell? ⟨w6.heap.size, 1, none⟩ = some (.int .i64 e.col) ∧ W'.cell? ⟨w6.heap.size, 2, none⟩ = some (.bool e.val.null) ∧ W'.cell? ⟨w6.heap.size, 3, none⟩ = some (.int .i64 e.val.n) ∧ W'.cell? ⟨w6.heap.size, 4, none⟩ = some (.slice (some ⟨k0, 0, none⟩) e.kids.length e.kids.length)) := fun W' F => ⟨F, F.cell a0, F.cell a1, F.cell a2, F.cell a3, F.cell a4, F.cell c0, F.cell c1, F.cell c2, F.cell c3, F.cell c4⟩
  go_region_held3 (fun W' => Fr w10 W' ∧ W'.cell? ⟨w.heap.size, 0, none⟩ = some (.int .i64 e.kind) ∧ W'.cell? ⟨w.heap.size, 1, none⟩ = some (.int .i64 e.col) ∧ W'.cell? ⟨w.heap.size, 2, none⟩ = some (.bool e.val.null) ∧ W'.cell? ⟨w.heap.size, 3, none⟩ = some (.int .i64 e.val.n) ∧ W'.cell? ⟨w.heap.size, 4, none⟩ = some (.slice A e.kids.length c) ∧ W'.cell? ⟨w6.heap.size, 0, none⟩ = some (.int .i64 e.kind) ∧ W'.cell? ⟨w6.heap.size, 1, none⟩ = some (.int .i64 e.col) ∧ W'.cell? ⟨w6.heap.size, 2, none⟩ = some (.bool e.val.null) ∧ W'.cell? ⟨w6.heap.size, 3, none⟩ = some (.int .i64 e.val.n) ∧ W'.cell? ⟨w6.heap.size, 4, none⟩ = some (.slice (some ⟨k0, 0, none⟩) e.kids.length e.kids.length)) ((refine keepL _ ?_; (repeat (first | with_reducible exact Fr.refl _ | with_reducible assumption | with_reducible refine Fr.alloc ?_ _ | with_reducible refine Fr.drew ?_ | with_reducible refine Fr.drewN ?_ _ | (with_reducible refine Fr.setNew2 ?_ ?_ _; · (simp <;> omega)) | with_reducible refine Fr.trans ?_ (by assumption))); done))
    (first
      | (go_at_call 30; refine (toEx (toExS n) e A c _ (HX.out.fr (rdEx_mono n) (F10.trans (by (repeat (first | with_reducible exact Fr.refl _ | with_reducible assumption | with_reducible refine Fr.alloc ?_ _ | with_reducible refine Fr.drew ?_ | with_reducible refine Fr.drewN ?_ _ | (with_reducible refine Fr.setNew2 ?_ ?_ _; · (simp <;> omega)) | with_reducible refine Fr.trans ?_ (by assumption)))))) HS.out).mono ?_; rintro r w11 ⟨m0, rfl, x0, b11⟩; have X0 := hid (x0.mono (rdEx_mono n) (fromB_le _ _)); clear x0; have F11 : Fr w10 w11 := Fr.trans (by (repeat (first | with_reducible exact Fr.refl _ | with_reducible assumption | with_reducible refine Fr.alloc ?_ _ | with_reducible refine Fr.drew ?_ | with_reducible refine Fr.drewN ?_ _ | (with_reducible refine Fr.setNew2 ?_ ?_ _; · (simp <;> omega)) | with_reducible refine Fr.trans ?_ (by assumption)))) b11)
      | (go_at_call 33; refine (eqEx (eqExS n) e _ _ _ _ _ (Y10.out.fr (rdEx_mono n) (Fr.trans F11 (by (repeat (first | with_reducible exact Fr.refl _ | with_reducible assumption | with_reducible refine Fr.alloc ?_ _ | with_reducible refine Fr.drew ?_ | with_reducible refine Fr.drewN ?_ _ | (with_reducible refine Fr.setNew2 ?_ ?_ _; · (simp <;> omega)) | with_reducible refine Fr.trans ?_ (by assumption)))))) (X0.out.fr (rdEx_mono n) (by (repeat (first | with_reducible exact Fr.refl _ | with_reducible assumption | with_reducible refine Fr.alloc ?_ _ | with_reducible refine Fr.drew ?_ | with_reducible refine Fr.drewN ?_ _ | (with_reducible refine Fr.setNew2 ?_ ?_ _; · (simp <;> omega)) | with_reducible refine Fr.trans ?_ (by assumption))))) HS.out).mono ?_; rintro r w12 ⟨rfl, b12'⟩; have F12 : Fr w10 w12 := Fr.trans (by (repeat (first | with_reducible exact Fr.refl _ | with_reducible assumption | with_reducible refine Fr.alloc ?_ _ | with_reducible refine Fr.drew ?_ | with_reducible refine Fr.drewN ?_ _ | (with_reducible refine Fr.setNew2 ?_ ?_ _; · (simp <;> omega)) | with_reducible refine Fr.trans ?_ (by assumption)))) b12'))
  clear keepL
  replace a0 := F12.cell a0; replace a1 := F12.cell a1; replace a2 := F12.cell a2; replace a3 := F12.cell a3; replace a4 := F12.cell a4; replace s0 := F12.cell s0; replace s1 := F12.cell s1; replace s2 := F12.cell s2
  replace c0 := F12.cell c0; replace c1 := F12.cell c1; replace c2 := F12.cell c2; replace c3 := F12.cell c3; replace c4 := F12.cell c4; replace t0 := F12.cell t0; replace t1 := F12.cell t1; replace t2 := F12.cell t2
  have F13 := F10.trans F12
  have Z112 := hid (Z110.out.fr rdInt_mono F12)
  have Z212 := hid (Z210.out.fr rdInt_mono F12)
  clear Y10 Z110 Z210 F11 F12 b11 b12' X0 F10
  go_wp2_with fail
  have keepL : ∀ W' : World, Fr w12 W' → (Fr w12 W' ∧ W'.cell? ⟨w.heap.size + 1, 0, none⟩ = some (.int .i64 rows) ∧ W'.cell? ⟨w.heap.size + 1, 1, none⟩ = some (.slice D ds.length cd) ∧ W'.cell? ⟨w.heap.size + 1, 2, none⟩ = some (.slice M ns.length cm) ∧ W'.cell? ⟨w8.heap.size, 0, none⟩ = some (.int .i64 rows) ∧ W'.cell? ⟨w8.heap.size, 1, none⟩ = some (.slice (some ⟨k1, 0, none⟩) ds.length ds.length) ∧ W'.cell? ⟨w8.heap.size, 2, none⟩ = some (.slice (some ⟨k2, 0, none⟩) ns.length ns.length)) := fun W' F => ⟨F, F.cell s0, F.cell s1, F.cell s2, F.cell t0, F.cell t1, F.cell t2⟩
  go_region_held3 (fun W' => Fr w12 W' ∧ W'.cell? ⟨w.heap.size + 1, 0, none⟩ = some (.int .i64 rows) ∧ W'.cell? ⟨w.heap.size + 1, 1, none⟩ = some (.slice D ds.length cd) ∧ W'.cell? ⟨w.heap.size + 1, 2, none⟩ = some (.slice M ns.length cm) ∧ W'.cell? ⟨w8.heap.size, 0, none⟩ = some (.int .i64 rows) ∧ W'.cell? ⟨w8.heap.size, 1, none⟩ = some (.slice (some ⟨k1, 0, none⟩) ds.length ds.length) ∧ W'.cell? ⟨w8.heap.size, 2, none⟩ = some (.slice (some ⟨k2, 0, none⟩) ns.length ns.length)) ((refine keepL _ ?_; (repeat (first | with_reducible exact Fr.refl _ | with_reducible assumption | with_reducible refine Fr.alloc ?_ _ | with_reducible refine Fr.drew ?_ | with_reducible refine Fr.drewN ?_ _ | (with_reducible refine Fr.setNew2 ?_ ?_ _; · (simp <;> omega)) | with_reducible refine Fr.trans ?_ (by assumption))); done))
    (first
      | (go_at_call 31; refine (toStats rows D M cd cm ds ns _ (HD.out.fr rdInt_mono (F13.trans (by (repeat (first | with_reducible exact Fr.refl _ | with_reducible assumption | with_reducible refine Fr.alloc ?_ _ | with_reducible refine Fr.drew ?_ | with_reducible refine Fr.drewN ?_ _ | (with_reducible refine Fr.setNew2 ?_ ?_ _; · (simp <;> omega)) | with_reducible refine Fr.trans ?_ (by assumption)))))) (HM.out.fr rdInt_mono (F13.trans (by (repeat (first | with_reducible exact Fr.refl _ | with_reducible assumption | with_reducible refine Fr.alloc ?_ _ | with_reducible refine Fr.drew ?_ | with_reducible refine Fr.drewN ?_ _ | (with_reducible refine Fr.setNew2 ?_ ?_ _; · (simp <;> omega)) | with_reducible refine Fr.trans ?_ (by assumption)))))) hd6 hm6).mono ?_; rintro r w14 ⟨g1', g2', rfl, y1, y2, b14⟩; have Y1 := hid y1; have Y2 := hid y2; clear y1 y2; have F14 : Fr w12 w14 := Fr.trans (by (repeat (first | with_reducible exact Fr.refl _ | with_reducible assumption | with_reducible refine Fr.alloc ?_ _ | with_reducible refine Fr.drew ?_ | with_reducible refine Fr.drewN ?_ _ | (with_reducible refine Fr.setNew2 ?_ ?_ _; · (simp <;> omega)) | with_reducible refine Fr.trans ?_ (by assumption)))) b14)
      | (go_at_call 34; refine (eqStats rows _ _ _ _ _ _ _ _ ds ns _ (Z112.out.fr rdInt_mono (Fr.trans F14 (by (repeat (first | with_reducible exact Fr.refl _ | with_reducible assumption | with_reducible refine Fr.alloc ?_ _ | with_reducible refine Fr.drew ?_ | with_reducible refine Fr.drewN ?_ _ | (with_reducible refine Fr.setNew2 ?_ ?_ _; · (simp <;> omega)) | with_reducible refine Fr.trans ?_ (by assumption)))))) (Z212.out.fr rdInt_mono (Fr.trans F14 (by (repeat (first | with_reducible exact Fr.refl _ | with_reducible assumption | with_reducible refine Fr.alloc ?_ _ | with_reducible refine Fr.drew ?_ | with_reducible refine Fr.drewN ?_ _ | (with_reducible refine Fr.setNew2 ?_ ?_ _; · (simp <;> omega)) | with_reducible refine Fr.trans ?_ (by assumption)))))) (Y1.out.fr rdInt_mono (by (repeat (first | with_reducible exact Fr.refl _ | with_reducible assumption | with_reducible refine Fr.alloc ?_ _ | with_reducible refine Fr.drew ?_ | with_reducible refine Fr.drewN ?_ _ | (with_reducible refine Fr.setNew2 ?_ ?_ _; · (simp <;> omega)) | with_reducible refine Fr.trans ?_ (by assumption))))) (Y2.out.fr rdInt_mono (by (repeat (first | with_reducible exact Fr.refl _ | with_reducible assumption | with_reducible refine Fr.alloc ?_ _ | with_reducible refine Fr.drew ?_ | with_reducible refine Fr.drewN ?_ _ | (with_reducible refine Fr.setNew2 ?_ ?_ _; · (simp <;> omega)) | with_reducible refine Fr.trans ?_ (by assumption))))) hdl hml).mono ?_; rintro r w15 ⟨rfl, b15⟩; have F15 : Fr w12 w15 := Fr.trans (by (repeat (first | with_reducible exact Fr.refl _ | with_reducible assumption | with_reducible refine Fr.alloc ?_ _ | with_reducible refine Fr.drew ?_ | with_reducible refine Fr.drewN ?_ _ | (with_reducible refine Fr.setNew2 ?_ ?_ _; · (simp <;> omega)) | with_reducible refine Fr.trans ?_ (by assumption)))) b15))
  clear keepL
  go_wp2
  go_ret
  exact ⟨rfl, F13.trans F15⟩
end Go.Proofs.Ytkkmfmeocigijaa
