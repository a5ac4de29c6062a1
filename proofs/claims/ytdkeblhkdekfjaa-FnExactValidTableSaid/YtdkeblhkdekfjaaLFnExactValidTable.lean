/- Walk of the law FnExactValidTable. -/
import Derived.Test.YtdkeblhkdekfjaaTableW
import Derived.Test.YtdkeblhkdekfjaaLaw
import Derived.Deep.RegionWith
namespace Go.Proofs.Ytdkeblhkdekfjaa
open Go Go.RowKit
set_option maxRecDepth 100000 in
set_option maxHeartbeats 2000000 in
theorem walkFnExactValidTable (wd : Int) (A0 : Option Addr) (c0 : Nat) (rows : List (List V)) (w : World) (hx0 : RdSl rdRow w.cell? 1 A0 rows) (hm0 : rows.length ≤ maxLen) :
    Calls Try.prog 9 #[.agg #[.int .i64 wd, .slice A0 rows.length c0]] w fun e w' => e = .returned (.bool true) ∧ Fr w w' := by
  have HX0 := hid hx0
  clear hx0
  have BA := hid (Blk.new w 76 #[.int .i64 wd, .slice A0 rows.length c0])
  have F0 : Fr w (w.alloc (.cells #[.int .i64 wd, .slice A0 rows.length c0] 76)) := (Fr.refl _).alloc _
  rcases szSS_facts (rows := rows) (left := 1048576) (by omega) (by omega) with h | ⟨h1, h2, hl0⟩
  · have R := hid h
    go_enter Try.func9, Try.ntmps9
    go_wp2_with fail
    refine (szTable _ _ _ _ _ _ (HX0.out.fr rdRow_mono F0) hm0 (by omega) (by omega)).mono ?_
    rintro e w1 ⟨rfl, b1⟩
    rw [R.out]
    go_wp2
    go_ret
    exact ⟨rfl, F0.trans b1⟩
  · have d0 : decide (szSS 1048576 rows < 0) = false := by simp; omega
    go_enter Try.func9, Try.ntmps9
    go_wp2_with fail
    refine (szTable _ _ _ _ _ _ (HX0.out.fr rdRow_mono F0) hm0 (by omega) (by omega)).mono ?_
    rintro e w1 ⟨rfl, b1⟩
    obtain ⟨a0, a1, _⟩ := (BA.out.fr b1).pair
    have F1 := F0.trans b1
    go_wp2_with fail
    refine (toTable _ _ _ _ _ (HX0.out.fr rdRow_mono F1) hl0).mono ?_
    rintro e w2 ⟨g0, rfl, x0, b2⟩
    clear a0 a1
    have X0 := hid (x0.mono rdRow_mono (fromB_le _ _))
    clear x0
    go_wp2_with fail
    refine (specValidTable _ _ _ _ _ X0.out hl0).mono ?_
    rintro e w3 ⟨rfl, b3⟩
    have F3 := (F1.trans b2).trans b3
    obtain ⟨a0, a1, _⟩ := (BA.out.fr ((b1.trans b2).trans b3)).pair
    go_wp2_with fail
    refine (toTable _ _ _ _ _ (HX0.out.fr rdRow_mono F3) hl0).mono ?_
    rintro e w4 ⟨k0, rfl, y0, b4⟩
    clear a0 a1
    have Y0 := hid (y0.mono rdRow_mono (fromB_le _ _))
    clear y0
    have F4 := F3.trans b4
    go_wp2_with fail
    refine absW fun W5 hW5 => ?_
    have B5 : Blk W5 w4.heap.size 81 #[.int .i64 wd, .slice (some ⟨k0, 0, none⟩) rows.length rows.length] := by rw [hW5]; exact Blk.new _ _ _
    have b5 : Fr w4 W5 := by rw [hW5]; (repeat (first | with_reducible exact Fr.refl _ | with_reducible assumption | with_reducible refine Fr.alloc ?_ _ | with_reducible refine Fr.drew ?_ | with_reducible refine Fr.drewN ?_ _ | (with_reducible refine Fr.setNew2 ?_ ?_ _; · (simp <;> omega)) | with_reducible refine Fr.trans ?_ (by assumption)))
    clear hW5
    refine (implValidTable _ _ _ _ _ (Y0.out.fr rdRow_mono b5) hl0).mono ?_
    rintro e w6 ⟨rfl, b6⟩
    have F6 := (F4.trans b5).trans b6
    obtain ⟨d0', d1, _⟩ := (B5.fr b6).pair
    obtain ⟨a0, a1, _⟩ := (BA.out.fr (((((b1.trans b2).trans b3).trans b4).trans b5).trans b6)).pair
    have Z0 := hid (Y0.out.fr rdRow_mono (b5.trans b6))
    clear F4 b6
    go_wp2_with fail
    first | (go_region_with (first
      | (go_at_call 44; refine (toTable _ _ _ _ _ (HX0.out.fr rdRow_mono F6.drew) hl0).mono ?_; rintro e w7 ⟨m0, rfl, z0, b7⟩; have U0 := hid (z0.mono rdRow_mono (fromB_le _ _)); clear z0; have F7 := F6.drew.trans b7; have T0 := hid (Z0.out.fr rdRow_mono ((Fr.refl _).drew.trans b7)); have q0 := b7.cell d0'; have q1 := b7.cell d1)
      | (go_at_call 46; refine (eqTable _ _ _ _ _ _ _ T0.out U0.out hl0).mono ?_; rintro e w8 ⟨rfl, b8⟩; have F8 := F7.trans b8))) | fail
    all_goals go_wp2
    all_goals go_ret
    all_goals exact ⟨rfl, F8⟩
end Go.Proofs.Ytdkeblhkdekfjaa
