/- Walk of the law FnExactCountRow. -/
import Derived.Test.YtdkeblhkdekfjaaCountW
import Derived.Test.YtdkeblhkdekfjaaLaw
import Derived.Deep.RegionWith
namespace Go.Proofs.Ytdkeblhkdekfjaa
open Go Go.RowKit
set_option maxRecDepth 100000 in
set_option maxHeartbeats 2000000 in
theorem walkFnExactCountRow (wd : Int) (A0 : Option Addr) (c0 : Nat) (rows : List (List V)) (B : Option Addr) (c : Nat) (row : List V) (w : World) (hx0 : RdSl rdRow w.cell? 1 A0 rows) (hm0 : rows.length ≤ maxLen) (hy : RdSl rdV w.cell? 2 B row) (hmr : row.length ≤ maxLen) :
    Calls Try.prog 10 #[.agg #[.int .i64 wd, .slice A0 rows.length c0], .slice B row.length c] w fun e w' => e = .returned (.bool true) ∧ Fr w w' := by
  have HX0 := hid hx0
  have HY := hid hy
  clear hx0 hy
  have BA := hid (Blk.new w 76 #[.int .i64 wd, .slice A0 rows.length c0])
  have F0 : Fr w (w.alloc (.cells #[.int .i64 wd, .slice A0 rows.length c0] 76)) := (Fr.refl _).alloc _
  rcases szSS_facts (rows := rows) (left := 1048576) (by omega) (by omega) with h | ⟨h1, h2, hl0⟩
  · have R := hid h
    go_enter Try.func10, Try.ntmps10
    go_wp2_with fail
    refine (szTable _ _ _ _ _ _ (HX0.out.fr rdRow_mono F0) hm0 (by omega) (by omega)).mono ?_
    rintro e w1 ⟨rfl, b1⟩
    rw [R.out]
    go_wp2
    go_ret
    exact ⟨rfl, F0.trans b1⟩
  · have d0 : decide (szSS 1048576 rows < 0) = false := by simp; omega
    by_cases hq : szSS 1048576 rows < (row.length : Int)
    · have e1 : (if szSS 1048576 rows < (row.length : Int) then (-1 : Int) else szSS 1048576 rows - row.length) = -1 := by rw [if_pos hq]
      go_enter Try.func10, Try.ntmps10
      go_wp2_with fail
      refine (szTable _ _ _ _ _ _ (HX0.out.fr rdRow_mono F0) hm0 (by omega) (by omega)).mono ?_
      rintro e w1 ⟨rfl, b1⟩
      go_wp2_with fail
      refine (szVS _ _ _ _ _ hmr h1 h2).mono ?_
      rintro e w' ⟨rfl, rfl⟩
      rw [e1]
      go_wp2
      go_ret
      exact ⟨rfl, F0.trans b1⟩
    · have e1 : (if szSS 1048576 rows < (row.length : Int) then (-1 : Int) else szSS 1048576 rows - row.length) = szSS 1048576 rows - row.length := by rw [if_neg hq]
      have d1 : decide (szSS 1048576 rows - (row.length : Int) < 0) = false := by simp; omega
      have hlr : row.length ≤ 1048576 := by omega
      go_enter Try.func10, Try.ntmps10
      go_wp2_with fail
      refine (szTable _ _ _ _ _ _ (HX0.out.fr rdRow_mono F0) hm0 (by omega) (by omega)).mono ?_
      rintro e w1 ⟨rfl, b1⟩
      obtain ⟨a0, a1, _⟩ := (BA.out.fr b1).pair
      have F1 := F0.trans b1
      go_wp2_with fail
      refine (szVS _ _ _ _ _ hmr h1 h2).mono ?_
      rintro e w' ⟨rfl, rfl⟩
      rw [e1]
      go_wp2_with fail
      refine (toTable _ _ _ _ _ (HX0.out.fr rdRow_mono F1) hl0).mono ?_
      rintro e w2 ⟨g0, rfl, x0, b2⟩
      clear a0 a1
      have X0 := hid (x0.mono rdRow_mono (fromB_le _ _))
      clear x0
      have F2 := F1.trans b2
      go_wp2_with fail
      refine (toVS' _ _ _ _ (HY.out.fr rdV_mono F2) hlr).mono ?_
      rintro e w3 ⟨g3, rfl, y3, b3⟩
      have Y3 := hid y3
      clear y3
      go_wp2_with fail
      refine (specCountRow _ _ _ _ _ _ _ _ (X0.out.fr rdRow_mono b3) hl0 Y3.out hlr).mono ?_
      rintro e w4 ⟨rfl, b4⟩
      have F4 := (F2.trans b3).trans b4
      obtain ⟨a0, a1, _⟩ := (BA.out.fr (((b1.trans b2).trans b3).trans b4)).pair
      go_wp2_with fail
      refine (toTable _ _ _ _ _ (HX0.out.fr rdRow_mono F4) hl0).mono ?_
      rintro e w5 ⟨k0, rfl, y0, b5⟩
      clear a0 a1
      have Y0 := hid (y0.mono rdRow_mono (fromB_le _ _))
      clear y0
      have F5 := F4.trans b5
      go_wp2_with fail
      refine absW fun W6 hW6 => ?_
      have B6 : Blk W6 w5.heap.size 81 #[.int .i64 wd, .slice (some ⟨k0, 0, none⟩) rows.length rows.length] := by rw [hW6]; exact Blk.new _ _ _
      have b6 : Fr w5 W6 := by rw [hW6]; (repeat (first | with_reducible exact Fr.refl _ | with_reducible assumption | with_reducible refine Fr.alloc ?_ _ | with_reducible refine Fr.drew ?_ | with_reducible refine Fr.drewN ?_ _ | (with_reducible refine Fr.setNew2 ?_ ?_ _; · (simp <;> omega)) | with_reducible refine Fr.trans ?_ (by assumption)))
      clear hW6
      refine (toVS' _ _ _ _ (HY.out.fr rdV_mono (F5.trans b6)) hlr).mono ?_
      rintro e w7 ⟨g7, rfl, y7, b7⟩
      have Y7 := hid y7
      clear y7
      obtain ⟨d0', d1', _⟩ := (B6.fr b7).pair
      go_wp2_with fail
      refine (implCountRow _ _ _ _ _ _ _ _ (Y0.out.fr rdRow_mono (b6.trans b7)) hl0 (Nat.le_refl _) hl0.1 Y7.out hlr).mono ?_
      rintro e w8 ⟨rfl, b8⟩
      have F8 := ((F5.trans b6).trans b7).trans b8
      have b18 := ((((((b1.trans b2).trans b3).trans b4).trans b5).trans b6).trans b7).trans b8
      clear d0' d1'
      obtain ⟨d0', d1', _⟩ := (B6.fr (b7.trans b8)).pair
      obtain ⟨a0, a1, _⟩ := (BA.out.fr b18).pair
      have Z0 := hid (Y0.out.fr rdRow_mono ((b6.trans b7).trans b8))
      have Y8 := hid (Y7.out.fr rdV_mono b8)
      clear F5 b6 b7 b8 b18 F4 F2 b5 b4 b3 b2
      have ev : decide (row = row) = true := by simp
      go_wp2_with fail
      first | (go_region_with (first
        | (go_at_call 44; refine (toTable _ _ _ _ _ (HX0.out.fr rdRow_mono F8.drew) hl0).mono ?_; rintro e w9 ⟨m0, rfl, z0, b9⟩; have U0 := hid (z0.mono rdRow_mono (fromB_le _ _)); clear z0; have F9 := F8.drew.trans b9; have T0 := hid (Z0.out.fr rdRow_mono ((Fr.refl _).drew.trans b9)); have q0 := b9.cell d0'; have q1 := b9.cell d1'; have Y9 := hid (Y8.out.fr rdV_mono ((Fr.refl _).drew.trans b9)))
        | (go_at_call 46; refine (eqTable _ _ _ _ _ _ _ T0.out U0.out hl0).mono ?_; rintro e w10 ⟨rfl, b10⟩; have F10 := F9.trans b10))) | fail
      all_goals go_wp2_with fail
      all_goals refine (toVS' _ _ _ _ (HY.out.fr rdV_mono F10) hlr).mono ?_
      all_goals rintro e w11 ⟨g11, rfl, y11, b11⟩
      all_goals have Y11 := hid y11
      all_goals clear y11
      all_goals go_wp2_with fail
      all_goals refine (eqVS _ _ _ _ _ _ _ (Y9.out.fr rdV_mono (b10.trans b11)) Y11.out hlr hlr).mono ?_
      all_goals rintro e w12 ⟨rfl, b12⟩
      all_goals go_wp2
      all_goals go_ret
      all_goals exact ⟨rfl, (F10.trans b11).trans b12⟩
end Go.Proofs.Ytdkeblhkdekfjaa
