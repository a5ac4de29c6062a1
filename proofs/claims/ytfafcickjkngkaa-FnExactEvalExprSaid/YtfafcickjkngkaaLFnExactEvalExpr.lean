/- Walk of the law FnExactEvalExpr. -/
import Derived.Test.YtfafcickjkngkaaEvalK
import Derived.Test.YtfafcickjkngkaaLaw
import Derived.Deep.RegionWith
namespace Go.Proofs.Ytfafcickjkngkaa
open Go Go.RowKit
set_option maxRecDepth 100000 in
set_option maxHeartbeats 4000000 in
theorem walkFnExactEvalExpr (n : Nat) (e : Ex) (A : Option Addr) (c : Nat) (B : Option Addr) (rc : Nat) (row : List V) (w : World) (hx : RdSl (rdEx n) w.cell? 5 A e.kids) (hm : e.kids.length ≤ maxLen) (hy : RdSl rdV w.cell? 2 B row) (hmr : row.length ≤ maxLen) :
    Calls Try.prog 5 #[.agg #[.int .i64 e.kind, .int .i64 e.col, .bool e.val.null, .int .i64 e.val.n, .slice A e.kids.length c], .slice B row.length rc] w fun r w' => r = .returned (.bool true) ∧ Fr w w' := by
  have HX := hid hx
  have HY := hid hy
  clear hx hy
  have BA := hid (Blk.new w 26 #[.int .i64 e.kind, .int .i64 e.col, .bool e.val.null, .int .i64 e.val.n, .slice A e.kids.length c])
  have F0 : Fr w (w.alloc (.cells #[.int .i64 e.kind, .int .i64 e.col, .bool e.val.null, .int .i64 e.val.n, .slice A e.kids.length c] 26)) := (Fr.refl _).alloc _
  rcases exSz_facts n 1048576 e.kids (by omega) (by omega) with h | ⟨h1, h2, hs⟩
  · have R := hid h
    go_enter Try.func5, Try.ntmps5
    go_wp2_with fail
    refine (szEx (szExS n) _ _ _ _ _ (HX.out.fr (rdEx_mono n) F0) hm (by omega) (by omega)).mono ?_
    rintro r w1 ⟨rfl, b1⟩
    rw [R.out]
    go_wp2
    go_ret
    exact ⟨rfl, F0.trans b1⟩
  · have d0 : decide (exSz n 1048576 e.kids < 0) = false := by simp; omega
    have HS := hid hs
    clear hs
    by_cases hq : exSz n 1048576 e.kids < (row.length : Int)
    · have e1 := hid (show (if exSz n 1048576 e.kids < (row.length : Int) then (-1 : Int) else exSz n 1048576 e.kids - row.length) = -1 by rw [if_pos hq])
      go_enter Try.func5, Try.ntmps5
      go_wp2_with fail
      refine (szEx (szExS n) _ _ _ _ _ (HX.out.fr (rdEx_mono n) F0) hm (by omega) (by omega)).mono ?_
      rintro r w1 ⟨rfl, b1⟩
      go_wp2_with fail
      refine (szVS _ _ _ _ _ hmr h1 h2).mono ?_
      rintro r w' ⟨rfl, rfl⟩
      rw [e1.out]
      go_wp2
      go_ret
      exact ⟨rfl, F0.trans b1⟩
    · have e1 := hid (show (if exSz n 1048576 e.kids < (row.length : Int) then (-1 : Int) else exSz n 1048576 e.kids - row.length) = exSz n 1048576 e.kids - row.length by rw [if_neg hq])
      have d1 : decide (exSz n 1048576 e.kids - (row.length : Int) < 0) = false := by simp; omega
      have hlr : row.length ≤ 1048576 := by omega
      obtain ⟨rn, hrn⟩ : ∃ rn, (evRes row n e).null = rn := ⟨_, rfl⟩
      obtain ⟨rx, hrx⟩ : ∃ rx, (evRes row n e).n = rx := ⟨_, rfl⟩
      obtain ⟨rk, hrk⟩ : ∃ rk, evOk row n e = rk := ⟨_, rfl⟩
      have HR := hid (And.intro hrn (And.intro hrx hrk))
      clear hrn hrx hrk
      have ev1 : (rk != rk) = false := by simp
      go_enter Try.func5, Try.ntmps5
      go_wp2_with fail
      refine (szEx (szExS n) _ _ _ _ _ (HX.out.fr (rdEx_mono n) F0) hm (by omega) (by omega)).mono ?_
      rintro r w1 ⟨rfl, b1⟩
      obtain ⟨a0, a1, a2, a3, a4, _⟩ := (BA.out.fr b1).five
      have F1 := F0.trans b1
      go_wp2_with fail
      refine (szVS _ _ _ _ _ hmr h1 h2).mono ?_
      rintro r w' ⟨rfl, rfl⟩
      rw [e1.out]
      go_wp2_with fail
      refine (toEx (toExS n) _ _ _ _ (HX.out.fr (rdEx_mono n) F1) HS.out).mono ?_
      rintro r w2 ⟨g0, rfl, x0, b2⟩
      clear a0 a1 a2 a3 a4
      have X0 := hid (x0.mono (rdEx_mono n) (fromB_le _ _))
      clear x0
      have F2 := F1.trans b2
      go_wp2_with fail
      refine (toVS' _ _ _ _ (HY.out.fr rdV_mono F2) hlr).mono ?_
      rintro r w3 ⟨g3, rfl, y3, b3⟩
      have Y3 := hid y3
      clear y3
      go_wp2_with fail
      refine (specEvalExpr _ _ _ _ _ _ _ _ (X0.out.fr (rdEx_mono n) b3) HS.out Y3.out hlr).mono ?_
      rintro r w4 ⟨rfl, b4⟩
      rw [HR.out.1, HR.out.2.1, HR.out.2.2]
      have F4 := (F2.trans b3).trans b4
      have b14 := ((b1.trans b2).trans b3).trans b4
      have K4 : Fr w4 (w4.alloc (.cells #[.bool rn, .int .i64 rx] 29)) := by (repeat (first | with_reducible exact Fr.refl _ | with_reducible assumption | with_reducible refine Fr.alloc ?_ _ | with_reducible refine Fr.drew ?_ | with_reducible refine Fr.drewN ?_ _ | (with_reducible refine Fr.setNew2 ?_ ?_ _; · (simp <;> omega)) | with_reducible refine Fr.trans ?_ (by assumption)))
      have BW := Blk.new w4 29 #[.bool rn, .int .i64 rx]
      obtain ⟨a0, a1, a2, a3, a4, _⟩ := (BA.out.fr (b14.trans K4)).five
      go_wp2_with fail
      refine absW fun W5 hW5 => ?_
      have F5 : Fr w W5 := by rw [hW5]; exact F4.trans K4
      have b15 : Fr (w.alloc (.cells #[.int .i64 e.kind, .int .i64 e.col, .bool e.val.null, .int .i64 e.val.n, .slice A e.kids.length c] 26)) W5 := by rw [hW5]; exact b14.trans K4
      rw [← hW5] at BW
      clear hW5 a0 a1 a2 a3 a4 b14 K4 F4
      refine (toEx (toExS n) _ _ _ _ (HX.out.fr (rdEx_mono n) F5) HS.out).mono ?_
      rintro r w6 ⟨k0, rfl, y0, b6⟩
      have Y0 := hid (y0.mono (rdEx_mono n) (fromB_le _ _))
      clear y0
      have F6 := F5.trans b6
      go_wp2_with fail
      refine absW fun W7 hW7 => ?_
      have B7 : Blk W7 w6.heap.size 32 #[.int .i64 e.kind, .int .i64 e.col, .bool e.val.null, .int .i64 e.val.n, .slice (some ⟨k0, 0, none⟩) e.kids.length e.kids.length] := by rw [hW7]; exact Blk.new _ _ _
      have b7 : Fr w6 W7 := by rw [hW7]; (repeat (first | with_reducible exact Fr.refl _ | with_reducible assumption | with_reducible refine Fr.alloc ?_ _ | with_reducible refine Fr.drew ?_ | with_reducible refine Fr.drewN ?_ _ | (with_reducible refine Fr.setNew2 ?_ ?_ _; · (simp <;> omega)) | with_reducible refine Fr.trans ?_ (by assumption)))
      clear hW7
      refine (toVS' _ _ _ _ (HY.out.fr rdV_mono (F6.trans b7)) hlr).mono ?_
      rintro r w8 ⟨g8, rfl, y8, b8⟩
      have Y8 := hid y8
      clear y8
      obtain ⟨c0, c1, c2, c3, c4, _⟩ := (B7.fr b8).five
      go_wp2_with fail
      refine (implEvalExpr _ _ _ _ _ _ _ _ (Y0.out.fr (rdEx_mono n) (b7.trans b8)) HS.out (Nat.le_refl _) Y8.out hlr).mono ?_
      rintro r w9 ⟨rfl, b9⟩
      rw [HR.out.1, HR.out.2.1, HR.out.2.2]
      clear c0 c1 c2 c3 c4
      have K9 : Fr w9 (w9.alloc (.cells #[.bool rn, .int .i64 rx] 29)) := by (repeat (first | with_reducible exact Fr.refl _ | with_reducible assumption | with_reducible refine Fr.alloc ?_ _ | with_reducible refine Fr.drew ?_ | with_reducible refine Fr.drewN ?_ _ | (with_reducible refine Fr.setNew2 ?_ ?_ _; · (simp <;> omega)) | with_reducible refine Fr.trans ?_ (by assumption)))
      have BG := Blk.new w9 29 #[.bool rn, .int .i64 rx]
      have b59 := ((b6.trans b7).trans b8).trans b9
      have F9 := F5.trans b59
      obtain ⟨v0, v1, _⟩ := (BW.fr (b59.trans K9)).pair
      go_wp2_with fail
      refine absW fun W10 hW10 => ?_
      have F10 : Fr w W10 := by rw [hW10]; exact F9.trans K9
      have b10 : Fr w9 W10 := by rw [hW10]; exact K9
      clear hW10 v0 v1 K9
      refine (eqV _ _ _ _ _).mono ?_
      rintro r w11 ⟨rfl, b11⟩
      rw [show (decide (rn = rn) && decide (rx = rx)) = true by simp]
      have b9' := (b8.trans b9).trans (b10.trans b11)
      have F11 := F10.trans b11
      obtain ⟨c0, c1, c2, c3, c4, _⟩ := (B7.fr b9').five
      obtain ⟨a0, a1, a2, a3, a4, _⟩ := (BA.out.fr ((b15.trans b59).trans (b10.trans b11))).five
      have Z0 := hid (Y0.out.fr (rdEx_mono n) (b7.trans b9'))
      have Y11 := hid (Y8.out.fr rdV_mono (b9.trans (b10.trans b11)))
      clear b1 b2 b3 b4 b15 b59 b9' b10 b11 b9 b8 b7 b6 F9 F10 F6 F5 F2 F1
      go_wp2_with fail
      first | (go_region_with (first
        | (go_at_call 8; refine (toEx (toExS n) _ _ _ _ (HX.out.fr (rdEx_mono n) F11.drew) HS.out).mono ?_; rintro r w12 ⟨m0, rfl, z0, b12⟩; have U0 := hid (z0.mono (rdEx_mono n) (fromB_le _ _)); clear z0; have F12 := F11.drew.trans b12; have T0 := hid (Z0.out.fr (rdEx_mono n) ((Fr.refl _).drew.trans b12)); have q0 := b12.cell c0; have q1 := b12.cell c1; have q2 := b12.cell c2; have q3 := b12.cell c3; have q4 := b12.cell c4; have Y12 := hid (Y11.out.fr rdV_mono ((Fr.refl _).drew.trans b12)))
        | (go_at_call 10; refine (eqEx (eqExS n) _ _ _ _ _ _ T0.out U0.out HS.out).mono ?_; rintro r w13 ⟨rfl, b13⟩; have F13 := F12.trans b13))) | fail
      all_goals go_wp2_with fail
      all_goals refine (toVS' _ _ _ _ (HY.out.fr rdV_mono F13) hlr).mono ?_
      all_goals rintro r w14 ⟨g14, rfl, y14, b14⟩
      all_goals have Y14 := hid y14
      all_goals clear y14
      all_goals go_wp2_with fail
      all_goals refine (eqVS _ _ _ _ _ _ _ (Y12.out.fr rdV_mono (b13.trans b14)) Y14.out hlr hlr).mono ?_
      all_goals rintro r w15 ⟨rfl, b15⟩
      all_goals rw [show decide (row = row) = true by simp]
      all_goals go_wp2
      all_goals go_ret
      all_goals exact ⟨rfl, (F13.trans b14).trans b15⟩
end Go.Proofs.Ytfafcickjkngkaa
