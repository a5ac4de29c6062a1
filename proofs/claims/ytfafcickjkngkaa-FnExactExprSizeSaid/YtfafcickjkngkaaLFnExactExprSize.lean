/- Walk of the law FnExactExprSize. -/
import Derived.Test.YtfafcickjkngkaaExprS
import Derived.Test.YtfafcickjkngkaaLaw
import Derived.Deep.RegionWith
namespace Go.Proofs.Ytfafcickjkngkaa
open Go Go.RowKit
set_option maxRecDepth 100000 in
set_option maxHeartbeats 2000000 in
theorem walkFnExactExprSize (n : Nat) (e : Ex) (A : Option Addr) (c : Nat) (w : World) (hx : RdSl (rdEx n) w.cell? 5 A e.kids) (hm : e.kids.length ≤ maxLen) :
    Calls Try.prog 4 #[.agg #[.int .i64 e.kind, .int .i64 e.col, .bool e.val.null, .int .i64 e.val.n, .slice A e.kids.length c]] w fun r w' => r = .returned (.bool true) ∧ Fr w w' := by
  have HX := hid hx
  clear hx
  have BA := hid (Blk.new w 26 #[.int .i64 e.kind, .int .i64 e.col, .bool e.val.null, .int .i64 e.val.n, .slice A e.kids.length c])
  have F0 : Fr w (w.alloc (.cells #[.int .i64 e.kind, .int .i64 e.col, .bool e.val.null, .int .i64 e.val.n, .slice A e.kids.length c] 26)) := (Fr.refl _).alloc _
  rcases exSz_facts n 1048576 e.kids (by omega) (by omega) with h | ⟨h1, h2, hs⟩
  · have R := hid h
    go_enter Try.func4, Try.ntmps4
    go_wp2_with fail
    refine (szEx (szExS n) _ _ _ _ _ (HX.out.fr (rdEx_mono n) F0) hm (by omega) (by omega)).mono ?_
    rintro r w1 ⟨rfl, b1⟩
    rw [R.out]
    go_wp2
    go_ret
    exact ⟨rfl, F0.trans b1⟩
  · have d0 : decide (exSz n 1048576 e.kids < 0) = false := by simp; omega
    have HS := hid hs
    clear hs
    go_enter Try.func4, Try.ntmps4
    go_wp2_with fail
    refine (szEx (szExS n) _ _ _ _ _ (HX.out.fr (rdEx_mono n) F0) hm (by omega) (by omega)).mono ?_
    rintro r w1 ⟨rfl, b1⟩
    obtain ⟨a0, a1, a2, a3, a4, _⟩ := (BA.out.fr b1).five
    have F1 := F0.trans b1
    go_wp2_with fail
    refine (toEx (toExS n) _ _ _ _ (HX.out.fr (rdEx_mono n) F1) HS.out).mono ?_
    rintro r w2 ⟨g0, rfl, x0, b2⟩
    clear a0 a1 a2 a3 a4
    have X0 := hid (x0.mono (rdEx_mono n) (fromB_le _ _))
    clear x0
    go_wp2_with fail
    refine (specExprSize _ _ _ _ _ X0.out HS.out).mono ?_
    rintro r w3 ⟨rfl, b3⟩
    have F3 := (F1.trans b2).trans b3
    obtain ⟨a0, a1, a2, a3, a4, _⟩ := (BA.out.fr ((b1.trans b2).trans b3)).five
    go_wp2_with fail
    refine (toEx (toExS n) _ _ _ _ (HX.out.fr (rdEx_mono n) F3) HS.out).mono ?_
    rintro r w4 ⟨k0, rfl, y0, b4⟩
    clear a0 a1 a2 a3 a4
    have Y0 := hid (y0.mono (rdEx_mono n) (fromB_le _ _))
    clear y0
    have F4 := F3.trans b4
    go_wp2_with fail
    refine absW fun W5 hW5 => ?_
    have B5 : Blk W5 w4.heap.size 32 #[.int .i64 e.kind, .int .i64 e.col, .bool e.val.null, .int .i64 e.val.n, .slice (some ⟨k0, 0, none⟩) e.kids.length e.kids.length] := by rw [hW5]; exact Blk.new _ _ _
    have b5 : Fr w4 W5 := by rw [hW5]; (repeat (first | with_reducible exact Fr.refl _ | with_reducible assumption | with_reducible refine Fr.alloc ?_ _ | with_reducible refine Fr.drew ?_ | with_reducible refine Fr.drewN ?_ _ | (with_reducible refine Fr.setNew2 ?_ ?_ _; · (simp <;> omega)) | with_reducible refine Fr.trans ?_ (by assumption)))
    clear hW5
    refine (implExprSize _ _ _ _ _ (Y0.out.fr (rdEx_mono n) b5) HS.out (Nat.le_refl _)).mono ?_
    rintro r w6 ⟨rfl, b6⟩
    have F6 := (F4.trans b5).trans b6
    obtain ⟨c0, c1, c2, c3, c4, _⟩ := (B5.fr b6).five
    obtain ⟨a0, a1, a2, a3, a4, _⟩ := (BA.out.fr (((((b1.trans b2).trans b3).trans b4).trans b5).trans b6)).five
    have Z0 := hid (Y0.out.fr (rdEx_mono n) (b5.trans b6))
    clear F4 b6
    go_wp2_with fail
    first | (go_region_with (first
      | (go_at_call 8; refine (toEx (toExS n) _ _ _ _ (HX.out.fr (rdEx_mono n) F6.drew) HS.out).mono ?_; rintro r w7 ⟨m0, rfl, z0, b7⟩; have U0 := hid (z0.mono (rdEx_mono n) (fromB_le _ _)); clear z0; have F7 := F6.drew.trans b7; have T0 := hid (Z0.out.fr (rdEx_mono n) ((Fr.refl _).drew.trans b7)); have q0 := b7.cell c0; have q1 := b7.cell c1; have q2 := b7.cell c2; have q3 := b7.cell c3; have q4 := b7.cell c4)
      | (go_at_call 10; refine (eqEx (eqExS n) _ _ _ _ _ _ T0.out U0.out HS.out).mono ?_; rintro r w8 ⟨rfl, b8⟩; have F8 := F7.trans b8))) | fail
    all_goals go_wp2
    all_goals go_ret
    all_goals exact ⟨rfl, F8⟩
end Go.Proofs.Ytfafcickjkngkaa
