/- Walk of the law FnExactValidGraph. -/
import Derived.Test.YtdkeblhkdekfjaaGraphW
import Derived.Test.YtdkeblhkdekfjaaLaw
import Derived.Deep.RegionWith
namespace Go.Proofs.Ytdkeblhkdekfjaa
open Go Go.RowKit
theorem lft2_yes {m n : Nat} (h : m + n ≤ 1048576) : lft2 1048576 m n = 1048576 - ((m + n : Nat) : Int) := if_neg (by omega)
theorem lft2_no {m n : Nat} (h : ¬ m + n ≤ 1048576) : lft2 1048576 m n = -1 := if_pos (by omega)
set_option maxRecDepth 100000 in
set_option maxHeartbeats 2000000 in
theorem walkFnExactValidGraph (A0 : Option Addr) (c0 : Nat) (rs : List Int) (A1 : Option Addr) (c1 : Nat) (es : List Edge) (w : World) (hx0 : RdSl rdInt w.cell? 1 A0 rs) (hx1 : RdSl rdEdge w.cell? 3 A1 es) (hm0 : rs.length ≤ maxLen) (hm1 : es.length ≤ maxLen) :
    Calls Try.prog 5 #[.agg #[.slice A0 rs.length c0, .slice A1 es.length c1]] w fun e w' => e = .returned (.bool true) ∧ Fr w w' := by
  have HX0 := hid hx0
  have HX1 := hid hx1
  clear hx0 hx1
  have BA := hid (Blk.new w 40 #[.slice A0 rs.length c0, .slice A1 es.length c1])
  have F0 : Fr w (w.alloc (.cells #[.slice A0 rs.length c0, .slice A1 es.length c1] 40)) := (Fr.refl _).alloc _
  by_cases hs : rs.length + es.length ≤ 1048576
  · have hl0 : rs.length ≤ 1048576 := by omega
    have hl1 : es.length ≤ 1048576 := by omega
    have HS := hid hs
    clear hs
    go_enter Try.func5, Try.ntmps5
    go_wp2_with fail
    refine (szGraph _ _ _ _ _ _ _ _ hm0 hm1 (by omega) (by omega)).mono ?_
    rintro e w1 ⟨rfl, b1⟩
    rw [lft2_yes HS.out]
    have hs := HS.out
    obtain ⟨a0, a1, _⟩ := (BA.out.fr b1).pair
    have F1 := F0.trans b1
    go_wp2_with fail
    refine (toGraph _ _ _ _ _ _ _ (HX0.out.fr rdInt_mono F1) (HX1.out.fr rdEdge_mono F1) hl0 hl1).mono ?_
    rintro e w2 ⟨g0, g1, rfl, x0, x1, b2⟩
    clear a0 a1
    have X0 := hid (x0.mono rdInt_mono (fromB_le _ _))
    have X1 := hid (x1.mono rdEdge_mono (fromB_le _ _))
    clear x0 x1
    go_wp2_with fail
    refine (specValidGraph _ _ _ _ _ _ _ X0.out X1.out hl0 hl1).mono ?_
    rintro e w3 ⟨rfl, b3⟩
    have F3 := (F1.trans b2).trans b3
    obtain ⟨a0, a1, _⟩ := (BA.out.fr ((b1.trans b2).trans b3)).pair
    go_wp2_with fail
    refine (toGraph _ _ _ _ _ _ _ (HX0.out.fr rdInt_mono F3) (HX1.out.fr rdEdge_mono F3) hl0 hl1).mono ?_
    rintro e w4 ⟨k0, k1, rfl, y0, y1, b4⟩
    clear a0 a1
    have Y0 := hid (y0.mono rdInt_mono (fromB_le _ _))
    have Y1 := hid (y1.mono rdEdge_mono (fromB_le _ _))
    clear y0 y1
    have F4 := F3.trans b4
    go_wp2_with fail
    refine absW fun W5 hW5 => ?_
    have B5 : Blk W5 w4.heap.size 45 #[.slice (some ⟨k0, 0, none⟩) rs.length rs.length, .slice (some ⟨k1, 0, none⟩) es.length es.length] := by rw [hW5]; exact Blk.new _ _ _
    have b5 : Fr w4 W5 := by rw [hW5]; (repeat (first | with_reducible exact Fr.refl _ | with_reducible assumption | with_reducible refine Fr.alloc ?_ _ | with_reducible refine Fr.drew ?_ | with_reducible refine Fr.drewN ?_ _ | (with_reducible refine Fr.setNew2 ?_ ?_ _; · (simp <;> omega)) | with_reducible refine Fr.trans ?_ (by assumption)))
    clear hW5
    refine (implValidGraph _ _ _ _ _ _ _ (Y0.out.fr rdInt_mono b5) (Y1.out.fr rdEdge_mono b5) hl0 hl1).mono ?_
    rintro e w6 ⟨rfl, b6⟩
    have F6 := (F4.trans b5).trans b6
    obtain ⟨d0, d1, _⟩ := (B5.fr b6).pair
    obtain ⟨a0, a1, _⟩ := (BA.out.fr (((((b1.trans b2).trans b3).trans b4).trans b5).trans b6)).pair
    have Z0 := hid (Y0.out.fr rdInt_mono (b5.trans b6))
    have Z1 := hid (Y1.out.fr rdEdge_mono (b5.trans b6))
    clear F4 b6
    go_wp2_with fail
    first | (go_region_with (first
      | (go_at_call 26; refine (toGraph _ _ _ _ _ _ _ (HX0.out.fr rdInt_mono F6.drew) (HX1.out.fr rdEdge_mono F6.drew) hl0 hl1).mono ?_; rintro e w7 ⟨m0, m1, rfl, z0, z1, b7⟩; have U0 := hid (z0.mono rdInt_mono (fromB_le _ _)); have U1 := hid (z1.mono rdEdge_mono (fromB_le _ _)); clear z0 z1; have F7 := F6.drew.trans b7; have T0 := hid (Z0.out.fr rdInt_mono ((Fr.refl _).drew.trans b7)); have T1 := hid (Z1.out.fr rdEdge_mono ((Fr.refl _).drew.trans b7)); have q0 := b7.cell d0; have q1 := b7.cell d1)
      | (go_at_call 28; refine (eqGraph _ _ _ _ _ _ _ _ _ _ _ T0.out T1.out U0.out U1.out hl0 hl1).mono ?_; rintro e w8 ⟨rfl, b8⟩; have F8 := F7.trans b8))) | fail
    all_goals go_wp2
    all_goals go_ret
    all_goals exact ⟨rfl, F8⟩
  · go_enter Try.func5, Try.ntmps5
    go_wp2_with fail
    refine (szGraph _ _ _ _ _ _ _ _ hm0 hm1 (by omega) (by omega)).mono ?_
    rintro e w1 ⟨rfl, b1⟩
    rw [lft2_no hs]
    go_wp2
    go_ret
    exact ⟨rfl, F0.trans b1⟩
end Go.Proofs.Ytdkeblhkdekfjaa
