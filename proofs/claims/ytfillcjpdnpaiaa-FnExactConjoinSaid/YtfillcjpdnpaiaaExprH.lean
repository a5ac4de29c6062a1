/- Walks of the generators of expressions: anyExpr. -/
import Derived.Test.YtfillcjpdnpaiaaExprG
namespace Go.Proofs.Ytfillcjpdnpaiaa
open Go Go.RowKit

theorem win_chS {S : Nat → Prop} {w w' : World} {lo hi : Nat} (hc : Ch S w w') (hS : ∀ k, S k → k < lo ∨ hi ≤ k) (hh : hi ≤ w.heap.size) : Mle (win w lo hi) (win w' lo hi) := win_blk fun k h1 h2 => hc.block k (by omega) (fun e => by have := hS k e; omega)
theorem anyBlk {w W : World} {xs : Array Value} {t t' : TypeId} {Z : Array Value} {g : Nat} (hZ : Blk w g t' Z) (hW : W = w.alloc (.cells xs t)) : Blk W w.heap.size t xs ∧ Blk W g t' Z ∧ Fr w W ∧ g ≠ w.heap.size := by
  subst hW
  exact ⟨Blk.new w t xs, hZ.alloc _, (Fr.refl w).alloc _, by have := hZ.lt; omega⟩
set_option maxRecDepth 100000 in
set_option maxHeartbeats 2000000 in
theorem anyExpr (wd : Nat) (r p : Nat) (w : World) (hr : Rdr w r p) (hp : p ≤ 100000) (h1 : 1 ≤ wd) (h7 : wd ≤ 7) :
    Calls Try.prog 54 #[.pointer (some ⟨r, 0, none⟩), .int .i64 wd] w (DrawnE 3 (kpick 3 + 10) r p w) := by
  have hk3 : kpick 3 = 67 := rfl
  have hlt := hr.lt
  have BR0 := Blk.new w 33 #[.int .i64 0, .int .i64 0, .bool false, .int .i64 0, .slice none 0 0]
  have hr0 := hr.alloc (.cells #[.int .i64 0, .int .i64 0, .bool false, .int .i64 0, .slice none 0 0] 33)
  have hC0 : Ch (· = r) w (w.alloc (.cells #[.int .i64 0, .int .i64 0, .bool false, .int .i64 0, .slice none 0 0] 33)) := (Ch.refl w).alloc _
  have hs0 : w.heap.size < (w.alloc (.cells #[.int .i64 0, .int .i64 0, .bool false, .int .i64 0, .slice none 0 0] 33)).heap.size := by simp
  clear hr
  go_enter Try.func54, Try.ntmps54
  go_wp2_with fail
  refine (randomExpr 3 wd r p _ hr0 (by omega) h1 h7 (by omega)).mono ?_
  rintro e w1 ⟨x, rfl, hx, hxs, hxl, p1, hp1, hr1, hc1⟩
  have hC1 := hC0.trans hc1
  have BR1 := BR0.ch hc1 (by omega)
  have HX := hid (And.intro ((hx.mono (fromB_lo (show w.heap.size + 1 ≤ _ by omega))).mono from_win) (And.intro hxs hxl))
  clear hx hxs hxl hr0
  go_wp2_with fail
  refine absW fun W2 hW2 => ?_
  obtain ⟨B5, B4, F2, hne⟩ := anyBlk BR1 hW2
  have hC2 := hC1.trans F2.ch
  have hr2 := hr1.fr F2
  have HX2 := hid (HX.out.1.mono (win_ch (r := r) F2.ch (by omega) (Nat.le_refl _)))
  have hs1 := hC1.size
  have hg5 : w.heap.size + 1 ≤ w1.heap.size := by have := BR1.lt; omega
  clear hW2
  refine (pick _ _ _ _ hr2 (by omega) (by omega)).mono ?_
  rintro e w3 ⟨k, rfl, hk, hr3, hc3⟩
  have B53 := B5.ch hc3 (by have := hC1.size; omega)
  have B43 := B4.ch hc3 (by omega)
  have hC3 := hC2.trans hc3
  have hsw : w1.heap.size ≤ W2.heap.size := F2.size
  have HX3 := hid (HX2.out.mono (win_ch hc3 (by omega) hsw))
  have hs3 := hC3.size
  have hsw3 := hc3.size
  clear hr2 hk B5 B4
  cases e0 : ((k : Int) == 0)
  · cases e1 : ((k : Int) == 1)
    · cases e2 : ((k : Int) == 2)
      · obtain ⟨a0, a1, a2, a3, a4, _⟩ := B53.five
        obtain ⟨z0, z1, z2, z3, z4, f0, f1, f2, f3, f4⟩ := B43.five
        have HXF := HX3
        go_wp2
        exact bodyPost_ret (v := .agg #[.int .i64 x.1.kind, .int .i64 x.1.col, .bool x.1.val.null, .int .i64 x.1.val.n, .slice x.2.1 x.1.kids.length x.2.2]) (by simp [results, Try.results54, go_sem, z0, z1, z2, z3, z4]) rfl ⟨x, rfl, (HXF.out.mono (win_chS (S := (· = w.heap.size)) (chSet (chSet (chSet (chSet (chSet (Ch.refl _)))))) (fun k hk => .inl (by omega)) (by first | omega | (simp; omega)))).mono (win_le.trans (fromB_lo (by omega))), HX.out.2.1, HX.out.2.2, p1 + 1, by omega, by (repeat (first | with_reducible assumption | with_reducible refine Rdr.alloc ?_ _ | with_reducible refine Rdr.drew ?_ | (with_reducible refine Rdr.set2 ?_ ?_ _; · (simp <;> omega)))), by (repeat (first | with_reducible exact Ch.refl _ | with_reducible assumption | with_reducible refine Ch.alloc ?_ _ | with_reducible refine Ch.drew ?_ | (with_reducible refine Ch.setNew2 ?_ ?_ _; · (simp <;> omega)) | with_reducible refine Ch.trans ?_ (by assumption)))⟩
      · go_wp2_with fail
        refine (anyValue _ _ _ hr3 (by omega)).mono ?_
        rintro e w4 ⟨b, m, rfl, _, p4, hp4, hr4, hc4⟩
        have hC4 := hC3.trans hc4
        have hs4 := hc4.size
        obtain ⟨a0, a1, a2, a3, a4, fa0, fa1, fa2, fa3, fa4⟩ := (B53.ch hc4 (by omega)).five
        obtain ⟨z0, z1, z2, z3, z4, f0, f1, f2, f3, f4⟩ := (B43.ch hc4 (by omega)).five
        have HXF := hid (((HX3.out.mono (win_ch hc4 (by omega) (by omega))).mono (win_chS (S := (· = w1.heap.size)) (chSet (o := 2) (u := .bool b) (Ch.refl _)) (fun k hk => .inr (by omega)) (by omega))).mono (win_chS (S := (· = w1.heap.size)) (chSet (o := 3) (u := .int .i64 m) (Ch.refl _)) (fun k hk => .inr (by omega)) (by first | omega | (simp; omega))))
        go_wp2
        exact bodyPost_ret (v := .agg #[.int .i64 x.1.kind, .int .i64 x.1.col, .bool b, .int .i64 m, .slice x.2.1 x.1.kids.length x.2.2]) (by simp [results, Try.results54, go_sem, z0, z1, z2, z3, z4]) rfl ⟨(Ex.mk x.1.kind x.1.col ⟨b, m⟩ x.1.kids, x.2), rfl, (HXF.out.mono (win_chS (S := (· = w.heap.size)) (chSet (chSet (chSet (chSet (chSet (Ch.refl _)))))) (fun k hk => .inl (by omega)) (by first | omega | (simp; omega)))).mono (win_le.trans (fromB_lo (by omega))), HX.out.2.1, HX.out.2.2, p4, by omega, by (repeat (first | with_reducible assumption | with_reducible refine Rdr.alloc ?_ _ | with_reducible refine Rdr.drew ?_ | (with_reducible refine Rdr.set2 ?_ ?_ _; · (simp <;> omega)))), by (repeat (first | with_reducible exact Ch.refl _ | with_reducible assumption | with_reducible refine Ch.alloc ?_ _ | with_reducible refine Ch.drew ?_ | (with_reducible refine Ch.setNew2 ?_ ?_ _; · (simp <;> omega)) | with_reducible refine Ch.trans ?_ (by assumption)))⟩
    · go_wp2_with fail
      refine (one _ _ [-1, 6, (wd : Int)] r (p1 + 1) _ (hr3.alloc _) (by omega) (lit_ints (by omega)) (by simp) (by simp)).mono ?_
      rintro e w4 ⟨m, _, rfl, hr4, hc4⟩
      have hC4 := (hC3.alloc _).trans hc4
      have hs4 := hc4.size
      simp only [World.size_alloc] at hs4
      obtain ⟨a0, a1, a2, a3, a4, fa0, fa1, fa2, fa3, fa4⟩ := ((B53.alloc _).ch hc4 (by omega)).five
      obtain ⟨z0, z1, z2, z3, z4, f0, f1, f2, f3, f4⟩ := ((B43.alloc _).ch hc4 (by omega)).five
      have HXF := hid (((HX3.out.mono (win_ch (r := r) ((Fr.refl w3).alloc _).ch (by omega) (by omega))).mono (win_ch hc4 (by omega) (by simp; omega))).mono (win_chS (S := (· = w1.heap.size)) (chSet (o := 1) (u := .int .i64 m) (Ch.refl _)) (fun k hk => .inr (by omega)) (by omega)))
      go_wp2
      exact bodyPost_ret (v := .agg #[.int .i64 x.1.kind, .int .i64 m, .bool x.1.val.null, .int .i64 x.1.val.n, .slice x.2.1 x.1.kids.length x.2.2]) (by simp [results, Try.results54, go_sem, z0, z1, z2, z3, z4]) rfl ⟨(Ex.mk x.1.kind m x.1.val x.1.kids, x.2), rfl, (HXF.out.mono (win_chS (S := (· = w.heap.size)) (chSet (chSet (chSet (chSet (chSet (Ch.refl _)))))) (fun k hk => .inl (by omega)) (by first | omega | (simp; omega)))).mono (win_le.trans (fromB_lo (by omega))), HX.out.2.1, HX.out.2.2, p1 + 1 + 1, by omega, by (repeat (first | with_reducible assumption | with_reducible refine Rdr.alloc ?_ _ | with_reducible refine Rdr.drew ?_ | (with_reducible refine Rdr.set2 ?_ ?_ _; · (simp <;> omega)))), by (repeat (first | with_reducible exact Ch.refl _ | with_reducible assumption | with_reducible refine Ch.alloc ?_ _ | with_reducible refine Ch.drew ?_ | (with_reducible refine Ch.setNew2 ?_ ?_ _; · (simp <;> omega)) | with_reducible refine Ch.trans ?_ (by assumption)))⟩
  · go_wp2_with fail
    refine (one _ _ [0, 12, 3, 10] r (p1 + 1) _ (hr3.alloc _) (by omega) (lit_ints (by omega)) (by decide) (by decide)).mono ?_
    rintro e w4 ⟨m, _, rfl, hr4, hc4⟩
    have hC4 := (hC3.alloc _).trans hc4
    have hs4 := hc4.size
    simp only [World.size_alloc] at hs4
    obtain ⟨a0, a1, a2, a3, a4, fa0, fa1, fa2, fa3, fa4⟩ := ((B53.alloc _).ch hc4 (by omega)).five
    obtain ⟨z0, z1, z2, z3, z4, f0, f1, f2, f3, f4⟩ := ((B43.alloc _).ch hc4 (by omega)).five
    have HXF := hid (((HX3.out.mono (win_ch (r := r) ((Fr.refl w3).alloc _).ch (by omega) (by omega))).mono (win_ch hc4 (by omega) (by simp; omega))).mono (win_chS (S := (· = w1.heap.size)) (chSet (o := 0) (u := .int .i64 m) (Ch.refl _)) (fun k hk => .inr (by omega)) (by omega)))
    go_wp2
    exact bodyPost_ret (v := .agg #[.int .i64 m, .int .i64 x.1.col, .bool x.1.val.null, .int .i64 x.1.val.n, .slice x.2.1 x.1.kids.length x.2.2]) (by simp [results, Try.results54, go_sem, z0, z1, z2, z3, z4]) rfl ⟨(Ex.mk m x.1.col x.1.val x.1.kids, x.2), rfl, (HXF.out.mono (win_chS (S := (· = w.heap.size)) (chSet (chSet (chSet (chSet (chSet (Ch.refl _)))))) (fun k hk => .inl (by omega)) (by first | omega | (simp; omega)))).mono (win_le.trans (fromB_lo (by omega))), HX.out.2.1, HX.out.2.2, p1 + 1 + 1, by omega, by (repeat (first | with_reducible assumption | with_reducible refine Rdr.alloc ?_ _ | with_reducible refine Rdr.drew ?_ | (with_reducible refine Rdr.set2 ?_ ?_ _; · (simp <;> omega)))), by (repeat (first | with_reducible exact Ch.refl _ | with_reducible assumption | with_reducible refine Ch.alloc ?_ _ | with_reducible refine Ch.drew ?_ | (with_reducible refine Ch.setNew2 ?_ ?_ _; · (simp <;> omega)) | with_reducible refine Ch.trans ?_ (by assumption)))⟩
end Go.Proofs.Ytfillcjpdnpaiaa
