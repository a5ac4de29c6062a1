/- Walks of the generators of expressions: DrawEvalExpr, DrawExprSize. -/
import Derived.Test.YtmceafkedepjfaaExprH
import Derived.Deep.RegionWith
namespace Go.Proofs.Ytmceafkedepjfaa
open Go Go.RowKit

/-- What an expression drawn is worth to a law: its kids lie in memory. -/
def ExprOut (w : World) (r : Ending) (w' : World) : Prop := ∃ (e : Ex) (A : Option Addr) (c : Nat), r = .returned (.agg #[.int .i64 e.kind, .int .i64 e.col, .bool e.val.null, .int .i64 e.val.n, .slice A e.kids.length c]) ∧ RdSl (rdEx 3) w'.cell? 5 A e.kids ∧ e.kids.length ≤ c ∧ exSm 3 e.kids ∧ e.kids.length ≤ 2 ∧ Fr w w'
def EvalOut (w : World) (r : Ending) (w' : World) : Prop := ∃ (e : Ex) (A : Option Addr) (c : Nat) (B : Option Addr) (rc : Nat) (row : List V), r = .returned (.tuple #[.agg #[.int .i64 e.kind, .int .i64 e.col, .bool e.val.null, .int .i64 e.val.n, .slice A e.kids.length c], .slice B row.length rc]) ∧ RdSl (rdEx 3) w'.cell? 5 A e.kids ∧ e.kids.length ≤ c ∧ exSm 3 e.kids ∧ e.kids.length ≤ 2 ∧ RdSl rdV w'.cell? 2 B row ∧ row.length ≤ 7 ∧ Fr w w'
theorem expr_out {w W : World} {r : Ending} {x : Ex × Option Addr × Nat} (hr : r = .returned (.agg #[.int .i64 x.1.kind, .int .i64 x.1.col, .bool x.1.val.null, .int .i64 x.1.val.n, .slice x.2.1 x.1.kids.length x.2.2])) (hK : KidsOk 3 W.cell? x) (hS : exSm 3 x.1.kids) (hL : x.1.kids.length ≤ 2) (hF : Fr w W) : ExprOut w r W :=
  ⟨x.1, x.2.1, x.2.2, hr, hK.1, hK.2.2, hS, hL, hF⟩
theorem eval_out {w W : World} {r : Ending} {x : Ex × Option Addr × Nat} {B : Option Addr} {rc : Nat} {row : List V} (hr : r = .returned (.tuple #[.agg #[.int .i64 x.1.kind, .int .i64 x.1.col, .bool x.1.val.null, .int .i64 x.1.val.n, .slice x.2.1 x.1.kids.length x.2.2], .slice B row.length rc])) (hK : KidsOk 3 W.cell? x) (hS : exSm 3 x.1.kids) (hL : x.1.kids.length ≤ 2) (hR : RdSl rdV W.cell? 2 B row) (hl : row.length ≤ 7) (hF : Fr w W) : EvalOut w r W :=
  ⟨x.1, x.2.1, x.2.2, B, rc, row, hr, hK.1, hK.2.2, hS, hL, hR, hl, hF⟩
set_option maxRecDepth 100000 in
set_option maxHeartbeats 1000000 in
theorem drawEvalExpr (A : Option Addr) (cap : Nat) (xs : List Nat) (w : World) (hx : RdSl rdByte w.cell? 1 A xs) (hl : xs.length ≤ 1048576) (hc : xs.length ≤ cap) :
    Calls Try.prog 6 #[.slice A xs.length cap] w (EvalOut w) := by
  have hk3 : kpick 3 = 67 := rfl
  have H := hid hx
  clear hx
  have BR0 := Blk.new w 27 #[.int .i64 0, .int .i64 0, .bool false, .int .i64 0, .slice none 0 0]
  have F0 : Fr w (w.alloc (.cells #[.int .i64 0, .int .i64 0, .bool false, .int .i64 0, .slice none 0 0] 27)) := (Fr.refl _).alloc _
  go_enter Try.func6, Try.ntmps6
  go_wp2_with fail
  refine (newReader _ _ _ _ (H.out.mono rdByte_mono F0.mle) hl hc).mono ?_
  rintro e w1 ⟨r, rfl, hr, hr1, b1⟩
  have hlt := hr1.lt
  have BR1 := BR0.fr b1
  have hrr : w.heap.size < r := by simp at hr; omega
  go_wp2_with fail
  refine (pick _ _ _ _ hr1 (by omega) (by omega)).mono ?_
  rintro e w2 ⟨y, rfl, hy, hr2, hc2⟩
  have hy3 : y < 3 := by omega
  have W2 := hid (show (1 + (y : Int)) = ((1 + y : Nat) : Int) by simp)
  have F2 : Fr w w2 := hc2.fr (fun k hk => by omega) (F0.trans b1)
  have BR2 := BR1.ch hc2 (by omega)
  have hs2 := hc2.size
  clear hy hr1
  go_wp2_with fail
  rw [W2.out]
  refine (anyExpr (1 + y) r _ _ hr2 (by omega) (by omega) (by omega)).mono ?_
  rintro e w3 ⟨x, rfl, hx, hxs, hxl, p3, hp3, hr3, hc3⟩
  have F3 : Fr w w3 := hc3.fr (fun k hk => by omega) F2
  have BR3 := BR2.ch hc3 (by omega)
  have hs3 := hc3.size
  have hrl := hr2.lt
  have HX := hid (And.intro hx (And.intro hxs hxl))
  clear hx hxs hxl hr2
  have B6 := Blk.new w3 27 #[.int .i64 x.1.kind, .int .i64 x.1.col, .bool x.1.val.null, .int .i64 x.1.val.n, .slice x.2.1 x.1.kids.length x.2.2]
  have hr4 := hr3.alloc (.cells #[.int .i64 x.1.kind, .int .i64 x.1.col, .bool x.1.val.null, .int .i64 x.1.val.n, .slice x.2.1 x.1.kids.length x.2.2] 27)
  have F4 : Fr w (w3.alloc (.cells #[.int .i64 x.1.kind, .int .i64 x.1.col, .bool x.1.val.null, .int .i64 x.1.val.n, .slice x.2.1 x.1.kids.length x.2.2] 27)) := F3.alloc _
  have BR4 := BR3.alloc (.cells #[.int .i64 x.1.kind, .int .i64 x.1.col, .bool x.1.val.null, .int .i64 x.1.val.n, .slice x.2.1 x.1.kids.length x.2.2] 27)
  have HX4 := hid (HX.out.1.mono (((Fr.refl w3).alloc (.cells #[.int .i64 x.1.kind, .int .i64 x.1.col, .bool x.1.val.null, .int .i64 x.1.val.n, .slice x.2.1 x.1.kids.length x.2.2] 27)).mle_from _))
  go_wp2_with fail
  generalize w3.alloc (.cells #[.int .i64 x.1.kind, .int .i64 x.1.col, .bool x.1.val.null, .int .i64 x.1.val.n, .slice x.2.1 x.1.kids.length x.2.2] 27) = W4 at B6 hr4 F4 BR4 HX4 ⊢
  obtain ⟨a0, a1, a2, a3, a4, _⟩ := B6.five
  have hg6 := B6.lt
  first | (go_region_with (first
    | (go_at_call 26; rw [W2.out]; refine (anyRow (1 + y) r _ _ hr4.drew (by omega) (by omega) (by omega)).mono ?_; rintro e w5 ⟨g, o, c5, bs, rfl, hb, hBB, p5, hp5, hr5, hc5⟩; obtain ⟨q0, q1, q2, q3, q4, _⟩ := (B6.drew.ch hc5 (by omega)).five; obtain ⟨z0, z1, z2, z3, z4, f0, f1, f2, f3, f4⟩ := (BR4.drew.ch hc5 (by omega)).five))) | fail
  all_goals have HX5 := hid (HX4.out.mono (Ch.mle_from ((Fr.refl W4).drew.ch.trans hc5) (fun k hk => by omega)))
  all_goals have F5 : Fr w w5 := hc5.fr (fun k hk => by omega) F4.drew
  all_goals have hs5 := hc5.size
  all_goals have HB := hid hBB
  all_goals clear hBB
  all_goals go_wp2
  all_goals exact bodyPost_ret (v := .tuple #[.agg #[.int .i64 x.1.kind, .int .i64 x.1.col, .bool x.1.val.null, .int .i64 x.1.val.n, .slice x.2.1 x.1.kids.length x.2.2], .slice (some ⟨g, o, none⟩) bs.length c5]) (by simp [results, Try.results6, go_sem, z0, z1, z2, z3, z4]) rfl (eval_out (x := x) (rc := c5) (row := bs) rfl ((HX5.out.mono (Ch.mle_from (chSet (chSet (chSet (chSet (chSet (Ch.refl _)))))) (fun k hk => by omega))).mono (fromB_le _ _)) HX.out.2.1 HX.out.2.2 ((HB.out.mono rdV_mono (Ch.mle_from (chSet (chSet (chSet (chSet (chSet (Ch.refl _)))))) (fun k hk => by simp; omega))).mono rdV_mono (fromB_le _ _)) hb (by (repeat (first | with_reducible exact Fr.refl _ | with_reducible assumption | with_reducible refine Fr.alloc ?_ _ | with_reducible refine Fr.drew ?_ | with_reducible refine Fr.drewN ?_ _ | (with_reducible refine Fr.setNew2 ?_ ?_ _; · (simp <;> omega)) | with_reducible refine Fr.trans ?_ (by assumption)))))
end Go.Proofs.Ytmceafkedepjfaa
