/- The reference's PlanAt. -/
import Derived.Test.YtlmiadeaiiehaaaPlA
import Derived.Test.YtlmiadeaiiehaaaPlS
namespace Go.Proofs.Ytlmiadeaiiehaaa
open Go Go.RowKit

/-- What PlanAt answers. -/
def res (e : Pl) (path : List Int) : Pl × Bool := if 8 < path.length then (zeroP, false) else match part e path with
  | none => (zeroP, false)
  | some q => (q, true)
theorem res_long {e : Pl} {path : List Int} (h : 8 < path.length) : res e path = (zeroP, false) := if_pos h
theorem res_none {e : Pl} {path : List Int} (h : part e path = none) : res e path = (zeroP, false) := by
  unfold res
  split
  · rfl
  · rw [h]
theorem res_some {e q : Pl} {path : List Int} (hl : path.length ≤ 8) (h : part e path = some q) : res e path = (q, true) := by
  unfold res
  rw [if_neg (by omega), h]
theorem tot_nil' (n : Nat) : tot n [] = 0 := by cases n <;> simp [tot, sumT]
theorem szT_nil (n : Nat) : szT n [] = 0 := by cases n <;> simp [szT, sumP]
theorem ndT_zero (n : Nat) : ndT n zeroP = 0 := by
  show tot n [] + 0 + szT n [] = 0
  rw [tot_nil', szT_nil]
/-- The answer in memory that is new since w. -/
def PAns (n : Nat) (e : Pl) (path : List Int) (w : World) (r : Ending) (w' : World) : Prop := ∃ s : Sl3, r = .returned (.tuple #[plV (res e path).1 s, .bool (res e path).2]) ∧ PlOk (n - path.length) (fromB w' w.heap.size) (res e path).1 s ∧ ndT (n - path.length) (res e path).1 ≤ 1048576
theorem pans_zero {n : Nat} {e : Pl} {path : List Int} {w w' : World} (h : res e path = (zeroP, false)) : PAns n e path w (.returned (.tuple #[plV zeroP zeroS, .bool false])) w' := by
  refine ⟨zeroS, ?_⟩
  rw [h]
  exact ⟨rfl, zero_ok, by rw [ndT_zero]; omega⟩
theorem specPlanAtAns (n : Nat) (e : Pl) (s : Sl3) (AP : Option Addr) (cp : Nat) (path : List Int) (w : World) (hx : PlOk n w.cell? e s) (hs : ndT n e ≤ 1048576) (hp : RdSl rdInt w.cell? 1 AP path) (hm : path.length ≤ 1048576) :
    Calls Try.prog 15 #[plV e s, .slice AP path.length cp] w fun r w' => PAns n e path w r w' ∧ Fr w w' := by
  have HX := hid hx
  have HP := hid hp
  have HSM := hid hs
  clear hx hp hs
  unfold plV
  have F2 : Fr w ((w.alloc (.cells #[.int .i64 e.kind, .int .i64 e.table, .slice s.a0 e.exprs.length s.c0, .slice s.a1 e.cols.length s.c1, .slice s.a2 e.kids.length s.c2] 47)).alloc (.cells #[.int .i64 0, .int .i64 0, .slice none 0 0, .slice none 0 0, .slice none 0 0] 47)) := ((Fr.refl _).alloc _).alloc _
  have BR := blk_new1 w (.cells #[.int .i64 e.kind, .int .i64 e.table, .slice s.a0 e.exprs.length s.c0, .slice s.a1 e.cols.length s.c1, .slice s.a2 e.kids.length s.c2] 47) 47 #[.int .i64 0, .int .i64 0, .slice none 0 0, .slice none 0 0, .slice none 0 0]
  by_cases hl : path.length ≤ 8
  · go_enter Try.func15, Try.ntmps15
    go_wp2_with fail
    generalize (w.alloc (.cells #[.int .i64 e.kind, .int .i64 e.table, .slice s.a0 e.exprs.length s.c0, .slice s.a1 e.cols.length s.c1, .slice s.a2 e.kids.length s.c2] 47)).alloc (.cells #[.int .i64 0, .int .i64 0, .slice none 0 0, .slice none 0 0, .slice none 0 0] 47) = W0 at F2 BR ⊢
    refine (specPlanAt n e s AP cp path W0 (HX.out.fr F2) HSM.out (HP.out.fr rdInt_mono F2) hl).mono ?_
    rintro r w1 ⟨h, b1⟩
    have F1 := F2.trans b1
    obtain ⟨z0, z1, z2, z3, z4, f0, f1, f2, f3, f4⟩ := (BR.fr b1).five
    rcases h with ⟨h1, rfl⟩ | ⟨q, sq, l, h1, h2, rfl, h3, h4⟩
    · have R := hid (res_none h1)
      have hlt := (BR.fr b1).lt
      clear h1
      rw [show plV zeroP zeroS = .agg #[.int .i64 0, .int .i64 0, .slice none 0 0, .slice none 0 0, .slice none 0 0] from rfl]
      have F3 : Fr w (w1.alloc (.cells #[.int .i64 0, .int .i64 0, .slice none 0 0, .slice none 0 0, .slice none 0 0] 47)) := F1.alloc _
      go_wp2
      obtain ⟨r0, r1, r2, r3, r4, _⟩ := (((((((BR.fr b1).set_ 0 (.int .i64 0)).set_ 1 (.int .i64 0)).set_ 2 (.slice none 0 0)).set_ 3 (.slice none 0 0)).set_ 4 (.slice none 0 0)).alloc (.cells #[.int .i64 0, .int .i64 0, .slice none 0 0, .slice none 0 0, .slice none 0 0] 47)).five
      refine bodyPost_ret (v := .tuple #[.agg #[.int .i64 0, .int .i64 0, .slice none 0 0, .slice none 0 0, .slice none 0 0], .bool false]) (by simp [results, Try.results15, go_sem, r0, r1, r2, r3, r4]) rfl ⟨pans_zero R.out, by (repeat (first | with_reducible exact Fr.refl _ | with_reducible assumption | with_reducible refine Fr.alloc ?_ _ | with_reducible refine Fr.drew ?_ | with_reducible refine Fr.drewN ?_ _ | (with_reducible refine Fr.setNew2 ?_ ?_ _; · (simp <;> omega)) | with_reducible refine Fr.trans ?_ (by assumption)))⟩
    · have R := hid (res_some hl h1)
      have H2 := hid h2
      have H3 := hid h3
      have H4 := hid h4
      clear h1 h2 h3 h4
      unfold plV
      have F3 : Fr w1 (w1.alloc (.cells #[.int .i64 q.kind, .int .i64 q.table, .slice sq.a0 q.exprs.length sq.c0, .slice sq.a1 q.cols.length sq.c1, .slice sq.a2 q.kids.length sq.c2] 47)) := (Fr.refl _).alloc _
      go_wp2_with fail
      generalize w1.alloc (.cells #[.int .i64 q.kind, .int .i64 q.table, .slice sq.a0 q.exprs.length sq.c0, .slice sq.a1 q.cols.length sq.c1, .slice sq.a2 q.kids.length sq.c2] 47) = W2 at F3 ⊢
      clear z0 z1 z2 z3 z4 f0 f1 f2 f3 f4
      refine (specCopyP l q sq W2 (H3.out.fr (b1.trans F3)) H4.out).mono ?_
      rintro r w3 ⟨s3, rfl, ok3, b3⟩
      have OK3 := hid ok3
      have F4 := (F1.trans F3).trans b3
      have hlt := BR.lt
      have zz := b1.size
      have zy := F3.size
      obtain ⟨z0, z1, z2, z3, z4, f0, f1, f2, f3, f4⟩ := (((BR.fr b1).fr F3).fr b3).five
      clear ok3
      unfold plV
      go_wp2
      have CF : Ch (· = w.heap.size + 1) w3 (((((w3.setCell ⟨w.heap.size + 1, 0, none⟩ (.int .i64 q.kind)).setCell ⟨w.heap.size + 1, 1, none⟩ (.int .i64 q.table)).setCell ⟨w.heap.size + 1, 2, none⟩ (.slice s3.a0 q.exprs.length s3.c0)).setCell ⟨w.heap.size + 1, 3, none⟩ (.slice s3.a1 q.cols.length s3.c1)).setCell ⟨w.heap.size + 1, 4, none⟩ (.slice s3.a2 q.kids.length s3.c2)) := chSet (chSet (chSet (chSet (chSet (Ch.refl w3)))))
      refine bodyPost_ret (v := .tuple #[plV q s3, .bool true]) (by simp [results, Try.results15, go_sem, z0, z1, z2, z3, z4, plV]) rfl ⟨⟨s3, ?_⟩, CF.fr (fun k hk => by omega) F4⟩
      rw [R.out]
      have hL : n - path.length = l := by have := H2.out; omega
      rw [hL]
      exact ⟨rfl, OK3.out.mono ((CF.mle_from (lo := W2.heap.size) (fun k hk => by omega)).trans (fromB_lo (by have := (F1.trans F3).size; omega))), H4.out⟩
  · have R := hid (res_long (e := e) (show 8 < path.length by omega))
    obtain ⟨z0, z1, z2, z3, z4, f0, f1, f2, f3, f4⟩ := BR.five
    go_enter Try.func15, Try.ntmps15
    go_wp2
    refine bodyPost_ret (v := .tuple #[.agg #[.int .i64 0, .int .i64 0, .slice none 0 0, .slice none 0 0, .slice none 0 0], .bool false]) (by simp [results, Try.results15, go_sem, z0, z1, z2, z3, z4]) rfl ⟨pans_zero R.out, by (repeat (first | with_reducible exact Fr.refl _ | with_reducible assumption | with_reducible refine Fr.alloc ?_ _ | with_reducible refine Fr.drew ?_ | with_reducible refine Fr.drewN ?_ _ | (with_reducible refine Fr.setNew2 ?_ ?_ _; · (simp <;> omega)) | with_reducible refine Fr.trans ?_ (by assumption)))⟩
end Go.Proofs.Ytlmiadeaiiehaaa
