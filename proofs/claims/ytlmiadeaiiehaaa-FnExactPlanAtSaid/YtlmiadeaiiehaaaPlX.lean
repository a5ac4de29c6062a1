/- The program's PlanAt. -/
import Derived.Test.YtlmiadeaiiehaaaPlT
import Derived.Test.YtlmiadeaiiehaaaPlK
namespace Go.Proofs.Ytlmiadeaiiehaaa
open Go Go.RowKit

/-- The answer in memory of its own. -/
def IAns (n : Nat) (e : Pl) (path : List Int) (w : World) (r : Ending) (w' : World) : Prop := ∃ s : Sl3, r = .returned (.tuple #[plV (res e path).1 s, .bool (res e path).2]) ∧ OwnD w.heap.size w' (n - path.length) (res e path).1 s ∧ ndT (n - path.length) (res e path).1 ≤ 1048576
theorem own_zero {lo : Nat} {w : World} {n : Nat} : OwnD lo w n zeroP zeroS := ⟨fun _ => False, fun _ h => h.elim, ⟨fun _ => False, fun _ => False, fun _ => False, fun _ h => h, fun _ h => h, fun _ h => h, fun _ h _ => h, fun _ h _ => h, fun _ h _ => h, ShS.nil, ⟨fun h => absurd rfl h, fun k h => by obtain ⟨ad, h, _⟩ := h; cases h⟩, ShP.nil⟩, zero_ok⟩
theorem ians_zero {n : Nat} {e : Pl} {path : List Int} {w w' : World} (h : res e path = (zeroP, false)) : IAns n e path w (.returned (.tuple #[plV zeroP zeroS, .bool false])) w' := by
  refine ⟨zeroS, ?_⟩
  rw [h]
  exact ⟨rfl, own_zero, by rw [ndT_zero]; omega⟩
theorem implAtLong (b0 o0 : Nat) (AP : Option Addr) (cp n : Nat) (w : World) (hl : 8 < n) (hn : n ≤ 1048576) :
    Calls Try.prog 39 #[.pointer (some ⟨b0, o0, none⟩), .slice AP n cp] w fun r w' => r = .returned (.pointer none) ∧ w = w' := by
  have t0 : decide (8 < (n : Int)) = true := decide_eq_true (by omega)
  go_enter Try.func39, Try.ntmps39
  go_wp2
  go_ret
  exact ⟨rfl, rfl⟩
theorem OwnD.ch {lo : Nat} {w w' : World} {n : Nat} {e : Pl} {s : Sl3} {g : Nat} (h : OwnD lo w n e s) (hc : Ch (· = g) w w') (hg : g < lo) : OwnD lo w' n e s := by
  obtain ⟨S, hS, hN, hK⟩ := h
  have kA := hc.keepA (S := S) fun k hk e => by have := (hS k hk).1; omega
  exact ⟨S, fun k hk => ⟨(hS k hk).1, hc.keepX.gd (by have := (hS k hk).1; omega) (hS k hk).2⟩, hN.kp kA, ndS_ok hN kA hK⟩
theorem OwnD.lo {lo lo' : Nat} {w : World} {n : Nat} {e : Pl} {s : Sl3} (h : OwnD lo w n e s) (hl : lo' ≤ lo) : OwnD lo' w n e s := by
  obtain ⟨S, hS, hN, hK⟩ := h
  exact ⟨S, fun k hk => ⟨by have := (hS k hk).1; omega, (hS k hk).2⟩, hN, hK⟩
theorem implPlanAtAns (n : Nat) (e : Pl) (s : Sl3) (AP : Option Addr) (cp : Nat) (path : List Int) (w : World) (hx : PlOk n w.cell? e s) (hs : ndT n e ≤ 1048576) (hp : RdSl rdInt w.cell? 1 AP path) (hm : path.length ≤ 1048576) :
    Calls Try.prog 18 #[plV e s, .slice AP path.length cp] w fun r w' => IAns n e path w r w' ∧ Fr w w' := by
  have HX := hid hx
  have HP := hid hp
  have HSM := hid hs
  clear hx hp hs
  unfold plV
  have F2 : Fr w ((w.alloc (.cells #[.int .i64 e.kind, .int .i64 e.table, .slice s.a0 e.exprs.length s.c0, .slice s.a1 e.cols.length s.c1, .slice s.a2 e.kids.length s.c2] 47)).alloc (.cells #[.int .i64 0, .int .i64 0, .slice none 0 0, .slice none 0 0, .slice none 0 0] 47)) := ((Fr.refl _).alloc _).alloc _
  have BA := (Blk.new w 47 #[.int .i64 e.kind, .int .i64 e.table, .slice s.a0 e.exprs.length s.c0, .slice s.a1 e.cols.length s.c1, .slice s.a2 e.kids.length s.c2]).alloc (.cells #[.int .i64 0, .int .i64 0, .slice none 0 0, .slice none 0 0, .slice none 0 0] 47)
  have BR := blk_new1 w (.cells #[.int .i64 e.kind, .int .i64 e.table, .slice s.a0 e.exprs.length s.c0, .slice s.a1 e.cols.length s.c1, .slice s.a2 e.kids.length s.c2] 47) 47 #[.int .i64 0, .int .i64 0, .slice none 0 0, .slice none 0 0, .slice none 0 0]
  have hsz : ((w.alloc (.cells #[.int .i64 e.kind, .int .i64 e.table, .slice s.a0 e.exprs.length s.c0, .slice s.a1 e.cols.length s.c1, .slice s.a2 e.kids.length s.c2] 47)).alloc (.cells #[.int .i64 0, .int .i64 0, .slice none 0 0, .slice none 0 0, .slice none 0 0] 47)).heap.size = w.heap.size + 1 + 1 := by rw [World.size_alloc, World.size_alloc]
  have HZ := hid hsz
  clear hsz
  go_enter Try.func18, Try.ntmps18
  go_wp2_with fail
  generalize (w.alloc (.cells #[.int .i64 e.kind, .int .i64 e.table, .slice s.a0 e.exprs.length s.c0, .slice s.a1 e.cols.length s.c1, .slice s.a2 e.kids.length s.c2] 47)).alloc (.cells #[.int .i64 0, .int .i64 0, .slice none 0 0, .slice none 0 0, .slice none 0 0] 47) = W0 at F2 BA BR HZ ⊢
  obtain ⟨z0, z1, z2, z3, z4, f0, f1, f2, f3, f4⟩ := BR.five
  have AT : Calls Try.prog 39 #[.pointer (some ⟨w.heap.size, 0, none⟩), .slice AP path.length cp] W0 fun r w' => (r = .returned (.pointer none) ∧ res e path = (zeroP, false) ∨ ∃ q b o l, res e path = (q, true) ∧ l + path.length = n ∧ r = .returned (.pointer (some ⟨b, o, none⟩)) ∧ rdPl (l + 1) W0.cell? (fun j => W0.cell? ⟨b, o + j, none⟩) q ∧ ndT l q ≤ 1048576) ∧ W0 = w' := by
    by_cases hl : path.length ≤ 8
    · refine (implAt n e w.heap.size 0 AP cp path W0 (ok_rdPl (s := s) ?_ ?_ ?_ ?_ ?_ (HX.out.fr F2)) HSM.out (HP.out.fr rdInt_mono F2) hl).mono ?_
      · exact BA.cell 0
      · exact BA.cell 1
      · exact BA.cell 2
      · exact BA.cell 3
      · exact BA.cell 4
      · rintro r w' ⟨h | ⟨q, b, o, l, h1, h2, h3, h4, h5⟩, rfl⟩
        · exact ⟨.inl ⟨h.2, res_none h.1⟩, rfl⟩
        · exact ⟨.inr ⟨q, b, o, l, res_some hl h1, h2, h3, h4, h5⟩, rfl⟩
    · refine (implAtLong w.heap.size 0 AP cp path.length W0 (by omega) hm).mono ?_
      rintro r w' ⟨rfl, rfl⟩
      exact ⟨.inl ⟨rfl, res_long (by omega)⟩, rfl⟩
  refine AT.mono ?_
  clear AT
  rintro r w1 ⟨h, rfl⟩
  rcases h with ⟨rfl, h1⟩ | ⟨q, b, o, l, h1, h2, rfl, h3, h4⟩
  · have R := hid h1
    clear h1
    go_wp2
    refine bodyPost_ret (v := .tuple #[.agg #[.int .i64 0, .int .i64 0, .slice none 0 0, .slice none 0 0, .slice none 0 0], .bool false]) (by simp [results, Try.results18, go_sem, z0, z1, z2, z3, z4]) rfl ⟨ians_zero R.out, by (repeat (first | with_reducible exact Fr.refl _ | with_reducible assumption | with_reducible refine Fr.alloc ?_ _ | with_reducible refine Fr.drew ?_ | with_reducible refine Fr.drewN ?_ _ | (with_reducible refine Fr.setNew2 ?_ ?_ _; · (simp <;> omega)) | with_reducible refine Fr.trans ?_ (by assumption)))⟩
  · have R := hid h1
    have H2 := hid h2
    have H3 := hid h3
    have H4 := hid h4
    clear h1 h2 h3 h4
    go_wp2_with fail
    clear z0 z1 z2 z3 z4 f0 f1 f2 f3 f4
    refine (implCopiedP l q b o W0 H3.out H4.out).mono ?_
    rintro r w3 ⟨s3, rfl, b3, od⟩
    have OD := hid od
    have F4 := F2.trans b3
    have hlt := BR.lt
    obtain ⟨z0, z1, z2, z3, z4, f0, f1, f2, f3, f4⟩ := (BR.fr b3).five
    clear od
    unfold plV
    go_wp2
    have CF : Ch (· = w.heap.size + 1) w3 (((((w3.setCell ⟨w.heap.size + 1, 0, none⟩ (.int .i64 q.kind)).setCell ⟨w.heap.size + 1, 1, none⟩ (.int .i64 q.table)).setCell ⟨w.heap.size + 1, 2, none⟩ (.slice s3.a0 q.exprs.length s3.c0)).setCell ⟨w.heap.size + 1, 3, none⟩ (.slice s3.a1 q.cols.length s3.c1)).setCell ⟨w.heap.size + 1, 4, none⟩ (.slice s3.a2 q.kids.length s3.c2)) := chSet (chSet (chSet (chSet (chSet (Ch.refl w3)))))
    refine bodyPost_ret (v := .tuple #[plV q s3, .bool true]) (by simp [results, Try.results18, go_sem, z0, z1, z2, z3, z4, plV]) rfl ⟨⟨s3, ?_⟩, CF.fr (fun k hk => by omega) F4⟩
    rw [R.out]
    have hL : n - path.length = l := by have := H2.out; omega
    rw [hL]
    exact ⟨rfl, (OD.out.ch CF (by have := HZ.out; omega)).lo (by have := HZ.out; omega), H4.out⟩
end Go.Proofs.Ytlmiadeaiiehaaa
