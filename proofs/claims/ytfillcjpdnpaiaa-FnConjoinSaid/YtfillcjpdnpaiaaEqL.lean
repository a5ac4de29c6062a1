/- Walks of the laws' comparisons of expressions: equalExprs, equalLists. -/
import Derived.Test.YtfillcjpdnpaiaaRExpr
namespace Go.Proofs.Ytfillcjpdnpaiaa
open Go Go.RowKit
def exEqL (n : Nat) : Prop := ∀ (A A' : Option Addr) (cap cap' : Nat) (xs : List Ex) (w : World), RdSl (rdEx n) w.cell? 5 A xs → RdSl (rdEx n) w.cell? 5 A' xs → exSm n xs →
    Calls Try.prog 34 #[.slice A xs.length cap, .slice A' xs.length cap'] w fun e w' => e = .returned (.bool true) ∧ Fr w w'
set_option maxHeartbeats 1000000 in
theorem eqExQ {n : Nat} (hS : exEqL n) (e : Ex) (A B : Option Addr) (cap cap' : Nat) (w : World) (hx : RdSl (rdEx n) w.cell? 5 A e.kids) (hy : RdSl (rdEx n) w.cell? 5 B e.kids) (hm : exSm n e.kids) :
    Calls Try.prog 38 #[.agg #[.int .i64 e.kind, .int .i64 e.col, .bool e.val.null, .int .i64 e.val.n, .slice A e.kids.length cap], .agg #[.int .i64 e.kind, .int .i64 e.col, .bool e.val.null, .int .i64 e.val.n, .slice B e.kids.length cap']] w fun r w' => r = .returned (.bool true) ∧ Fr w w' := by
  have HX := hid hx
  have HY := hid hy
  have HS := hid hS
  clear hx hy hS
  have BA := (Blk.new w 33 #[.int .i64 e.kind, .int .i64 e.col, .bool e.val.null, .int .i64 e.val.n, .slice A e.kids.length cap]).alloc (.cells #[.int .i64 e.kind, .int .i64 e.col, .bool e.val.null, .int .i64 e.val.n, .slice B e.kids.length cap'] 33)
  have BB := Blk.new (w.alloc (.cells #[.int .i64 e.kind, .int .i64 e.col, .bool e.val.null, .int .i64 e.val.n, .slice A e.kids.length cap] 33)) 33 #[.int .i64 e.kind, .int .i64 e.col, .bool e.val.null, .int .i64 e.val.n, .slice B e.kids.length cap']
  rw [World.size_alloc] at BB
  have F0 : Fr w ((w.alloc (.cells #[.int .i64 e.kind, .int .i64 e.col, .bool e.val.null, .int .i64 e.val.n, .slice A e.kids.length cap] 33)).alloc (.cells #[.int .i64 e.kind, .int .i64 e.col, .bool e.val.null, .int .i64 e.val.n, .slice B e.kids.length cap'] 33)) := ((Fr.refl _).alloc _).alloc _
  obtain ⟨a0, a1, a2, a3, a4, _⟩ := BA.five
  obtain ⟨c0, c1, c2, c3, c4, _⟩ := BB.five
  go_enter Try.func38, Try.ntmps38
  go_wp2_with fail
  refine (HS.out _ _ _ _ _ _ (HX.out.fr (rdEx_mono n) F0) (HY.out.fr (rdEx_mono n) F0) hm).mono ?_
  rintro r w1 ⟨rfl, b1⟩
  go_wp2
  go_ret
  exact ⟨rfl, F0.trans b1⟩
set_option maxRecDepth 100000 in
set_option maxHeartbeats 1000000 in
theorem eqExL (n : Nat) : exEqL n := by
  induction n using Nat.strongRecOn with
  | _ n ih =>
    intro A A' cap cap' xs w hx hy hm
    have HX := hid hx
    have HY := hid hy
    have IH := hid ih
    have hl := exSm_len hm
    have HM := hid hm
    clear hx hy ih hm
    go_enter Try.func34, Try.ntmps34
    go_wp2
    go_loopw [5] (fun t wr => ∃ (k : Nat), k ≤ xs.length ∧ t = .int .i64 k ∧ Fr w wr) (fun t _ => xs.length - (intOf t).toNat)
    case atStart => exact ⟨0, by omega, rfl, by (repeat (first | with_reducible exact Fr.refl _ | with_reducible assumption | with_reducible refine Fr.alloc ?_ _ | with_reducible refine Fr.drew ?_ | with_reducible refine Fr.drewN ?_ _ | (with_reducible refine Fr.setNew2 ?_ ?_ _; · (simp <;> omega)) | with_reducible refine Fr.trans ?_ (by assumption)))⟩
    case round =>
      obtain ⟨k, hk, rfl, hf⟩ := hrel
      by_cases hlt : k < xs.length
      · cases n with
        | zero => exfalso; rw [HX.out.ex0] at hlt; simp at hlt
        | succ n =>
          obtain ⟨b, o, B, c, hA, d0, d1, d2, d3, cK, rK, _⟩ := HX.out.ex hlt
          obtain ⟨b', o', B', c', hA', d0', d1', d2', d3', cK', rK', _⟩ := HY.out.ex hlt
          subst hA hA'
          have RK := hid (rK.fr (rdEx_mono n) hf)
          have RK' := hid (rK'.fr (rdEx_mono n) hf)
          clear rK rK'
          replace d0 := hf.cell d0
          replace d1 := hf.cell d1
          replace d2 := hf.cell d2
          replace d3 := hf.cell d3
          replace d0' := hf.cell d0'
          replace d1' := hf.cell d1'
          replace d2' := hf.cell d2'
          replace d3' := hf.cell d3'
          replace cK := hf.cell cK
          replace cK' := hf.cell cK'
          go_wp2_with fail
          (refine wp_region_quietC (fun w' => Fr _ w') (by kernel_rfl) (by kernel_rfl) (Fr.refl _).drew ?_; (repeat go_big_quiet_step (first | exact fun _ => rfl | exact fun _ => ⟨rfl, rfl⟩ | (intro hw'; replace d0 := hw'.cell d0; replace d1 := hw'.cell d1; replace d2 := hw'.cell d2; replace d3 := hw'.cell d3; replace d0' := hw'.cell d0'; replace d1' := hw'.cell d1'; replace d2' := hw'.cell d2'; replace d3' := hw'.cell d3'; replace cK := hw'.cell cK; replace cK' := hw'.cell cK'; go_simp; first | done | exact rfl | exact ⟨rfl, rfl⟩) | (intro hw'; go_at_call 38; refine (eqExQ (IH.out n (by omega)) _ _ _ _ _ _ (RK.out.fr (rdEx_mono n) hw') (RK'.out.fr (rdEx_mono n) hw') (HM.out.2 k hlt)).mono ?_; rintro r w1 ⟨rfl, b1⟩; exact ⟨rfl, hw'.trans b1⟩))); refine wpQuiet_nil ?_; intro wq hq)
          go_wp2
          go_roundw
          case rel => exact ⟨k + 1, by omega, by go_num, hf.trans hq⟩
          case measure => simp [intOf]; omega
      · go_wp2
        go_ret
        exact ⟨rfl, hf⟩
end Go.Proofs.Ytfillcjpdnpaiaa
