/- Comparisons of plans. -/
import Derived.Test.YtlmiadeaiiehaaaPlR
import Derived.Test.YtlmiadeaiiehaaaInts
namespace Go.Proofs.Ytlmiadeaiiehaaa
open Go Go.RowKit

theorem eqI (A A' : Option Addr) (cap cap' : Nat) (xs : List Int) (w : World) (hx : RdSl rdInt w.cell? 1 A xs) (hy : RdSl rdInt w.cell? 1 A' xs) (hl : xs.length ≤ maxLen) :
    Calls Try.prog 20 #[.slice A xs.length cap, .slice A' xs.length cap'] w fun e w' => e = .returned (.bool true) ∧ Fr w w' :=
  (eqInts A A' cap cap' xs xs w hx hy hl hl).mono fun r w' h => ⟨by rw [h.1]; simp, h.2⟩
def plEqS (n : Nat) : Prop := ∀ (A A' : Option Addr) (cap cap' : Nat) (xs : List Pl) (w : World), RdSl (rdPl n) w.cell? 5 A xs → RdSl (rdPl n) w.cell? 5 A' xs → szT n xs ≤ 1048576 →
    Calls Try.prog 42 #[.slice A xs.length cap, .slice A' xs.length cap'] w fun e w' => e = .returned (.bool true) ∧ Fr w w'
set_option maxHeartbeats 1000000 in
theorem eqPl {n : Nat} (hS : plEqS n) (e : Pl) (s s' : Sl3) (w : World) (hx : PlOk n w.cell? e s) (hy : PlOk n w.cell? e s') (hm : ndT n e ≤ 1048576) :
    Calls Try.prog 19 #[plV e s, plV e s'] w fun r w' => r = .returned (.bool true) ∧ Fr w w' := by
  obtain ⟨A0, c0, A1, c1, A2, c2⟩ := s
  obtain ⟨B0, e0, B1, e1, B2, e2⟩ := s'
  have HX := hid hx
  have HY := hid hy
  have HS := hid hS
  have HM := hid (ndT_parts hm)
  clear hx hy hS hm
  unfold plV
  simp only
  go_enter Try.func19, Try.ntmps19
  go_wp2_with fail
  refine absW fun W hW => ?_
  have BA : Blk W w.heap.size 47 #[.int .i64 e.kind, .int .i64 e.table, .slice A0 e.exprs.length c0, .slice A1 e.cols.length c1, .slice A2 e.kids.length c2] := by rw [hW]; exact (Blk.new _ _ _).alloc _
  have BB : Blk W (w.heap.size + 1) 47 #[.int .i64 e.kind, .int .i64 e.table, .slice B0 e.exprs.length e0, .slice B1 e.cols.length e1, .slice B2 e.kids.length e2] := by
    rw [hW]; exact blk_new1 _ _ _ _
  have F0 : Fr w W := by rw [hW]; (repeat (first | with_reducible exact Fr.refl _ | with_reducible assumption | with_reducible refine Fr.alloc ?_ _ | with_reducible refine Fr.drew ?_ | with_reducible refine Fr.drewN ?_ _ | (with_reducible refine Fr.setNew2 ?_ ?_ _; · (simp <;> omega)) | with_reducible refine Fr.trans ?_ (by assumption)))
  clear hW
  refine (eqExS n _ _ _ _ _ _ (HX.out.r0.fr (rdEx_mono n) F0) (HY.out.r0.fr (rdEx_mono n) F0) HM.out.2.1).mono ?_
  rintro r w1 ⟨rfl, b1⟩
  obtain ⟨a0, a1, a2, a3, a4, _⟩ := (BA.fr b1).five
  obtain ⟨d0, d1, d2, d3, d4, _⟩ := (BB.fr b1).five
  have F1 := F0.trans b1
  go_wp2_with fail
  refine (eqI _ _ _ _ _ _ (HX.out.r1.fr rdInt_mono F1) (HY.out.r1.fr rdInt_mono F1) HX.out.l1).mono ?_
  rintro r w2 ⟨rfl, b2⟩
  replace a4 := b2.cell a4
  replace d4 := b2.cell d4
  have F2 := F1.trans b2
  go_wp2_with fail
  refine (HS.out _ _ _ _ _ _ (HX.out.r2.fr (rdPl_mono n) F2) (HY.out.r2.fr (rdPl_mono n) F2) HM.out.2.2.2.2.1).mono ?_
  rintro r w3 ⟨rfl, b3⟩
  go_wp2
  go_ret
  exact ⟨rfl, F2.trans b3⟩
set_option maxRecDepth 100000 in
set_option maxHeartbeats 1000000 in
theorem eqPlS (n : Nat) : plEqS n := by
  induction n using Nat.strongRecOn with
  | _ n ih =>
    intro A A' cap cap' xs w hx hy hm
    have HX := hid hx
    have HY := hid hy
    have IH := hid ih
    have hl : xs.length ≤ 1048576 := by have := szT_len n xs; omega
    have HM := hid hm
    clear hx hy ih hm
    go_enter Try.func42, Try.ntmps42
    go_wp2
    go_loopw [5] (fun t wr => ∃ (k : Nat), k ≤ xs.length ∧ t = .int .i64 k ∧ Fr w wr) (fun t _ => xs.length - (intOf t).toNat)
    case atStart => exact ⟨0, by omega, rfl, by (repeat (first | with_reducible exact Fr.refl _ | with_reducible assumption | with_reducible refine Fr.alloc ?_ _ | with_reducible refine Fr.drew ?_ | with_reducible refine Fr.drewN ?_ _ | (with_reducible refine Fr.setNew2 ?_ ?_ _; · (simp <;> omega)) | with_reducible refine Fr.trans ?_ (by assumption)))⟩
    case round =>
      obtain ⟨k, hk, rfl, hf⟩ := hrel
      by_cases hlt : k < xs.length
      · cases n with
        | zero => exfalso; rw [HX.out.pl0] at hlt; simp at hlt
        | succ n =>
          obtain ⟨b, o, s, hA, d0, d1, d2, d3, d4, ok⟩ := HX.out.pl hlt
          obtain ⟨b', o', s', hA', d0', d1', d2', d3', d4', ok'⟩ := HY.out.pl hlt
          subst hA hA'
          have OK := hid (ok.fr hf)
          have OK' := hid (ok'.fr hf)
          have MK := hid (show ndT n xs[k] ≤ 1048576 by have := szT_kid (n := n) hlt; have := HM.out; omega)
          clear ok ok'
          replace d0 := hf.cell d0
          replace d1 := hf.cell d1
          replace d2 := hf.cell d2
          replace d3 := hf.cell d3
          replace d4 := hf.cell d4
          replace d0' := hf.cell d0'
          replace d1' := hf.cell d1'
          replace d2' := hf.cell d2'
          replace d3' := hf.cell d3'
          replace d4' := hf.cell d4'
          go_wp2_with fail
          (refine wp_region_quietC (fun w' => Fr _ w') (by kernel_rfl) (by kernel_rfl) (Fr.refl _).drew ?_; (repeat go_big_quiet_step (first | exact fun _ => rfl | exact fun _ => ⟨rfl, rfl⟩ | (intro hw'; replace d0 := hw'.cell d0; replace d1 := hw'.cell d1; replace d2 := hw'.cell d2; replace d3 := hw'.cell d3; replace d4 := hw'.cell d4; replace d0' := hw'.cell d0'; replace d1' := hw'.cell d1'; replace d2' := hw'.cell d2'; replace d3' := hw'.cell d3'; replace d4' := hw'.cell d4'; go_simp; first | done | exact rfl | exact ⟨rfl, rfl⟩) | (intro hw'; go_at_call 19; refine (eqPl (IH.out n (by omega)) _ s s' _ (OK.out.fr hw') (OK'.out.fr hw') MK.out).mono ?_; rintro r w1 ⟨rfl, b1⟩; exact ⟨rfl, hw'.trans b1⟩))); refine wpQuiet_nil ?_; intro wq hq)
          go_wp2
          go_roundw
          case rel => exact ⟨k + 1, by omega, by go_num, hf.trans hq⟩
          case measure => simp [intOf]; omega
      · go_wp2
        go_ret
        exact ⟨rfl, hf⟩
end Go.Proofs.Ytlmiadeaiiehaaa
