/- Walk of the law FnExprSize. -/
import Derived.Test.YtkkmfmeocigijaaColW
import Derived.Test.YtkkmfmeocigijaaEvalM
import Derived.Test.YtkkmfmeocigijaaExprJ
import Derived.Test.YtkkmfmeocigijaaExprS
import Derived.Test.YtkkmfmeocigijaaLaw
namespace Go.Proofs.Ytkkmfmeocigijaa
open Go Go.RowKit
theorem xsize_yes {n : Nat} {e : Ex} (h : vexpr 6 n e = true) : xsize n e = sE n e := by unfold xsize; rw [h]; rfl
theorem xsize_no {n : Nat} {e : Ex} (h : vexpr 6 n e = false) : xsize n e = 0 := by unfold xsize; rw [h]; rfl
set_option maxRecDepth 100000 in
set_option maxHeartbeats 4000000 in
theorem walkFnExprSize (A0 : Option Addr) (c0 : Nat) (xs : List Nat) (w : World) (hx : RdSl rdByte w.cell? 1 A0 xs) (_ : xs.length ≤ maxLen) (hc : xs.length ≤ c0) :
    Calls Try.prog 3 #[.slice A0 xs.length c0] w fun r w' => r = .returned (.bool true) ∧ Fr w w' := by
  have H := hid hx
  clear hx
  by_cases hlen : (1048576 : Int) < xs.length
  · have e0 : decide ((1048576 : Int) < (xs.length : Int)) = true := by simp; omega
    go_enter Try.func3, Try.ntmps3
    go_wp2
    go_ret
    exact ⟨rfl, Fr.refl _⟩
  have e0 : decide ((1048576 : Int) < (xs.length : Int)) = false := by simp; omega
  go_enter Try.func3, Try.ntmps3
  go_wp2_with fail
  refine (drawExprSize _ _ _ _ H.out (by omega) hc).mono ?_
  rintro r w1 ⟨e, A, c, rfl, hK, hKc, hS, hL, bw1⟩
  have HK := hid hK
  have HS := hid hS
  clear hK hS e0 H
  have FW : Fr w1 (w1.alloc (.cells #[.int .i64 e.kind, .int .i64 e.col, .bool e.val.null, .int .i64 e.val.n, .slice A e.kids.length c] 27)) := (Fr.refl _).alloc _
  have BE := Blk.new w1 27 #[.int .i64 e.kind, .int .i64 e.col, .bool e.val.null, .int .i64 e.val.n, .slice A e.kids.length c]
  obtain ⟨a0, a1, a2, a3, a4, _⟩ := BE.five
  cases hv : vexpr 6 3 e
  · have R := hid (xsize_no hv)
    go_wp2_with fail
    refine (implExprSize 3 e A c _ (HK.out.fr (rdEx_mono 3) FW) HS.out hKc).mono ?_
    rintro r w2 ⟨rfl, b2⟩
    rw [R.out]
    clear a0 a1 a2 a3 a4
    obtain ⟨a0, a1, a2, a3, a4, _⟩ := (BE.fr b2).five
    go_wp2_with fail
    refine (specExprSize 3 e A c _ (HK.out.fr (rdEx_mono 3) (FW.trans b2)) HS.out).mono ?_
    rintro r w3 ⟨rfl, b3⟩
    rw [R.out]
    clear a0 a1 a2 a3 a4
    obtain ⟨a0, a1, a2, a3, a4, _⟩ := (BE.fr (b2.trans b3)).five
    go_wp2_with fail
    refine (specExprSize 3 e A c _ (HK.out.fr (rdEx_mono 3) (FW.trans (b2.trans b3))) HS.out).mono ?_
    rintro r w4 ⟨rfl, b4⟩
    rw [R.out]
    clear a0 a1 a2 a3 a4
    obtain ⟨a0, a1, a2, a3, a4, _⟩ := (BE.fr ((b2.trans b3).trans b4)).five
    go_wp2_with fail
    refine (implValidExpr 3 e A c 6 _ (HK.out.fr (rdEx_mono 3) (FW.trans ((b2.trans b3).trans b4))) HS.out hKc).mono ?_
    rintro r w5 ⟨rfl, b5⟩
    rw [hv]
    go_wp2
    go_ret
    exact ⟨rfl, bw1.trans (FW.trans (((b2.trans b3).trans b4).trans b5))⟩
  · have R := hid (xsize_yes hv)
    have hve := vexpr_vE hv
    obtain ⟨s1, s2⟩ := sE_small hve (by omega)
    obtain ⟨z, ez⟩ : ∃ z : Int, sE 3 e = z := ⟨_, rfl⟩
    rw [ez] at s1 s2
    have EZ := hid ez
    have en : (z == 0) = false := by simp; omega
    have HVE := hid hve
    clear ez hve
    go_wp2_with fail
    refine (implExprSize 3 e A c _ (HK.out.fr (rdEx_mono 3) FW) HS.out hKc).mono ?_
    rintro r w2 ⟨rfl, b2⟩
    rw [R.out, EZ.out]
    clear a0 a1 a2 a3 a4
    obtain ⟨a0, a1, a2, a3, a4, _⟩ := (BE.fr b2).five
    go_wp2_with fail
    refine (specExprSize 3 e A c _ (HK.out.fr (rdEx_mono 3) (FW.trans b2)) HS.out).mono ?_
    rintro r w3 ⟨rfl, b3⟩
    rw [R.out, EZ.out]
    have F3 := FW.trans (b2.trans b3)
    have b23 := b2.trans b3
    clear a0 a1 a2 a3 a4
    go_wp2
    go_loopw [5, 6] (fun s t wr => ∃ (k : Nat) (N : Int), k ≤ e.kids.length ∧ t = .int .i64 k ∧ s = .int .i64 N ∧ Fr w3 wr ∧ Hid (SumAt 3 e k N)) (fun _ t _ => e.kids.length - (intOf t).toNat)
    case atStart => exact ⟨0, 1, by omega, rfl, rfl, Fr.refl _, hid ⟨by omega, by omega, fun _ => rfl, fun n' _ => by simp [sumL]⟩⟩
    case round =>
      obtain ⟨k, N, hk, rfl, rfl, hf, hN⟩ := hrel
      obtain ⟨a0, a1, a2, a3, a4, _⟩ := (BE.fr (b23.trans hf)).five
      by_cases hlt : k < e.kids.length
      · obtain ⟨kb, ko, K, kc, hA, d0, d1, d2, d3, d4, hK0⟩ := HK.out.exc hlt
        subst hA
        have HK0 := hid hK0
        replace d0 := (F3.trans hf).cell d0
        replace d1 := (F3.trans hf).cell d1
        replace d2 := (F3.trans hf).cell d2
        replace d3 := (F3.trans hf).cell d3
        replace d4 := (F3.trans hf).cell d4
        obtain ⟨d, hd, hvk⟩ := vE_down HVE.out hlt
        obtain ⟨t1, t2⟩ := sE_small hvk (by omega)
        have RK := hid (show xsize 2 e.kids[k] = sE 2 e.kids[k] by
          refine xsize_yes ?_
          unfold vexpr
          have := vE_mono 2 d 8 _ hvk (by omega)
          rw [show ((8 : Nat) : Int) = (8 : Int) from rfl] at this
          rw [this]; rfl)
        have n1 := hN.out.1
        have n2 := hN.out.2.1
        have ST := hid (sumAt_step hN.out hlt ⟨t1, t2⟩)
        clear hvk hK0
        go_wp2_with fail
        refine (implExprSize 2 e.kids[k] K kc _ (HK0.out.1.mono (rdEx_mono 2) (F3.trans hf).mle) (HS.out.2 k hlt) HK0.out.2.2).mono ?_
        rintro r w4 ⟨rfl, b4⟩
        rw [RK.out]
        have ew : IntKind.i64.wrap (N + sE 2 e.kids[k]) = N + sE 2 e.kids[k] := IntWalk.i64_in _ (by omega)
        go_wp2
        go_roundw
        case rel => exact ⟨k + 1, _, by omega, by go_num, rfl, hf.trans b4, ST⟩
        case measure => simp [intOf]; omega
      · obtain rfl : k = e.kids.length := by omega
        have EN : N = z := by rw [sumAt_end hN.out (fun h => by omega), EZ.out]
        subst EN
        have hcz : ((xcols 3 e).length : Int) ≤ N := by
          unfold xcols
          rw [hv, if_pos rfl, List.length_map, ← EZ.out]
          exact bits_size (by omega) 3 8 e HVE.out
        obtain ⟨L, eL⟩ : ∃ L, xcols 3 e = L := ⟨_, rfl⟩
        rw [eL] at hcz
        have eh : decide ((L.length : Int) ≤ N) = true := by simp; omega
        go_wp2_with fail
        refine (implColumnsOf 3 e A c _ (HK.out.fr (rdEx_mono 3) (F3.trans hf)) HS.out hKc).mono ?_
        rw [eL]
        rintro r w4 ⟨A', cap', rfl, _, b4⟩
        go_wp2
        go_ret
        exact ⟨rfl, bw1.trans ((F3.trans hf).trans b4)⟩
end Go.Proofs.Ytkkmfmeocigijaa
