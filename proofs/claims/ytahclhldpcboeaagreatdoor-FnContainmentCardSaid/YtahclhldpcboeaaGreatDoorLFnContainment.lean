/- Walk of the law FnContainment. -/
import Derived.Test.YtahclhldpcboeaaGreatDoorConD
import Derived.Test.YtahclhldpcboeaaGreatDoorEqA
import Derived.Test.YtahclhldpcboeaaGreatDoorLawD
namespace Go.Proofs.YtahclhldpcboeaaGreatDoor
open Go Go.RowKit
set_option maxRecDepth 100000 in
set_option maxHeartbeats 4000000 in
theorem walkFnContainment (P0 : Option Addr) (p0 : Nat) (xs : List Nat) (ei ea : Addr) (w : World) (hx : RdSl rdByte w.cell? 1 P0 xs) (_ : xs.length ≤ maxLen) (hc : xs.length ≤ p0) (he0 : w.cell? ⟨0, 0, none⟩ = some (noHom ei)) (he1 : w.cell? ⟨1, 0, none⟩ = some (noHom ea)) :
    Calls Tryz.prog 3 #[.slice P0 xs.length p0] w fun r w' => r = .returned (.bool true) ∧ Fr w w' := by
  have HX := hid hx
  clear hx
  by_cases hlen : (1048576 : Int) < xs.length
  · have e0 : decide ((1048576 : Int) < (xs.length : Int)) = true := by simp; omega
    go_enter Tryz.func3, Tryz.ntmps3
    go_wp2
    go_ret
    exact ⟨rfl, Fr.refl _⟩
  have e0 : decide ((1048576 : Int) < (xs.length : Int)) = false := by simp; omega
  have hl : xs.length ≤ 1048576 := by omega
  clear hlen
  go_enter Tryz.func3, Tryz.ntmps3
  go_wp2_with fail
  refine (drawContainment P0 p0 xs _ HX.out hl hc).mono ?_
  rintro e w1 ⟨qa, ha, ba, qb, hb, bb, fs, A0, a0, A1, a1, B0, b0, B1, b1, g, cap, rfl, QA, QB, OF, ⟨l1, l2, l3, l4, _, h4a, _, h4b⟩, ⟨l9, hsm⟩, F1⟩
  have HF := hid ((own_F OF rfl).mono rdFact_mono (fromB_le _ _))
  have hfl := (own_capM OF).1
  have hfm := (own_capM OF).2
  have HQA := hid QA
  have HQB := hid QB
  have HSM := hid hsm
  have H4a := hid h4a
  have H4b := hid h4b
  have BA1 := hid ((Blk.new w1 26 #[.int .i64 qa, .slice A0 ha.length a0, .slice A1 ba.length a1]).alloc (.cells #[.int .i64 qb, .slice B0 hb.length b0, .slice B1 bb.length b1] 26))
  have BB1 := hid (blk_new1 w1 (.cells #[.int .i64 qa, .slice A0 ha.length a0, .slice A1 ba.length a1] 26) 26 #[.int .i64 qb, .slice B0 hb.length b0, .slice B1 bb.length b1])
  have G1 : Fr w1 ((w1.alloc (.cells #[.int .i64 qa, .slice A0 ha.length a0, .slice A1 ba.length a1] 26)).alloc (.cells #[.int .i64 qb, .slice B0 hb.length b0, .slice B1 bb.length b1] 26)) := by (repeat (first | with_reducible exact Fr.refl _ | with_reducible assumption | with_reducible refine Fr.alloc ?_ _ | with_reducible refine Fr.drew ?_ | with_reducible refine Fr.drewN ?_ _ | (with_reducible refine Fr.setNew2 ?_ ?_ _; · (simp <;> omega)) | with_reducible refine Fr.trans ?_ (by assumption)))
  clear QA QB OF HX hsm h4a h4b
  go_wp2_with fail
  refine absW fun W2 hW2 => ?_
  rw [← hW2] at BA1 BB1 G1
  obtain ⟨s, es⟩ : ∃ g, w1.heap.size = g := ⟨_, rfl⟩
  rw [es] at BA1 BB1 ⊢
  clear hW2 es
  have BA2 := BA1
  have BB2 := BB1
  have QA2 := hid (HQA.out.fr G1)
  have QB2 := hid (HQB.out.fr G1)
  have HF2 := hid (HF.out.fr rdFact_mono G1)
  have F2 := F1.trans G1
  clear HQA HQB HF G1 BA1 BB1 F1
  obtain ⟨ok, eok⟩ : ∃ b, (fndO qb hb bb qa ha ba).isSome = b := ⟨_, rfl⟩
  have EOK := hid eok
  clear eok
  refine (implIsC qa qb A0 A1 B0 B1 a0 a1 b0 b1 ha hb ba bb ei ea _ QA2.out.r0 QA2.out.r1 QB2.out.r0 QB2.out.r1 (by omega) (by omega) (by omega) (by omega) QB2.out.l1 QB2.out.m1 (F2.cell he0) (F2.cell he1)).mono ?_
  rw [EOK.out]
  rintro r w3 ⟨rfl, b3⟩
  (try clear x0 x1 x2 y0 y1 y2)
  obtain ⟨x0, x1, x2, _⟩ := (BA2.out.fr (b3)).three
  obtain ⟨y0, y1, y2, _⟩ := (BB2.out.fr (b3)).three
  go_wp2_with fail
  refine (specIsC qa qb A0 A1 B0 B1 a0 a1 b0 b1 ha hb ba bb _ (QA2.out.fr b3).r0 (QA2.out.fr b3).r1 (QB2.out.fr b3).r0 (QB2.out.fr b3).r1 (by omega) (by omega) (by omega) (by omega)).mono ?_
  rw [EOK.out]
  rintro r w4 ⟨rfl, b4⟩
  have F4 := b3.trans b4
  clear b3 b4
  (try clear x0 x1 x2 y0 y1 y2)
  obtain ⟨x0, x1, x2, _⟩ := (BA2.out.fr (F4)).three
  obtain ⟨y0, y1, y2, _⟩ := (BB2.out.fr (F4)).three
  cases ok with
  | false =>
    go_wp2_with fail
    refine (specIsC qa qb A0 A1 B0 B1 a0 a1 b0 b1 ha hb ba bb _ (QA2.out.fr F4).r0 (QA2.out.fr F4).r1 (QB2.out.fr F4).r0 (QB2.out.fr F4).r1 (by omega) (by omega) (by omega) (by omega)).mono ?_
    rw [EOK.out]
    rintro r w9 ⟨rfl, b9⟩
    have F9 := (F4).trans b9
    go_wp2
    go_ret
    exact ⟨rfl, F2.trans F9⟩
  | true =>
    go_wp2_with fail
    refine (implVFacts (some ⟨g, 0, none⟩) cap fs _ (HF2.out.fr rdFact_mono F4) (by omega)).mono ?_
    rintro r w5 ⟨rfl, b5⟩
    have F5 := F4.trans b5
    clear b5
    (try clear x0 x1 x2 y0 y1 y2)
    obtain ⟨x0, x1, x2, _⟩ := (BA2.out.fr (F5)).three
    obtain ⟨y0, y1, y2, _⟩ := (BB2.out.fr (F5)).three
    cases hvf : vfacts fs
    · go_wp2_with fail
      refine (specIsC qa qb A0 A1 B0 B1 a0 a1 b0 b1 ha hb ba bb _ (QA2.out.fr F5).r0 (QA2.out.fr F5).r1 (QB2.out.fr F5).r0 (QB2.out.fr F5).r1 (by omega) (by omega) (by omega) (by omega)).mono ?_
      rw [EOK.out]
      rintro r w9 ⟨rfl, b9⟩
      have F9 := (F5).trans b9
      go_wp2
      go_ret
      exact ⟨rfl, F2.trans F9⟩
    obtain ⟨L, eL⟩ : ∃ L, ansO qa ha ba fs = L := ⟨_, rfl⟩
    obtain ⟨M, eM⟩ : ∃ M, ansO qb hb bb fs = M := ⟨_, rfl⟩
    have EL := hid eL
    have EM := hid eM
    have HM := hid (show ∀ x ∈ L, x ∈ M ∧ x.length ≤ 1000 from fun x hx => by
      rw [← eL] at hx
      refine ⟨?_, ansO_row hx⟩
      rw [← eM]
      exact cont_sound EOK.out H4a.out H4b.out hvf HSM.out x hx)
    have hLl : L.length ≤ 1000000 := by rw [← eL]; exact Nat.le_trans ansO_len (by decide)
    have hMl : M.length ≤ 1000000 := by rw [← eM]; exact Nat.le_trans ansO_len (by decide)
    have HMR := hid (fun x (h : x ∈ M) => ansO_row (by rw [eM]; exact h : x ∈ ansO qb hb bb fs))
    clear eL eM hvf
    go_wp2_with fail
    refine (implAnsL qa A0 a0 ha A1 a1 ba (some ⟨g, 0, none⟩) cap fs _ (QA2.out.fr F5).r0 (QA2.out.fr F5).r1 (HF2.out.fr rdFact_mono F5) (by omega) (by omega) (by omega)).mono ?_
    rw [EL.out]
    rintro r w6 ⟨LA, lc, rfl, RL, b6⟩
    have F6 := F5.trans b6
    have HRL := hid (fun W (h : Fr w6 W) => RL.fr rdIL_mono h)
    clear RL b6
    (try clear x0 x1 x2 y0 y1 y2)
    obtain ⟨x0, x1, x2, _⟩ := (BA2.out.fr (F6)).three
    obtain ⟨y0, y1, y2, _⟩ := (BB2.out.fr (F6)).three
    go_wp2_with fail
    refine (implAnsL qb B0 b0 hb B1 b1 bb (some ⟨g, 0, none⟩) cap fs _ (QB2.out.fr F6).r0 (QB2.out.fr F6).r1 (HF2.out.fr rdFact_mono F6) (by omega) (by omega) (by omega)).mono ?_
    rw [EM.out]
    rintro r w7 ⟨MA, mc, rfl, RM, b7⟩
    have F7 := F6.trans b7
    have HRM := hid RM
    clear RM x0 x1 x2 y0 y1 y2
    go_wp2
    go_loopw [9] (fun t wr => ∃ k : Nat, k ≤ L.length ∧ t = .int .i64 k ∧ Hid (Fr w7 wr)) (fun t _ => L.length - (intOf t).toNat)
    case atStart => exact ⟨0, by omega, rfl, hid (Fr.refl _)⟩
    case round =>
      obtain ⟨k, hk, rfl, hF⟩ := hrel
      by_cases hlt : k < L.length
      · obtain ⟨xb, xo, hA, A9, a9, d0, rA⟩ := (HRL.out _ b7).at_ hlt
        replace d0 := hF.out.cell d0
        simp only [Nat.mul_one, Nat.add_zero] at d0
        subst hA
        have hm := HM.out _ (List.getElem_mem hlt)
        obtain ⟨x, ex⟩ : ∃ x, L[k] = x := ⟨_, rfl⟩
        rw [ex] at d0 rA hm
        have RA := hid (rA.fr rdInt_mono hF.out)
        have XL := hm.2
        have hd := decide_eq_true hm.1
        clear rA hm ex
        go_wp2_with fail
        refine (hasAns MA A9 mc a9 M x _ (HRM.out.fr rdIL_mono hF.out) RA.out hMl HMR.out XL).mono ?_
        rintro e w9 ⟨rfl, hq⟩
        rw [hd]
        have F9 := hid (hF.out.trans hq)
        clear hF d0 hq RA
        go_wp2
        go_roundw
        case rel => exact ⟨k + 1, by omega, by go_num, F9⟩
        case measure => simp [intOf]; omega
      · obtain rfl : k = L.length := by omega
        go_wp2
        go_ret
        exact ⟨rfl, F2.trans (F7.trans hF.out)⟩
end Go.Proofs.YtahclhldpcboeaaGreatDoor
