/- Walk of the law FnColumnsOf. -/
import Derived.Test.YtmceafkedepjfaaColV
import Derived.Test.YtmceafkedepjfaaExprJ
import Derived.Test.YtmceafkedepjfaaLaw
namespace Go.Proofs.Ytmceafkedepjfaa
open Go Go.RowKit
set_option maxRecDepth 100000 in
set_option maxHeartbeats 4000000 in
theorem walkFnColumnsOf (A0 : Option Addr) (c0 : Nat) (xs : List Nat) (w : World) (hx : RdSl rdByte w.cell? 1 A0 xs) (_ : xs.length ≤ maxLen) (hc : xs.length ≤ c0) :
    Calls Try.prog 3 #[.slice A0 xs.length c0] w fun r w' => r = .returned (.bool true) ∧ Fr w w' := by
  have H := hid hx
  clear hx
  by_cases hlen : (1048576 : Int) < xs.length
  · have e0 : decide ((1048576 : Int) < (xs.length : Int)) = true := by simp; omega
    go_enter Try.func3, Try.ntmps3
    go_wp2
    go_ret
    exact ⟨rfl, Fr.refl _⟩
  have e0 : decide ((1048576 : Int) < (xs.length : Int)) = false := by simp; omega
  go_enter Try.func3, Try.ntmps3
  go_wp2_with fail
  refine (drawEvalExpr _ _ _ _ H.out (by omega) hc).mono ?_
  rintro r w1 ⟨e, A, c, B, rc, row, rfl, hK, hKc, hS, hL, hR, hl7, bw1⟩
  have HK := hid (show KidsOk 3 w1.cell? (e, A, c) from ⟨hK, by show e.kids.length ≤ maxLen; unfold maxLen; omega, hKc⟩)
  have HR := hid hR
  have HS := hid hS
  clear hK hKc hS hR e0 H
  obtain ⟨⟨rn, rx⟩, hres⟩ : ∃ a, evRes row 3 e = a := ⟨_, rfl⟩
  obtain ⟨rk, hok⟩ : ∃ b, evOk row 3 e = b := ⟨_, rfl⟩
  have CI : ∀ W : World, Fr w1 W → Calls Try.prog 7 #[.agg #[.int .i64 e.kind, .int .i64 e.col, .bool e.val.null, .int .i64 e.val.n, .slice A e.kids.length c], .slice B row.length rc] W fun r w' => r = .returned (.tuple #[.agg #[.bool rn, .int .i64 rx], .bool rk]) ∧ Fr W w' := fun W hW => by
    have h := implEvalExpr 3 e A c row B rc W (HK.out.1.mono (rdEx_mono 3) hW.mle) HS.out HK.out.2.2 (HR.out.fr rdV_mono hW) (by omega)
    rw [hres, hok] at h
    exact h
  replace CI := hid CI
  have CS : ∀ W : World, Fr w1 W → Calls Try.prog 8 #[.agg #[.int .i64 e.kind, .int .i64 e.col, .bool e.val.null, .int .i64 e.val.n, .slice A e.kids.length c], .slice B row.length rc] W fun r w' => r = .returned (.tuple #[.agg #[.bool rn, .int .i64 rx], .bool rk]) ∧ Fr W w' := fun W hW => by
    have h := specEvalExpr 3 e A c row B rc W (HK.out.1.mono (rdEx_mono 3) hW.mle) HS.out (HR.out.fr rdV_mono hW) (by omega)
    rw [hres, hok] at h
    exact h
  replace CS := hid CS
  have HRES := hid hres
  have HOK := hid hok
  clear hres hok
  have FW : Fr w1 (w1.alloc (.cells #[.int .i64 e.kind, .int .i64 e.col, .bool e.val.null, .int .i64 e.val.n, .slice A e.kids.length c] 27)) := (Fr.refl _).alloc _
  obtain ⟨a0, a1, a2, a3, a4, _⟩ := (Blk.new w1 27 #[.int .i64 e.kind, .int .i64 e.col, .bool e.val.null, .int .i64 e.val.n, .slice A e.kids.length c]).five
  cases rk
  · skip
    go_wp2_with fail
    refine (CI.out _ FW).mono ?_
    rintro r w2 ⟨rfl, b2⟩
    have K : Fr w2 (w2.alloc (.cells #[.bool rn, .int .i64 rx] 24)) := (Fr.refl _).alloc _
    have FK := b2.trans K
    replace FW := FW.trans FK
    replace a0 := FK.cell a0
    replace a1 := FK.cell a1
    replace a2 := FK.cell a2
    replace a3 := FK.cell a3
    replace a4 := FK.cell a4
    obtain ⟨n1, x1, _⟩ := (Blk.new w2 24 #[.bool rn, .int .i64 rx]).pair
    clear FK K
    go_wp2_with fail
    refine (CS.out _ FW).mono ?_
    rintro r w3 ⟨rfl, b3⟩
    have K : Fr w3 (w3.alloc (.cells #[.bool rn, .int .i64 rx] 24)) := (Fr.refl _).alloc _
    have FK := b3.trans K
    replace FW := FW.trans FK
    replace a0 := FK.cell a0
    replace a1 := FK.cell a1
    replace a2 := FK.cell a2
    replace a3 := FK.cell a3
    replace a4 := FK.cell a4
    replace n1 := FK.cell n1
    replace x1 := FK.cell x1
    obtain ⟨n2, x2, _⟩ := (Blk.new w3 24 #[.bool rn, .int .i64 rx]).pair
    clear FK K
    go_wp2
    go_ret
    exact ⟨rfl, bw1.trans FW⟩
  have hl6 : row.length ≤ 6 := by
    have hr := evOk_row HOK.out
    unfold vrow at hr
    simp only [Bool.and_eq_true, decide_eq_true_eq] at hr
    omega
  have HM := hid (fun (i : Nat) (hi : i < row.length) => xcols_mem HOK.out hi)
  have hxl := xcols_len 3 e
  obtain ⟨L, eL⟩ : ∃ L, xcols 3 e = L := ⟨_, rfl⟩
  rw [eL] at hxl
  obtain ⟨m, em⟩ : ∃ m, msk 3 e = m := ⟨_, rfl⟩
  have HO := hid (oth_eval HOK.out)
  have EL := hid eL
  have EM := hid em
  clear eL em
  go_wp2_with fail
  refine (CI.out _ FW).mono ?_
  rintro r w2 ⟨rfl, b2⟩
  have K : Fr w2 (w2.alloc (.cells #[.bool rn, .int .i64 rx] 24)) := (Fr.refl _).alloc _
  have FK := b2.trans K
  replace FW := FW.trans FK
  replace a0 := FK.cell a0
  replace a1 := FK.cell a1
  replace a2 := FK.cell a2
  replace a3 := FK.cell a3
  replace a4 := FK.cell a4
  obtain ⟨n1, x1, _⟩ := (Blk.new w2 24 #[.bool rn, .int .i64 rx]).pair
  clear FK K
  go_wp2_with fail
  refine (CS.out _ FW).mono ?_
  rintro r w3 ⟨rfl, b3⟩
  have K : Fr w3 (w3.alloc (.cells #[.bool rn, .int .i64 rx] 24)) := (Fr.refl _).alloc _
  have FK := b3.trans K
  replace FW := FW.trans FK
  replace a0 := FK.cell a0
  replace a1 := FK.cell a1
  replace a2 := FK.cell a2
  replace a3 := FK.cell a3
  replace a4 := FK.cell a4
  replace n1 := FK.cell n1
  replace x1 := FK.cell x1
  obtain ⟨n2, x2, _⟩ := (Blk.new w3 24 #[.bool rn, .int .i64 rx]).pair
  clear FK K
  go_wp2_with fail
  refine (implColumnsOf 3 e A c _ (HK.out.1.mono (rdEx_mono 3) FW.mle) HS.out HK.out.2.2).mono ?_
  rw [EL.out]
  rintro r w4 ⟨A', cap', rfl, hC, b4⟩
  have HC := hid (hC.mono rdInt_mono (fromB_le _ _))
  clear hC
  replace FW := FW.trans b4
  replace a0 := b4.cell a0
  replace a1 := b4.cell a1
  replace a2 := b4.cell a2
  replace a3 := b4.cell a3
  replace a4 := b4.cell a4
  replace n1 := b4.cell n1
  replace x1 := b4.cell x1
  replace n2 := b4.cell n2
  replace x2 := b4.cell x2
  have hO5 := own_empty (w := w4) (base := w4.heap.size) (e := 24) (sz := 2) (Nat.le_refl _)
  have K5 : Fr w4 (w4.alloc (.cells #[] 24)) := (Fr.refl _).alloc _
  have CELLS := hid (And.intro a0 (And.intro a1 (And.intro a2 (And.intro a3 (And.intro a4 (And.intro n1 x1))))))
  clear a0 a1 a2 a3 a4 n1 x1 n2 x2
  go_wp2
  generalize w4.alloc (.cells #[] 24) = W5 at hO5 K5 ⊢
  go_loopw [10, 11] (fun s t wr => ∃ (k : Nat) (v : Value), k ≤ row.length ∧ t = .int .i64 k ∧ v = s ∧ Fr w4 wr ∧ Hid (wr.ownsRow w4.heap.size 24 2 v k (((oth m row).take k).flatMap cellsV))) (fun _ t _ => row.length - (intOf t).toNat)
  case atStart => exact ⟨0, _, by omega, rfl, rfl, K5, hid (by simpa using hO5)⟩
  case round =>
    obtain ⟨k, v, hk, rfl, rfl, hf, hO⟩ := hrel
    have hsr := hf.size
    clear hO5 K5
    by_cases hlt : k < row.length
    · obtain ⟨rb, ro, hB, r0, r1⟩ := HR.out.v hlt
      subst hB
      replace r0 := hf.cell (FW.cell r0)
      replace r1 := hf.cell (FW.cell r1)
      obtain ⟨q, eq⟩ : ∃ q, m.testBit k = q := ⟨_, rfl⟩
      have hdec := hid (show decide ((k : Int) ∈ L) = q by have h := HM.out k hlt; rw [EL.out, EM.out] at h; rw [h, eq])
      have HT := hid (show (oth m row).take (k + 1) = (oth m row).take k ++ [if q then row[k] else ⟨false, 7⟩] by rw [oth_take hlt, eq])
      clear eq
      cases q
      · go_wp2_with fail
        refine (isIn A' cap' L k _ (HC.out.fr rdInt_mono hf) (by unfold maxLen; omega)).mono ?_
        rintro r w' ⟨rfl, rfl⟩
        rw [hdec.out]
        go_wp2_with (at_builtin; refine wp_app1 rfl _ _ 28 rfl w4.heap.size 24 (.agg #[.bool false, .int .i64 0]) 2 16 Try.underlying28 (by kernel_rfl) rfl (by decide) (by decide) _ _ _ rfl (own_fr hO.out ((Fr.refl wr).alloc _)) (by omega) (by simp; omega) wr.heap.size (cellsV ⟨false, 7⟩) rfl (blk_new rfl) rfl rfl ?_; intro v8 w8 hO8 hg8)
        have F8 : Fr w4 w8 := Fr.grown (hf.alloc _) hg8 (own_fr hO.out ((Fr.refl wr).alloc _))
        have HO8 := hid (show w8.ownsRow w4.heap.size 24 2 v8 (k + 1) (((oth m row).take (k + 1)).flatMap cellsV) by rw [HT.out]; simpa using hO8)
        clear hO8
        go_roundw
        case rel => exact ⟨k + 1, _, by omega, by go_num, rfl, F8, HO8⟩
        case measure => simp [intOf]; omega
      · go_wp2_with fail
        refine (isIn A' cap' L k _ (HC.out.fr rdInt_mono hf) (by unfold maxLen; omega)).mono ?_
        rintro r w' ⟨rfl, rfl⟩
        rw [hdec.out]
        go_wp2_with (at_builtin; refine wp_app1 rfl _ _ 28 rfl w4.heap.size 24 (.agg #[.bool false, .int .i64 0]) 2 16 Try.underlying28 (by kernel_rfl) rfl (by decide) (by decide) _ _ _ rfl (own_fr hO.out ((Fr.refl wr).alloc _)) (by omega) (by simp; omega) wr.heap.size (cellsV row[k]) rfl (blk_new rfl) rfl rfl ?_; intro v8 w8 hO8 hg8)
        have F8 : Fr w4 w8 := Fr.grown (hf.alloc _) hg8 (own_fr hO.out ((Fr.refl wr).alloc _))
        have HO8 := hid (show w8.ownsRow w4.heap.size 24 2 v8 (k + 1) (((oth m row).take (k + 1)).flatMap cellsV) by rw [HT.out]; simpa using hO8)
        clear hO8
        go_roundw
        case rel => exact ⟨k + 1, _, by omega, by go_num, rfl, F8, HO8⟩
        case measure => simp [intOf]; omega
    · obtain rfl : k = row.length := by omega
      obtain ⟨OA, oc, rfl⟩ := own_form hO.out
      have HOR := hid ((own_V (xs := oth m row) (by have h := hO.out; rw [List.take_of_length_le (by rw [oth_len]; exact Nat.le_refl _)] at h; exact h) (oth_len m row).symm).mono rdV_mono (fromB_le _ _))
      have F1r := FW.trans hf
      obtain ⟨a0, a1, a2, a3, a4, n1, x1⟩ := CELLS.out
      replace a0 := hf.cell a0
      replace a1 := hf.cell a1
      replace a2 := hf.cell a2
      replace a3 := hf.cell a3
      replace a4 := hf.cell a4
      replace n1 := hf.cell n1
      replace x1 := hf.cell x1
      have CO := hid (show Calls Try.prog 7 #[.agg #[.int .i64 e.kind, .int .i64 e.col, .bool e.val.null, .int .i64 e.val.n, .slice A e.kids.length c], .slice OA row.length oc] wr fun r w' => r = .returned (.tuple #[.agg #[.bool rn, .int .i64 rx], .bool true]) ∧ Fr wr w' by
        have h := implEvalExpr 3 e A c (oth m row) OA oc wr (HK.out.1.mono (rdEx_mono 3) F1r.mle) HS.out HK.out.2.2 HOR.out (by rw [oth_len]; omega)
        have h2 := HO.out
        rw [EM.out] at h2
        rw [h2.1, h2.2, HRES.out, oth_len] at h
        exact h)
      go_wp2_with fail
      refine CO.out.mono ?_
      rintro r w9 ⟨rfl, b9⟩
      have K9 : Fr w9 (w9.alloc (.cells #[.bool rn, .int .i64 rx] 24)) := (Fr.refl _).alloc _
      have FK := b9.trans K9
      replace a0 := FK.cell a0
      replace a1 := FK.cell a1
      replace a2 := FK.cell a2
      replace a3 := FK.cell a3
      replace a4 := FK.cell a4
      replace n1 := FK.cell n1
      replace x1 := FK.cell x1
      obtain ⟨n9, x9, _⟩ := (Blk.new w9 24 #[.bool rn, .int .i64 rx]).pair
      have F9 := F1r.trans FK
      go_wp2_with fail
      refine (specColumnsOf 3 e A c _ (HK.out.1.mono (rdEx_mono 3) F9.mle) HS.out).mono ?_
      rw [EL.out]
      rintro r w10 ⟨S', sc', rfl, hS10, b10⟩
      have HS10 := hid hS10
      clear hS10
      replace n1 := b10.cell n1
      replace x1 := b10.cell x1
      replace n9 := b10.cell n9
      replace x9 := b10.cell x9
      go_wp2_with fail
      refine (equalInts A' S' cap' sc' L L _ (HC.out.fr rdInt_mono ((hf.trans FK).trans b10)) HS10.out (by unfold maxLen; omega) (by unfold maxLen; omega)).mono ?_
      rintro r w11 ⟨rfl, b11⟩
      rw [show decide (L = L) = true by simp]
      replace n1 := b11.cell n1
      replace x1 := b11.cell x1
      replace n9 := b11.cell n9
      replace x9 := b11.cell x9
      go_wp2
      go_ret
      exact ⟨rfl, bw1.trans (F9.trans (b10.trans b11))⟩
end Go.Proofs.Ytmceafkedepjfaa
