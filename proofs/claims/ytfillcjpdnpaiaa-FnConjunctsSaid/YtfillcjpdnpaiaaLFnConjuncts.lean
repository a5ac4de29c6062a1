/- Walk of the law FnConjuncts. -/
import Derived.Test.YtfillcjpdnpaiaaConH
import Derived.Test.YtfillcjpdnpaiaaConjD
import Derived.Test.YtfillcjpdnpaiaaConjL
import Derived.Test.YtfillcjpdnpaiaaEqL
import Derived.Test.YtfillcjpdnpaiaaEvalM
import Derived.Test.YtfillcjpdnpaiaaLaw
namespace Go.Proofs.Ytfillcjpdnpaiaa
open Go Go.RowKit

theorem sm_vE {wd : Int} : ∀ {n d : Nat} {e : Ex}, vE wd n d e = true → exSm n e.kids
  | 0, d, e, hv => by have := vE_two hv; show e.kids.length ≤ 1048576; omega
  | n + 1, d, e, hv => ⟨by have := vE_two hv; omega, fun i hi => by
    obtain ⟨d0, rfl, hv0⟩ := vE_down hv hi
    exact sm_vE hv0⟩
theorem xconj_facts {n : Nat} {e : Ex} (hd : Dp n e) : (xconj n e).length ≤ 256 ∧ exSm (n + 1) (xconj n e) ∧ ∀ x ∈ xconj n e, x.kind ≠ 8 := by
  unfold xconj
  cases hv : vexpr 6 n e
  · simp only [Bool.false_eq_true, if_false, List.length_nil]
    exact ⟨by omega, exSm_nil _, fun x hx => by simp at hx⟩
  · simp only [if_true]
    have hvE := vexpr_vE hv
    have hl : (cnj n e).length ≤ 256 := (cnj_len hvE).2
    refine ⟨hl, ⟨by omega, fun i hi => ?_⟩, fun x hx => (cnj_parts hvE hd x hx).2.2⟩
    obtain ⟨_, ⟨d', _, h3⟩, _⟩ := cnj_parts hvE hd _ (List.getElem_mem hi)
    exact sm_vE h3
theorem vScal_wide {a b : Int} (h : a ≤ b) {e : Ex} (hs : vScal a e = true) : vScal b e = true := by
  unfold vScal at hs ⊢
  by_cases hk : e.kind = 1
  · rw [if_pos hk] at hs ⊢
    simp only [Bool.and_eq_true, decide_eq_true_eq] at hs ⊢
    exact ⟨⟨hs.1.1, by omega⟩, hs.2⟩
  · rw [if_neg hk] at hs ⊢
    exact hs
theorem vE_wide {a b : Int} (h : a ≤ b) : ∀ {n : Nat} {d : Int} {e : Ex}, vE a n d e = true → vE b n d e = true
  | 0, d, e, hv => by
    simp only [vE, Bool.and_eq_true] at hv ⊢
    exact ⟨hv.1, vScal_wide h hv.2⟩
  | n + 1, d, e, hv => by
    simp only [vE, Bool.and_eq_true, List.all_eq_true] at hv ⊢
    exact ⟨⟨hv.1.1, vScal_wide h hv.1.2⟩, fun x hx => vE_wide h (hv.2 x hx)⟩
theorem vexpr_wide {a b : Int} (h : a ≤ b) (hb : b ≤ 6) {n : Nat} {e : Ex} (hv : vexpr a n e = true) : vexpr b n e = true := by
  unfold vexpr at hv ⊢
  simp only [Bool.and_eq_true, wid, decide_eq_true_eq] at hv ⊢
  exact ⟨⟨by omega, hb⟩, vE_wide h hv.2⟩
set_option maxRecDepth 100000 in
set_option maxHeartbeats 4000000 in
theorem walkFnConjuncts (A0 : Option Addr) (c0 : Nat) (xs : List Nat) (A1 : Option Addr) (c1 : Nat) (ys : List Nat) (w : World) (hx : RdSl rdByte w.cell? 1 A0 xs) (_ : xs.length ≤ maxLen) (hc : xs.length ≤ c0) (_ : RdSl rdByte w.cell? 1 A1 ys) (_ : ys.length ≤ maxLen) (_ : ys.length ≤ c1) :
    Calls Try.prog 7 #[.slice A0 xs.length c0, .slice A1 ys.length c1] w fun r w' => r = .returned (.bool true) ∧ Fr w w' := by
  have H := hid hx
  clear hx
  by_cases hlen : (1048576 : Int) < xs.length
  · have e0 : decide ((1048576 : Int) < (xs.length : Int)) = true := by simp; omega
    go_enter Try.func7, Try.ntmps7
    go_wp2
    go_ret
    exact ⟨rfl, Fr.refl _⟩
  have e0 : decide ((1048576 : Int) < (xs.length : Int)) = false := by simp; omega
  by_cases hlen2 : (1048576 : Int) < ys.length
  · have e1 : decide ((1048576 : Int) < (ys.length : Int)) = true := by simp; omega
    go_enter Try.func7, Try.ntmps7
    go_wp2
    go_ret
    exact ⟨rfl, Fr.refl _⟩
  have e1 : decide ((1048576 : Int) < (ys.length : Int)) = false := by simp; omega
  go_enter Try.func7, Try.ntmps7
  go_wp2_with fail
  refine (drawConjuncts _ _ _ _ H.out (by omega) hc).mono ?_
  rintro r w1 ⟨⟨e, A, c⟩, rfl, hK, hS, hl, bw1⟩
  have HK := hid hK
  have HS := hid hS
  have FX := xconj_facts (dp_of 7 hK.1)
  obtain ⟨L, eL⟩ : ∃ L, xconj 7 e = L := ⟨_, rfl⟩
  rw [eL] at FX
  obtain ⟨hL, hLs, hL8⟩ := FX
  have EL := hid eL
  have HLS := hid hLs
  have HL8 := hid hL8
  clear hK hS eL hLs hL8 e0 e1 H
  have B1 := Blk.new w1 33 #[.int .i64 e.kind, .int .i64 e.col, .bool e.val.null, .int .i64 e.val.n, .slice A e.kids.length c]
  have FW : Fr w1 (w1.alloc (.cells #[.int .i64 e.kind, .int .i64 e.col, .bool e.val.null, .int .i64 e.val.n, .slice A e.kids.length c] 33)) := (Fr.refl _).alloc _
  go_wp2_with fail
  refine (implConjuncts 7 e A c _ (HK.out.1.mono (rdEx_mono 7) FW.mle) HS.out HK.out.2.2).mono ?_
  rintro r w2 ⟨v, q, rfl, hRow, hq, b2⟩
  obtain ⟨VA, vc, rfl⟩ := own_form hRow.own
  have hql : q.length = L.length := by rw [← EL.out, ← hq, List.length_map]
  have hRd := hRow.rd
  rw [hq, EL.out] at hRd
  have HRd := hid (hRd.mono (rdEx_mono 8) (fromB_le _ _))
  clear hRow hRd hq
  rw [hql]
  clear hql
  have F2 := FW.trans b2
  obtain ⟨a0, a1, a2, a3, a4, _⟩ := (B1.fr b2).five
  go_wp2_with fail
  refine (specConjuncts 7 e A c _ (HK.out.1.mono (rdEx_mono 7) F2.mle) HS.out).mono ?_
  rw [EL.out]
  rintro r w3 ⟨SA, sc, rfl, hSp, b3⟩
  have HSp := hid hSp
  clear hSp
  have F3 := F2.trans b3
  clear a0 a1 a2 a3 a4
  go_wp2_with fail
  refine (eqExL 8 VA SA vc sc L _ (HRd.out.mono (rdEx_mono 8) b3.mle) HSp.out HLS.out).mono ?_
  rintro r w4 ⟨rfl, b4⟩
  have F4 := F3.trans b4
  have G4 := b3.trans b4
  obtain ⟨a0, a1, a2, a3, a4, _⟩ := (B1.fr (b2.trans G4)).five
  go_wp2_with fail
  refine (implValidExpr 7 e A c 3 _ (HK.out.1.mono (rdEx_mono 7) F4.mle) HS.out HK.out.2.2).mono ?_
  rintro r w5 ⟨rfl, b5⟩
  have F5 := F4.trans b5
  have G5 := G4.trans b5
  clear a0 a1 a2 a3 a4
  obtain ⟨a0, a1, a2, a3, a4, _⟩ := (B1.fr (b2.trans G5)).five
  cases hv : vexpr 3 7 e
  · go_wp2_with fail
    refine (specConjuncts 7 e A c _ (HK.out.1.mono (rdEx_mono 7) F5.mle) HS.out).mono ?_
    rw [EL.out]
    rintro r w6 ⟨SA', sc', rfl, hSp', b6⟩
    have HSp' := hid hSp'
    clear hSp' a0 a1 a2 a3 a4
    go_wp2_with fail
    refine (eqExL 8 VA SA' vc sc' L _ (HRd.out.mono (rdEx_mono 8) (G5.trans b6).mle) HSp'.out HLS.out).mono ?_
    rintro r w7 ⟨rfl, b7⟩
    go_wp2
    go_ret
    exact ⟨rfl, bw1.trans ((F5.trans b6).trans b7)⟩
  · clear a0 a1 a2 a3 a4
    obtain ⟨n1, h1⟩ : ∃ n1, (ys.length : Int) % 4 = n1 := ⟨_, rfl⟩
    obtain ⟨n2, h2⟩ : ∃ n2, (ys.length : Int) / 4 % 4 = n2 := ⟨_, rfl⟩
    have hn1 : 0 ≤ n1 ∧ n1 < 4 := by omega
    have hn2 : 0 ≤ n2 ∧ n2 < 4 := by omega
    have hvr : vrow [⟨false, n1⟩, ⟨false, n2⟩, ⟨true, 0⟩] = true := by
      simp [vrow, V.valid]; omega
    have hev : evOk [⟨false, n1⟩, ⟨false, n2⟩, ⟨true, 0⟩] 7 e = true := by
      unfold evOk; rw [hvr]; exact hv
    have hLc : L = cnj 7 e := by rw [← EL.out]; unfold xconj; rw [vexpr_wide (by omega) (by omega) hv]; rfl
    have LAW := hid (show L.all (isT [⟨false, n1⟩, ⟨false, n2⟩, ⟨true, 0⟩] 7) = isT [⟨false, n1⟩, ⟨false, n2⟩, ⟨true, 0⟩] 7 e by rw [hLc]; exact cnj_law hev (dp_of 7 HK.out.1))
    clear hn1 hn2 hvr hev hLc hv
    go_wp2
    have K6 : Fr w5 (w5.alloc (.cells #[.bool false, .int .i64 n1, .bool false, .int .i64 n2, .bool true, .int .i64 0] 30)) := (Fr.refl _).alloc _
    have hRow : RdSl rdV (w5.alloc (.cells #[.bool false, .int .i64 n1, .bool false, .int .i64 n2, .bool true, .int .i64 0] 30)).cell? 2 (some ⟨w5.heap.size, 0, none⟩) [⟨false, n1⟩, ⟨false, n2⟩, ⟨true, 0⟩] := fun _ => ⟨_, 0, rfl, fun i hi => by
      have hB := Blk.new w5 30 #[.bool false, .int .i64 n1, .bool false, .int .i64 n2, .bool true, .int .i64 0]
      rcases (by simp at hi; omega : i = 0 ∨ i = 1 ∨ i = 2) with rfl | rfl | rfl
      all_goals exact ⟨(hB.cell _).trans rfl, (hB.cell _).trans rfl⟩⟩
    have HROW := hid hRow
    clear hRow h1 h2
    generalize w5.alloc (.cells #[.bool false, .int .i64 n1, .bool false, .int .i64 n2, .bool true, .int .i64 0] 30) = W6 at K6 HROW ⊢
    go_loopw [8, 9] (fun s t wr => ∃ (k : Nat) (b : Bool), k ≤ L.length ∧ t = .int .i64 k ∧ s = .bool b ∧ Fr W6 wr ∧ Hid ((L.take k).all (isT [⟨false, n1⟩, ⟨false, n2⟩, ⟨true, 0⟩] 7) = b)) (fun _ t _ => L.length - (intOf t).toNat)
    case atStart => exact ⟨0, true, by omega, rfl, rfl, Fr.refl _, hid (by simp)⟩
    case round =>
      obtain ⟨k, b, hk, rfl, rfl, hf, hb⟩ := hrel
      have FF := (F5.trans K6).trans hf
      have GG := (G5.trans K6).trans hf
      by_cases hlt : k < L.length
      · obtain ⟨lb, lo, K, kc, hVA, d0, d1, d2, d3, d4, hKk⟩ := HRd.out.exc hlt
        subst hVA
        replace d0 := GG.cell d0
        replace d1 := GG.cell d1
        replace d2 := GG.cell d2
        replace d3 := GG.cell d3
        replace d4 := GG.cell d4
        have HKk := hid (hKk.fr GG)
        have e8 : (L[k].kind == 8) = false := by simp; exact HL8.out _ (List.getElem_mem hlt)
        have HT := hid (show (L.take (k + 1)).all (isT [⟨false, n1⟩, ⟨false, n2⟩, ⟨true, 0⟩] 7) = (b && isT [⟨false, n1⟩, ⟨false, n2⟩, ⟨true, 0⟩] 7 L[k]) by
          rw [List.take_succ_eq_append_getElem hlt, List.all_append, hb.out]; simp)
        clear hKk hb
        cases b
        · go_wp2
          go_roundw
          case rel => exact ⟨k + 1, false, by omega, by go_num, rfl, hf, hid (by rw [HT.out]; rfl)⟩
          case measure => simp [intOf]; omega
        · go_wp2_with fail
          refine (isTrueC 7 L[k] K kc [⟨false, n1⟩, ⟨false, n2⟩, ⟨true, 0⟩] (some ⟨w5.heap.size, 0, none⟩) 3 _ HKk.out (HLS.out.2 k hlt) (HROW.out.fr rdV_mono hf) (by simp)).mono ?_
          rintro r w7 ⟨rfl, b7⟩
          go_wp2
          go_roundw
          case rel => exact ⟨k + 1, _, by omega, by go_num, rfl, hf.trans b7, hid (by rw [HT.out]; simp)⟩
          case measure => simp [intOf]; omega
      · obtain rfl : k = L.length := by omega
        obtain ⟨a0, a1, a2, a3, a4, _⟩ := (B1.fr (b2.trans GG)).five
        have HB := hid (show b = isT [⟨false, n1⟩, ⟨false, n2⟩, ⟨true, 0⟩] 7 e by rw [← LAW.out, ← hb.out, List.take_of_length_le (Nat.le_refl _)])
        clear hb
        go_wp2_with fail
        refine (isTrueC 7 e A c [⟨false, n1⟩, ⟨false, n2⟩, ⟨true, 0⟩] (some ⟨w5.heap.size, 0, none⟩) 3 _ (HK.out.fr FF) HS.out (HROW.out.fr rdV_mono hf) (by simp)).mono ?_
        rintro r w7 ⟨rfl, b7⟩
        rw [← HB.out]
        have eb : (b == b) = true := by simp
        go_wp2
        go_ret
        exact ⟨rfl, bw1.trans (FF.trans b7)⟩
end Go.Proofs.Ytfillcjpdnpaiaa
