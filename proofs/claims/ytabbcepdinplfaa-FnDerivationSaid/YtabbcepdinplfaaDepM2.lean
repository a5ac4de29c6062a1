/- The walk of the law on derivations with generated arguments. -/
import Derived.Test.YtabbcepdinplfaaDepW6
import Derived.Test.YtabbcepdinplfaaDepW7
import Derived.Test.YtabbcepdinplfaaDepG2
import Derived.Test.YtabbcepdinplfaaDepQ
import Derived.Test.YtabbcepdinplfaaInts
import Derived.BigQuiet
namespace Go.Proofs.Ytabbcepdinplfaa
open Go Go.RowKit

theorem RdSl.take {α : Type} {rd : Rd α} {m : Mv} {sz : Nat} {A : Option Addr} {xs : List α} (h : RdSl rd m sz A xs) (k : Nat) : RdSl rd m sz A (xs.take k) := fun hne => by
  have hx : xs ≠ [] := by intro e; subst e; simp at hne
  obtain ⟨b, o, hA, hc⟩ := h hx
  refine ⟨b, o, hA, fun j hj => ?_⟩
  have hj' : j < xs.length := by simp at hj; omega
  rw [List.getElem_take]
  exact hc j hj'
theorem own_cap {w : World} {base e sz n cap : Nat} {A : Option Addr} {xs : List Value} (h : w.ownsRow base e sz (.slice A n cap) n xs) : n ≤ cap := by
  rcases h.2 with ⟨h', h0⟩ | ⟨g, cap', cur, h', _, _, h1, _⟩
  · omega
  · simp only [Value.slice.injEq, true_and] at h'
    omega
theorem nv_iv' (xs : List Nat) : xs.map nv = (xs.map fun (n : Nat) => (n : Int)).map iv := by simp [nv, iv]
theorem not_take {D : List Int} (h : D.Pairwise (· ≠ ·)) {k : Nat} (hk : k < D.length) : D[k] ∉ D.take k := by
  intro hm
  obtain ⟨j, hj, e⟩ := List.mem_iff_getElem.1 hm
  rw [List.getElem_take] at e
  have hj' : j < k := by simp at hj; omega
  exact (List.pairwise_iff_getElem.1 h j k (by omega) hk hj') e
set_option maxHeartbeats 1000000 in
theorem walkFnDerivation (A : Option Addr) (c : Nat) (xs : List Nat) (w : World) (hx : RdSl rdByte w.cell? 1 A xs) (hl : xs.length ≤ maxLen) (hc : xs.length ≤ c) :
    Calls Try.prog 15 #[.slice A xs.length c] w fun e w' => e = .returned (.bool true) ∧ Fr w w' := by
  have H := hid hx
  clear hx
  unfold maxLen at hl
  by_cases hs : xs.length ≤ 1048576
  · have e0 : decide ((1048576 : Int) < (xs.length : Int)) = false := by simp; omega
    go_enter Try.func15, Try.ntmps15
    go_wp2_with fail
    refine (drawDerivation _ _ _ _ H.out hs hc).mono ?_
    rintro e w1 ⟨A2, c2, ds, wd, s, rfl, hds, d1, -, -, -, -, b1⟩
    have X := hid d1
    have B1 := hid b1
    clear d1 b1 H
    obtain ⟨D, hD⟩ : ∃ D : List Int, D = (drvD ds wd s).map fun (n : Nat) => (n : Int) := ⟨_, rfl⟩
    have hDl : D.length = (drvD ds wd s).length := by rw [hD]; simp
    have hDv : (drvD ds wd s).map nv = D.map iv := by rw [hD]; exact nv_iv' _
    have hD64 : D.length ≤ 64 := by
      rw [hDl]; unfold drvD; split
      · rename_i h
        rw [Bool.and_eq_true] at h
        obtain ⟨h1, h2⟩ := wd_of (vwd_of h.1)
        obtain ⟨n, rfl, hn⟩ := nat_of_vset h1 h2 h.2
        exact drv_len (vdeps_ok h.1) hn
      · simp
    have hm : D.length ≤ maxLen := by unfold maxLen; omega
    have SP : ∀ (w : World), RdSl rdDep w.cell? 2 A2 ds → Calls Try.prog 44 #[.slice A2 ds.length c2, .int .i64 wd, .int .i64 s] w fun e w' => ∃ A' c', e = .returned (.slice A' D.length c') ∧ RdSl rdInt w'.cell? 1 A' D ∧ Fr w w' := fun w hx =>
      (specDerivation A2 c2 ds wd s w hx (by omega)).mono fun e w' ⟨v, he, ho, hf⟩ => by
        rw [hDv, ← hDl] at ho
        obtain ⟨A', c', rfl⟩ := own_form ho
        exact ⟨A', c', he, (own_int ho rfl).mono rdInt_mono (fromB_le _ _), hf⟩
    have IM : ∀ (w : World), RdSl rdDep w.cell? 2 A2 ds → Calls Try.prog 45 #[.slice A2 ds.length c2, .int .i64 wd, .int .i64 s] w fun e w' => ∃ A' c', e = .returned (.slice A' D.length c') ∧ RdSl rdInt w'.cell? 1 A' D ∧ D.length ≤ c' ∧ Fr w w' := fun w hx =>
      (implDerivation A2 c2 ds wd s w hx (by omega)).mono fun e w' ⟨v, he, ho, hf⟩ => by
        rw [hDv, ← hDl] at ho
        obtain ⟨A', c', rfl⟩ := own_form ho
        exact ⟨A', c', he, (own_int ho rfl).mono rdInt_mono (fromB_le _ _), own_cap ho, hf⟩
    have HSP := hid SP
    have HIM := hid IM
    obtain ⟨n, hn0⟩ : ∃ n, cloD ds wd s = n := ⟨_, rfl⟩
    have HL : Hid (0 ≤ n → chkD ds wd ⟨s, n⟩ D = true ∧ D.Pairwise (· ≠ ·)) := hid fun h => by
      rw [← hn0] at h
      obtain ⟨k1, k2⟩ := drv_law h
      rw [hn0, ← hD] at k1
      refine ⟨k1, ?_⟩
      rw [hD, List.pairwise_map]
      exact k2.imp fun h e => h (by omega)
    have hN := hid hn0
    have HM := hid hm
    have eD : decide (D = D) = true := by simp
    clear SP IM hDl hDv hD hn0 hm
    go_wp2_with fail
    refine (HIM.out _ X.out).mono ?_
    rintro e w2 ⟨A3, c3, rfl, r2, hcap, b2⟩
    have R2 := hid r2
    clear r2
    go_wp2_with fail
    refine (HSP.out _ (X.out.fr rdDep_mono b2)).mono ?_
    rintro e w3 ⟨A4, c4, rfl, r3, b3⟩
    have R3 := hid r3
    clear r3
    go_wp2_with fail
    refine (equalInts _ _ _ _ _ _ _ (R2.out.fr rdInt_mono b3) R3.out HM.out HM.out).mono ?_
    rintro e w4 ⟨rfl, b4⟩
    go_wp2_with fail
    refine (implClosureOf _ _ _ _ _ _ (X.out.fr rdDep_mono ((b2.trans b3).trans b4)) (by omega)).mono ?_
    rintro e w5 ⟨rfl, b5⟩
    rw [hN.out]
    by_cases h0 : 0 ≤ n
    · have e1 : decide (n < 0) = false := by simp; omega
      obtain ⟨k1, k2⟩ := HL.out h0
      have K1 := hid k1
      have K2 := hid k2
      have F5 : Fr w2 w5 := (b3.trans b4).trans b5
      clear k1 k2 h0 HL
      go_wp2
      go_loopw [7] (fun i wr => ∃ k : Nat, i = .int .i64 k ∧ k ≤ D.length ∧ Fr w5 wr) (fun i _ => D.length - (intOf i).toNat)
      case atStart => exact ⟨0, rfl, by omega, Fr.refl _⟩
      case round =>
        obtain ⟨k, rfl, hk, hb6⟩ := hrel
        by_cases hlt : k < D.length
        · have rr := (R2.out.fr rdInt_mono (F5.trans hb6))
          obtain ⟨bb, o, hA3, q0⟩ := rr.at_ hlt
          have IS : ∀ w, RdSl rdInt w.cell? 1 A3 D → Calls Try.prog 51 #[.slice A3 k c3, .int .i64 D[k]] w fun e w' => e = .returned (.bool false) ∧ w' = w := fun w hw => by
            have h := isIn A3 c3 (D.take k) D[k] w (hw.take k) (by simp; unfold maxLen; omega)
            have hl : (D.take k).length = k := by simp; omega
            rw [hl] at h
            have hf : decide (D[k] ∈ D.take k) = false := by simpa using not_take K2.out hlt
            rw [hf] at h
            exact h.mono fun e w' k => ⟨k.1, k.2.symm⟩
          have HIS := hid IS
          clear IS
          have q1 : wr.cell? ⟨bb, o + k, none⟩ = some (.int .i64 D[k]) := by simpa [rdInt] using q0
          have RR := hid rr
          clear q0 rr
          subst hA3
          have g1 : (0 : Int) ≤ (k : Int) := by omega
          have g2 : (k : Int) ≤ (c3 : Int) := by omega
          have g3 : (k : Int) < (D.length : Int) := by omega
          go_wp2_with fail
          go_quiet (first | (go_at_call 51; refine Calls.quiet_of_same (HIS.out _ (RR.out.fr rdInt_mono ?_)); ((repeat (first | with_reducible exact Fr.refl _ | with_reducible assumption | with_reducible refine Fr.alloc ?_ _ | with_reducible refine Fr.drew ?_ | with_reducible refine Fr.drewN ?_ _ | (with_reducible refine Fr.setNew2 ?_ ?_ _; · (simp <;> omega)) | with_reducible refine Fr.trans ?_ (by assumption))))))
          go_wp2
          go_roundw
          case rel => exact ⟨k + 1, by go_num, by omega, by (repeat (first | with_reducible exact Fr.refl _ | with_reducible assumption | with_reducible refine Fr.alloc ?_ _ | with_reducible refine Fr.drew ?_ | with_reducible refine Fr.drewN ?_ _ | (with_reducible refine Fr.setNew2 ?_ ?_ _; · (simp <;> omega)) | with_reducible refine Fr.trans ?_ (by assumption)))⟩
          case measure => simp [intOf]; omega
        · go_wp2_with fail
          refine (implClosureOf _ _ _ _ _ _ (X.out.fr rdDep_mono ((b2.trans F5).trans hb6)) (by omega)).mono ?_
          rintro e w7 ⟨rfl, b7⟩
          rw [hN.out]
          go_wp2_with fail
          refine (implCheckDerivation _ _ _ _ _ _ _ _ _ _ (X.out.fr rdDep_mono (((b2.trans F5).trans hb6).trans b7)) (by omega) (R2.out.fr rdInt_mono ((F5.trans hb6).trans b7)) HM.out).mono ?_
          rintro e w8 ⟨rfl, b8⟩
          rw [K1.out]
          go_wp2
          go_ret
          exact ⟨rfl, B1.out.trans ((((b2.trans F5).trans hb6).trans b7).trans b8)⟩
    · have e1 : decide (n < 0) = true := by simp; omega
      clear h0
      go_wp2_with fail
      refine (HSP.out _ (X.out.fr rdDep_mono (((b2.trans b3).trans b4).trans b5))).mono ?_
      rintro e w6 ⟨A6, c6, rfl, r6, b6⟩
      go_wp2_with fail
      refine (equalInts _ _ _ _ _ _ _ (R2.out.fr rdInt_mono (((b3.trans b4).trans b5).trans b6)) r6 HM.out HM.out).mono ?_
      rintro e w7 ⟨rfl, b7⟩
      go_wp2
      go_ret
      exact ⟨ret_bool (by simp), B1.out.trans (((((b2.trans b3).trans b4).trans b5).trans b6).trans b7)⟩
  · have e0 : decide ((1048576 : Int) < (xs.length : Int)) = true := by simp; omega
    go_enter Try.func15, Try.ntmps15
    go_wp2
    go_ret
    exact ⟨rfl, Fr.refl _⟩
end Go.Proofs.Ytabbcepdinplfaa
