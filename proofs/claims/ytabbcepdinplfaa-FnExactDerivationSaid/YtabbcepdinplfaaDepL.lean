/- Walks of the dependency laws. -/
import Derived.Test.YtabbcepdinplfaaDepW6
import Derived.Test.YtabbcepdinplfaaDepOpen
import Derived.Test.YtabbcepdinplfaaDepW7
import Derived.Test.YtabbcepdinplfaaInts
import Derived.Test.YtabbcepdinplfaaMark
namespace Go.Proofs.Ytabbcepdinplfaa
open Go Go.RowKit

theorem szR {n : Nat} (h : n ≤ 1048576) : (if (1048576 : Int) < (n : Int) then (-1 : Int) else 1048576 - n) = 1048576 - n := by rw [if_neg (by omega)]
theorem szR' {n : Nat} (h : ¬ n ≤ 1048576) : (if (1048576 : Int) < (n : Int) then (-1 : Int) else 1048576 - n) = -1 := by rw [if_pos (by omega)]
/-- What toDependencyS hands back, without its block. -/
theorem toDepS' (A : Option Addr) (cap : Nat) (xs : List Dep) (w : World) (hx : RdSl rdDep w.cell? 2 A xs) (hl : xs.length ≤ 1048576) :
    Calls Try.prog 24 #[.slice A xs.length cap] w fun e w' => ∃ g, e = .returned (.slice (some ⟨g, 0, none⟩) xs.length xs.length) ∧ RdSl rdDep w'.cell? 2 (some ⟨g, 0, none⟩) xs ∧ Fr w w' :=
  (toDepS A cap xs w hx hl).mono fun _ _ ⟨g, _, h1, _, _, _, h5, h6⟩ => ⟨g, h1, h5, h6⟩

theorem walkFnExactValidDependencies (A : Option Addr) (c : Nat) (xs : List Dep) (wd : Int) (w : World) (hx : RdSl rdDep w.cell? 2 A xs) (hl : xs.length ≤ maxLen) (_ : I64 wd) :
    Calls Try.prog 6 #[.slice A xs.length c, .int .i64 wd] w fun e w' => e = .returned (.bool true) ∧ Fr w w' := by
  have H := hid hx
  clear hx
  by_cases hs : xs.length ≤ 1048576
  · go_enter Try.func6, Try.ntmps6
    go_wp2_with fail
    refine (szDepS _ _ _ _ _ hl (by omega) (by omega)).mono ?_
    rintro e w' ⟨rfl, rfl⟩
    rw [szR hs]
    go_wp2_with fail
    refine (toDepS' _ _ _ _ H.out hs).mono ?_
    rintro e w1 ⟨g1, rfl, x1, b1⟩
    have X1 := hid x1; clear x1
    go_wp2_with fail
    refine (specValidDependencies _ _ _ _ _ X1.out hl).mono ?_
    rintro e w2 ⟨rfl, b2⟩
    go_wp2_with fail
    refine (toDepS' _ _ _ _ (H.out.fr rdDep_mono (b1.trans b2)) hs).mono ?_
    rintro e w3 ⟨g3, rfl, x3, b3⟩
    have X3 := hid x3; clear x3
    go_wp2_with fail
    refine (implValidDeps _ _ _ _ _ X3.out hl).mono ?_
    rintro e w4 ⟨rfl, b4⟩
    go_wp2_with fail
    refine (toDepS' _ _ _ _ (H.out.fr rdDep_mono (((b1.trans b2).trans b3).trans b4)) hs).mono ?_
    rintro e w5 ⟨g5, rfl, x5, b5⟩
    have X5 := hid x5; clear x5
    go_wp2_with fail
    refine (eqDepS _ _ _ _ _ _ _ (X3.out.fr rdDep_mono (b4.trans b5)) X5.out hs hs).mono ?_
    rintro e w6 ⟨rfl, b6⟩
    go_wp2
    go_ret
    exact ⟨ret_bool (by simp), ((((b1.trans b2).trans b3).trans b4).trans b5).trans b6⟩
  · go_enter Try.func6, Try.ntmps6
    go_wp2_with fail
    refine (szDepS _ _ _ _ _ hl (by omega) (by omega)).mono ?_
    rintro e w' ⟨rfl, rfl⟩
    rw [szR' hs]
    go_wp2
    go_ret
    exact ⟨rfl, Fr.refl _⟩
theorem walkFnExactClosureOf (A : Option Addr) (c : Nat) (xs : List Dep) (wd s : Int) (w : World) (hx : RdSl rdDep w.cell? 2 A xs) (hl : xs.length ≤ maxLen) (_ : I64 wd) (_ : I64 s) :
    Calls Try.prog 9 #[.slice A xs.length c, .int .i64 wd, .int .i64 s] w fun e w' => e = .returned (.bool true) ∧ Fr w w' := by
  have H := hid hx
  clear hx
  by_cases hs : xs.length ≤ 1048576
  · go_enter Try.func9, Try.ntmps9
    go_wp2_with fail
    refine (szDepS _ _ _ _ _ hl (by omega) (by omega)).mono ?_
    rintro e w' ⟨rfl, rfl⟩
    rw [szR hs]
    go_wp2_with fail
    refine (toDepS' _ _ _ _ (H.out.fr rdDep_mono (Fr.refl _)) hs).mono ?_
    rintro e w1 ⟨g1, rfl, x1, b1⟩
    have X1 := hid x1; clear x1
    go_wp2_with fail
    refine (specClosureOf _ _ _ _ _ _ X1.out hs).mono ?_
    rintro e w2 ⟨rfl, b2⟩
    go_wp2_with fail
    refine (toDepS' _ _ _ _ (H.out.fr rdDep_mono (b1.trans b2)) hs).mono ?_
    rintro e w3 ⟨g3, rfl, x3, b3⟩
    have X3 := hid x3; clear x3
    go_wp2_with fail
    refine (implClosureOf _ _ _ _ _ _ X3.out hs).mono ?_
    rintro e w4 ⟨rfl, b4⟩
    go_wp2_with fail
    refine (toDepS' _ _ _ _ (H.out.fr rdDep_mono (((b1.trans b2).trans b3).trans b4)) hs).mono ?_
    rintro e w5 ⟨g5, rfl, x5, b5⟩
    have X5 := hid x5; clear x5
    go_wp2_with fail
    refine (eqDepS _ _ _ _ _ _ _ (X3.out.fr rdDep_mono (b4.trans b5)) X5.out hs hs).mono ?_
    rintro e w6 ⟨rfl, b6⟩
    go_wp2
    go_ret
    exact ⟨ret_bool (by simp), ((((b1.trans b2).trans b3).trans b4).trans b5).trans b6⟩
  · go_enter Try.func9, Try.ntmps9
    go_wp2_with fail
    refine (szDepS _ _ _ _ _ hl (by omega) (by omega)).mono ?_
    rintro e w' ⟨rfl, rfl⟩
    rw [szR' hs]
    go_wp2
    go_ret
    exact ⟨rfl, Fr.refl _⟩
theorem walkFnExactImplies (A : Option Addr) (c : Nat) (xs : List Dep) (wd x y : Int) (w : World) (hx : RdSl rdDep w.cell? 2 A xs) (hl : xs.length ≤ maxLen) (_ : I64 wd) :
    Calls Try.prog 10 #[.slice A xs.length c, .int .i64 wd, .agg #[.int .i64 x, .int .i64 y]] w fun e w' => e = .returned (.bool true) ∧ Fr w w' := by
  have H := hid hx
  clear hx
  have F0 : Fr w (w.alloc (.cells #[.int .i64 x, .int .i64 y] 54)) := (Fr.refl _).alloc _
  by_cases hs : xs.length ≤ 1048576
  · go_enter Try.func10, Try.ntmps10
    go_wp2_with fail
    refine (szDepS _ _ _ _ _ hl (by omega) (by omega)).mono ?_
    rintro e w' ⟨rfl, rfl⟩
    rw [szR hs]
    go_wp2_with fail
    go_region_held3 (fun w' => w'.cell? ⟨w.heap.size, 0, none⟩ = some (.int .i64 x) ∧ w'.cell? ⟨w.heap.size, 1, none⟩ = some (.int .i64 y) ∧ Fr w w')
      (first
        | (go_split_ands
           refine ⟨hb1.cell ?_, hb1.cell ?_, Fr.trans ?_ hb1⟩ <;> assumption)
        | (refine ⟨?_, ?_, ?_⟩
           · (go_simp; done)
           · (go_simp; done)
           · ((repeat (first | exact Fr.refl _ | assumption | refine Fr.alloc ?_ _ | refine Fr.drew ?_ | refine Fr.drewN ?_ _ | refine Fr.setNew ?_ (by simp <;> omega) _ | refine Fr.trans ?_ (by assumption))); done)))
      (first
        | (go_at_call 24; refine (toDepS' _ _ _ _ (H.out.fr rdDep_mono ?_) hs).mono ?_; (go_split_ands; assumption); rintro e w1 ⟨g1, rfl, x1, hb1⟩; have X1 := hid x1; clear x1)
        | (go_at_call 36; refine (toDep _ _ _).mono ?_; rintro e w2 ⟨rfl, hb1⟩)
        | (go_at_call 35; refine (specImplies _ _ _ _ _ _ _ (X1.out.fr rdDep_mono hb1) hs).mono ?_; rintro e w3 ⟨rfl, hb1⟩))
    go_split_ands
    have c0 : w3.cell? ⟨w.heap.size, 0, none⟩ = some (.int .i64 x) := by assumption
    have c1 : w3.cell? ⟨w.heap.size, 1, none⟩ = some (.int .i64 y) := by assumption
    have f3 : Fr w w3 := by assumption
    have C := hid (And.intro c0 c1)
    clear c0 c1
    go_wp2_with fail
    refine (toDepS' _ _ _ _ (H.out.fr rdDep_mono f3) hs).mono ?_
    rintro e w4 ⟨g4, rfl, x4, b4⟩
    have X4 := hid x4; clear x4
    have c0 := b4.cell C.out.1
    have c1 := b4.cell C.out.2
    go_wp2_with fail
    refine (toDep _ _ _).mono ?_
    rintro e w5 ⟨rfl, b5⟩
    clear c0 c1
    go_wp2_with fail
    refine (implImplies _ _ _ _ _ _ _ (X4.out.fr rdDep_mono b5) hs).mono ?_
    rintro e w6 ⟨rfl, b6⟩
    go_wp2_with fail
    refine (toDepS' _ _ _ _ (H.out.fr rdDep_mono (((f3.trans b4).trans b5).trans b6)) hs).mono ?_
    rintro e w7 ⟨g7, rfl, x7, b7⟩
    have X7 := hid x7; clear x7
    go_wp2_with fail
    refine (eqDepS _ _ _ _ _ _ _ (X4.out.fr rdDep_mono ((b5.trans b6).trans b7)) X7.out hs hs).mono ?_
    rintro e w8 ⟨rfl, b8⟩
    go_wp2
    go_ret
    exact ⟨ret_bool (by simp), ((((f3.trans b4).trans b5).trans b6).trans b7).trans b8⟩
  · go_enter Try.func10, Try.ntmps10
    go_wp2_with fail
    refine (szDepS _ _ _ _ _ hl (by omega) (by omega)).mono ?_
    rintro e w' ⟨rfl, rfl⟩
    rw [szR' hs]
    go_wp2
    go_ret
    exact ⟨rfl, F0⟩

theorem toInts' (A : Option Addr) (cap : Nat) (xs : List Int) (w : World) (hx : RdSl rdInt w.cell? 1 A xs) (hl : xs.length ≤ 1048576) :
    Calls Try.prog 39 #[.slice A xs.length cap] w fun e w' => ∃ g, e = .returned (.slice (some ⟨g, 0, none⟩) xs.length xs.length) ∧ RdSl rdInt w'.cell? 1 (some ⟨g, 0, none⟩) xs ∧ Fr w w' :=
  (toInts A cap xs w hx hl).mono fun _ _ ⟨g, _, h1, _, _, _, h5, h6⟩ => ⟨g, h1, h5, h6⟩
theorem nv_iv (xs : List Nat) : xs.map nv = (xs.map fun (n : Nat) => (n : Int)).map iv := by simp [nv, iv]
theorem walkFnExactDerivation (A : Option Addr) (c : Nat) (xs : List Dep) (wd s : Int) (w : World) (hx : RdSl rdDep w.cell? 2 A xs) (hl : xs.length ≤ maxLen) (_ : I64 wd) (_ : I64 s) :
    Calls Try.prog 14 #[.slice A xs.length c, .int .i64 wd, .int .i64 s] w fun e w' => e = .returned (.bool true) ∧ Fr w w' := by
  have H := hid hx
  clear hx
  obtain ⟨D, hD⟩ : ∃ D : List Int, D = (drvD xs wd s).map fun (n : Nat) => (n : Int) := ⟨_, rfl⟩
  have hDl : D.length = (drvD xs wd s).length := by rw [hD]; simp
  have hDv : (drvD xs wd s).map nv = D.map iv := by rw [hD]; exact nv_iv _
  have hD64 : D.length ≤ 64 := by
    rw [hDl]; unfold drvD; split
    · rename_i h
      rw [Bool.and_eq_true] at h
      obtain ⟨h1, h2⟩ := wd_of (vwd_of h.1)
      obtain ⟨n, rfl, hn⟩ := nat_of_vset h1 h2 h.2
      exact drv_len (vdeps_ok h.1) hn
    · simp
  have hm : D.length ≤ maxLen := by unfold maxLen; omega
  have SP : ∀ (A : Option Addr) (cap : Nat) (w : World), RdSl rdDep w.cell? 2 A xs → xs.length ≤ 1048576 → Calls Try.prog 44 #[.slice A xs.length cap, .int .i64 wd, .int .i64 s] w fun e w' => ∃ A' c', e = .returned (.slice A' D.length c') ∧ RdSl rdInt w'.cell? 1 A' D ∧ Fr w w' := fun A cap w hx hl =>
    (specDerivation A cap xs wd s w hx hl).mono fun e w' ⟨v, he, ho, hf⟩ => by
      rw [hDv, ← hDl] at ho
      obtain ⟨A', c', rfl⟩ := own_form ho
      exact ⟨A', c', he, (own_int ho rfl).mono rdInt_mono (fromB_le _ _), hf⟩
  have IM : ∀ (A : Option Addr) (cap : Nat) (w : World), RdSl rdDep w.cell? 2 A xs → xs.length ≤ 1048576 → Calls Try.prog 45 #[.slice A xs.length cap, .int .i64 wd, .int .i64 s] w fun e w' => ∃ A' c', e = .returned (.slice A' D.length c') ∧ RdSl rdInt (fromB w' w.heap.size) 1 A' D ∧ Mk w' A' D.length ∧ (∀ k, AtB A' k → w.heap.size ≤ k) ∧ Fr w w' := fun A cap w hx hl =>
    (implDerivation A cap xs wd s w hx hl).mono fun e w' ⟨v, he, ho, hf⟩ => by
      rw [hDv, ← hDl] at ho
      obtain ⟨A', c', rfl⟩ := own_form ho
      exact ⟨A', c', he, own_int ho rfl, by simpa using mk_of_own ho, own_atB ho, hf⟩
  have HSP := hid SP
  have HIM := hid IM
  clear SP IM hDl hDv
  have HM := hid hm
  clear hm hD
  by_cases hs : xs.length ≤ 1048576
  · go_enter Try.func14, Try.ntmps14
    go_wp2_with fail
    refine (szDepS _ _ _ _ _ hl (by omega) (by omega)).mono ?_
    rintro e w' ⟨rfl, rfl⟩
    rw [szR hs]
    go_wp2_with fail
    refine (toDepS' _ _ _ _ H.out hs).mono ?_
    rintro e w1 ⟨g1, rfl, x1, b1⟩
    have X1 := hid x1; clear x1
    go_wp2_with fail
    refine (HSP.out _ _ _ X1.out hs).mono ?_
    rintro e w2 ⟨A2, c2, rfl, r2, b2⟩
    have R2 := hid r2; clear r2
    go_wp2_with fail
    refine (toDepS _ _ _ _ (H.out.fr rdDep_mono (b1.trans b2)) hs).mono ?_
    rintro e w3 ⟨g3, cs3, rfl, hg3, hB3, hz3, x3, b3⟩
    have X3 := hid x3; clear x3
    have B3 := hid hB3
    have Z3 := hid hz3
    clear hB3 hz3
    go_wp2_with fail
    refine (HIM.out _ _ _ X3.out hs).mono ?_
    rintro e w4 ⟨A4, c4, rfl, r4, m4, k4, b4⟩
    have R4 := hid r4
    have M4 := hid m4
    have K4 := hid k4
    clear r4 m4 k4
    go_wp2_with fail
    refine (eqInts _ _ _ _ _ _ _ (R4.out.mono rdInt_mono (fromB_le _ _)) (R2.out.fr rdInt_mono (b3.trans b4)) HM.out HM.out).mono ?_
    rintro e w5 ⟨rfl, b5⟩
    have eD : decide (D = D) = true := by simp
    go_wp2_with fail
    refine (toDepS' _ _ _ _ (H.out.fr rdDep_mono ((((b1.trans b2).trans b3).trans b4).trans b5)) hs).mono ?_
    rintro e w6 ⟨g6, rfl, x6, b6⟩
    have X6 := hid x6; clear x6
    go_wp2_with fail
    refine (eqDepS _ _ _ _ _ _ _ (X3.out.fr rdDep_mono ((b4.trans b5).trans b6)) X6.out hs hs).mono ?_
    rintro e w7 ⟨rfl, b7⟩
    have F37 := ((b4.trans b5).trans b6).trans b7
    have eX : decide (xs = xs) = true := by simp
    go_wp2_with fail
    refine (markDeps _ _ _ _ hs (fun _ => ⟨g3, _, cs3, rfl, B3.out.fr F37, by rw [Z3.out]; exact Nat.le_refl _⟩)).mono ?_
    rintro e w8 ⟨rfl, h8⟩
    have hS8 : ∀ k, AtB (some ⟨g3, 0, none⟩) k → k < w3.heap.size := fun k ⟨ad, h1, h2⟩ => by injection h1 with h1; subst h1; rw [← h2]; exact B3.out.lt
    have F28 : Fr w2 w8 := h8.fr (fun k ⟨ad, h1, h2⟩ => by injection h1 with h1; subst h1; rw [← h2]; exact hg3) (b3.trans F37)
    have L48 : Mle (fromB w4 w3.heap.size) (fromB w8 w3.heap.size) := ((((b5.trans b6).trans b7).mle_from _)).trans (h8.mle_from hS8)
    have R8 := hid (R4.out.mono rdInt_mono L48)
    have Q8 := hid (M4.out.from_ ((b5.trans b6).trans b7) h8 (fun k hk h => by have := K4.out k hk; have := hS8 k h; omega))
    clear hS8 L48
    go_wp2_with fail
    refine (eqInts _ _ _ _ _ _ _ (R8.out.mono rdInt_mono (fromB_le _ _)) (R2.out.fr rdInt_mono F28) HM.out HM.out).mono ?_
    rintro e w9 ⟨rfl, b9⟩
    go_wp2_with fail
    refine (markInts _ _ _ 1 _ (by omega) (by omega) (Q8.out.fr b9)).mono ?_
    rintro e w10 ⟨rfl, h10, r10, m10⟩
    have R10 := hid r10
    clear r10 m10
    have F10 : Fr w2 w10 := h10.fr (fun k hk => by have := K4.out k hk; have := b3.size; omega) (F28.trans b9)
    go_wp2_with fail
    refine (heldInts _ _ _ 1 _ (by omega) (by omega) R10.out).mono ?_
    rintro e w11 ⟨rfl, rfl⟩
    go_wp2_with fail
    refine (toDepS' _ _ _ _ (H.out.fr rdDep_mono ((b1.trans b2).trans F10)) hs).mono ?_
    rintro e w12 ⟨g12, rfl, x12, b12⟩
    have X12 := hid x12; clear x12
    go_wp2_with fail
    refine (HIM.out _ _ _ X12.out hs).mono ?_
    rintro e w13 ⟨A13, c13, rfl, r13, _, _, b13⟩
    have R13 := hid r13
    clear r13
    go_wp2_with fail
    refine (eqInts _ _ _ _ _ _ _ (R13.out.mono rdInt_mono (fromB_le _ _)) (R2.out.fr rdInt_mono ((F10.trans b12).trans b13)) HM.out HM.out).mono ?_
    rintro e w14 ⟨rfl, b14⟩
    go_wp2_with fail
    refine (heldInts _ _ _ 1 _ (by omega) (by omega) (R10.out.fr rdInt_mono ((b12.trans b13).trans b14))).mono ?_
    rintro e w15 ⟨rfl, rfl⟩
    go_wp2
    go_ret
    exact ⟨rfl, (b1.trans b2).trans (((F10.trans b12).trans b13).trans b14)⟩
  · go_enter Try.func14, Try.ntmps14
    go_wp2_with fail
    refine (szDepS _ _ _ _ _ hl (by omega) (by omega)).mono ?_
    rintro e w' ⟨rfl, rfl⟩
    rw [szR' hs]
    go_wp2
    go_ret
    exact ⟨rfl, Fr.refl _⟩
set_option maxHeartbeats 1000000 in
theorem walkFnExactCheckDerivation (A : Option Addr) (c : Nat) (xs : List Dep) (wd x y : Int) (A' : Option Addr) (c' : Nat) (st : List Int) (w : World) (hx : RdSl rdDep w.cell? 2 A xs) (hl : xs.length ≤ maxLen) (_ : I64 wd) (hy : RdSl rdIntB w.cell? 1 A' st) (hly : st.length ≤ maxLen) :
    Calls Try.prog 11 #[.slice A xs.length c, .int .i64 wd, .agg #[.int .i64 x, .int .i64 y], .slice A' st.length c'] w fun e w' => e = .returned (.bool true) ∧ Fr w w' := by
  have H := hid hx
  have HY := hid (rdInt_of_B hy).1
  clear hx hy
  have F0 : Fr w (w.alloc (.cells #[.int .i64 x, .int .i64 y] 54)) := (Fr.refl _).alloc _
  have hly' := hly
  unfold maxLen at hly'
  by_cases ht : st.length ≤ 1048576
  · have e0 : decide ((1048576 : Int) < (st.length : Int)) = false := by simp; omega
    by_cases hs : xs.length ≤ 1048576
    · go_enter Try.func11, Try.ntmps11
      go_wp2_with fail
      refine (szDepS _ _ _ _ _ hl (by omega) (by omega)).mono ?_
      rintro e w' ⟨rfl, rfl⟩
      rw [szR hs]
      go_wp2_with fail
      go_region_held3 (fun w' => w'.cell? ⟨w.heap.size, 0, none⟩ = some (.int .i64 x) ∧ w'.cell? ⟨w.heap.size, 1, none⟩ = some (.int .i64 y) ∧ Fr w w')
        (first
          | (go_split_ands
             refine ⟨hb4.cell ?_, hb4.cell ?_, Fr.trans ?_ hb4⟩ <;> assumption)
          | (go_split_ands
             refine ⟨hb3.cell ?_, hb3.cell ?_, Fr.trans ?_ hb3⟩ <;> assumption)
          | (go_split_ands
             refine ⟨hb2.cell ?_, hb2.cell ?_, Fr.trans ?_ hb2⟩ <;> assumption)
          | (go_split_ands
             refine ⟨hb1.cell ?_, hb1.cell ?_, Fr.trans ?_ hb1⟩ <;> assumption)
          | (refine ⟨?_, ?_, ?_⟩
             · (go_simp; done)
             · (go_simp; done)
             · ((repeat (first | exact Fr.refl _ | assumption | refine Fr.alloc ?_ _ | refine Fr.drew ?_ | refine Fr.drewN ?_ _ | refine Fr.setNew ?_ (by simp <;> omega) _ | refine Fr.trans ?_ (by assumption))); done)))
        (first
          | (go_at_call 24; refine (toDepS' _ _ _ _ (H.out.fr rdDep_mono ?_) hs).mono ?_; (go_split_ands; assumption); rintro e w1 ⟨g1, rfl, x1, hb1⟩; have X1 := hid x1; clear x1)
          | (go_at_call 36; refine (toDep _ _ _).mono ?_; rintro e w2 ⟨rfl, hb2⟩)
          | (go_at_call 39; refine (toInts' _ _ _ _ (HY.out.fr rdInt_mono ?_) ht).mono ?_; (go_split_ands; assumption); rintro e w3 ⟨g3, rfl, x3, hb3⟩; have X3 := hid x3; clear x3)
          | (go_at_call 38; refine (specCheckDerivation _ _ _ _ _ _ _ _ _ _ (X1.out.fr rdDep_mono (hb2.trans hb3)) hs X3.out hly).mono ?_; rintro e w4 ⟨rfl, hb4⟩))
      go_split_ands
      have c0 : w4.cell? ⟨w.heap.size, 0, none⟩ = some (.int .i64 x) := by assumption
      have c1 : w4.cell? ⟨w.heap.size, 1, none⟩ = some (.int .i64 y) := by assumption
      have f4 : Fr w w4 := by assumption
      have C := hid (And.intro c0 c1)
      clear c0 c1
      go_wp2_with fail
      refine (toDepS' _ _ _ _ (H.out.fr rdDep_mono f4) hs).mono ?_
      rintro e w5 ⟨g5, rfl, x5, b5⟩
      have X5 := hid x5; clear x5
      go_wp2_with fail
      refine (toInts' _ _ _ _ (HY.out.fr rdInt_mono (f4.trans b5)) ht).mono ?_
      rintro e w6 ⟨g6, rfl, x6, b6⟩
      have X6 := hid x6; clear x6
      have c0 := b6.cell (b5.cell C.out.1)
      have c1 := b6.cell (b5.cell C.out.2)
      go_wp2_with fail
      refine (toDep _ _ _).mono ?_
      rintro e w7 ⟨rfl, b7⟩
      clear c0 c1
      go_wp2_with fail
      refine (implCheckDerivation _ _ _ _ _ _ _ _ _ _ (X5.out.fr rdDep_mono (b6.trans b7)) hs (X6.out.fr rdInt_mono b7) hly).mono ?_
      rintro e w8 ⟨rfl, b8⟩
      have f8 := (((f4.trans b5).trans b6).trans b7).trans b8
      go_wp2_with fail
      refine (toDepS' _ _ _ _ (H.out.fr rdDep_mono f8) hs).mono ?_
      rintro e w9 ⟨g9, rfl, x9, b9⟩
      have X9 := hid x9; clear x9
      go_wp2_with fail
      refine (eqDepS _ _ _ _ _ _ _ (X5.out.fr rdDep_mono (((b6.trans b7).trans b8).trans b9)) X9.out hs hs).mono ?_
      rintro e w10 ⟨rfl, b10⟩
      have e1 : decide (xs = xs) = true := by simp
      have e2 : decide (st = st) = true := by simp
      go_wp2_with fail
      refine (toInts' _ _ _ _ (HY.out.fr rdInt_mono ((f8.trans b9).trans b10)) ht).mono ?_
      rintro e w11 ⟨g11, rfl, x11, b11⟩
      have X11 := hid x11; clear x11
      go_wp2_with fail
      refine (eqInts _ _ _ _ _ _ _ (X6.out.fr rdInt_mono ((((b7.trans b8).trans b9).trans b10).trans b11)) X11.out hly hly).mono ?_
      rintro e w12 ⟨rfl, b12⟩
      go_wp2
      go_ret
      exact ⟨rfl, (((f8.trans b9).trans b10).trans b11).trans b12⟩
    · go_enter Try.func11, Try.ntmps11
      go_wp2_with fail
      refine (szDepS _ _ _ _ _ hl (by omega) (by omega)).mono ?_
      rintro e w' ⟨rfl, rfl⟩
      rw [szR' hs]
      go_wp2
      go_ret
      exact ⟨rfl, F0⟩
  · have e0 : decide ((1048576 : Int) < (st.length : Int)) = true := by simp; omega
    go_enter Try.func11, Try.ntmps11
    go_wp2
    go_ret
    exact ⟨rfl, F0⟩
end Go.Proofs.Ytabbcepdinplfaa
