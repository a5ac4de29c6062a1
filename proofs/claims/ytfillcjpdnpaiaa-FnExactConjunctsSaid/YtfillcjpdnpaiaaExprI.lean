/- Walks of impl's validity of expressions; both sides' ValidExpr. -/
import Derived.Test.YtfillcjpdnpaiaaExprW
namespace Go.Proofs.Ytfillcjpdnpaiaa
open Go Go.RowKit

def ImplVE (n : Nat) : Prop := ∀ (e : Ex) (b o : Nat) (wd deep : Int) (w : World), rdEx (n + 1) w.cell? (fun j => w.cell? ⟨b, o + j, none⟩) e → exSm n e.kids → 1 ≤ wd → wd ≤ 6 → 0 ≤ deep → deep ≤ 8 →
    Calls Try.prog 62 #[.pointer (some ⟨b, o, none⟩), .int .i64 wd, .int .i64 deep] w fun r w' => r = .returned (.bool (vE wd n deep e)) ∧ Fr w w'
theorem isZero_no {v : V} (h : v.isZero = false) : v.null = true ∨ (v.null = false ∧ v.n ≠ 0) := by
  obtain ⟨b, n⟩ := v
  cases b
  · right; simpa [V.isZero] using h
  · left; rfl
theorem isZero_yes {v : V} (h : v.isZero = true) : v.null = false ∧ v.n = 0 := by
  obtain ⟨b, n⟩ := v
  cases b
  · simpa [V.isZero] using h
  · simp [V.isZero] at h

set_option maxRecDepth 100000 in
set_option maxHeartbeats 8000000 in
theorem implVE (n : Nat) : ImplVE n := by
  induction n using Nat.strongRecOn with
  | _ n ih =>
    intro e b o wd deep w hr hs w1' w6' d0' d8'
    have IH := hid ih
    have HS := hid hs
    have hl := exSm_len hs
    obtain ⟨a0, a1, a2, a3, A, c, a4, hx, _, _⟩ := hr
    simp only [Nat.add_zero] at a0 a4
    have HX := hid hx
    have HC := hid (show w.cell? ⟨b, o, none⟩ = some (.int .i64 e.kind) ∧ w.cell? ⟨b, o + 1, none⟩ = some (.int .i64 e.col) ∧ w.cell? ⟨b, o + 2, none⟩ = some (.bool e.val.null) ∧ w.cell? ⟨b, o + 3, none⟩ = some (.int .i64 e.val.n) ∧ w.cell? ⟨b, o + 4, none⟩ = some (.slice A e.kids.length c) from ⟨a0, a1, a2, a3, a4⟩)
    clear hx ih hs
    cases hh : vHead deep e
    · have NO := hid (vE_no_head (wd := wd) (n := n) hh)
      rcases head_no hh with h | ⟨h, h2, h3⟩
      · have e1 : (((e.kids.length : Int)) != nk e.kind) = true := by simp [h]
        clear h hh
        go_enter Try.func62, Try.ntmps62
        go_wp2_with (go_at_call 85; refine (kidsOfKind _ _).mono ?_; rintro r w1 ⟨rfl, rfl⟩)
        go_ret
        exact ⟨ret_bool NO.out.symm, Fr.refl _⟩
      · have e1 : (((e.kids.length : Int)) != nk e.kind) = false := by simp [h]
        have e2 : decide (0 < nk e.kind) = true := by rw [← h]; simp [h2]
        subst h3
        clear h hh h2
        go_enter Try.func62, Try.ntmps62
        go_wp2_with (go_at_call 85; refine (kidsOfKind _ _).mono ?_; rintro r w1 ⟨rfl, rfl⟩)
        go_ret
        exact ⟨ret_bool NO.out.symm, Fr.refl _⟩
    · obtain ⟨h, hd⟩ := head_yes hh
      have e1 : (((e.kids.length : Int)) != nk e.kind) = false := by simp [h]
      have HH := hid hh
      have HD := hid hd
      have e2 : (decide (0 < nk e.kind) = false) ∨ (decide (0 < nk e.kind) = true ∧ (deep == 0) = false) := by
        rw [← h]
        rcases hd with q | ⟨q, q'⟩
        · left; simp [q]
        · right; exact ⟨by simp [q], by simpa using q'⟩
      clear h hh hd
      cases hsc : vScal wd e
      · have NO := hid (vE_no_scal (n := n) (deep := deep) hsc)
        have hcase : ((e.kind == 1) = true ∧ (e.kind != 1) = false ∧ decide (e.col < 0) = true) ∨ ((e.kind == 1) = true ∧ (e.kind != 1) = false ∧ decide (e.col < 0) = false ∧ decide (wd ≤ e.col) = true) ∨
            ((e.kind == 1) = true ∧ (e.kind != 1) = false ∧ decide (e.col < 0) = false ∧ decide (wd ≤ e.col) = false ∧ (e.kind == 2) = false ∧ (e.kind != 2) = true ∧ e.val.isZero = false) ∨
            ((e.kind == 1) = false ∧ (e.kind != 1) = true ∧ (e.col != 0) = true) ∨
            ((e.kind == 1) = false ∧ (e.kind != 1) = true ∧ (e.col != 0) = false ∧ (e.kind == 2) = true ∧ (e.kind != 2) = false ∧ e.val.valid = false) ∨
            ((e.kind == 1) = false ∧ (e.kind != 1) = true ∧ (e.col != 0) = false ∧ (e.kind == 2) = false ∧ (e.kind != 2) = true ∧ e.val.isZero = false) := by
          unfold vScal at hsc
          by_cases q1 : e.kind = 1
          · have q2 : ¬ (e.kind = 2) := by omega
            rw [if_pos q1] at hsc
            by_cases c1 : e.col < 0
            · left; simp [q1, c1]
            · by_cases c2 : wd ≤ e.col
              · right; left; simp [q1, c1, c2]
              · right; right; left
                have c3 : e.val.isZero = false := by simpa [show 0 ≤ e.col by omega, show e.col < wd by omega] using hsc
                simp [q1, c1, c2, c3]
          · rw [if_neg q1] at hsc
            by_cases c1 : e.col = 0
            · by_cases q2 : e.kind = 2
              · rw [if_pos q2] at hsc
                right; right; right; right; left
                have c3 : e.val.valid = false := by simpa [c1] using hsc
                simp [q2, c1, c3]
              · rw [if_neg q2] at hsc
                right; right; right; right; right
                have c3 : e.val.isZero = false := by simpa [c1] using hsc
                simp [q1, q2, c1, c3]
            · right; right; right; left; simp [q1, c1]
        clear hsc
        have hc2 : ∀ {p : Prop}, (e.val.isZero = false → p) → (e.val.isZero = false → p) := fun f => f
        clear hc2
        rcases e2 with e2 | ⟨e2, e3⟩ <;> rcases hcase with ⟨q1, q2, q3⟩ | ⟨q1, q2, q3, q4⟩ | ⟨q1, q2, q3, q4, q5, q6, q7⟩ | ⟨q1, q2, q3⟩ | ⟨q1, q2, q3, q4, q5, q6⟩ | ⟨q1, q2, q3, q4, q5, q7⟩
        all_goals first
          | (have q8 := isZero_no q7
             clear q7
             rcases q8 with q8 | ⟨q8, q9⟩
             · go_enter Try.func62, Try.ntmps62
               go_wp2_with (first | (go_at_call 85; refine (kidsOfKind _ _).mono ?_; rintro r w1 ⟨rfl, rfl⟩) | (go_at_call 73; refine (implValid _ _ _).mono ?_; rintro r w1 ⟨rfl, b1⟩))
               go_ret
               exact ⟨ret_bool NO.out.symm, Fr.refl _⟩
             · have q10 : (e.val.n != 0) = true := by simp [q9]
               have q11 : (e.val.n == 0) = false := by simp [q9]
               clear q9
               go_enter Try.func62, Try.ntmps62
               go_wp2_with (first | (go_at_call 85; refine (kidsOfKind _ _).mono ?_; rintro r w1 ⟨rfl, rfl⟩) | (go_at_call 73; refine (implValid _ _ _).mono ?_; rintro r w1 ⟨rfl, b1⟩))
               go_ret
               exact ⟨ret_bool NO.out.symm, Fr.refl _⟩)
          | (go_enter Try.func62, Try.ntmps62
             go_wp2_with (first | (go_at_call 85; refine (kidsOfKind _ _).mono ?_; rintro r w1 ⟨rfl, rfl⟩) | (go_at_call 73; refine (implValid _ _ _).mono ?_; rintro r w1 ⟨rfl, b1⟩))
             go_ret
             exact ⟨ret_bool NO.out.symm, by first | exact b1 | exact Fr.refl _⟩)
      · have SC := hid hsc
        have hcase : ((e.kind == 1) = true ∧ (e.kind != 1) = false ∧ decide (e.col < 0) = false ∧ decide (wd ≤ e.col) = false ∧ (e.kind == 2) = false ∧ (e.kind != 2) = true ∧ e.val.null = false ∧ (e.val.n == 0) = true ∧ (e.val.n != 0) = false) ∨
            ((e.kind == 1) = false ∧ (e.kind != 1) = true ∧ (e.col != 0) = false ∧ (e.kind == 2) = true ∧ (e.kind != 2) = false ∧ e.val.valid = true) ∨
            ((e.kind == 1) = false ∧ (e.kind != 1) = true ∧ (e.col != 0) = false ∧ (e.kind == 2) = false ∧ (e.kind != 2) = true ∧ e.val.null = false ∧ (e.val.n == 0) = true ∧ (e.val.n != 0) = false) := by
          unfold vScal at hsc
          by_cases q1 : e.kind = 1
          · rw [if_pos q1] at hsc
            simp only [Bool.and_eq_true, decide_eq_true_eq] at hsc
            obtain ⟨z1, z2⟩ := isZero_yes hsc.2
            left; simp [q1, z1, z2]; omega
          · rw [if_neg q1] at hsc
            by_cases q2 : e.kind = 2
            · rw [if_pos q2] at hsc
              simp only [Bool.and_eq_true, decide_eq_true_eq] at hsc
              right; left; simp [q2, hsc.1, hsc.2]
            · rw [if_neg q2] at hsc
              simp only [Bool.and_eq_true, decide_eq_true_eq] at hsc
              obtain ⟨z1, z2⟩ := isZero_yes hsc.2
              right; right; simp [q1, q2, hsc.1, z1, z2]
        clear hsc

        rcases e2 with e2 | ⟨e2, e3⟩ <;> rcases hcase with ⟨q1, q2, q3, q4, q5, q6, q7, q8, q9⟩ | ⟨q1, q2, q3, q4, q5, q6⟩ | ⟨q1, q2, q3, q4, q5, q7, q8, q9⟩
        · go_enter Try.func62, Try.ntmps62
          go_wp2_with (go_at_call 85; refine (kidsOfKind _ _).mono ?_; rintro r w1 ⟨rfl, rfl⟩)
          clear a0 a1 a2 a3 a4
          go_loopw [96] (fun t wr => ∃ (k : Nat), k ≤ e.kids.length ∧ t = .int .i64 k ∧ Fr w wr ∧ ∀ i (h : i < e.kids.length), i < k → ∃ n', n = n' + 1 ∧ vE wd n' (deep - 1) e.kids[i] = true) (fun t _ => e.kids.length - (intOf t).toNat)
          case atStart => exact ⟨0, by omega, rfl, Fr.refl _, fun i _ h => absurd h (by omega)⟩
          case round =>
            obtain ⟨k, hk, rfl, hf, hv⟩ := hrel
            have HV := hid hv
            clear hv
            obtain ⟨a0, a1, a2, a3, a4⟩ := HC.out
            replace a0 := hf.cell a0
            replace a1 := hf.cell a1
            replace a2 := hf.cell a2
            replace a3 := hf.cell a3
            replace a4 := hf.cell a4
            by_cases hlt : k < e.kids.length
            · cases n with
              | zero => exfalso; rw [HX.out.ex0] at hlt; simp at hlt
              | succ n =>
                obtain ⟨kb, ko, hA, rK⟩ := HX.out.at_ hlt
                subst hA
                have RK := hid (rdEx_mono (n + 1) _ wr.cell? _ (fun j => wr.cell? ⟨kb, ko + k * 5 + j, none⟩) _ hf.mle (fun j v hv => hf.cell hv) rK)
                clear rK
                have hdp : 0 ≤ deep - 1 := by
                  rcases HD.out with q | ⟨_, q⟩ <;> omega
                cases hE : vE wd n (deep - 1) e.kids[k]
                · have NK := hid (vE_no_kid (deep := deep) hlt hE)
                  go_wp2_with fail
                  refine (IH.out n (by omega) _ _ _ _ _ _ RK.out (HS.out.2 k hlt) w1' w6' hdp (by omega)).mono ?_
                  rintro r w1 ⟨rfl, b1⟩
                  rw [hE]
                  go_wp2
                  go_ret
                  exact ⟨ret_bool NK.out.symm, hf.trans b1⟩
                · have OK := hid hE
                  go_wp2_with fail
                  refine (IH.out n (by omega) _ _ _ _ _ _ RK.out (HS.out.2 k hlt) w1' w6' hdp (by omega)).mono ?_
                  rintro r w1 ⟨rfl, b1⟩
                  rw [hE]
                  go_wp2
                  go_roundw
                  case rel => exact ⟨k + 1, by omega, by go_num, hf.trans b1, fun i h hi => by
                    by_cases q : i = k
                    · subst q; exact ⟨n, rfl, OK.out⟩
                    · obtain ⟨n', q1, q2⟩ := HV.out i h (by omega); exact ⟨n', by omega, q2⟩⟩
                  case measure => simp [intOf]; omega
            · have RES := hid (show vE wd n deep e = true by
                cases n with
                | zero => simp [vE, HH.out, SC.out]
                | succ n =>
                  have : e.kids.all (vE wd n (deep - 1)) = true := all_yes fun i hi => by
                    obtain ⟨n', h1, h2⟩ := HV.out i hi (by omega)
                    obtain rfl : n = n' := by omega
                    exact h2
                  simp [vE, HH.out, SC.out, this])
              clear HV
              go_wp2
              go_ret
              exact ⟨ret_bool RES.out.symm, hf⟩
        · go_enter Try.func62, Try.ntmps62
          go_wp2_with (first | (go_at_call 85; refine (kidsOfKind _ _).mono ?_; rintro r w1 ⟨rfl, rfl⟩) | (go_at_call 73; refine (implValid _ _ _).mono ?_; rintro r w1 ⟨rfl, b1⟩; replace a0 := b1.cell a0; replace a1 := b1.cell a1; replace a2 := b1.cell a2; replace a3 := b1.cell a3; replace a4 := b1.cell a4))
          clear a0 a1 a2 a3 a4
          go_loopw [96] (fun t wr => ∃ (k : Nat), k ≤ e.kids.length ∧ t = .int .i64 k ∧ Fr w wr ∧ ∀ i (h : i < e.kids.length), i < k → ∃ n', n = n' + 1 ∧ vE wd n' (deep - 1) e.kids[i] = true) (fun t _ => e.kids.length - (intOf t).toNat)
          case atStart => exact ⟨0, by omega, rfl, b1, fun i _ h => absurd h (by omega)⟩
          case round =>
            obtain ⟨k, hk, rfl, hf, hv⟩ := hrel
            have HV := hid hv
            clear hv
            obtain ⟨a0, a1, a2, a3, a4⟩ := HC.out
            replace a0 := hf.cell a0
            replace a1 := hf.cell a1
            replace a2 := hf.cell a2
            replace a3 := hf.cell a3
            replace a4 := hf.cell a4
            by_cases hlt : k < e.kids.length
            · cases n with
              | zero => exfalso; rw [HX.out.ex0] at hlt; simp at hlt
              | succ n =>
                obtain ⟨kb, ko, hA, rK⟩ := HX.out.at_ hlt
                subst hA
                have RK := hid (rdEx_mono (n + 1) _ wr.cell? _ (fun j => wr.cell? ⟨kb, ko + k * 5 + j, none⟩) _ hf.mle (fun j v hv => hf.cell hv) rK)
                clear rK
                have hdp : 0 ≤ deep - 1 := by
                  rcases HD.out with q | ⟨_, q⟩ <;> omega
                cases hE : vE wd n (deep - 1) e.kids[k]
                · have NK := hid (vE_no_kid (deep := deep) hlt hE)
                  go_wp2_with fail
                  refine (IH.out n (by omega) _ _ _ _ _ _ RK.out (HS.out.2 k hlt) w1' w6' hdp (by omega)).mono ?_
                  rintro r w1 ⟨rfl, b1⟩
                  rw [hE]
                  go_wp2
                  go_ret
                  exact ⟨ret_bool NK.out.symm, hf.trans b1⟩
                · have OK := hid hE
                  go_wp2_with fail
                  refine (IH.out n (by omega) _ _ _ _ _ _ RK.out (HS.out.2 k hlt) w1' w6' hdp (by omega)).mono ?_
                  rintro r w1 ⟨rfl, b1⟩
                  rw [hE]
                  go_wp2
                  go_roundw
                  case rel => exact ⟨k + 1, by omega, by go_num, hf.trans b1, fun i h hi => by
                    by_cases q : i = k
                    · subst q; exact ⟨n, rfl, OK.out⟩
                    · obtain ⟨n', q1, q2⟩ := HV.out i h (by omega); exact ⟨n', by omega, q2⟩⟩
                  case measure => simp [intOf]; omega
            · have RES := hid (show vE wd n deep e = true by
                cases n with
                | zero => simp [vE, HH.out, SC.out]
                | succ n =>
                  have : e.kids.all (vE wd n (deep - 1)) = true := all_yes fun i hi => by
                    obtain ⟨n', h1, h2⟩ := HV.out i hi (by omega)
                    obtain rfl : n = n' := by omega
                    exact h2
                  simp [vE, HH.out, SC.out, this])
              clear HV
              go_wp2
              go_ret
              exact ⟨ret_bool RES.out.symm, hf⟩
        · go_enter Try.func62, Try.ntmps62
          go_wp2_with (go_at_call 85; refine (kidsOfKind _ _).mono ?_; rintro r w1 ⟨rfl, rfl⟩)
          clear a0 a1 a2 a3 a4
          go_loopw [96] (fun t wr => ∃ (k : Nat), k ≤ e.kids.length ∧ t = .int .i64 k ∧ Fr w wr ∧ ∀ i (h : i < e.kids.length), i < k → ∃ n', n = n' + 1 ∧ vE wd n' (deep - 1) e.kids[i] = true) (fun t _ => e.kids.length - (intOf t).toNat)
          case atStart => exact ⟨0, by omega, rfl, Fr.refl _, fun i _ h => absurd h (by omega)⟩
          case round =>
            obtain ⟨k, hk, rfl, hf, hv⟩ := hrel
            have HV := hid hv
            clear hv
            obtain ⟨a0, a1, a2, a3, a4⟩ := HC.out
            replace a0 := hf.cell a0
            replace a1 := hf.cell a1
            replace a2 := hf.cell a2
            replace a3 := hf.cell a3
            replace a4 := hf.cell a4
            by_cases hlt : k < e.kids.length
            · cases n with
              | zero => exfalso; rw [HX.out.ex0] at hlt; simp at hlt
              | succ n =>
                obtain ⟨kb, ko, hA, rK⟩ := HX.out.at_ hlt
                subst hA
                have RK := hid (rdEx_mono (n + 1) _ wr.cell? _ (fun j => wr.cell? ⟨kb, ko + k * 5 + j, none⟩) _ hf.mle (fun j v hv => hf.cell hv) rK)
                clear rK
                have hdp : 0 ≤ deep - 1 := by
                  rcases HD.out with q | ⟨_, q⟩ <;> omega
                cases hE : vE wd n (deep - 1) e.kids[k]
                · have NK := hid (vE_no_kid (deep := deep) hlt hE)
                  go_wp2_with fail
                  refine (IH.out n (by omega) _ _ _ _ _ _ RK.out (HS.out.2 k hlt) w1' w6' hdp (by omega)).mono ?_
                  rintro r w1 ⟨rfl, b1⟩
                  rw [hE]
                  go_wp2
                  go_ret
                  exact ⟨ret_bool NK.out.symm, hf.trans b1⟩
                · have OK := hid hE
                  go_wp2_with fail
                  refine (IH.out n (by omega) _ _ _ _ _ _ RK.out (HS.out.2 k hlt) w1' w6' hdp (by omega)).mono ?_
                  rintro r w1 ⟨rfl, b1⟩
                  rw [hE]
                  go_wp2
                  go_roundw
                  case rel => exact ⟨k + 1, by omega, by go_num, hf.trans b1, fun i h hi => by
                    by_cases q : i = k
                    · subst q; exact ⟨n, rfl, OK.out⟩
                    · obtain ⟨n', q1, q2⟩ := HV.out i h (by omega); exact ⟨n', by omega, q2⟩⟩
                  case measure => simp [intOf]; omega
            · have RES := hid (show vE wd n deep e = true by
                cases n with
                | zero => simp [vE, HH.out, SC.out]
                | succ n =>
                  have : e.kids.all (vE wd n (deep - 1)) = true := all_yes fun i hi => by
                    obtain ⟨n', h1, h2⟩ := HV.out i hi (by omega)
                    obtain rfl : n = n' := by omega
                    exact h2
                  simp [vE, HH.out, SC.out, this])
              clear HV
              go_wp2
              go_ret
              exact ⟨ret_bool RES.out.symm, hf⟩
        · go_enter Try.func62, Try.ntmps62
          go_wp2_with (go_at_call 85; refine (kidsOfKind _ _).mono ?_; rintro r w1 ⟨rfl, rfl⟩)
          clear a0 a1 a2 a3 a4
          go_loopw [96] (fun t wr => ∃ (k : Nat), k ≤ e.kids.length ∧ t = .int .i64 k ∧ Fr w wr ∧ ∀ i (h : i < e.kids.length), i < k → ∃ n', n = n' + 1 ∧ vE wd n' (deep - 1) e.kids[i] = true) (fun t _ => e.kids.length - (intOf t).toNat)
          case atStart => exact ⟨0, by omega, rfl, Fr.refl _, fun i _ h => absurd h (by omega)⟩
          case round =>
            obtain ⟨k, hk, rfl, hf, hv⟩ := hrel
            have HV := hid hv
            clear hv
            obtain ⟨a0, a1, a2, a3, a4⟩ := HC.out
            replace a0 := hf.cell a0
            replace a1 := hf.cell a1
            replace a2 := hf.cell a2
            replace a3 := hf.cell a3
            replace a4 := hf.cell a4
            by_cases hlt : k < e.kids.length
            · cases n with
              | zero => exfalso; rw [HX.out.ex0] at hlt; simp at hlt
              | succ n =>
                obtain ⟨kb, ko, hA, rK⟩ := HX.out.at_ hlt
                subst hA
                have RK := hid (rdEx_mono (n + 1) _ wr.cell? _ (fun j => wr.cell? ⟨kb, ko + k * 5 + j, none⟩) _ hf.mle (fun j v hv => hf.cell hv) rK)
                clear rK
                have hdp : 0 ≤ deep - 1 := by
                  rcases HD.out with q | ⟨_, q⟩ <;> omega
                cases hE : vE wd n (deep - 1) e.kids[k]
                · have NK := hid (vE_no_kid (deep := deep) hlt hE)
                  go_wp2_with fail
                  refine (IH.out n (by omega) _ _ _ _ _ _ RK.out (HS.out.2 k hlt) w1' w6' hdp (by omega)).mono ?_
                  rintro r w1 ⟨rfl, b1⟩
                  rw [hE]
                  go_wp2
                  go_ret
                  exact ⟨ret_bool NK.out.symm, hf.trans b1⟩
                · have OK := hid hE
                  go_wp2_with fail
                  refine (IH.out n (by omega) _ _ _ _ _ _ RK.out (HS.out.2 k hlt) w1' w6' hdp (by omega)).mono ?_
                  rintro r w1 ⟨rfl, b1⟩
                  rw [hE]
                  go_wp2
                  go_roundw
                  case rel => exact ⟨k + 1, by omega, by go_num, hf.trans b1, fun i h hi => by
                    by_cases q : i = k
                    · subst q; exact ⟨n, rfl, OK.out⟩
                    · obtain ⟨n', q1, q2⟩ := HV.out i h (by omega); exact ⟨n', by omega, q2⟩⟩
                  case measure => simp [intOf]; omega
            · have RES := hid (show vE wd n deep e = true by
                cases n with
                | zero => simp [vE, HH.out, SC.out]
                | succ n =>
                  have : e.kids.all (vE wd n (deep - 1)) = true := all_yes fun i hi => by
                    obtain ⟨n', h1, h2⟩ := HV.out i hi (by omega)
                    obtain rfl : n = n' := by omega
                    exact h2
                  simp [vE, HH.out, SC.out, this])
              clear HV
              go_wp2
              go_ret
              exact ⟨ret_bool RES.out.symm, hf⟩
        · go_enter Try.func62, Try.ntmps62
          go_wp2_with (first | (go_at_call 85; refine (kidsOfKind _ _).mono ?_; rintro r w1 ⟨rfl, rfl⟩) | (go_at_call 73; refine (implValid _ _ _).mono ?_; rintro r w1 ⟨rfl, b1⟩; replace a0 := b1.cell a0; replace a1 := b1.cell a1; replace a2 := b1.cell a2; replace a3 := b1.cell a3; replace a4 := b1.cell a4))
          clear a0 a1 a2 a3 a4
          go_loopw [96] (fun t wr => ∃ (k : Nat), k ≤ e.kids.length ∧ t = .int .i64 k ∧ Fr w wr ∧ ∀ i (h : i < e.kids.length), i < k → ∃ n', n = n' + 1 ∧ vE wd n' (deep - 1) e.kids[i] = true) (fun t _ => e.kids.length - (intOf t).toNat)
          case atStart => exact ⟨0, by omega, rfl, b1, fun i _ h => absurd h (by omega)⟩
          case round =>
            obtain ⟨k, hk, rfl, hf, hv⟩ := hrel
            have HV := hid hv
            clear hv
            obtain ⟨a0, a1, a2, a3, a4⟩ := HC.out
            replace a0 := hf.cell a0
            replace a1 := hf.cell a1
            replace a2 := hf.cell a2
            replace a3 := hf.cell a3
            replace a4 := hf.cell a4
            by_cases hlt : k < e.kids.length
            · cases n with
              | zero => exfalso; rw [HX.out.ex0] at hlt; simp at hlt
              | succ n =>
                obtain ⟨kb, ko, hA, rK⟩ := HX.out.at_ hlt
                subst hA
                have RK := hid (rdEx_mono (n + 1) _ wr.cell? _ (fun j => wr.cell? ⟨kb, ko + k * 5 + j, none⟩) _ hf.mle (fun j v hv => hf.cell hv) rK)
                clear rK
                have hdp : 0 ≤ deep - 1 := by
                  rcases HD.out with q | ⟨_, q⟩ <;> omega
                cases hE : vE wd n (deep - 1) e.kids[k]
                · have NK := hid (vE_no_kid (deep := deep) hlt hE)
                  go_wp2_with fail
                  refine (IH.out n (by omega) _ _ _ _ _ _ RK.out (HS.out.2 k hlt) w1' w6' hdp (by omega)).mono ?_
                  rintro r w1 ⟨rfl, b1⟩
                  rw [hE]
                  go_wp2
                  go_ret
                  exact ⟨ret_bool NK.out.symm, hf.trans b1⟩
                · have OK := hid hE
                  go_wp2_with fail
                  refine (IH.out n (by omega) _ _ _ _ _ _ RK.out (HS.out.2 k hlt) w1' w6' hdp (by omega)).mono ?_
                  rintro r w1 ⟨rfl, b1⟩
                  rw [hE]
                  go_wp2
                  go_roundw
                  case rel => exact ⟨k + 1, by omega, by go_num, hf.trans b1, fun i h hi => by
                    by_cases q : i = k
                    · subst q; exact ⟨n, rfl, OK.out⟩
                    · obtain ⟨n', q1, q2⟩ := HV.out i h (by omega); exact ⟨n', by omega, q2⟩⟩
                  case measure => simp [intOf]; omega
            · have RES := hid (show vE wd n deep e = true by
                cases n with
                | zero => simp [vE, HH.out, SC.out]
                | succ n =>
                  have : e.kids.all (vE wd n (deep - 1)) = true := all_yes fun i hi => by
                    obtain ⟨n', h1, h2⟩ := HV.out i hi (by omega)
                    obtain rfl : n = n' := by omega
                    exact h2
                  simp [vE, HH.out, SC.out, this])
              clear HV
              go_wp2
              go_ret
              exact ⟨ret_bool RES.out.symm, hf⟩
        · go_enter Try.func62, Try.ntmps62
          go_wp2_with (go_at_call 85; refine (kidsOfKind _ _).mono ?_; rintro r w1 ⟨rfl, rfl⟩)
          clear a0 a1 a2 a3 a4
          go_loopw [96] (fun t wr => ∃ (k : Nat), k ≤ e.kids.length ∧ t = .int .i64 k ∧ Fr w wr ∧ ∀ i (h : i < e.kids.length), i < k → ∃ n', n = n' + 1 ∧ vE wd n' (deep - 1) e.kids[i] = true) (fun t _ => e.kids.length - (intOf t).toNat)
          case atStart => exact ⟨0, by omega, rfl, Fr.refl _, fun i _ h => absurd h (by omega)⟩
          case round =>
            obtain ⟨k, hk, rfl, hf, hv⟩ := hrel
            have HV := hid hv
            clear hv
            obtain ⟨a0, a1, a2, a3, a4⟩ := HC.out
            replace a0 := hf.cell a0
            replace a1 := hf.cell a1
            replace a2 := hf.cell a2
            replace a3 := hf.cell a3
            replace a4 := hf.cell a4
            by_cases hlt : k < e.kids.length
            · cases n with
              | zero => exfalso; rw [HX.out.ex0] at hlt; simp at hlt
              | succ n =>
                obtain ⟨kb, ko, hA, rK⟩ := HX.out.at_ hlt
                subst hA
                have RK := hid (rdEx_mono (n + 1) _ wr.cell? _ (fun j => wr.cell? ⟨kb, ko + k * 5 + j, none⟩) _ hf.mle (fun j v hv => hf.cell hv) rK)
                clear rK
                have hdp : 0 ≤ deep - 1 := by
                  rcases HD.out with q | ⟨_, q⟩ <;> omega
                cases hE : vE wd n (deep - 1) e.kids[k]
                · have NK := hid (vE_no_kid (deep := deep) hlt hE)
                  go_wp2_with fail
                  refine (IH.out n (by omega) _ _ _ _ _ _ RK.out (HS.out.2 k hlt) w1' w6' hdp (by omega)).mono ?_
                  rintro r w1 ⟨rfl, b1⟩
                  rw [hE]
                  go_wp2
                  go_ret
                  exact ⟨ret_bool NK.out.symm, hf.trans b1⟩
                · have OK := hid hE
                  go_wp2_with fail
                  refine (IH.out n (by omega) _ _ _ _ _ _ RK.out (HS.out.2 k hlt) w1' w6' hdp (by omega)).mono ?_
                  rintro r w1 ⟨rfl, b1⟩
                  rw [hE]
                  go_wp2
                  go_roundw
                  case rel => exact ⟨k + 1, by omega, by go_num, hf.trans b1, fun i h hi => by
                    by_cases q : i = k
                    · subst q; exact ⟨n, rfl, OK.out⟩
                    · obtain ⟨n', q1, q2⟩ := HV.out i h (by omega); exact ⟨n', by omega, q2⟩⟩
                  case measure => simp [intOf]; omega
            · have RES := hid (show vE wd n deep e = true by
                cases n with
                | zero => simp [vE, HH.out, SC.out]
                | succ n =>
                  have : e.kids.all (vE wd n (deep - 1)) = true := all_yes fun i hi => by
                    obtain ⟨n', h1, h2⟩ := HV.out i hi (by omega)
                    obtain rfl : n = n' := by omega
                    exact h2
                  simp [vE, HH.out, SC.out, this])
              clear HV
              go_wp2
              go_ret
              exact ⟨ret_bool RES.out.symm, hf⟩
end Go.Proofs.Ytfillcjpdnpaiaa
