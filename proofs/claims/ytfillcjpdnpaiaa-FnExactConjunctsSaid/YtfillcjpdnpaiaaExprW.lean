/- Walks of the validity of expressions. -/
import Derived.Test.YtfillcjpdnpaiaaExprP
import Derived.Test.YtfillcjpdnpaiaaRelP
import Derived.Test.YtfillcjpdnpaiaaMemQ
namespace Go.Proofs.Ytfillcjpdnpaiaa
open Go Go.RowKit

theorem kidsOf (k : Int) (w : World) : Calls Try.prog 86 #[.int .i64 k] w fun r w' => r = .returned (.int .i64 (nk k)) ∧ w = w' := by
  go_enter Try.func86, Try.ntmps86
  go_wp2
  all_goals go_ret
  all_goals exact ⟨ret_int (by first | (simp_all [nk]; done) | (simp_all; unfold nk; split <;> (try split) <;> (try split) <;> omega)), rfl⟩
theorem kidsOfKind (k : Int) (w : World) : Calls Try.prog 85 #[.int .i64 k] w fun r w' => r = .returned (.int .i64 (nk k)) ∧ w = w' := by
  go_enter Try.func85, Try.ntmps85
  go_wp2
  all_goals go_ret
  all_goals exact ⟨ret_int (by first | (simp_all [nk]; done) | (simp_all; unfold nk; split <;> (try split) <;> (try split) <;> omega)), rfl⟩

theorem head_no {deep : Int} {e : Ex} (h : vHead deep e = false) : ((e.kids.length : Int) ≠ nk e.kind) ∨ ((e.kids.length : Int) = nk e.kind ∧ 0 < e.kids.length ∧ deep = 0) := by
  simp only [vHead, Bool.and_eq_false_iff, decide_eq_false_iff_not, Bool.not_eq_false', Bool.and_eq_true, decide_eq_true_eq] at h
  rcases h with h | h
  · exact .inl h
  · by_cases q : (e.kids.length : Int) = nk e.kind
    · exact .inr ⟨q, h⟩
    · exact .inl q
theorem head_yes {deep : Int} {e : Ex} (h : vHead deep e = true) : (e.kids.length : Int) = nk e.kind ∧ (e.kids.length = 0 ∨ (0 < e.kids.length ∧ deep ≠ 0)) := by
  simp only [vHead, Bool.and_eq_true, decide_eq_true_eq, Bool.not_eq_true', Bool.and_eq_false_iff, decide_eq_false_iff_not] at h
  refine ⟨h.1, ?_⟩
  rcases h.2 with q | q
  · exact .inl (by omega)
  · by_cases z : e.kids.length = 0
    · exact .inl z
    · exact .inr ⟨by omega, q⟩
theorem vE_no_head {wd deep : Int} {n : Nat} {e : Ex} (h : vHead deep e = false) : vE wd n deep e = false := by
  cases n <;> simp [vE, h]
theorem vE_no_scal {wd deep : Int} {n : Nat} {e : Ex} (h : vScal wd e = false) : vE wd n deep e = false := by
  cases n <;> simp [vE, h]
theorem vE_no_kid {wd deep : Int} {n : Nat} {e : Ex} {k : Nat} (hk : k < e.kids.length) (h : vE wd n (deep - 1) e.kids[k] = false) : vE wd (n + 1) deep e = false := by
  unfold vE; rw [all_no hk h, Bool.and_false]

def SpecVE (n : Nat) : Prop := ∀ (e : Ex) (A : Option Addr) (c : Nat) (wd deep : Int) (w : World), RdSl (rdEx n) w.cell? 5 A e.kids → exSm n e.kids → 1 ≤ wd → wd ≤ 6 → 0 ≤ deep → deep ≤ 8 →
    Calls Try.prog 65 #[.agg #[.int .i64 e.kind, .int .i64 e.col, .bool e.val.null, .int .i64 e.val.n, .slice A e.kids.length c], .int .i64 wd, .int .i64 deep] w fun r w' => r = .returned (.bool (vE wd n deep e)) ∧ Fr w w'
set_option maxRecDepth 100000 in
set_option maxHeartbeats 4000000 in
theorem specVE (n : Nat) : SpecVE n := by
  induction n using Nat.strongRecOn with
  | _ n ih =>
    intro e A c wd deep w hx hs w1' w6' d0' d8'
    have HX := hid hx
    have IH := hid ih
    have HS := hid hs
    have hl := exSm_len hs
    clear hx ih hs
    have BA := Blk.new w 33 #[.int .i64 e.kind, .int .i64 e.col, .bool e.val.null, .int .i64 e.val.n, .slice A e.kids.length c]
    have F1 : Fr w (w.alloc (.cells #[.int .i64 e.kind, .int .i64 e.col, .bool e.val.null, .int .i64 e.val.n, .slice A e.kids.length c] 33)) := (Fr.refl _).alloc _
    cases hh : vHead deep e
    · have NO := hid (vE_no_head (wd := wd) (n := n) hh)
      rcases head_no hh with h | ⟨h, h2, h3⟩
      · have e1 : (((e.kids.length : Int)) != nk e.kind) = true := by simp [h]
        clear h hh
        go_enter Try.func65, Try.ntmps65
        go_wp2_with fail
        generalize w.alloc (.cells #[.int .i64 e.kind, .int .i64 e.col, .bool e.val.null, .int .i64 e.val.n, .slice A e.kids.length c] 33) = W1 at BA F1 ⊢
        obtain ⟨a0, a1, a2, a3, a4, _⟩ := BA.five
        (refine wp_region_quietC (fun w' => Fr _ w') (by kernel_rfl) (by kernel_rfl) (Fr.refl _).drew ?_; (repeat go_big_quiet_step (first | exact fun _ => rfl | exact fun _ => ⟨rfl, rfl⟩ | (intro hw'; replace a0 := hw'.cell a0; replace a1 := hw'.cell a1; replace a2 := hw'.cell a2; replace a3 := hw'.cell a3; replace a4 := hw'.cell a4; go_simp; first | done | exact rfl | exact ⟨rfl, rfl⟩) | (intro hw'; go_at_call 86; refine (kidsOf _ _).mono ?_; rintro r w1 ⟨rfl, rfl⟩; exact ⟨rfl, hw'⟩))); refine wpQuiet_nil ?_; intro wq hq)
        go_wp2
        go_ret
        exact ⟨ret_bool NO.out.symm, F1.trans hq⟩
      · have e1 : (((e.kids.length : Int)) != nk e.kind) = false := by simp [h]
        have e2 : decide (0 < e.kids.length) = true := by simp [h2]
        subst h3
        clear h hh h2
        go_enter Try.func65, Try.ntmps65
        go_wp2_with fail
        generalize w.alloc (.cells #[.int .i64 e.kind, .int .i64 e.col, .bool e.val.null, .int .i64 e.val.n, .slice A e.kids.length c] 33) = W1 at BA F1 ⊢
        obtain ⟨a0, a1, a2, a3, a4, _⟩ := BA.five
        (refine wp_region_quietC (fun w' => Fr _ w') (by kernel_rfl) (by kernel_rfl) (Fr.refl _).drew ?_; (repeat go_big_quiet_step (first | exact fun _ => rfl | exact fun _ => ⟨rfl, rfl⟩ | (intro hw'; replace a0 := hw'.cell a0; replace a1 := hw'.cell a1; replace a2 := hw'.cell a2; replace a3 := hw'.cell a3; replace a4 := hw'.cell a4; go_simp; first | done | exact rfl | exact ⟨rfl, rfl⟩) | (intro hw'; go_at_call 86; refine (kidsOf _ _).mono ?_; rintro r w1 ⟨rfl, rfl⟩; exact ⟨rfl, hw'⟩))); refine wpQuiet_nil ?_; intro wq hq)
        go_wp2
        go_ret
        exact ⟨ret_bool NO.out.symm, F1.trans hq⟩
    · obtain ⟨h, hd⟩ := head_yes hh
      have e1 : (((e.kids.length : Int)) != nk e.kind) = false := by simp [h]
      have HH := hid hh
      have HD := hid hd
      clear h hh
      obtain ⟨b2, e2⟩ : ∃ b2, decide (0 < e.kids.length) = b2 := ⟨_, rfl⟩
      have e3 : b2 = true → (deep == 0) = false := fun hb => by
        rw [← e2] at hb
        have hb : 0 < e.kids.length := of_decide_eq_true hb
        rcases hd with q | ⟨_, q⟩
        · omega
        · simpa using q
      clear hd
      go_enter Try.func65, Try.ntmps65
      go_wp2_with fail
      generalize w.alloc (.cells #[.int .i64 e.kind, .int .i64 e.col, .bool e.val.null, .int .i64 e.val.n, .slice A e.kids.length c] 33) = W1 at BA F1 ⊢
      obtain ⟨a0, a1, a2, a3, a4, _⟩ := BA.five
      cases b2
      case' false => (refine wp_region_quietC (fun w' => Fr _ w') (by kernel_rfl) (by kernel_rfl) (Fr.refl _).drew ?_; (repeat go_big_quiet_step (first | exact fun _ => rfl | exact fun _ => ⟨rfl, rfl⟩ | (intro hw'; replace a0 := hw'.cell a0; replace a1 := hw'.cell a1; replace a2 := hw'.cell a2; replace a3 := hw'.cell a3; replace a4 := hw'.cell a4; go_simp; first | done | exact rfl | exact ⟨rfl, rfl⟩) | (intro hw'; go_at_call 86; refine (kidsOf _ _).mono ?_; rintro r w1 ⟨rfl, rfl⟩; exact ⟨rfl, hw'⟩))); refine wpQuiet_nil ?_; intro wq hq)
      case' true => (have e3 := e3 rfl; (refine wp_region_quietC (fun w' => Fr _ w') (by kernel_rfl) (by kernel_rfl) (Fr.refl _).drew ?_; (repeat go_big_quiet_step (first | exact fun _ => rfl | exact fun _ => ⟨rfl, rfl⟩ | (intro hw'; replace a0 := hw'.cell a0; replace a1 := hw'.cell a1; replace a2 := hw'.cell a2; replace a3 := hw'.cell a3; replace a4 := hw'.cell a4; go_simp; first | done | exact rfl | exact ⟨rfl, rfl⟩) | (intro hw'; go_at_call 86; refine (kidsOf _ _).mono ?_; rintro r w1 ⟨rfl, rfl⟩; exact ⟨rfl, hw'⟩))); refine wpQuiet_nil ?_; intro wq hq))
      · clear e2 e3 e1 a0 a1 a2 a3 a4
        go_wp2
        go_loopw [7] (fun t wr => ∃ (k : Nat), k ≤ e.kids.length ∧ t = .int .i64 k ∧ Fr W1 wr ∧ ∀ i (h : i < e.kids.length), i < k → ∃ n', n = n' + 1 ∧ vE wd n' (deep - 1) e.kids[i] = true) (fun t _ => e.kids.length - (intOf t).toNat)
        case atStart => exact ⟨0, by omega, rfl, hq, fun i _ h => absurd h (by omega)⟩
        case round =>
          obtain ⟨k, hk, rfl, hf, hv⟩ := hrel
          have HV := hid hv
          clear hv
          obtain ⟨a0, a1, a2, a3, a4, _⟩ := (BA.fr hf).five
          by_cases hlt : k < e.kids.length
          · cases n with
            | zero => exfalso; rw [HX.out.ex0] at hlt; simp at hlt
            | succ n =>
              obtain ⟨b, o, B, c', hA, d0, d1, d2, d3, cK, rK, _⟩ := HX.out.ex hlt
              subst hA
              have RK := hid (rK.fr (rdEx_mono n) (F1.trans hf))
              clear rK
              replace d0 := (F1.trans hf).cell d0
              replace d1 := (F1.trans hf).cell d1
              replace d2 := (F1.trans hf).cell d2
              replace d3 := (F1.trans hf).cell d3
              replace cK := (F1.trans hf).cell cK
              have hdp : 0 ≤ deep - 1 := by
                rcases HD.out with q | ⟨_, q⟩ <;> omega
              cases hE : vE wd n (deep - 1) e.kids[k]
              · have NO := hid (vE_no_kid (deep := deep) hlt hE)
                go_wp2_with fail
                refine (IH.out n (by omega) _ _ _ _ _ _ RK.out (HS.out.2 k hlt) w1' w6' hdp (by omega)).mono ?_
                rintro r w1 ⟨rfl, b1⟩
                rw [hE]
                go_wp2
                go_ret
                exact ⟨ret_bool NO.out.symm, (F1.trans hf).trans b1⟩
              · have OK := hid hE
                go_wp2_with fail
                refine (IH.out n (by omega) _ _ _ _ _ _ RK.out (HS.out.2 k hlt) w1' w6' hdp (by omega)).mono ?_
                rintro r w1 ⟨rfl, b1⟩
                rw [hE]
                go_wp2
                go_roundw
                case rel => exact ⟨k + 1, by omega, by go_num, hf.trans b1, fun i h hi => by
                  by_cases q : i = k
                  · subst q; exact ⟨n, rfl, OK.out⟩
                  · obtain ⟨n', q1, q2⟩ := HV.out i h (by omega); exact ⟨n', by omega, q2⟩⟩
                case measure => simp [intOf]; omega
          · have RES := hid (show vE wd n deep e = vScal wd e by
              cases n with
              | zero => simp [vE, HH.out]
              | succ n =>
                have : e.kids.all (vE wd n (deep - 1)) = true := all_yes fun i hi => by
                  obtain ⟨n', h1, h2⟩ := HV.out i hi (by omega)
                  obtain rfl : n = n' := by omega
                  exact h2
                simp [vE, HH.out, this])
            clear HV
            cases k1 : (e.kind == 1)
            · cases k2 : (e.kind == 2)
              · have RS := hid (show vScal wd e = (decide (e.col = 0) && e.val.isZero) by
                  unfold vScal; rw [if_neg (by simpa using k1), if_neg (by simpa using k2)])
                cases hN : e.val.null <;> cases h0 : (e.col == 0) <;> cases hz : (e.val.n == 0)
                all_goals go_wp2
                all_goals go_ret
                all_goals exact ⟨ret_bool (by rw [RES.out, RS.out]; simp_all [V.isZero]), F1.trans hf⟩
              · have RS := hid (show vScal wd e = (decide (e.col = 0) && e.val.valid) by
                  unfold vScal; rw [if_neg (by simpa using k1), if_pos (by simpa using k2)])
                cases h0 : (e.col == 0)
                all_goals go_wp2_with (go_at_call 78; refine (specValid _ _ _).mono ?_; rintro r w1 ⟨rfl, b1⟩)
                all_goals go_ret
                all_goals exact ⟨ret_bool (by rw [RES.out, RS.out]; simp_all), by first | exact (F1.trans hf).trans b1 | exact F1.trans hf⟩
            · have RS := hid (show vScal wd e = ((decide (0 ≤ e.col) && decide (e.col < wd)) && e.val.isZero) by
                unfold vScal; rw [if_pos (by simpa using k1)])
              have hcw : (decide (0 ≤ e.col) && decide (e.col ≤ wd - 1)) = (decide (0 ≤ e.col) && decide (e.col < wd)) := by rw [Bool.eq_iff_iff]; simp; omega
              cases hc : (decide (0 ≤ e.col) && decide (e.col < wd)) <;> cases hN : e.val.null <;> cases hz : (e.val.n == 0)
              all_goals go_wp2_with (go_at_call 64; refine (inRange _ _ _ _).mono ?_; rintro r w1 ⟨rfl, rfl⟩; rw [hcw, hc])
              all_goals go_ret
              all_goals exact ⟨ret_bool (by rw [RES.out, RS.out]; simp_all [V.isZero]), F1.trans hf⟩
      · clear e2 e3 e1 a0 a1 a2 a3 a4
        go_wp2
        go_loopw [7] (fun t wr => ∃ (k : Nat), k ≤ e.kids.length ∧ t = .int .i64 k ∧ Fr W1 wr ∧ ∀ i (h : i < e.kids.length), i < k → ∃ n', n = n' + 1 ∧ vE wd n' (deep - 1) e.kids[i] = true) (fun t _ => e.kids.length - (intOf t).toNat)
        case atStart => exact ⟨0, by omega, rfl, hq, fun i _ h => absurd h (by omega)⟩
        case round =>
          obtain ⟨k, hk, rfl, hf, hv⟩ := hrel
          have HV := hid hv
          clear hv
          obtain ⟨a0, a1, a2, a3, a4, _⟩ := (BA.fr hf).five
          by_cases hlt : k < e.kids.length
          · cases n with
            | zero => exfalso; rw [HX.out.ex0] at hlt; simp at hlt
            | succ n =>
              obtain ⟨b, o, B, c', hA, d0, d1, d2, d3, cK, rK, _⟩ := HX.out.ex hlt
              subst hA
              have RK := hid (rK.fr (rdEx_mono n) (F1.trans hf))
              clear rK
              replace d0 := (F1.trans hf).cell d0
              replace d1 := (F1.trans hf).cell d1
              replace d2 := (F1.trans hf).cell d2
              replace d3 := (F1.trans hf).cell d3
              replace cK := (F1.trans hf).cell cK
              have hdp : 0 ≤ deep - 1 := by
                rcases HD.out with q | ⟨_, q⟩ <;> omega
              cases hE : vE wd n (deep - 1) e.kids[k]
              · have NO := hid (vE_no_kid (deep := deep) hlt hE)
                go_wp2_with fail
                refine (IH.out n (by omega) _ _ _ _ _ _ RK.out (HS.out.2 k hlt) w1' w6' hdp (by omega)).mono ?_
                rintro r w1 ⟨rfl, b1⟩
                rw [hE]
                go_wp2
                go_ret
                exact ⟨ret_bool NO.out.symm, (F1.trans hf).trans b1⟩
              · have OK := hid hE
                go_wp2_with fail
                refine (IH.out n (by omega) _ _ _ _ _ _ RK.out (HS.out.2 k hlt) w1' w6' hdp (by omega)).mono ?_
                rintro r w1 ⟨rfl, b1⟩
                rw [hE]
                go_wp2
                go_roundw
                case rel => exact ⟨k + 1, by omega, by go_num, hf.trans b1, fun i h hi => by
                  by_cases q : i = k
                  · subst q; exact ⟨n, rfl, OK.out⟩
                  · obtain ⟨n', q1, q2⟩ := HV.out i h (by omega); exact ⟨n', by omega, q2⟩⟩
                case measure => simp [intOf]; omega
          · have RES := hid (show vE wd n deep e = vScal wd e by
              cases n with
              | zero => simp [vE, HH.out]
              | succ n =>
                have : e.kids.all (vE wd n (deep - 1)) = true := all_yes fun i hi => by
                  obtain ⟨n', h1, h2⟩ := HV.out i hi (by omega)
                  obtain rfl : n = n' := by omega
                  exact h2
                simp [vE, HH.out, this])
            clear HV
            cases k1 : (e.kind == 1)
            · cases k2 : (e.kind == 2)
              · have RS := hid (show vScal wd e = (decide (e.col = 0) && e.val.isZero) by
                  unfold vScal; rw [if_neg (by simpa using k1), if_neg (by simpa using k2)])
                cases hN : e.val.null <;> cases h0 : (e.col == 0) <;> cases hz : (e.val.n == 0)
                all_goals go_wp2
                all_goals go_ret
                all_goals exact ⟨ret_bool (by rw [RES.out, RS.out]; simp_all [V.isZero]), F1.trans hf⟩
              · have RS := hid (show vScal wd e = (decide (e.col = 0) && e.val.valid) by
                  unfold vScal; rw [if_neg (by simpa using k1), if_pos (by simpa using k2)])
                cases h0 : (e.col == 0)
                all_goals go_wp2_with (go_at_call 78; refine (specValid _ _ _).mono ?_; rintro r w1 ⟨rfl, b1⟩)
                all_goals go_ret
                all_goals exact ⟨ret_bool (by rw [RES.out, RS.out]; simp_all), by first | exact (F1.trans hf).trans b1 | exact F1.trans hf⟩
            · have RS := hid (show vScal wd e = ((decide (0 ≤ e.col) && decide (e.col < wd)) && e.val.isZero) by
                unfold vScal; rw [if_pos (by simpa using k1)])
              have hcw : (decide (0 ≤ e.col) && decide (e.col ≤ wd - 1)) = (decide (0 ≤ e.col) && decide (e.col < wd)) := by rw [Bool.eq_iff_iff]; simp; omega
              cases hc : (decide (0 ≤ e.col) && decide (e.col < wd)) <;> cases hN : e.val.null <;> cases hz : (e.val.n == 0)
              all_goals go_wp2_with (go_at_call 64; refine (inRange _ _ _ _).mono ?_; rintro r w1 ⟨rfl, rfl⟩; rw [hcw, hc])
              all_goals go_ret
              all_goals exact ⟨ret_bool (by rw [RES.out, RS.out]; simp_all [V.isZero]), F1.trans hf⟩

end Go.Proofs.Ytfillcjpdnpaiaa
