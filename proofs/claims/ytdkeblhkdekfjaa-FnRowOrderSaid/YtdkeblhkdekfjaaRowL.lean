/- The law on the order of rows. -/
import Derived.Test.YtdkeblhkdekfjaaRowG
import Derived.Test.YtdkeblhkdekfjaaRowW
import Derived.Test.YtdkeblhkdekfjaaCountP
import Derived.Test.YtdkeblhkdekfjaaLaw
namespace Go.Proofs.Ytdkeblhkdekfjaa
open Go Go.RowKit

theorem equalRows (A A' : Option Addr) (cap cap' : Nat) (xs ys : List V) (w : World) (hx : RdSl rdV w.cell? 2 A xs) (hy : RdSl rdV w.cell? 2 A' ys) (hl : xs.length ≤ 1048576) (hl' : ys.length ≤ 1048576) :
    Calls Try.prog 41 #[.slice A xs.length cap, .slice A' ys.length cap'] w fun e w' => e = .returned (.bool (decide (xs = ys))) ∧ Fr w w' := by
  have HX := hid hx
  have HY := hid hy
  clear hx hy
  by_cases hlen : xs.length = ys.length
  · have HL := hid hlen
    have e1 : (((xs.length : Int)) != ((ys.length : Int))) = false := by simp [hlen]
    clear hlen
    go_enter Try.func41, Try.ntmps41
    go_wp2
    go_loopw [5] (fun t wr => ∃ (k : Nat), k ≤ xs.length ∧ t = .int .i64 k ∧ Fr w wr ∧ ∀ i (h : i < xs.length) (h' : i < ys.length), i < k → xs[i] = ys[i]) (fun t _ => xs.length - (intOf t).toNat)
    case atStart => exact ⟨0, by omega, rfl, by (repeat (first | with_reducible exact Fr.refl _ | with_reducible assumption | with_reducible refine Fr.alloc ?_ _ | with_reducible refine Fr.drew ?_ | with_reducible refine Fr.drewN ?_ _ | (with_reducible refine Fr.setNew2 ?_ ?_ _; · (simp <;> omega)) | with_reducible refine Fr.trans ?_ (by assumption))), fun i h h' h'' => absurd h'' (by omega)⟩
    case round =>
      obtain ⟨k, hk, rfl, hf, hv⟩ := hrel
      have HV := hid hv
      clear hv
      by_cases hlt : k < xs.length
      · have hlt' : k < ys.length := by rw [← HL.out]; exact hlt
        obtain ⟨b, o, rfl, c0, c1⟩ := HX.out.v hlt
        obtain ⟨b', o', rfl, c0', c1'⟩ := HY.out.v hlt'
        replace c0 := hf.cell c0
        replace c1 := hf.cell c1
        replace c0' := hf.cell c0'
        replace c1' := hf.cell c1'
        cases hN : xs[k].null == ys[k].null
        · have HE := hid (show ¬ xs[k] = ys[k] from fun e => by rw [e] at hN; simp at hN)
          go_wp2_with fail
          go_quiet (fail)
          go_wp2
          go_ret
          refine ⟨ret_bool ?_, hf.drewN _⟩
          symm
          rw [decide_eq_false_iff_not]
          intro e
          exact HE.out (by subst e; rfl)
        · cases hE : xs[k].n == ys[k].n
          · have HE := hid (show ¬ xs[k] = ys[k] from fun e => by rw [e] at hE; simp at hE)
            go_wp2_with fail
            go_quiet (fail)
            go_wp2
            go_ret
            refine ⟨ret_bool ?_, hf.drewN _⟩
            symm
            rw [decide_eq_false_iff_not]
            intro e
            exact HE.out (by subst e; rfl)
          · have HE := hid (show xs[k] = ys[k] by
              have h1 : xs[k].null = ys[k].null := by simpa using hN
              have h2 : xs[k].n = ys[k].n := by simpa using hE
              cases hx : xs[k]; cases hy : ys[k]; rw [hx, hy] at h1 h2; simp_all)
            go_wp2_with fail
            go_quiet (fail)
            go_wp2
            go_roundw
            case rel => exact ⟨k + 1, by omega, by go_num, hf.drewN _, fun i h h' hi => by
              by_cases e : i = k
              · subst e; exact HE.out
              · exact HV.out i h h' (by omega)⟩
            case measure => simp [intOf]; omega
      · go_wp2
        go_ret
        refine ⟨ret_bool ?_, hf⟩
        symm
        rw [decide_eq_true_iff]
        exact List.ext_getElem HL.out fun i h h' => HV.out i h h' (by omega)
  · have e1 : (((xs.length : Int)) != ((ys.length : Int))) = true := by simp; omega
    go_enter Try.func41, Try.ntmps41
    go_wp2
    go_ret
    refine ⟨ret_bool ?_, Fr.refl _⟩
    symm
    rw [decide_eq_false_iff_not]
    intro e
    exact hlen (by rw [e])

theorem icmp_flip (a b : Int) : icmp b a = -icmp a b := by
  unfold icmp
  split <;> (try split) <;> (try split) <;> omega
theorem V.cmp_flip (a b : V) : b.cmp a = -a.cmp b := by
  unfold V.cmp
  cases a.null <;> cases b.null
  · exact icmp_flip _ _
  · rfl
  · rfl
  · rfl
theorem V.cmp_range (a b : V) : -1 ≤ a.cmp b ∧ a.cmp b ≤ 1 := by
  unfold V.cmp icmp
  cases a.null <;> cases b.null <;> simp <;> (try split) <;> (try split) <;> omega
theorem rcmp_flip : ∀ (x y : List V), rcmp y x = -rcmp x y
  | [], [] => rfl
  | [], _ :: _ => rfl
  | _ :: _, [] => rfl
  | a :: x, b :: y => by
    unfold rcmp
    rw [V.cmp_flip a b, rcmp_flip x y]
    by_cases h : a.cmp b = 0
    · rw [if_pos h, if_pos (by omega)]
    · rw [if_neg h, if_neg (by omega)]
theorem rcmp_range : ∀ (x y : List V), -1 ≤ rcmp x y ∧ rcmp x y ≤ 1
  | [], [] => by decide
  | [], _ :: _ => ⟨by show (-1 : Int) ≤ -1; decide, by show (-1 : Int) ≤ 1; decide⟩
  | _ :: _, [] => ⟨by show (-1 : Int) ≤ 1; decide, by show (1 : Int) ≤ 1; decide⟩
  | a :: x, b :: y => by
    unfold rcmp
    split
    · exact rcmp_range x y
    · exact V.cmp_range a b
/-- The facts of the law, of a pair that can be compared. -/
theorem rcmp_facts (xs ys : List V) (h : rcmp2 xs ys ≠ 2) : ∃ (hx : 0 < xs.length) (hy : 0 < ys.length), rcmp2 ys xs = -rcmp2 xs ys ∧ -1 ≤ rcmp2 xs ys ∧ rcmp2 xs ys ≤ 1 ∧ decide (xs = ys) = (rcmp2 xs ys == 0) ∧
    (xs[0].cmp2 ys[0] = 0 ∨ rcmp2 xs ys = xs[0].cmp2 ys[0]) := by
  unfold rcmp2 at h
  split at h
  · rename_i hv
    rw [Bool.and_eq_true, Bool.and_eq_true, decide_eq_true_eq] at hv
    obtain ⟨⟨h1, h2⟩, h3⟩ := hv
    have e1 : rcmp2 xs ys = rcmp xs ys := by simp [rcmp2, h1, h2, h3]
    have e2 : rcmp2 ys xs = rcmp ys xs := by simp [rcmp2, h1, h2, h3]
    simp only [vrow, Bool.and_eq_true, decide_eq_true_eq] at h1 h2
    refine ⟨by omega, by omega, ?_, ?_, ?_, ?_, ?_⟩
    · rw [e1, e2]; exact rcmp_flip xs ys
    · rw [e1]; exact (rcmp_range xs ys).1
    · rw [e1]; exact (rcmp_range xs ys).2
    · rw [e1, Bool.eq_iff_iff]; simp [rcmp_zero h1.2 h2.2 h3]
    · match xs, ys, h1, h2 with
      | a :: x, b :: y, h1, h2 =>
        have ha := h1.2
        have hb := h2.2
        simp only [List.all_cons, Bool.and_eq_true] at ha hb
        have e3 : a.cmp2 b = a.cmp b := by simp [V.cmp2, ha.1, hb.1]
        show a.cmp2 b = 0 ∨ rcmp2 (a :: x) (b :: y) = a.cmp2 b
        rw [e3, e1]
        by_cases hz : a.cmp b = 0
        · exact .inl hz
        · right; show (if a.cmp b = 0 then rcmp x y else a.cmp b) = _; rw [if_neg hz]
      | [], _, h1, _ => simp at h1
      | _ :: _, [], _, h2 => simp at h2
  · exact absurd rfl h

set_option maxRecDepth 100000 in
set_option maxHeartbeats 2000000 in
theorem walkFnRowOrder (A : Option Addr) (cap : Nat) (code : List Nat) (w : World) (hx : RdSl rdByte w.cell? 1 A code) (hl : code.length ≤ maxLen) (hc : code.length ≤ cap) :
    Calls Try.prog 8 #[.slice A code.length cap] w fun e w' => e = .returned (.bool true) ∧ Fr w w' := by
  have H := hid hx
  clear hx
  unfold maxLen at hl
  by_cases hs : code.length ≤ 1048576
  · have e0 : decide ((1048576 : Int) < (code.length : Int)) = false := by simp; omega
    go_enter Try.func8, Try.ntmps8
    go_wp2_with fail
    refine (drawCompareRows _ _ _ _ H.out hs hc).mono ?_
    rintro e w1 ⟨A1, c1, B1, d1, xs, ys, rfl, l1, l2, r1, r2, b1⟩
    have R1 := hid r1
    have R2 := hid r2
    clear r1 r2
    obtain ⟨c, hcd⟩ : ∃ c, c = rcmp2 xs ys := ⟨_, rfl⟩
    by_cases h2 : c = 2
    · subst h2
      have e2 : ((2 : Int) != 2) = false := by decide
      go_wp2_with fail
      refine (implCompareRows _ _ _ _ _ _ _ R1.out R2.out (by omega) (by omega)).mono ?_
      rintro e w2 ⟨rfl, b2⟩
      rw [← hcd]
      go_wp2_with fail
      refine (specCompareRows _ _ _ _ _ _ _ (R1.out.fr rdV_mono b2) (R2.out.fr rdV_mono b2) (by omega) (by omega)).mono ?_
      rintro e w3 ⟨rfl, b3⟩
      rw [← hcd]
      go_wp2_with fail
      refine (specCompareRows _ _ _ _ _ _ _ (R1.out.fr rdV_mono (b2.trans b3)) (R2.out.fr rdV_mono (b2.trans b3)) (by omega) (by omega)).mono ?_
      rintro e w4 ⟨rfl, b4⟩
      rw [← hcd]
      go_wp2
      go_ret
      exact ⟨rfl, ((b1.trans b2).trans b3).trans b4⟩
    · obtain ⟨hx0, hy0, f1, f2, f3, f4, f5⟩ := rcmp_facts xs ys (by rw [← hcd]; exact h2)
      rw [← hcd] at f1 f2 f3 f4 f5
      have e1 : (c == 2) = false := by simp [h2]
      have e2 : (c != c) = false := by simp
      have en : IntKind.i64.wrap (-c) = -c := IntWalk.i64_in _ (by omega)
      have HCD := hid hcd
      have HF1 := hid f1
      have HF4 := hid f4
      have HF5 := hid f5
      clear f1 f4 f5 h2 hcd
      go_wp2_with fail
      refine (implCompareRows _ _ _ _ _ _ _ R1.out R2.out (by omega) (by omega)).mono ?_
      rintro e w2 ⟨rfl, b2⟩
      rw [← HCD.out]
      go_wp2_with fail
      refine (specCompareRows _ _ _ _ _ _ _ (R1.out.fr rdV_mono b2) (R2.out.fr rdV_mono b2) (by omega) (by omega)).mono ?_
      rintro e w3 ⟨rfl, b3⟩
      rw [← HCD.out]
      have F3 := b2.trans b3
      obtain ⟨g, o, hA, x0, x1⟩ := (R1.out.fr rdV_mono F3).v hx0
      obtain ⟨g', o', hB, y0, y1⟩ := (R2.out.fr rdV_mono F3).v hy0
      simp only [Nat.zero_mul, Nat.add_zero] at x0 x1 y0 y1
      subst hA hB
      go_wp2_with fail
      (refine wp_region_quietC (fun w' => Fr _ w') (by kernel_rfl) (by kernel_rfl) (Fr.refl _).drew ?_; (repeat go_big_quiet_step (first | exact fun _ => rfl | exact fun _ => ⟨rfl, rfl⟩ | (intro hw'; replace x0 := hw'.cell x0; replace x1 := hw'.cell x1; replace y0 := hw'.cell y0; replace y1 := hw'.cell y1; go_simp; first | done | exact rfl | exact ⟨rfl, rfl⟩) | (intro hw'; go_at_call 40; refine (implCompareValues _ _ _ _ _).mono ?_; rintro e w1 ⟨rfl, b⟩; exact ⟨rfl, hw'.trans b⟩))); refine wpQuiet_nil ?_; intro wq hq)
      have FQ := F3.trans hq
      clear x0 x1 y0 y1
      go_wp2_with fail
      refine (implCompareRows _ _ _ _ _ _ _ (R2.out.fr rdV_mono FQ) (R1.out.fr rdV_mono FQ) (by omega) (by omega)).mono ?_
      rintro e w4 ⟨rfl, b4⟩
      rw [HF1.out]
      have e3 : ((-c) == (-c)) = true := by simp
      go_wp2_with fail
      refine (equalRows _ _ _ _ _ _ _ (R1.out.fr rdV_mono (FQ.trans b4)) (R2.out.fr rdV_mono (FQ.trans b4)) (by omega) (by omega)).mono ?_
      rintro e w5 ⟨rfl, b5⟩
      rw [HF4.out]
      have e4 : ((c == 0) == (c == 0)) = true := by simp
      rcases HF5.out with h | h
      · have e5 : ((xs[0].cmp2 ys[0]) == 0) = true := by simp [h]
        have e6 : (V.cmp2 ⟨xs[0].null, xs[0].n⟩ ⟨ys[0].null, ys[0].n⟩ == 0) = true := e5
        clear h
        go_wp2
        all_goals go_ret
        all_goals exact ⟨ret_bool (by simp), ((b1.trans FQ).trans b4).trans b5⟩
      · have e5 : ((xs[0].cmp2 ys[0]) == c) = true := by simp [h]
        have e7 : (c == V.cmp2 ⟨xs[0].null, xs[0].n⟩ ⟨ys[0].null, ys[0].n⟩) = true := by show (c == xs[0].cmp2 ys[0]) = true; simp [h]
        cases e6 : (V.cmp2 ⟨xs[0].null, xs[0].n⟩ ⟨ys[0].null, ys[0].n⟩ == 0)
        · clear h
          go_wp2
          all_goals go_ret
          all_goals exact ⟨ret_bool (by simp), ((b1.trans FQ).trans b4).trans b5⟩
        · clear h
          go_wp2
          all_goals go_ret
          all_goals exact ⟨ret_bool (by simp), ((b1.trans FQ).trans b4).trans b5⟩
  · have e0 : decide ((1048576 : Int) < (code.length : Int)) = true := by simp; omega
    go_enter Try.func8, Try.ntmps8
    go_wp2
    go_ret
    exact ⟨rfl, Fr.refl _⟩
end Go.Proofs.Ytdkeblhkdekfjaa
