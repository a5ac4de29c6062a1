/- Walks of the functions on rows: validity and comparison. -/
import Derived.Test.YtdkeblhkdekfjaaRelP
import Derived.Test.YtdkeblhkdekfjaaMemQ
namespace Go.Proofs.Ytdkeblhkdekfjaa
open Go Go.RowKit

theorem validWidR (n : Int) (w : World) :
    Calls Try.prog 71 #[.int .i64 n] w fun e w' => e = .returned (.bool (wid n)) ∧ w = w' := by
  go_enter Try.func71, Try.ntmps71
  go_wp2
  all_goals go_ret
  all_goals exact ⟨ret_bool (by rw [Bool.eq_iff_iff]; simp [wid]; try omega), rfl⟩

theorem specVRow (A : Option Addr) (c : Nat) (xs : List V) (w : World) (hx : RdSl rdV w.cell? 2 A xs) (hl : xs.length ≤ 1048576) :
    Calls Try.prog 85 #[.slice A xs.length c] w fun e w' => e = .returned (.bool (vrow xs)) ∧ Fr w w' := by
  have HX := hid hx
  clear hx
  go_enter Try.func85, Try.ntmps85
  go_wp2
  go_loopw [3] (fun t wr => ∃ (k : Nat), k ≤ xs.length ∧ t = .int .i64 k ∧ Fr w wr ∧ ∀ i (h1 : i < xs.length), i < k → xs[i].valid = true) (fun t _ => xs.length - (intOf t).toNat)
  case atStart => exact ⟨0, by omega, rfl, Fr.refl _, fun i _ h => absurd h (by omega)⟩
  case round =>
    obtain ⟨k, hk, rfl, hf, hv⟩ := hrel
    have HV := hid hv
    clear hv
    by_cases hlt : k < xs.length
    · obtain ⟨b, o, hA, d0, d1⟩ := HX.out.v hlt
      replace d0 := hf.cell d0
      replace d1 := hf.cell d1
      subst hA
      cases hok : xs[k].valid
      · have NO := hid (show vrow xs = false by unfold vrow; rw [all_no hlt hok]; simp)
        go_wp2_with (go_at_call 124; refine (specValid _ _ _).mono ?_; rintro e w1 ⟨rfl, b1⟩)
        go_ret
        exact ⟨ret_bool NO.out.symm, hf.trans b1⟩
      · have HO := hid hok
        go_wp2_with (go_at_call 124; refine (specValid _ _ _).mono ?_; rintro e w1 ⟨rfl, b1⟩)
        go_roundw
        case rel => exact ⟨k + 1, by omega, by go_num, hf.trans b1, fun i h hi => by
          by_cases e : i = k
          · subst e; exact HO.out
          · exact HV.out i h (by omega)⟩
        case measure => simp [intOf]; omega
    · have AE := hid (all_yes (p := V.valid) fun i hi => HV.out i hi (by omega))
      clear HV
      go_wp2_with (go_at_call 68; refine (inRange _ _ _ _).mono ?_; rintro e w1 ⟨rfl, rfl⟩)
      go_ret
      refine ⟨ret_bool ?_, hf⟩
      unfold vrow
      rw [AE.out, Bool.eq_iff_iff]; simp; try omega

theorem implVRow (A : Option Addr) (c : Nat) (xs : List V) (w : World) (hx : RdSl rdV w.cell? 2 A xs) (hl : xs.length ≤ 1048576) :
    Calls Try.prog 88 #[.slice A xs.length c] w fun e w' => e = .returned (.bool (vrow xs)) ∧ Fr w w' := by
  have HX := hid hx
  clear hx
  by_cases hn : 1 ≤ xs.length ∧ xs.length ≤ 6
  · have e1 : wid (xs.length : Int) = true := by simp [wid]; omega
    have HN := hid (show (decide (1 ≤ xs.length) && decide (xs.length ≤ 6)) = true by simp [hn])
    clear hn
    go_enter Try.func88, Try.ntmps88
    go_wp2_with (go_at_call 71; refine (validWidR _ _).mono ?_; rintro e w1 ⟨rfl, rfl⟩)
    go_loopw [11] (fun t wr => ∃ (k : Nat), k ≤ xs.length ∧ t = .int .i64 k ∧ Fr w wr ∧ ∀ i (h1 : i < xs.length), i < k → xs[i].valid = true) (fun t _ => xs.length - (intOf t).toNat)
    case atStart => exact ⟨0, by omega, rfl, Fr.refl _, fun i _ h => absurd h (by omega)⟩
    case round =>
      obtain ⟨k, hk, rfl, hf, hv⟩ := hrel
      have HV := hid hv
      clear hv
      by_cases hlt : k < xs.length
      · obtain ⟨b, o, hA, d0, d1⟩ := HX.out.v hlt
        replace d0 := hf.cell d0
        replace d1 := hf.cell d1
        subst hA
        cases hok : xs[k].valid
        · have NO := hid (show vrow xs = false by unfold vrow; rw [all_no hlt hok]; simp)
          go_wp2_with (go_at_call 95; refine (implValid _ _ _).mono ?_; rintro e w1 ⟨rfl, b1⟩)
          go_ret
          exact ⟨ret_bool NO.out.symm, (hf.alloc _).trans b1⟩
        · have HO := hid hok
          go_wp2_with (go_at_call 95; refine (implValid _ _ _).mono ?_; rintro e w1 ⟨rfl, b1⟩)
          go_roundw
          case rel => exact ⟨k + 1, by omega, by go_num, (hf.alloc _).trans b1, fun i h hi => by
            by_cases e : i = k
            · subst e; exact HO.out
            · exact HV.out i h (by omega)⟩
          case measure => simp [intOf]; omega
      · have AE := hid (all_yes (p := V.valid) fun i hi => HV.out i hi (by omega))
        clear HV
        go_wp2
        go_ret
        exact ⟨ret_bool (by unfold vrow; rw [AE.out, HN.out]; rfl), hf⟩
  · have e1 : wid (xs.length : Int) = false := by simp [wid]; omega
    go_enter Try.func88, Try.ntmps88
    go_wp2_with (go_at_call 71; refine (validWidR _ _).mono ?_; rintro e w1 ⟨rfl, rfl⟩)
    go_ret
    exact ⟨ret_bool (by unfold vrow; rw [show (decide (1 ≤ xs.length) && decide (xs.length ≤ 6)) = false by simp; omega]; rfl), Fr.refl _⟩

def rcmpS : List V → List V → Int
  | a :: r, b :: s => if a.cmpS b = 0 then rcmpS r s else a.cmpS b
  | r, s => (r.length : Int) - s.length
theorem rcmpS_at {xs ys : List V} {k : Nat} (hx : k < xs.length) (hy : k < ys.length) : rcmpS (xs.drop k) (ys.drop k) = if xs[k].cmpS ys[k] = 0 then rcmpS (xs.drop (k + 1)) (ys.drop (k + 1)) else xs[k].cmpS ys[k] := by
  rw [List.drop_eq_getElem_cons hx, List.drop_eq_getElem_cons hy]; rfl
theorem rcmpS_end {xs ys : List V} {k : Nat} (h : xs.length ≤ k ∨ ys.length ≤ k) (hx : k ≤ xs.length) (hy : k ≤ ys.length) : rcmpS (xs.drop k) (ys.drop k) = (xs.length : Int) - ys.length := by
  have key : ∀ r s : List V, r = [] ∨ s = [] → rcmpS r s = (r.length : Int) - s.length := by
    intro r s h
    rcases h with rfl | rfl
    · cases s <;> simp [rcmpS]
    · cases r <;> simp [rcmpS]
  rw [key _ _ (by rcases h with h | h; exact .inl (List.drop_eq_nil_of_le h); exact .inr (List.drop_eq_nil_of_le h))]
  simp; omega
theorem rcmp_at {xs ys : List V} {k : Nat} (hx : k < xs.length) (hy : k < ys.length) : rcmp (xs.drop k) (ys.drop k) = if xs[k].cmp ys[k] = 0 then rcmp (xs.drop (k + 1)) (ys.drop (k + 1)) else xs[k].cmp ys[k] := by
  rw [List.drop_eq_getElem_cons hx, List.drop_eq_getElem_cons hy]; rfl
theorem rcmpS_eq : ∀ {xs ys : List V}, xs.all V.valid = true → ys.all V.valid = true → xs.length = ys.length → rcmpS xs ys = rcmp xs ys
  | [], [], _, _, _ => rfl
  | [], _ :: _, _, _, h => by simp at h
  | _ :: _, [], _, _, h => by simp at h
  | a :: r, b :: s, h1, h2, h3 => by
    simp only [List.all_cons, Bool.and_eq_true] at h1 h2
    unfold rcmpS rcmp
    rw [V.cmpS_eq h1.1 h2.1, rcmpS_eq h1.2 h2.2 (by simpa using h3)]

set_option maxRecDepth 100000 in
set_option maxHeartbeats 1000000 in
theorem specRowCmp (A B : Option Addr) (c c' : Nat) (xs ys : List V) (w : World) (hx : RdSl rdV w.cell? 2 A xs) (hy : RdSl rdV w.cell? 2 B ys) (hl : xs.length ≤ 1048576) (hl' : ys.length ≤ 1048576) :
    Calls Try.prog 86 #[.slice A xs.length c, .slice B ys.length c'] w fun e w' => e = .returned (.int .i64 (rcmpS xs ys)) ∧ Fr w w' := by
  have HX := hid hx
  have HY := hid hy
  clear hx hy
  go_enter Try.func86, Try.ntmps86
  go_wp2
  go_loopw [5, 6] (fun t _ wr => ∃ (k : Nat), k ≤ xs.length ∧ k ≤ ys.length ∧ t = .int .i64 k ∧ Fr w wr ∧ Hid (rcmpS xs ys = rcmpS (xs.drop k) (ys.drop k))) (fun t _ _ => xs.length - (intOf t).toNat)
  case atStart => exact ⟨0, by omega, by omega, rfl, Fr.refl _, hid rfl⟩
  case round =>
    obtain ⟨k, hk, hk', rfl, hf, hv⟩ := hrel
    by_cases hlt : k < xs.length
    · by_cases hlt' : k < ys.length
      · obtain ⟨b, o, hA, c0, c1⟩ := HX.out.v hlt
        obtain ⟨b', o', hA', d0, d1⟩ := HY.out.v hlt'
        replace c0 := hf.cell c0
        replace c1 := hf.cell c1
        replace d0 := hf.cell d0
        replace d1 := hf.cell d1
        subst hA hA'
        have hv' := hid (hv.out.trans (rcmpS_at hlt hlt'))
        cases hE : V.cmpS ⟨xs[k].null, xs[k].n⟩ ⟨ys[k].null, ys[k].n⟩ != 0
        · have HE := hid (show xs[k].cmpS ys[k] = 0 by simpa using hE)
          go_wp2_with fail
          (refine wp_region_quietC (fun w' => Fr _ w') (by kernel_rfl) (by kernel_rfl) (Fr.refl _).drew ?_; (repeat go_big_quiet_step (first | exact fun _ => rfl | exact fun _ => ⟨rfl, rfl⟩ | (intro hw'; replace c0 := hw'.cell c0; replace c1 := hw'.cell c1; replace d0 := hw'.cell d0; replace d1 := hw'.cell d1; go_simp; first | done | exact rfl | exact ⟨rfl, rfl⟩) | (intro hw'; go_at_call 125; refine (specCmp _ _ _ _ _).mono ?_; rintro e w1 ⟨rfl, b1⟩; exact ⟨rfl, hw'.trans b1⟩))); refine wpQuiet_nil ?_; intro wq hq)
          go_wp2
          go_roundw
          case rel => exact ⟨k + 1, by omega, by omega, by go_num, hf.trans hq, hid (by rw [hv'.out, if_pos HE.out])⟩
          case measure => simp [intOf]; omega
        · have HE := hid (show ¬ xs[k].cmpS ys[k] = 0 by simpa using hE)
          go_wp2_with fail
          (refine wp_region_quietC (fun w' => Fr _ w') (by kernel_rfl) (by kernel_rfl) (Fr.refl _).drew ?_; (repeat go_big_quiet_step (first | exact fun _ => rfl | exact fun _ => ⟨rfl, rfl⟩ | (intro hw'; replace c0 := hw'.cell c0; replace c1 := hw'.cell c1; replace d0 := hw'.cell d0; replace d1 := hw'.cell d1; go_simp; first | done | exact rfl | exact ⟨rfl, rfl⟩) | (intro hw'; go_at_call 125; refine (specCmp _ _ _ _ _).mono ?_; rintro e w1 ⟨rfl, b1⟩; exact ⟨rfl, hw'.trans b1⟩))); refine wpQuiet_nil ?_; intro wq hq)
          go_wp2
          go_ret
          exact ⟨ret_int (by rw [hv'.out, if_neg HE.out]), hf.trans hq⟩
      · have HE := hid (hv.out.trans (rcmpS_end (.inr (by omega)) hk hk'))
        go_wp2
        go_ret
        exact ⟨ret_int HE.out.symm, hf⟩
    · have HE := hid (hv.out.trans (rcmpS_end (.inl (by omega)) hk hk'))
      go_wp2
      go_ret
      exact ⟨ret_int HE.out.symm, hf⟩

theorem rcmp_x {xs ys : List V} {k : Nat} (hx : xs.length ≤ k) (hk : k ≤ ys.length) (hk' : k ≤ xs.length) : rcmp (xs.drop k) (ys.drop k) = if (xs.length : Int) < ys.length then -1 else 0 := by
  rw [List.drop_eq_nil_of_le hx]
  by_cases h : xs.length < ys.length
  · rw [List.drop_eq_getElem_cons (show k < ys.length by omega), if_pos (by omega)]; rfl
  · rw [List.drop_eq_nil_of_le (show ys.length ≤ k by omega), if_neg (by omega)]; rfl
theorem rcmp_y {xs ys : List V} {k : Nat} (hx : k < xs.length) (hk : ys.length ≤ k) : rcmp (xs.drop k) (ys.drop k) = 1 := by
  rw [List.drop_eq_getElem_cons hx, List.drop_eq_nil_of_le hk]; rfl
set_option maxRecDepth 100000 in
set_option maxHeartbeats 1000000 in
theorem cmpFunc (A B : Option Addr) (c c' : Nat) (xs ys : List V) (w : World) (hx : RdSl rdV w.cell? 2 A xs) (hy : RdSl rdV w.cell? 2 B ys) (hl : xs.length ≤ 1048576) (hl' : ys.length ≤ 1048576) :
    Calls Try.prog 126 #[.slice A xs.length c, .slice B ys.length c', .func (.func 96) #[] #[]] w fun e w' => e = .returned (.int .i64 (rcmp xs ys)) ∧ Fr w w' := by
  have HX := hid hx
  have HY := hid hy
  clear hx hy
  go_enter Try.func126, Try.ntmps126
  go_wp2
  go_loopw [13] (fun t wr => ∃ (k : Nat), k ≤ xs.length ∧ k ≤ ys.length ∧ t = .int .i64 k ∧ Fr w wr ∧ Hid (rcmp xs ys = rcmp (xs.drop k) (ys.drop k))) (fun t _ => xs.length - (intOf t).toNat)
  case atStart => exact ⟨0, by omega, by omega, rfl, Fr.refl _, hid rfl⟩
  case round =>
    obtain ⟨k, hk, hk', rfl, hf, hv⟩ := hrel
    by_cases hlt : k < xs.length
    · obtain ⟨b, o, hA, c0, c1⟩ := HX.out.v hlt
      replace c0 := hf.cell c0
      replace c1 := hf.cell c1
      by_cases hlt' : k < ys.length
      · obtain ⟨b', o', hA', d0, d1⟩ := HY.out.v hlt'
        have F1 : Fr wr (wr.alloc (.cells #[.bool xs[k].null, .int .i64 xs[k].n] 72)) := (Fr.refl wr).alloc _
        replace d0 := hf.cell d0
        replace d1 := hf.cell d1
        have d0' := F1.cell d0
        have d1' := F1.cell d1
        subst hA hA'
        have hv' := hid (hv.out.trans (rcmp_at hlt hlt'))
        cases hE : V.cmp ⟨xs[k].null, xs[k].n⟩ ⟨ys[k].null, ys[k].n⟩ != 0
        · have HE := hid (show xs[k].cmp ys[k] = 0 by simpa using hE)
          go_wp2_with (go_at_call 96; refine (implCmp _ _ _ _ _).mono ?_; rintro e w1 ⟨rfl, b1⟩)
          go_roundw
          case rel => exact ⟨k + 1, by omega, by omega, by go_num, ((hf.alloc _).alloc _).trans b1, hid (by rw [hv'.out, if_pos HE.out])⟩
          case measure => simp [intOf]; omega
        · have HE := hid (show ¬ xs[k].cmp ys[k] = 0 by simpa using hE)
          go_wp2_with (go_at_call 96; refine (implCmp _ _ _ _ _).mono ?_; rintro e w1 ⟨rfl, b1⟩)
          go_ret
          exact ⟨ret_int (by rw [hv'.out, if_neg HE.out]), ((hf.alloc _).alloc _).trans b1⟩
      · have HE := hid (hv.out.trans (rcmp_y hlt (by omega)))
        subst hA
        go_wp2
        go_ret
        exact ⟨ret_int HE.out.symm, hf.alloc _⟩
    · have HE := hid (hv.out.trans (rcmp_x (by omega) hk' hk))
      go_wp2
      all_goals go_ret
      all_goals exact ⟨ret_int (by rw [HE.out]; first | rfl | (rw [if_pos (by omega)]) | (rw [if_neg (by omega)])), hf⟩
theorem implRowCmp (A B : Option Addr) (c c' : Nat) (xs ys : List V) (w : World) (hx : RdSl rdV w.cell? 2 A xs) (hy : RdSl rdV w.cell? 2 B ys) (hl : xs.length ≤ 1048576) (hl' : ys.length ≤ 1048576) :
    Calls Try.prog 89 #[.slice A xs.length c, .slice B ys.length c'] w fun e w' => e = .returned (.int .i64 (rcmp xs ys)) ∧ Fr w w' := by
  have HX := hid hx
  have HY := hid hy
  clear hx hy
  go_enter Try.func89, Try.ntmps89
  go_wp2_with fail
  refine (cmpFunc _ _ _ _ _ _ _ HX.out HY.out hl hl').mono ?_
  rintro e w1 ⟨rfl, b1⟩
  go_wp2
  go_ret
  exact ⟨rfl, b1⟩
theorem specCompareRows (A B : Option Addr) (c c' : Nat) (xs ys : List V) (w : World) (hx : RdSl rdV w.cell? 2 A xs) (hy : RdSl rdV w.cell? 2 B ys) (hl : xs.length ≤ 1048576) (hl' : ys.length ≤ 1048576) :
    Calls Try.prog 35 #[.slice A xs.length c, .slice B ys.length c'] w fun e w' => e = .returned (.int .i64 (rcmp2 xs ys)) ∧ Fr w w' := by
  have HX := hid hx
  have HY := hid hy
  clear hx hy
  cases hv : vrow xs
  · have R := hid (show rcmp2 xs ys = 2 by simp [rcmp2, hv])
    go_enter Try.func35, Try.ntmps35
    go_wp2_with (go_at_call 85; refine (specVRow _ _ _ _ HX.out hl).mono ?_; rintro e w1 ⟨rfl, b1⟩; rw [hv])
    go_ret
    exact ⟨ret_int R.out.symm, b1⟩
  · cases hu : vrow ys
    · have R := hid (show rcmp2 xs ys = 2 by simp [rcmp2, hu])
      go_enter Try.func35, Try.ntmps35
      go_wp2_with fail
      refine (specVRow _ _ _ _ HX.out hl).mono ?_
      rintro e w1 ⟨rfl, b1⟩
      rw [hv]
      go_wp2_with fail
      refine (specVRow _ _ _ _ (HY.out.fr rdV_mono b1) hl').mono ?_
      rintro e w2 ⟨rfl, b2⟩
      rw [hu]
      go_wp2
      go_ret
      exact ⟨ret_int R.out.symm, b1.trans b2⟩
    · by_cases hn : xs.length = ys.length
      · have e1 : (((xs.length : Int)) != ((ys.length : Int))) = false := by simp [hn]
        have R := hid (show rcmp2 xs ys = rcmpS xs ys by
          have h1 := hv
          have h2 := hu
          simp only [vrow, Bool.and_eq_true] at h1 h2
          rw [rcmpS_eq h1.2 h2.2 hn]; simp [rcmp2, hv, hu, hn])
        clear hn
        go_enter Try.func35, Try.ntmps35
        go_wp2_with fail
        refine (specVRow _ _ _ _ HX.out hl).mono ?_
        rintro e w1 ⟨rfl, b1⟩
        rw [hv]
        go_wp2_with fail
        refine (specVRow _ _ _ _ (HY.out.fr rdV_mono b1) hl').mono ?_
        rintro e w2 ⟨rfl, b2⟩
        rw [hu]
        go_wp2_with fail
        refine (specRowCmp _ _ _ _ _ _ _ (HX.out.fr rdV_mono (b1.trans b2)) (HY.out.fr rdV_mono (b1.trans b2)) hl hl').mono ?_
        rintro e w3 ⟨rfl, b3⟩
        go_wp2
        go_ret
        exact ⟨ret_int R.out.symm, (b1.trans b2).trans b3⟩
      · have e1 : (((xs.length : Int)) != ((ys.length : Int))) = true := by simp; omega
        have R := hid (show rcmp2 xs ys = 2 by simp [rcmp2, hn])
        go_enter Try.func35, Try.ntmps35
        go_wp2_with fail
        refine (specVRow _ _ _ _ HX.out hl).mono ?_
        rintro e w1 ⟨rfl, b1⟩
        rw [hv]
        go_wp2_with fail
        refine (specVRow _ _ _ _ (HY.out.fr rdV_mono b1) hl').mono ?_
        rintro e w2 ⟨rfl, b2⟩
        rw [hu]
        go_wp2
        go_ret
        exact ⟨ret_int R.out.symm, b1.trans b2⟩
theorem implCompareRows (A B : Option Addr) (c c' : Nat) (xs ys : List V) (w : World) (hx : RdSl rdV w.cell? 2 A xs) (hy : RdSl rdV w.cell? 2 B ys) (hl : xs.length ≤ 1048576) (hl' : ys.length ≤ 1048576) :
    Calls Try.prog 37 #[.slice A xs.length c, .slice B ys.length c'] w fun e w' => e = .returned (.int .i64 (rcmp2 xs ys)) ∧ Fr w w' := by
  have HX := hid hx
  have HY := hid hy
  clear hx hy
  cases hv : vrow xs
  · have R := hid (show rcmp2 xs ys = 2 by simp [rcmp2, hv])
    go_enter Try.func37, Try.ntmps37
    go_wp2_with (go_at_call 88; refine (implVRow _ _ _ _ HX.out hl).mono ?_; rintro e w1 ⟨rfl, b1⟩; rw [hv])
    go_ret
    exact ⟨ret_int R.out.symm, b1⟩
  · cases hu : vrow ys
    · have R := hid (show rcmp2 xs ys = 2 by simp [rcmp2, hu])
      go_enter Try.func37, Try.ntmps37
      go_wp2_with fail
      refine (implVRow _ _ _ _ HX.out hl).mono ?_
      rintro e w1 ⟨rfl, b1⟩
      rw [hv]
      go_wp2_with fail
      refine (implVRow _ _ _ _ (HY.out.fr rdV_mono b1) hl').mono ?_
      rintro e w2 ⟨rfl, b2⟩
      rw [hu]
      go_wp2
      go_ret
      exact ⟨ret_int R.out.symm, b1.trans b2⟩
    · by_cases hn : xs.length = ys.length
      · have e1 : (((xs.length : Int)) != ((ys.length : Int))) = false := by simp [hn]
        have R := hid (show rcmp2 xs ys = rcmp xs ys by simp [rcmp2, hv, hu, hn])
        clear hn
        go_enter Try.func37, Try.ntmps37
        go_wp2_with fail
        refine (implVRow _ _ _ _ HX.out hl).mono ?_
        rintro e w1 ⟨rfl, b1⟩
        rw [hv]
        go_wp2_with fail
        refine (implVRow _ _ _ _ (HY.out.fr rdV_mono b1) hl').mono ?_
        rintro e w2 ⟨rfl, b2⟩
        rw [hu]
        go_wp2_with fail
        refine (implRowCmp _ _ _ _ _ _ _ (HX.out.fr rdV_mono (b1.trans b2)) (HY.out.fr rdV_mono (b1.trans b2)) hl hl').mono ?_
        rintro e w3 ⟨rfl, b3⟩
        go_wp2
        go_ret
        exact ⟨ret_int R.out.symm, (b1.trans b2).trans b3⟩
      · have e1 : (((xs.length : Int)) != ((ys.length : Int))) = true := by simp; omega
        have R := hid (show rcmp2 xs ys = 2 by simp [rcmp2, hn])
        go_enter Try.func37, Try.ntmps37
        go_wp2_with fail
        refine (implVRow _ _ _ _ HX.out hl).mono ?_
        rintro e w1 ⟨rfl, b1⟩
        rw [hv]
        go_wp2_with fail
        refine (implVRow _ _ _ _ (HY.out.fr rdV_mono b1) hl').mono ?_
        rintro e w2 ⟨rfl, b2⟩
        rw [hu]
        go_wp2
        go_ret
        exact ⟨ret_int R.out.symm, b1.trans b2⟩
end Go.Proofs.Ytdkeblhkdekfjaa
