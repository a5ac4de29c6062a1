/- Walks of the comparison of rows. -/
import Derived.Test.YtlmiadeaiiehaaaRowV
namespace Go.Proofs.Ytlmiadeaiiehaaa
open Go Go.RowKit

def rcmpS : List V → List V → Int
  | a :: r, b :: s => if a.cmpS b = 0 then rcmpS r s else a.cmpS b
  | r, s => (r.length : Int) - s.length
theorem rcmpS_at {xs ys : List V} {k : Nat} (hx : k < xs.length) (hy : k < ys.length) : rcmpS (xs.drop k) (ys.drop k) = if xs[k].cmpS ys[k] = 0 then rcmpS (xs.drop (k + 1)) (ys.drop (k + 1)) else xs[k].cmpS ys[k] := by
  rw [List.drop_eq_getElem_cons hx, List.drop_eq_getElem_cons hy]; rfl
theorem rcmpS_end {xs ys : List V} {k : Nat} (h : xs.length ≤ k ∨ ys.length ≤ k) (hx : k ≤ xs.length) (hy : k ≤ ys.length) : rcmpS (xs.drop k) (ys.drop k) = (xs.length : Int) - ys.length := by
  have key : ∀ r s : List V, r = [] ∨ s = [] → rcmpS r s = (r.length : Int) - s.length := by
    intro r s h
    rcases h with rfl | rfl
    · cases s <;> simp [rcmpS]
    · cases r <;> simp [rcmpS]
  rw [key _ _ (by rcases h with h | h; exact .inl (List.drop_eq_nil_of_le h); exact .inr (List.drop_eq_nil_of_le h))]
  simp; omega
theorem rcmp_at {xs ys : List V} {k : Nat} (hx : k < xs.length) (hy : k < ys.length) : rcmp (xs.drop k) (ys.drop k) = if xs[k].cmp ys[k] = 0 then rcmp (xs.drop (k + 1)) (ys.drop (k + 1)) else xs[k].cmp ys[k] := by
  rw [List.drop_eq_getElem_cons hx, List.drop_eq_getElem_cons hy]; rfl
theorem rcmpS_eq : ∀ {xs ys : List V}, xs.all V.valid = true → ys.all V.valid = true → xs.length = ys.length → rcmpS xs ys = rcmp xs ys
  | [], [], _, _, _ => rfl
  | [], _ :: _, _, _, h => by simp at h
  | _ :: _, [], _, _, h => by simp at h
  | a :: r, b :: s, h1, h2, h3 => by
    simp only [List.all_cons, Bool.and_eq_true] at h1 h2
    unfold rcmpS rcmp
    rw [V.cmpS_eq h1.1 h2.1, rcmpS_eq h1.2 h2.2 (by simpa using h3)]

set_option maxRecDepth 100000 in
set_option maxHeartbeats 1000000 in
theorem specRowCmp (A B : Option Addr) (c c' : Nat) (xs ys : List V) (w : World) (hx : RdSl rdV w.cell? 2 A xs) (hy : RdSl rdV w.cell? 2 B ys) (hl : xs.length ≤ 1048576) (hl' : ys.length ≤ 1048576) :
    Calls Try.prog 49 #[.slice A xs.length c, .slice B ys.length c'] w fun e w' => e = .returned (.int .i64 (rcmpS xs ys)) ∧ Fr w w' := by
  have HX := hid hx
  have HY := hid hy
  clear hx hy
  go_enter Try.func49, Try.ntmps49
  go_wp2
  go_loopw [5, 6] (fun t _ wr => ∃ (k : Nat), k ≤ xs.length ∧ k ≤ ys.length ∧ t = .int .i64 k ∧ Fr w wr ∧ Hid (rcmpS xs ys = rcmpS (xs.drop k) (ys.drop k))) (fun t _ _ => xs.length - (intOf t).toNat)
  case atStart => exact ⟨0, by omega, by omega, rfl, Fr.refl _, hid rfl⟩
  case round =>
    obtain ⟨k, hk, hk', rfl, hf, hv⟩ := hrel
    by_cases hlt : k < xs.length
    · by_cases hlt' : k < ys.length
      · obtain ⟨b, o, hA, c0, c1⟩ := HX.out.v hlt
        obtain ⟨b', o', hA', d0, d1⟩ := HY.out.v hlt'
        replace c0 := hf.cell c0
        replace c1 := hf.cell c1
        replace d0 := hf.cell d0
        replace d1 := hf.cell d1
        subst hA hA'
        have hv' := hid (hv.out.trans (rcmpS_at hlt hlt'))
        cases hE : V.cmpS ⟨xs[k].null, xs[k].n⟩ ⟨ys[k].null, ys[k].n⟩ != 0
        · have HE := hid (show xs[k].cmpS ys[k] = 0 by simpa using hE)
          go_wp2_with fail
          (refine wp_region_quietC (fun w' => Fr _ w') (by kernel_rfl) (by kernel_rfl) (Fr.refl _).drew ?_; (repeat go_big_quiet_step (first | exact fun _ => rfl | exact fun _ => ⟨rfl, rfl⟩ | (intro hw'; replace c0 := hw'.cell c0; replace c1 := hw'.cell c1; replace d0 := hw'.cell d0; replace d1 := hw'.cell d1; go_simp; first | done | exact rfl | exact ⟨rfl, rfl⟩) | (intro hw'; go_at_call 67; refine (specCmp _ _ _ _ _).mono ?_; rintro e w1 ⟨rfl, b1⟩; exact ⟨rfl, hw'.trans b1⟩))); refine wpQuiet_nil ?_; intro wq hq)
          go_wp2
          go_roundw
          case rel => exact ⟨k + 1, by omega, by omega, by go_num, hf.trans hq, hid (by rw [hv'.out, if_pos HE.out])⟩
          case measure => simp [intOf]; omega
        · have HE := hid (show ¬ xs[k].cmpS ys[k] = 0 by simpa using hE)
          go_wp2_with fail
          (refine wp_region_quietC (fun w' => Fr _ w') (by kernel_rfl) (by kernel_rfl) (Fr.refl _).drew ?_; (repeat go_big_quiet_step (first | exact fun _ => rfl | exact fun _ => ⟨rfl, rfl⟩ | (intro hw'; replace c0 := hw'.cell c0; replace c1 := hw'.cell c1; replace d0 := hw'.cell d0; replace d1 := hw'.cell d1; go_simp; first | done | exact rfl | exact ⟨rfl, rfl⟩) | (intro hw'; go_at_call 67; refine (specCmp _ _ _ _ _).mono ?_; rintro e w1 ⟨rfl, b1⟩; exact ⟨rfl, hw'.trans b1⟩))); refine wpQuiet_nil ?_; intro wq hq)
          go_wp2
          go_ret
          exact ⟨ret_int (by rw [hv'.out, if_neg HE.out]), hf.trans hq⟩
      · have HE := hid (hv.out.trans (rcmpS_end (.inr (by omega)) hk hk'))
        go_wp2
        go_ret
        exact ⟨ret_int HE.out.symm, hf⟩
    · have HE := hid (hv.out.trans (rcmpS_end (.inl (by omega)) hk hk'))
      go_wp2
      go_ret
      exact ⟨ret_int HE.out.symm, hf⟩

theorem rcmp_x {xs ys : List V} {k : Nat} (hx : xs.length ≤ k) (hk : k ≤ ys.length) (hk' : k ≤ xs.length) : rcmp (xs.drop k) (ys.drop k) = if (xs.length : Int) < ys.length then -1 else 0 := by
  rw [List.drop_eq_nil_of_le hx]
  by_cases h : xs.length < ys.length
  · rw [List.drop_eq_getElem_cons (show k < ys.length by omega), if_pos (by omega)]; rfl
  · rw [List.drop_eq_nil_of_le (show ys.length ≤ k by omega), if_neg (by omega)]; rfl
theorem rcmp_y {xs ys : List V} {k : Nat} (hx : k < xs.length) (hk : ys.length ≤ k) : rcmp (xs.drop k) (ys.drop k) = 1 := by
  rw [List.drop_eq_getElem_cons hx, List.drop_eq_nil_of_le hk]; rfl
set_option maxRecDepth 100000 in
set_option maxHeartbeats 1000000 in
theorem cmpFunc (A B : Option Addr) (c c' : Nat) (xs ys : List V) (w : World) (hx : RdSl rdV w.cell? 2 A xs) (hy : RdSl rdV w.cell? 2 B ys) (hl : xs.length ≤ 1048576) (hl' : ys.length ≤ 1048576) :
    Calls Try.prog 70 #[.slice A xs.length c, .slice B ys.length c', .func (.func 71) #[] #[]] w fun e w' => e = .returned (.int .i64 (rcmp xs ys)) ∧ Fr w w' := by
  have HX := hid hx
  have HY := hid hy
  clear hx hy
  go_enter Try.func70, Try.ntmps70
  go_wp2
  go_loopw [13] (fun t wr => ∃ (k : Nat), k ≤ xs.length ∧ k ≤ ys.length ∧ t = .int .i64 k ∧ Fr w wr ∧ Hid (rcmp xs ys = rcmp (xs.drop k) (ys.drop k))) (fun t _ => xs.length - (intOf t).toNat)
  case atStart => exact ⟨0, by omega, by omega, rfl, Fr.refl _, hid rfl⟩
  case round =>
    obtain ⟨k, hk, hk', rfl, hf, hv⟩ := hrel
    by_cases hlt : k < xs.length
    · obtain ⟨b, o, hA, c0, c1⟩ := HX.out.v hlt
      replace c0 := hf.cell c0
      replace c1 := hf.cell c1
      by_cases hlt' : k < ys.length
      · obtain ⟨b', o', hA', d0, d1⟩ := HY.out.v hlt'
        have F1 : Fr wr (wr.alloc (.cells #[.bool xs[k].null, .int .i64 xs[k].n] 63)) := (Fr.refl wr).alloc _
        replace d0 := hf.cell d0
        replace d1 := hf.cell d1
        have d0' := F1.cell d0
        have d1' := F1.cell d1
        subst hA hA'
        have hv' := hid (hv.out.trans (rcmp_at hlt hlt'))
        cases hE : V.cmp ⟨xs[k].null, xs[k].n⟩ ⟨ys[k].null, ys[k].n⟩ != 0
        · have HE := hid (show xs[k].cmp ys[k] = 0 by simpa using hE)
          go_wp2_with (go_at_call 71; refine (implCmp _ _ _ _ _).mono ?_; rintro e w1 ⟨rfl, b1⟩)
          go_roundw
          case rel => exact ⟨k + 1, by omega, by omega, by go_num, ((hf.alloc _).alloc _).trans b1, hid (by rw [hv'.out, if_pos HE.out])⟩
          case measure => simp [intOf]; omega
        · have HE := hid (show ¬ xs[k].cmp ys[k] = 0 by simpa using hE)
          go_wp2_with (go_at_call 71; refine (implCmp _ _ _ _ _).mono ?_; rintro e w1 ⟨rfl, b1⟩)
          go_ret
          exact ⟨ret_int (by rw [hv'.out, if_neg HE.out]), ((hf.alloc _).alloc _).trans b1⟩
      · have HE := hid (hv.out.trans (rcmp_y hlt (by omega)))
        subst hA
        go_wp2
        go_ret
        exact ⟨ret_int HE.out.symm, hf.alloc _⟩
    · have HE := hid (hv.out.trans (rcmp_x (by omega) hk' hk))
      go_wp2
      all_goals go_ret
      all_goals exact ⟨ret_int (by rw [HE.out]; first | rfl | (rw [if_pos (by omega)]) | (rw [if_neg (by omega)])), hf⟩
theorem implRowCmp (A B : Option Addr) (c c' : Nat) (xs ys : List V) (w : World) (hx : RdSl rdV w.cell? 2 A xs) (hy : RdSl rdV w.cell? 2 B ys) (hl : xs.length ≤ 1048576) (hl' : ys.length ≤ 1048576) :
    Calls Try.prog 55 #[.slice A xs.length c, .slice B ys.length c'] w fun e w' => e = .returned (.int .i64 (rcmp xs ys)) ∧ Fr w w' := by
  have HX := hid hx
  have HY := hid hy
  clear hx hy
  go_enter Try.func55, Try.ntmps55
  go_wp2_with fail
  refine (cmpFunc _ _ _ _ _ _ _ HX.out HY.out hl hl').mono ?_
  rintro e w1 ⟨rfl, b1⟩
  go_wp2
  go_ret
  exact ⟨rfl, b1⟩
end Go.Proofs.Ytlmiadeaiiehaaa
