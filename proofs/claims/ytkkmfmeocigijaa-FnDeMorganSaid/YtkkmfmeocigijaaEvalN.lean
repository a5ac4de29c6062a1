/- Plain laws of the values of expressions, for the laws on two and not. -/
import Derived.Test.YtkkmfmeocigijaaEvalM
namespace Go.Proofs.Ytkkmfmeocigijaa
open Go

/-- The kids of a valid expression are valid a level below. -/
theorem kid7 {row : List V} {n : Nat} {e : Ex} (h : evOk row (n + 1) e = true) {i : Nat} (hi : i < e.kids.length) : vE row.length n ((7 : Nat) : Int) e.kids[i] = true := by
  have hv := evOk_vE h
  rw [show ((8 : Nat) : Int) = ((7 + 1 : Nat) : Int) from rfl] at hv
  obtain ⟨d, hd, hk⟩ := vE_down hv hi
  obtain rfl : d = 7 := by omega
  exact hk
theorem ok_two {row : List V} {n : Nat} {k : Int} {x y : Ex} (hr : vrow row = true) (hk : nk k = 2) (h1 : k ≠ 1) (h2 : k ≠ 2) : evOk row (n + 1) (.mk k 0 ⟨false, 0⟩ [x, y]) = (vE row.length n ((7 : Nat) : Int) x && vE row.length n ((7 : Nat) : Int) y) := by
  rw [evOk_mk (by rw [hk]; rfl) h1 h2, hr, List.all_cons, List.all_cons, List.all_nil, Bool.and_true, Bool.true_and]
theorem ok_not {row : List V} {n : Nat} {x : Ex} (hr : vrow row = true) : evOk row (n + 1) (.mk 10 0 ⟨false, 0⟩ [x]) = vE row.length n ((7 : Nat) : Int) x := by
  rw [evOk_mk (by rfl) (by omega) (by omega), hr, List.all_cons, List.all_nil, Bool.and_true, Bool.true_and]
theorem res_two {row : List V} {n : Nat} {k : Int} {x y : Ex} {a b : V} (hok : evOk row (n + 1) (.mk k 0 ⟨false, 0⟩ [x, y]) = true) (h : k ≠ 1 ∧ k ≠ 2 ∧ k ≠ 10 ∧ k ≠ 11) (hx : evOk row n x = true) (hy : evOk row n y = true) (ha : evRes row n x = a) (hb : evRes row n y = b) : evRes row (n + 1) (.mk k 0 ⟨false, 0⟩ [x, y]) = comb k a b := by
  rw [evRes_ok hok, ev_mk2 h, ← evRes_ok hx, ← evRes_ok hy, ha, hb]
theorem isT_two {row : List V} {n : Nat} {k : Int} {x y : Ex} {a b : V} (hk : k = 6 ∨ k = 7) (hr : vrow row = true) (vx : vE row.length n ((7 : Nat) : Int) x = true) (vy : vE row.length n ((7 : Nat) : Int) y = true) (hx : evOk row n x = true) (hy : evOk row n y = true) (ha : evRes row n x = a) (hb : evRes row n y = b) (na : a.null = false) (nb : b.null = false) :
    isT row (n + 1) (.mk k 0 ⟨false, 0⟩ [x, y]) = ((comb k a b).n != 0) := by
  have hnk : nk k = 2 := by rcases hk with rfl | rfl <;> rfl
  have hok : evOk row (n + 1) (.mk k 0 ⟨false, 0⟩ [x, y]) = true := by
    rw [ok_two hr hnk (by omega) (by omega), vx, vy]; rfl
  have hres := res_two hok (by omega) hx hy ha hb
  have hn : (comb k a b).null = false := by
    have : (a.null || b.null) = false := by rw [na, nb]; rfl
    rcases hk with rfl | rfl
    · show (if (a.null || b.null) = true then (⟨true, 0⟩ : V) else V.flag (decide (a.n = b.n))).null = false
      rw [this]; rfl
    · show (if (a.null || b.null) = true then (⟨true, 0⟩ : V) else V.flag (decide (a.n < b.n))).null = false
      rw [this]; rfl
  unfold isT
  rw [hok, hres, hn]; rfl
theorem less_cases {a b : V} (ha : a.null = false) (hb : b.null = false) {t1 t2 t3 : Bool} (h1 : ((comb 7 a b).n != 0) = t1) (h2 : ((comb 7 b a).n != 0) = t2) (h3 : ((comb 6 a b).n != 0) = t3) : (t1 = true ∧ t2 = false ∧ t3 = false) ∨ (t1 = false ∧ t2 = true ∧ t3 = false) ∨ (t1 = false ∧ t2 = false ∧ t3 = true) := by
  have h := law_less ha hb
  rw [h1, h2, h3] at h
  cases t1 <;> cases t2 <;> cases t3 <;> simp at h ⊢
/-- Adding back what was taken away. -/
theorem plus_minus {row : List V} {e : Ex} {a b : V} {rn : V} (hok : evOk row 3 e = true) (hk : e.kind = 3) (h0 : 0 < e.kids.length) (h1 : 1 < e.kids.length) (hD : Dp 2 e.kids[1]) (ha : evRes row 2 e.kids[0] = a) (hb : evRes row 2 e.kids[1] = b) (hr : evRes row 3 e = rn) (hn : rn.null = false)
    (ht : evOk row 4 (.mk 4 0 ⟨false, 0⟩ [e, e.kids[1]]) = true) : evRes row 4 (.mk 4 0 ⟨false, 0⟩ [e, e.kids[1]]) = a := by
  have ok0 := evOk_kid hok h0
  have ok1 := evOk_kid hok h1
  have va : a.valid = true := by rw [← ha, evRes_ok ok0]; exact ev_valid (vrow_all (evOk_row hok)) rfl 2 _ _ (evOk_vE ok0)
  have e1 : ev row 3 e = comb 3 a b := by rw [ev_two (by omega) h0 h1, hk, ← evRes_ok ok0, ← evRes_ok ok1, ha, hb]
  have e2 : rn = comb 3 a b := by rw [← hr, evRes_ok hok, e1]
  have e3 : ev row 3 e.kids[1] = b := by rw [ev_lift 2 _ _ hD (evOk_vE ok1), ← evRes_ok ok1, hb]
  rw [evRes_ok ht, ev_mk2 (by omega), e1, e3]
  exact law_plus va (e2 ▸ hn)
/-- De Morgan. -/
theorem morgan_ok {row : List V} {e : Ex} (hok : evOk row 3 e = true) (hk : e.kind = 8 ∨ e.kind = 9) (h0 : 0 < e.kids.length) (h1 : 1 < e.kids.length) (hl : e.kids.length = 2) :
    evOk row 4 (.mk 10 0 ⟨false, 0⟩ [e]) = evOk row 4 (.mk (17 - e.kind) 0 ⟨false, 0⟩ [.mk 10 0 ⟨false, 0⟩ [e.kids[0]], .mk 10 0 ⟨false, 0⟩ [e.kids[1]]]) := by
  have hr := evOk_row hok
  rw [ok_not hr, ok_two hr (by rcases hk with h | h <;> rw [h] <;> rfl) (by omega) (by omega)]
  rw [show ((7 : Nat) : Int) = ((6 + 1 : Nat) : Int) from rfl, vE_mk (by rfl) (by omega) (by omega), vE_mk (by rfl) (by omega) (by omega)]
  have hh := vE_head (evOk_vE hok)
  have e1 : vHead ((6 + 1 : Nat) : Int) e = true := by
    have := (head_yes hh.1).1
    simp only [vHead, Bool.and_eq_true, Bool.not_eq_true', Bool.and_eq_false_iff, decide_eq_true_eq, decide_eq_false_iff_not]
    exact ⟨this, .inr (by omega)⟩
  have e2 : e.kids = [e.kids[0], e.kids[1]] := List.ext_getElem (by simp [hl]) (fun i h h' => by
    rcases (by omega : i = 0 ∨ i = 1) with rfl | rfl <;> rfl)
  show vE row.length (2 + 1) ((6 + 1 : Nat) : Int) e = _
  rw [vE, e1, hh.2, show ((6 + 1 : Nat) : Int) - 1 = ((6 : Nat) : Int) by omega]
  conv => lhs; rw [e2]
  simp
theorem morgan_res {row : List V} {e : Ex} (hk : e.kind = 8 ∨ e.kind = 9) (h0 : 0 < e.kids.length) (h1 : 1 < e.kids.length)
    (ht : evOk row 4 (.mk 10 0 ⟨false, 0⟩ [e]) = true) (hu : evOk row 4 (.mk (17 - e.kind) 0 ⟨false, 0⟩ [.mk 10 0 ⟨false, 0⟩ [e.kids[0]], .mk 10 0 ⟨false, 0⟩ [e.kids[1]]]) = true) :
    evRes row 4 (.mk 10 0 ⟨false, 0⟩ [e]) = evRes row 4 (.mk (17 - e.kind) 0 ⟨false, 0⟩ [.mk 10 0 ⟨false, 0⟩ [e.kids[0]], .mk 10 0 ⟨false, 0⟩ [e.kids[1]]]) := by
  rw [evRes_ok ht, evRes_ok hu, ev_mkNot, ev_mk2 (by omega), ev_mkNot, ev_mkNot, ev_two (by omega) h0 h1]
  exact law_morgan _ _ hk
end Go.Proofs.Ytkkmfmeocigijaa
