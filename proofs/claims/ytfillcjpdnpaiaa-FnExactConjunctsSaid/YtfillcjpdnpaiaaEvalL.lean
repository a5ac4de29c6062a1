/- Plain laws of the values of expressions. -/
import Derived.Test.YtfillcjpdnpaiaaEvalK
namespace Go.Proofs.Ytfillcjpdnpaiaa
open Go

theorem vHead_mono {d d' : Nat} {e : Ex} (h : vHead d e = true) (hle : d ≤ d') : vHead d' e = true := by
  simp only [vHead, Bool.and_eq_true, Bool.not_eq_true', Bool.and_eq_false_iff, decide_eq_true_eq, decide_eq_false_iff_not] at h ⊢
  refine ⟨h.1, ?_⟩
  rcases h.2 with q | q
  · exact .inl q
  · exact .inr (by omega)
theorem vE_mono {wd : Int} : ∀ (n : Nat) (d d' : Nat) (e : Ex), vE wd n d e = true → d ≤ d' → vE wd n d' e = true
  | 0, d, d', e, h, hle => by
    have := vE_head h
    simp only [vE, Bool.and_eq_true]
    exact ⟨vHead_mono this.1 hle, this.2⟩
  | n + 1, d, d', e, h, hle => by
    have h2 := vE_head h
    simp only [vE, Bool.and_eq_true, List.all_eq_true]
    refine ⟨⟨vHead_mono h2.1 hle, h2.2⟩, fun x hx => ?_⟩
    obtain ⟨i, hi, rfl⟩ := List.getElem_of_mem hx
    obtain ⟨d0, rfl, hk⟩ := vE_down h hi
    have := vE_mono n d0 (d' - 1) _ hk (by omega)
    rwa [show ((d' - 1 : Nat) : Int) = (d' : Int) - 1 by omega] at this
theorem vE_mk {wd : Int} {n d : Nat} {k : Int} {ks : List Ex} (hl : (ks.length : Int) = nk k) (h1 : k ≠ 1) (h2 : k ≠ 2) : vE wd (n + 1) ((d + 1 : Nat) : Int) (.mk k 0 ⟨false, 0⟩ ks) = ks.all (vE wd n d) := by
  have e1 : vHead ((d + 1 : Nat) : Int) (.mk k 0 ⟨false, 0⟩ ks) = true := by
    simp only [vHead, Bool.and_eq_true, Bool.not_eq_true', Bool.and_eq_false_iff, decide_eq_true_eq, decide_eq_false_iff_not]
    exact ⟨hl, .inr (by omega)⟩
  have e2 : vScal wd (.mk k 0 ⟨false, 0⟩ ks) = true := by
    unfold vScal
    rw [if_neg (show ¬ (Ex.mk k 0 ⟨false, 0⟩ ks).kind = 1 from h1), if_neg (show ¬ (Ex.mk k 0 ⟨false, 0⟩ ks).kind = 2 from h2)]
    rfl
  unfold vE
  rw [e1, e2, show ((d + 1 : Nat) : Int) - 1 = d by omega]
  rfl
theorem evOk_eq (row : List V) (n : Nat) (e : Ex) : evOk row n e = (vrow row && vE row.length n (8 : Nat) e) := by
  unfold evOk vexpr
  cases h : vrow row
  · rfl
  · have : wid (row.length : Int) = true := by
      unfold vrow at h
      simp only [Bool.and_eq_true, decide_eq_true_eq] at h
      simp only [wid, Bool.and_eq_true, decide_eq_true_eq]
      omega
    rw [this]; rfl
theorem evOk_row {row : List V} {n : Nat} {e : Ex} (h : evOk row n e = true) : vrow row = true := by
  rw [evOk_eq, Bool.and_eq_true] at h; exact h.1
theorem evOk_vE {row : List V} {n : Nat} {e : Ex} (h : evOk row n e = true) : vE row.length n (8 : Nat) e = true := by
  rw [evOk_eq, Bool.and_eq_true] at h; exact h.2
theorem evRes_ok {row : List V} {n : Nat} {e : Ex} (h : evOk row n e = true) : evRes row n e = ev row n e := by
  unfold evRes; rw [if_pos h]
theorem evOk_kid {row : List V} {n : Nat} {e : Ex} (h : evOk row (n + 1) e = true) {i : Nat} (hi : i < e.kids.length) : evOk row n e.kids[i] = true := by
  obtain ⟨d, hd, hk⟩ := vE_down (evOk_vE h) hi
  rw [evOk_eq, evOk_row h, vE_mono n d 8 _ hk (by omega)]; rfl
theorem evOk_mk {row : List V} {n : Nat} {k : Int} {ks : List Ex} (hl : (ks.length : Int) = nk k) (h1 : k ≠ 1) (h2 : k ≠ 2) : evOk row (n + 1) (.mk k 0 ⟨false, 0⟩ ks) = (vrow row && ks.all (vE row.length n (7 : Nat))) := by
  rw [evOk_eq, show ((8 : Nat) : Int) = ((7 + 1 : Nat) : Int) from rfl, vE_mk hl h1 h2]
/-- A tree of at most n levels. -/
def Dp : Nat → Ex → Prop
  | 0, e => e.kids = []
  | n + 1, e => ∀ i (h : i < e.kids.length), Dp n e.kids[i]
theorem dp_of : ∀ (n : Nat) {m : Mv} {A : Option Addr} {e : Ex}, RdSl (rdEx n) m 5 A e.kids → Dp n e
  | 0, m, A, e, h => h.ex0
  | n + 1, m, A, e, h => fun i hi => by
    obtain ⟨b, o, B, c, hA, _, _, _, _, _, hK, _⟩ := h.ex hi
    exact dp_of n hK
theorem vE_lift {wd : Int} : ∀ (n : Nat) (d : Int) (e : Ex), Dp n e → vE wd (n + 1) d e = vE wd n d e
  | 0, d, e, h => by
    have h : e.kids = [] := h
    simp [vE, h]
  | n + 1, d, e, h => by
    rw [vE, vE]
    congr 1
    have : ∀ x ∈ e.kids, vE wd (n + 1) (d - 1) x = vE wd n (d - 1) x := fun x hx => by
      obtain ⟨i, hi, rfl⟩ := List.getElem_of_mem hx
      exact vE_lift n _ _ (h i hi)
    rw [Bool.eq_iff_iff, List.all_eq_true, List.all_eq_true]
    exact ⟨fun q x hx => this x hx ▸ q x hx, fun q x hx => (this x hx).symm ▸ q x hx⟩
theorem ev_lift {row : List V} {wd : Int} : ∀ (n : Nat) (d : Nat) (e : Ex), Dp n e → vE wd n d e = true → ev row (n + 1) e = ev row n e
  | 0, d, e, h, hv => by
    have h0 : e.kids = [] := h
    rcases kind_cases hv with ⟨hk, _⟩ | ⟨hk, _⟩ | ⟨_, q⟩ | ⟨_, q⟩ | ⟨_, q⟩
    · rw [ev_col hk, ev_col hk]
    · rw [ev_con hk, ev_con hk]
    all_goals (rw [h0] at q; simp at q)
  | n + 1, d, e, h, hv => by
    rcases kind_cases hv with ⟨hk, _⟩ | ⟨hk, _⟩ | ⟨hk, q⟩ | ⟨hk, q⟩ | ⟨hk, q⟩
    · rw [ev_col hk, ev_col hk]
    · rw [ev_con hk, ev_con hk]
    · obtain ⟨d0, _, hk0⟩ := vE_down hv (show 0 < e.kids.length by omega)
      rw [ev_not hk (by omega), ev_not hk (by omega), ev_lift n d0 _ (h 0 (by omega)) hk0]
    · obtain ⟨d0, _, hk0⟩ := vE_down hv (show 0 < e.kids.length by omega)
      rw [ev_nul hk (by omega), ev_nul hk (by omega), ev_lift n d0 _ (h 0 (by omega)) hk0]
    · obtain ⟨d0, _, hk0⟩ := vE_down hv (show 0 < e.kids.length by omega)
      obtain ⟨d1, _, hk1⟩ := vE_down hv (show 1 < e.kids.length by omega)
      rw [ev_two hk (by omega) (by omega), ev_two hk (by omega) (by omega), ev_lift n d0 _ (h 0 (by omega)) hk0, ev_lift n d1 _ (h 1 (by omega)) hk1]
theorem ev_mk2 {row : List V} {n : Nat} {k : Int} {x y : Ex} (h : k ≠ 1 ∧ k ≠ 2 ∧ k ≠ 10 ∧ k ≠ 11) : ev row (n + 1) (.mk k 0 ⟨false, 0⟩ [x, y]) = comb k (ev row n x) (ev row n y) :=
  ev_two (e := .mk k 0 ⟨false, 0⟩ [x, y]) h (by simp [Ex.kids]) (by simp [Ex.kids])
theorem ev_mkNot {row : List V} {n : Nat} {x : Ex} : ev row (n + 1) (.mk 10 0 ⟨false, 0⟩ [x]) = trV (2 - (ev row n x).tr) :=
  ev_not (e := .mk 10 0 ⟨false, 0⟩ [x]) rfl (by simp [Ex.kids])
theorem ev_mkNul {row : List V} {n : Nat} {x : Ex} : ev row (n + 1) (.mk 11 0 ⟨false, 0⟩ [x]) = V.flag (ev row n x).null :=
  ev_nul (e := .mk 11 0 ⟨false, 0⟩ [x]) rfl (by simp [Ex.kids])

/-! What each law says. -/
theorem law_null {k : Int} {a b : V} (h3 : 3 ≤ k) (h7 : k ≤ 7) : ((!a.null && !b.null) || (comb k a b).null) = true := by
  unfold comb
  rw [if_neg (by omega), if_neg (by omega)]
  cases ha : a.null <;> cases hb : b.null <;> simp
theorem law_test (v : V) : (!(V.flag v.null).null && (((V.flag v.null).n == 1) == v.null) && (((V.flag v.null).n == 0) == !v.null)) = true := by
  cases v.null <;> rfl
theorem comb_comm {k : Int} (a b : V) (h : k = 3 ∨ k = 5 ∨ k = 6 ∨ k = 8 ∨ k = 9) : comb k a b = comb k b a := by
  have key : ∀ x y : V, x = y → (if (a.null || b.null) = true then (⟨true, 0⟩ : V) else x) = if (b.null || a.null) = true then ⟨true, 0⟩ else y := fun x y e => by rw [Bool.or_comm, e]
  rcases h with rfl | rfl | rfl | rfl | rfl
  · exact key (V.ofN (a.n + b.n)) (V.ofN (b.n + a.n)) (by rw [Int.add_comm])
  · exact key (V.ofN (a.n * b.n)) (V.ofN (b.n * a.n)) (by rw [Int.mul_comm])
  · exact key (V.flag (decide (a.n = b.n))) (V.flag (decide (b.n = a.n))) (by congr 1; rw [decide_eq_decide]; exact eq_comm)
  · show trV (min a.tr b.tr) = trV (min b.tr a.tr); rw [Int.min_comm]
  · show trV (max a.tr b.tr) = trV (max b.tr a.tr); rw [Int.max_comm]
theorem law_plus {a b : V} (ha : a.valid = true) (h : (comb 3 a b).null = false) : comb 4 (comb 3 a b) b = a := by
  obtain ⟨an, a⟩ := a
  obtain ⟨bn, b⟩ := b
  have hab : (an || bn) = false := by
    cases an <;> cases bn <;> simp [comb] at h ⊢
  simp only [Bool.or_eq_false_iff] at hab
  obtain ⟨rfl, rfl⟩ := hab
  obtain ⟨l1, l2⟩ := valid_range ha
  have l1 : -9999 ≤ a := l1
  have l2 : a ≤ 9999 := l2
  have e : comb 3 ⟨false, a⟩ ⟨false, b⟩ = V.ofN (a + b) := rfl
  rw [e] at h ⊢
  unfold V.ofN at h ⊢
  by_cases hr : -9999 ≤ a + b ∧ a + b ≤ 9999
  · rw [if_pos hr]
    have : comb 4 ⟨false, a + b⟩ ⟨false, b⟩ = V.ofN (a + b - b) := rfl
    rw [this, show a + b - b = a by omega, V.ofN, if_pos ⟨l1, l2⟩]
  · rw [if_neg hr] at h; cases h
theorem tr_trV {t : Int} (h0 : 0 ≤ t) (h2 : t ≤ 2) : (trV t).tr = t := by
  rcases (by omega : t = 0 ∨ t = 1 ∨ t = 2) with rfl | rfl | rfl <;> rfl
theorem tr_range (v : V) : 0 ≤ v.tr ∧ v.tr ≤ 2 := by
  unfold V.tr; split
  · omega
  · split <;> omega
theorem law_morgan {k : Int} (a b : V) (h : k = 8 ∨ k = 9) : trV (2 - (comb k a b).tr) = comb (17 - k) (trV (2 - a.tr)) (trV (2 - b.tr)) := by
  have ra := tr_range a
  have rb := tr_range b
  have ea := tr_trV (t := 2 - a.tr) (by omega) (by omega)
  have eb := tr_trV (t := 2 - b.tr) (by omega) (by omega)
  rcases h with rfl | rfl
  · have e1 : comb 8 a b = trV (min a.tr b.tr) := rfl
    have e2 : ∀ x y, comb (17 - 8) x y = trV (max x.tr y.tr) := fun _ _ => rfl
    rw [e1, e2, ea, eb, tr_trV (by omega) (by omega)]
    congr 1; omega
  · have e1 : comb 9 a b = trV (max a.tr b.tr) := rfl
    have e2 : ∀ x y, comb (17 - 9) x y = trV (min x.tr y.tr) := fun _ _ => rfl
    rw [e1, e2, ea, eb, tr_trV (by omega) (by omega)]
    congr 1; omega
/-- A condition's truth, as isTrue tells it. -/
def isT (row : List V) (n : Nat) (e : Ex) : Bool := evOk row n e && !(evRes row n e).null && (evRes row n e).n != 0
theorem law_less {a b : V} (ha : a.null = false) (hb : b.null = false) : (if (comb 7 a b).n != 0 then (1 : Int) else 0) + (if (comb 7 b a).n != 0 then 1 else 0) + (if (comb 6 a b).n != 0 then 1 else 0) = 1 := by
  obtain ⟨an, a⟩ := a
  obtain ⟨bn, b⟩ := b
  have ha : an = false := ha
  have hb : bn = false := hb
  subst ha hb
  have e1 : ∀ x y : Int, comb 7 ⟨false, x⟩ ⟨false, y⟩ = V.flag (decide (x < y)) := fun _ _ => rfl
  have e2 : comb 6 ⟨false, a⟩ ⟨false, b⟩ = V.flag (decide (a = b)) := rfl
  rw [e1, e1, e2]
  unfold V.flag
  rcases Int.lt_trichotomy a b with h | h | h
  · simp [h, show ¬ b < a by omega, show ¬ a = b by omega]
  · simp [h]
  · simp [h, show ¬ a < b by omega, show ¬ a = b by omega]
theorem comb67_null {k : Int} {a b : V} (hk : k = 6 ∨ k = 7) (h : (comb k a b).null = false) : a.null = false ∧ b.null = false := by
  rcases hk with rfl | rfl <;> (cases ha : a.null <;> cases hb : b.null <;> simp [comb, ha, hb] at h ⊢)
end Go.Proofs.Ytfillcjpdnpaiaa
