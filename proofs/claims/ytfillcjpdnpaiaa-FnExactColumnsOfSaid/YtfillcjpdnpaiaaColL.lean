/- Plain laws of columns: only the listed columns matter. -/
import Derived.Test.YtfillcjpdnpaiaaColW
namespace Go.Proofs.Ytfillcjpdnpaiaa
open Go

theorem one_bit (c : Nat) : (1 <<< c).testBit c = true := by simp
theorem ev_agree {row row' : List V} {wd : Int} : ∀ (n d : Nat) (e : Ex), vE wd n d e = true → (∀ i, (msk n e).testBit i = true → row'.getD i default = row.getD i default) → ev row' n e = ev row n e
  | 0, d, e, hv, h => by
    rcases kind_cases hv with ⟨hk, _⟩ | ⟨hk, _⟩ | ⟨hk, q⟩ | ⟨hk, q⟩ | ⟨hk, q⟩
    · rw [ev_col hk, ev_col hk]
      refine h _ ?_
      unfold msk; rw [if_pos hk]; exact one_bit _
    · rw [ev_con hk, ev_con hk]
    all_goals unfold ev
    all_goals rw [if_neg (by omega), if_neg (by omega)]
  | n + 1, d, e, hv, h => by
    have hm : e.kind ≠ 1 → msk (n + 1) e = orL (msk n) e.kids := fun hk => by unfold msk; rw [if_neg hk]
    have hor : ∀ (xs : List Ex) (k : Nat) (hk : k < xs.length) (i : Nat), (msk n xs[k]).testBit i = true → (orL (msk n) xs).testBit i = true := by
      intro xs
      induction xs with
      | nil => intro k hk; simp at hk
      | cons x r ih =>
        intro k hk i hb
        unfold orL
        rw [Nat.testBit_or, Bool.or_eq_true]
        cases k with
        | zero => exact .inl hb
        | succ k => exact .inr (ih k (by simpa using hk) i hb)
    have kid : e.kind ≠ 1 → ∀ (k : Nat) (hk : k < e.kids.length), ev row' n e.kids[k] = ev row n e.kids[k] := fun hk1 k hk => by
      obtain ⟨d0, _, hv0⟩ := vE_down hv hk
      exact ev_agree n d0 _ hv0 fun i hi => h i (by rw [hm hk1]; exact hor _ k hk i hi)
    rcases kind_cases hv with ⟨hk, _⟩ | ⟨hk, _⟩ | ⟨hk, q⟩ | ⟨hk, q⟩ | ⟨hk, q⟩
    · rw [ev_col hk, ev_col hk]
      refine h _ ?_
      unfold msk; rw [if_pos hk]; exact one_bit _
    · rw [ev_con hk, ev_con hk]
    · rw [ev_not hk (by omega), ev_not hk (by omega), kid (by omega) 0 (by omega)]
    · rw [ev_nul hk (by omega), ev_nul hk (by omega), kid (by omega) 0 (by omega)]
    · rw [ev_two hk (by omega) (by omega), ev_two hk (by omega) (by omega), kid (by omega) 0 (by omega), kid (by omega) 1 (by omega)]
/-- The row whose columns outside the set m are 7. -/
def oth (m : Nat) (row : List V) : List V := row.mapIdx fun i v => if m.testBit i then v else ⟨false, 7⟩
theorem oth_len (m : Nat) (row : List V) : (oth m row).length = row.length := by simp [oth]
theorem oth_at {m i : Nat} {row : List V} (hi : i < row.length) (hb : m.testBit i = true) : (oth m row).getD i default = row.getD i default := by
  rw [List.getD, List.getD, List.getElem?_eq_getElem hi, List.getElem?_eq_getElem (by rw [oth_len]; exact hi)]
  simp [oth, hb]
theorem oth_valid {m : Nat} {row : List V} (h : row.all V.valid = true) : (oth m row).all V.valid = true := by
  rw [List.all_eq_true]
  intro x hx
  obtain ⟨i, hi, rfl⟩ := List.getElem_of_mem hx
  have hi' : i < row.length := by rw [oth_len] at hi; exact hi
  simp only [oth, List.getElem_mapIdx]
  split
  · rw [List.all_eq_true] at h; exact h _ (List.getElem_mem hi')
  · rfl
theorem msk_row {wd : Int} : ∀ (n d : Nat) (e : Ex), vE wd n d e = true → ∀ i, (msk n e).testBit i = true → (i : Int) < wd
  | 0, d, e, hv, i, hb => by
    unfold msk at hb
    split at hb
    · rename_i hk
      have hc := col_ok hv hk
      have : i = e.col.toNat := by
        rw [Nat.one_shiftLeft, Nat.testBit_two_pow] at hb
        have := of_decide_eq_true hb
        omega
      omega
    · simp at hb
  | n + 1, d, e, hv, i, hb => by
    unfold msk at hb
    split at hb
    · rename_i hk
      have hc := col_ok hv hk
      have : i = e.col.toNat := by
        rw [Nat.one_shiftLeft, Nat.testBit_two_pow] at hb
        have := of_decide_eq_true hb
        omega
      omega
    · have key : ∀ xs : List Ex, (∀ x ∈ xs, ∀ i, (msk n x).testBit i = true → (i : Int) < wd) → (orL (msk n) xs).testBit i = true → (i : Int) < wd := by
        intro xs
        induction xs with
        | nil => intro _ h; simp [orL] at h
        | cons x r ih =>
          intro hx h
          unfold orL at h
          rw [Nat.testBit_or, Bool.or_eq_true] at h
          rcases h with h | h
          · exact hx x (by simp) i h
          · exact ih (fun y hy => hx y (by simp [hy])) h
      refine key e.kids (fun x hx j hj => ?_) hb
      obtain ⟨k, hk, rfl⟩ := List.getElem_of_mem hx
      obtain ⟨d0, _, hv0⟩ := vE_down hv hk
      exact msk_row n d0 _ hv0 j hj
theorem vE_wider {wd wd' : Int} (hw : wd ≤ wd') : ∀ (n : Nat) (d : Int) (e : Ex), vE wd n d e = true → vE wd' n d e = true := by
  have sc : ∀ e, vScal wd e = true → vScal wd' e = true := fun e h => by
    unfold vScal at h ⊢
    split
    · rename_i hk
      rw [if_pos hk] at h
      simp only [Bool.and_eq_true, decide_eq_true_eq] at h ⊢
      exact ⟨⟨h.1.1, by omega⟩, h.2⟩
    · rename_i hk
      rw [if_neg hk] at h
      exact h
  intro n
  induction n with
  | zero =>
    intro d e h
    have := vE_head h
    simp only [vE, Bool.and_eq_true]
    exact ⟨this.1, sc e this.2⟩
  | succ n ih =>
    intro d e h
    have h2 := vE_head h
    simp only [vE, Bool.and_eq_true, List.all_eq_true] at h ⊢
    exact ⟨⟨h2.1, sc e h2.2⟩, fun x hx => ih _ x (h.2 x hx)⟩
/-- A row that agrees in the listed columns gives the same value. -/
theorem oth_eval {row : List V} {n : Nat} {e : Ex} (h : evOk row n e = true) : evOk (oth (msk n e) row) n e = true ∧ evRes (oth (msk n e) row) n e = evRes row n e := by
  have hr := evOk_row h
  have hv := evOk_vE h
  have hok : evOk (oth (msk n e) row) n e = true := by
    rw [evOk_eq, oth_len, hv, Bool.and_true]
    unfold vrow at hr ⊢
    rw [oth_len]
    rw [Bool.and_eq_true] at hr
    rw [hr.1, oth_valid hr.2]; rfl
  refine ⟨hok, ?_⟩
  rw [evRes_ok hok, evRes_ok h]
  exact ev_agree n 8 e hv fun i hi => oth_at (by have := msk_row n 8 e hv i hi; omega) hi
theorem vexpr_six {row : List V} {n : Nat} {e : Ex} (h : evOk row n e = true) : vexpr 6 n e = true := by
  have hr := evOk_row h
  unfold vrow at hr
  simp only [Bool.and_eq_true, decide_eq_true_eq] at hr
  have hv := vE_wider (show (row.length : Int) ≤ 6 by omega) n _ e (evOk_vE h)
  unfold vexpr
  rw [show (8 : Int) = ((8 : Nat) : Int) from rfl, hv]; rfl
theorem xcols_mem {row : List V} {n : Nat} {e : Ex} (h : evOk row n e = true) {i : Nat} (hi : i < row.length) : decide ((i : Int) ∈ xcols n e) = (msk n e).testBit i := by
  have hr := evOk_row h
  unfold vrow at hr
  simp only [Bool.and_eq_true, decide_eq_true_eq] at hr
  unfold xcols
  rw [vexpr_six h, if_pos rfl, Bool.eq_iff_iff, decide_eq_true_iff, List.mem_map]
  unfold bitsN
  constructor
  · rintro ⟨j, hj, hji⟩
    have : j = i := by omega
    subst this
    exact (List.mem_filter.1 hj).2
  · intro hb
    exact ⟨i, List.mem_filter.2 ⟨List.mem_range.2 (by omega), hb⟩, rfl⟩
theorem xcols_len (n : Nat) (e : Ex) : (xcols n e).length ≤ 6 := by
  unfold xcols
  split
  · rw [List.length_map]
    unfold bitsN
    have := List.length_filter_le (fun c => (msk n e).testBit c) (List.range 6)
    rwa [List.length_range] at this
  · simp
theorem oth_take {m k : Nat} {row : List V} (hk : k < row.length) : (oth m row).take (k + 1) = (oth m row).take k ++ [if m.testBit k then row[k] else ⟨false, 7⟩] := by
  have h' : k < (oth m row).length := by rw [oth_len]; exact hk
  rw [List.take_succ_eq_append_getElem h']
  congr 1
  simp [oth]
end Go.Proofs.Ytfillcjpdnpaiaa
