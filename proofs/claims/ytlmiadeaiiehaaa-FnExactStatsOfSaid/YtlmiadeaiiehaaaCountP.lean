/- Plain maths: rows in order, a row counted. -/
import Derived.Test.YtlmiadeaiiehaaaRelP
namespace Go.Proofs.Ytlmiadeaiiehaaa

theorem icmp_le {a b : Int} : icmp a b ≤ 0 ↔ a ≤ b := by
  unfold icmp
  split
  · constructor <;> intro <;> omega
  · split
    · constructor <;> intro <;> omega
    · constructor <;> intro <;> omega
theorem icmp_neg {a b : Int} : icmp a b < 0 ↔ a < b := by
  unfold icmp
  split
  · constructor <;> intro <;> omega
  · split
    · constructor <;> intro <;> omega
    · constructor <;> intro <;> omega
theorem icmp_eq0 {a b : Int} : icmp a b = 0 ↔ a = b := by
  unfold icmp
  split
  · constructor <;> intro <;> omega
  · split
    · constructor <;> intro <;> omega
    · constructor <;> intro <;> omega
def V.key (v : V) : Int := if v.null then -100000 else v.n
theorem V.cmp_key {a b : V} (ha : a.valid = true) (hb : b.valid = true) : a.cmp b = icmp a.key b.key := by
  obtain ⟨an, a⟩ := a
  obtain ⟨bn, b⟩ := b
  cases an <;> cases bn <;> simp [V.valid] at ha hb <;> simp [V.cmp, V.key, icmp] <;> omega
theorem rcmp_cons {a b : V} {x y : List V} (ha : a.valid = true) (hb : b.valid = true) : rcmp (a :: x) (b :: y) = if a.key = b.key then rcmp x y else icmp a.key b.key := by
  show (if a.cmp b = 0 then rcmp x y else a.cmp b) = _
  rw [V.cmp_key ha hb]
  by_cases h : a.key = b.key
  · rw [if_pos (icmp_eq0.2 h), if_pos h]
  · rw [if_neg (fun h' => h (icmp_eq0.1 h')), if_neg h]
/-- The order on rows, two steps at once: at most, then (strictly) below. -/
theorem rcmp_trans : ∀ {x y z : List V}, x.all V.valid = true → y.all V.valid = true → z.all V.valid = true → x.length = y.length → y.length = z.length → rcmp x y ≤ 0 → (rcmp y z < 0 → rcmp x z < 0) ∧ (rcmp y z ≤ 0 → rcmp x z ≤ 0)
  | [], [], [], _, _, _, _, _, _ => ⟨fun h => h, fun h => h⟩
  | [], _ :: _, _, _, _, _, h, _, _ => by simp at h
  | _ :: _, [], _, _, _, _, h, _, _ => by simp at h
  | [], [], _ :: _, _, _, _, _, h, _ => by simp at h
  | _ :: _, _ :: _, [], _, _, _, _, h, _ => by simp at h
  | a :: x, b :: y, c :: z, h1, h2, h3, h4, h5, h6 => by
    simp only [List.all_cons, Bool.and_eq_true] at h1 h2 h3
    simp only [List.length_cons, Nat.add_right_cancel_iff] at h4 h5
    rw [rcmp_cons h1.1 h2.1] at h6
    rw [rcmp_cons h2.1 h3.1, rcmp_cons h1.1 h3.1]
    by_cases e1 : a.key = b.key
    · rw [if_pos e1] at h6
      have ih := rcmp_trans h1.2 h2.2 h3.2 h4 h5 h6
      rw [e1]
      by_cases e2 : b.key = c.key
      · rw [if_pos e2, if_pos e2]; exact ih
      · rw [if_neg e2, if_neg e2]; exact ⟨fun h => h, fun h => h⟩
    · rw [if_neg e1, icmp_le] at h6
      by_cases e2 : b.key = c.key
      · rw [if_pos e2, ← e2, if_neg e1]
        have : icmp a.key b.key < 0 := icmp_neg.2 (by omega)
        exact ⟨fun _ => this, fun _ => by omega⟩
      · rw [if_neg e2]
        by_cases e3 : a.key = c.key
        · exact ⟨fun h => by have := icmp_neg.1 h; omega, fun h => by have := icmp_le.1 h; omega⟩
        · rw [if_neg e3]
          exact ⟨fun h => icmp_neg.2 (by have := icmp_neg.1 h; omega), fun h => icmp_le.2 (by have := icmp_le.1 h; omega)⟩
theorem V.cmpS_zero {a b : V} : a.cmpS b = 0 ↔ a = b := by
  unfold V.cmpS
  by_cases h : a = b
  · simp [h]
  · rw [if_neg h]
    constructor
    · intro h'; split at h' <;> omega
    · intro h'; exact absurd h' h
theorem rcmp_zero {x y : List V} (hx : x.all V.valid = true) (hy : y.all V.valid = true) (hl : x.length = y.length) : rcmp x y = 0 ↔ x = y := by
  induction x generalizing y with
  | nil => cases y with
    | nil => simp [rcmp]
    | cons b y => simp at hl
  | cons a x ih => cases y with
    | nil => simp at hl
    | cons b y =>
      simp only [List.all_cons, Bool.and_eq_true] at hx hy
      show (if a.cmp b = 0 then rcmp x y else a.cmp b) = 0 ↔ _
      rw [← V.cmpS_eq hx.1 hy.1]
      by_cases e : a = b
      · rw [if_pos (V.cmpS_zero.2 e), ih hx.2 hy.2 (by simpa using hl)]; simp [e]
      · rw [if_neg (fun h => e (V.cmpS_zero.1 h)), V.cmpS_zero]; simp [e]
/-- A table's rows, seen from one row: what lies below it, what lies at most at it, goes down. -/
structure SortedAt (rows : List (List V)) (row : List V) : Prop where
  low : ∀ i j (hj : j < rows.length) (hi : i ≤ j), rcmp rows[j] row < 0 → rcmp (rows[i]'(by omega)) row < 0
  le : ∀ i j (hj : j < rows.length) (hi : i ≤ j), rcmp rows[j] row ≤ 0 → rcmp (rows[i]'(by omega)) row ≤ 0
  zero : ∀ i (hi : i < rows.length), rcmp rows[i] row = 0 ↔ rows[i] = row
theorem vtab_row {wd : Int} {rows : List (List V)} (h : vtab wd rows = true) {i : Nat} (hi : i < rows.length) : rows[i].all V.valid = true ∧ (rows[i].length : Int) = wd := by
  simp only [vtab, Bool.and_eq_true] at h
  have := allIx_at h.2 hi
  unfold rowAt at this
  rw [getD_at hi] at this
  simp only [Bool.and_eq_true, decide_eq_true_eq, vrow] at this
  exact ⟨this.1.1.2, this.1.2⟩
theorem vtab_step {wd : Int} {rows : List (List V)} (h : vtab wd rows = true) {i : Nat} (hi : i + 1 < rows.length) : rcmp rows[i] rows[i + 1] ≤ 0 := by
  simp only [vtab, Bool.and_eq_true] at h
  have := allIx_at h.2 hi
  unfold rowAt at this
  simp only [Bool.and_eq_true, Bool.or_eq_true, decide_eq_true_eq] at this
  rcases this.2 with h | h
  · simp at h
  · rw [getD_at hi, show i + 1 - 1 = i from rfl, getD_at (show i < rows.length by omega)] at h
    exact h
theorem vtab_sorted {wd : Int} {rows : List (List V)} (h : vtab wd rows = true) {row : List V} (hr : row.all V.valid = true) (hl : (row.length : Int) = wd) : SortedAt rows row := by
  have len : ∀ i (hi : i < rows.length), rows[i].length = row.length := fun i hi => by have := (vtab_row h hi).2; omega
  have step : ∀ i (hi : i + 1 < rows.length), (rcmp rows[i + 1] row < 0 → rcmp (rows[i]'(by omega)) row < 0) ∧ (rcmp rows[i + 1] row ≤ 0 → rcmp (rows[i]'(by omega)) row ≤ 0) := fun i hi =>
    rcmp_trans (vtab_row h (by omega)).1 (vtab_row h hi).1 hr (by rw [len i (by omega), len (i + 1) hi]) (len (i + 1) hi) (vtab_step h hi)
  have down : ∀ d i (hj : i + d < rows.length), (rcmp rows[i + d] row < 0 → rcmp (rows[i]'(by omega)) row < 0) ∧ (rcmp rows[i + d] row ≤ 0 → rcmp (rows[i]'(by omega)) row ≤ 0) := by
    intro d
    induction d with
    | zero => intro i hj; exact ⟨fun h => h, fun h => h⟩
    | succ d ih =>
      intro i hj
      have h1 := ih i (by omega)
      have h2 := step (i + d) (by omega)
      exact ⟨fun h => h1.1 (h2.1 h), fun h => h1.2 (h2.2 h)⟩
  refine ⟨fun i j hj hi hc => ?_, fun i j hj hi hc => ?_, fun i hi => rcmp_zero (vtab_row h hi).1 hr (len i hi)⟩
  · obtain ⟨d, rfl⟩ : ∃ d, j = i + d := ⟨j - i, by omega⟩
    exact (down d i hj).1 hc
  · obtain ⟨d, rfl⟩ : ∃ d, j = i + d := ⟨j - i, by omega⟩
    exact (down d i hj).2 hc

/-- How often a row occurs. -/
def cntR (rows : List (List V)) (row : List V) : Nat := rows.countP (fun r => decide (r = row))
theorem cntR_take {rows : List (List V)} {row : List V} {k : Nat} (hk : k < rows.length) : cntR (rows.take (k + 1)) row = cntR (rows.take k) row + (if rows[k] = row then 1 else 0) := by
  unfold cntR
  rw [List.take_succ_eq_append_getElem hk, List.countP_append]
  simp [List.countP_cons]
theorem cntR_none {rows : List (List V)} {row : List V} (h : ∀ r ∈ rows, r ≠ row) : cntR rows row = 0 := by
  unfold cntR
  rw [List.countP_eq_zero]
  intro r hr
  simpa using h r hr
theorem cntR_all {rows : List (List V)} {row : List V} (h : ∀ r ∈ rows, r = row) : cntR rows row = rows.length := by
  unfold cntR
  rw [List.countP_eq_length]
  intro r hr
  simpa using h r hr
/-- The rows that are equal stand together, from the first one not below on. -/
theorem cntR_run {rows : List (List V)} {row : List V} {f k : Nat} (hk : f + k ≤ rows.length) (S : SortedAt rows row) (h1 : ∀ i (hi : i < rows.length), i < f → rcmp rows[i] row < 0) (h2 : ∀ i (hi : i < rows.length), f ≤ i → i < f + k → rcmp rows[i] row = 0)
    (h3 : ∀ (hi : f + k < rows.length), 0 < rcmp rows[f + k] row) : cntR rows row = k := by
  have e : rows = rows.take f ++ ((rows.drop f).take k ++ rows.drop (f + k)) := by
    rw [← List.drop_drop, List.take_append_drop, List.take_append_drop]
  have a1 : cntR (rows.take f) row = 0 := cntR_none fun r hr => by
    obtain ⟨i, hi, rfl⟩ := List.getElem_of_mem hr
    simp only [List.length_take] at hi
    rw [List.getElem_take]
    intro e
    have := h1 i (by omega) (by omega)
    have := (S.zero i (by omega)).2 e
    omega
  have a2 : cntR ((rows.drop f).take k) row = k := by
    rw [cntR_all fun r hr => by
      obtain ⟨i, hi, rfl⟩ := List.getElem_of_mem hr
      simp only [List.length_take, List.length_drop] at hi
      rw [List.getElem_take, List.getElem_drop]
      exact (S.zero (f + i) (by omega)).1 (h2 (f + i) (by omega) (by omega) (by omega))]
    simp; omega
  have a3 : cntR (rows.drop (f + k)) row = 0 := cntR_none fun r hr => by
    obtain ⟨i, hi, rfl⟩ := List.getElem_of_mem hr
    simp only [List.length_drop] at hi
    rw [List.getElem_drop]
    intro e
    have z := (S.zero (f + k + i) (by omega)).2 e
    have := S.le (f + k) (f + k + i) (by omega) (by omega) (by omega)
    have := h3 (by omega)
    omega
  have : cntR rows row = cntR (rows.take f) row + (cntR ((rows.drop f).take k) row + cntR (rows.drop (f + k)) row) := by
    conv => lhs; rw [e]
    unfold cntR
    rw [List.countP_append, List.countP_append]
  omega
end Go.Proofs.Ytlmiadeaiiehaaa
