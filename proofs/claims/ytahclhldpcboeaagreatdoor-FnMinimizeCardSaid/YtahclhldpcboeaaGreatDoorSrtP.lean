/- Plain maths of sorted facts: a list swapped into order, a strictly ascending list is told by its members. -/
import Derived.Test.YtahclhldpcboeaaGreatDoorHomP
namespace Go.Proofs.YtahclhldpcboeaaGreatDoor

theorem fl_irr (a : Fact) : a.less a = false := by simp [Fact.less]
theorem fl_asym {a b : Fact} (h : a.less b = true) : b.less a = false := by
  unfold Fact.less at *
  split at h <;> (try split at h) <;> simp at h <;> (repeat' split) <;> simp <;> omega
theorem fl_trans {a b c : Fact} (h : a.less b = true) (k : b.less c = true) : a.less c = true := by
  unfold Fact.less at *
  split at h <;> (try split at h) <;> simp at h <;> split at k <;> (try split at k) <;> simp at k <;> (repeat' split) <;> simp <;> omega
theorem fl_tot {a b : Fact} (h : a.less b = false) (k : b.less a = false) : a = b := by
  obtain ⟨r, x, y⟩ := a
  obtain ⟨r', x', y'⟩ := b
  unfold Fact.less at *
  simp only at h k
  split at h <;> (try split at h) <;> simp at h <;> split at k <;> (try split at k) <;> simp at k <;> simp <;> omega
/-- not b < a, not c < b: not c < a. -/
theorem fl_ge {a b c : Fact} (h : b.less a = false) (k : c.less b = false) : c.less a = false := by
  cases hc : c.less a
  · rfl
  · cases hab : a.less b
    · have := fl_tot hab h
      subst this
      rw [hc] at k; cases k
    · rw [fl_trans hc hab] at k; cases k
theorem fl_lt_ge {a b c : Fact} (h : b.less a = false) (k : b.less c = true) : a.less c = true := by
  cases hc : a.less c
  · cases hca : c.less a
    · have := fl_tot hc hca
      subst this
      rw [h] at k; cases k
    · rw [fl_trans k hca] at h; cases h
  · rfl
/-- The facts at places below i ascend. -/
def Srt (f : Nat → Fact) (i : Nat) : Prop := ∀ p q, p < q → q < i → (f q).less (f p) = false
/-- All places up to i ascend but for place j, whose fact is less than all behind it. -/
def Ins (f : Nat → Fact) (i j : Nat) : Prop := (∀ p q, p < q → q ≤ i → p ≠ j → q ≠ j → (f q).less (f p) = false) ∧ ∀ q, j < q → q ≤ i → (f j).less (f q) = true
theorem ins_start {f : Nat → Fact} {i : Nat} (h : Srt f i) : Ins f i i := ⟨fun p q h1 h2 _ h4 => h p q h1 (by omega), fun q h1 h2 => by omega⟩
def swp (f : Nat → Fact) (j : Nat) : Nat → Fact := fun p => if p = j then f (j - 1) else if p = j - 1 then f j else f p
theorem ins_swap {f : Nat → Fact} {i j : Nat} (h : Ins f i j) (hj : 0 < j) (hji : j ≤ i) (hl : (f j).less (f (j - 1)) = true) : Ins (swp f j) i (j - 1) := by
  obtain ⟨h1, h2⟩ := h
  constructor
  · intro p q hpq hq hp hq'
    unfold swp
    by_cases e1 : p = j
    · rw [if_pos e1, if_neg (by omega), if_neg (by omega)]
      exact h1 (j - 1) q (by omega) hq (by omega) (by omega)
    · by_cases e2 : q = j
      · rw [if_pos e2, if_neg e1, if_neg hp]
        exact h1 p (j - 1) (by omega) (by omega) e1 (by omega)
      · rw [if_neg e2, if_neg hq', if_neg e1, if_neg hp]
        exact h1 p q hpq hq e1 e2
  · intro q hq1 hq2
    have e0 : swp f j (j - 1) = f j := by unfold swp; rw [if_neg (by omega), if_pos rfl]
    rw [e0]
    unfold swp
    by_cases e : q = j
    · rw [if_pos e]; exact hl
    · rw [if_neg e, if_neg (by omega)]; exact h2 q (by omega) hq2
theorem ins_end {f : Nat → Fact} {i j : Nat} (h : Ins f i j) (hj : j = 0 ∨ (f j).less (f (j - 1)) = false) (hji : j ≤ i) : Srt f (i + 1) := by
  obtain ⟨h1, h2⟩ := h
  intro p q hpq hq
  by_cases e1 : p = j
  · subst e1; exact fl_asym (h2 q hpq (by omega))
  · by_cases e2 : q = j
    · subst e2
      rcases hj with hj | hj
      · omega
      · by_cases e3 : p = q - 1
        · subst e3; exact hj
        · exact fl_ge (h1 p (q - 1) (by omega) (by omega) e1 (by omega)) hj
    · exact h1 p q hpq (by omega) e1 e2
/-- A list's fact at a place. -/
def fat (xs : List Fact) : Nat → Fact := fun p => xs.getD p default
theorem fat_at {xs : List Fact} {i : Nat} (h : i < xs.length) : fat xs i = xs[i] := getD_at h
/-- Two neighbours exchanged. -/
def swapL (xs : List Fact) (j : Nat) : List Fact := (xs.set j (fat xs (j - 1))).set (j - 1) (fat xs j)
theorem swapL_len (xs : List Fact) (j : Nat) : (swapL xs j).length = xs.length := by simp [swapL]
theorem swapL_fat {xs : List Fact} {j : Nat} (hj : 0 < j) (_hl : j < xs.length) (p : Nat) (hp : p < xs.length) : fat (swapL xs j) p = swp (fat xs) j p := by
  rw [fat_at (by rw [swapL_len]; exact hp)]
  unfold swapL swp
  rw [List.getElem_set]
  by_cases e1 : j - 1 = p
  · rw [if_pos e1, if_neg (by omega), if_pos e1.symm]
  · rw [if_neg e1, List.getElem_set]
    by_cases e2 : j = p
    · rw [if_pos e2, if_pos e2.symm]
    · rw [if_neg e2, if_neg (fun e => e2 e.symm), if_neg (fun e => e1 e.symm), fat_at hp]
theorem swapL_mem {xs : List Fact} {j : Nat} (hj : 0 < j) (hl : j < xs.length) (x : Fact) : x ∈ swapL xs j ↔ x ∈ xs := by
  have key : ∀ (ys zs : List Fact), ys.length = zs.length → (∀ p, p < ys.length → fat ys p = swp (fat zs) j p) → j < zs.length → x ∈ ys → x ∈ zs := by
    intro ys zs hlen hf hjz hx
    obtain ⟨p, hp, rfl⟩ := List.getElem_of_mem hx
    rw [← fat_at hp, hf p hp]
    unfold swp
    split
    · rw [fat_at (by omega)]; exact List.getElem_mem _
    · split
      · rw [fat_at (by omega)]; exact List.getElem_mem _
      · rw [fat_at (by omega)]; exact List.getElem_mem _
  constructor
  · exact key _ _ (swapL_len xs j) (fun p hp => swapL_fat hj hl p (by rw [swapL_len] at hp; exact hp)) hl
  · refine key _ _ (swapL_len xs j).symm (fun p hp => ?_) (by rw [swapL_len]; exact hl)
    unfold swp
    split
    · rename_i e
      rw [swapL_fat hj hl _ (by omega)]
      unfold swp
      rw [if_neg (by omega), if_pos rfl, e]
    · split
      · rename_i e1 e2
        rw [swapL_fat hj hl _ (by omega)]
        unfold swp
        rw [if_pos rfl, e2]
      · rename_i e1 e2
        rw [swapL_fat hj hl _ hp]
        unfold swp
        rw [if_neg e1, if_neg e2]
theorem srt_congr {f g : Nat → Fact} {i : Nat} (h : ∀ p, p < i → f p = g p) (hs : Srt f i) : Srt g i := fun p q h1 h2 => by
  rw [← h p (by omega), ← h q h2]; exact hs p q h1 h2
theorem ins_congr {f g : Nat → Fact} {i j : Nat} (hj : j ≤ i) (h : ∀ p, p ≤ i → f p = g p) (hs : Ins f i j) : Ins g i j := ⟨fun p q h1 h2 h3 h4 => by
  rw [← h p (by omega), ← h q h2]; exact hs.1 p q h1 h2 h3 h4, fun q h1 h2 => by rw [← h j hj, ← h q h2]; exact hs.2 q h1 h2⟩
/-- Strictly ascending. -/
def Asc (l : List Fact) : Prop := l.Pairwise (fun a b => a.less b = true)
theorem asc_eq : ∀ {l m : List Fact}, Asc l → Asc m → (∀ x, x ∈ l ↔ x ∈ m) → l = m
  | [], [], _, _, _ => rfl
  | [], y :: m, _, _, h => by have := (h y).2 (by simp); simp at this
  | x :: l, [], _, _, h => by have := (h x).1 (by simp); simp at this
  | x :: l, y :: m, hl, hm, h => by
    obtain ⟨l1, l2⟩ := List.pairwise_cons.1 hl
    obtain ⟨m1, m2⟩ := List.pairwise_cons.1 hm
    have e : x = y := by
      rcases List.mem_cons.1 ((h x).1 (by simp)) with e | e
      · exact e
      · rcases List.mem_cons.1 ((h y).2 (by simp)) with e' | e'
        · exact e'.symm
        · have h1 := m1 x e
          have h2 := l1 y e'
          rw [fl_asym h1] at h2; cases h2
    subst e
    congr 1
    refine asc_eq l2 m2 fun z => ?_
    constructor
    · intro hz
      rcases List.mem_cons.1 ((h z).1 (List.mem_cons_of_mem _ hz)) with e | e
      · subst e; have := l1 z hz; rw [fl_irr] at this; cases this
      · exact e
    · intro hz
      rcases List.mem_cons.1 ((h z).2 (List.mem_cons_of_mem _ hz)) with e | e
      · subst e; have := m1 z hz; rw [fl_irr] at this; cases this
      · exact e
theorem asc_insF {f : Fact} : ∀ {l : List Fact}, Asc l → Asc (insF l f)
  | [], _ => by simp [insF, Asc]
  | x :: r, h => by
    obtain ⟨h1, h2⟩ := List.pairwise_cons.1 h
    unfold insF
    cases hx : x.less f
    · rw [if_neg (by simp)]
      by_cases e : x = f
      · rw [if_pos e]; exact h
      · rw [if_neg e]
        have hf : f.less x = true := by
          cases hf : f.less x
          · exact absurd (fl_tot hx hf) e
          · rfl
        refine List.pairwise_cons.2 ⟨fun y hy => ?_, h⟩
        rcases List.mem_cons.1 hy with rfl | hy
        · exact hf
        · exact fl_trans hf (h1 y hy)
    · rw [if_pos rfl]
      refine List.pairwise_cons.2 ⟨fun y hy => ?_, asc_insF h2⟩
      rcases mem_insF.1 hy with rfl | hy
      · exact hx
      · exact h1 y hy
theorem asc_frz (bd : List Atom) : Asc (frz bd) := by
  suffices h : ∀ (bd : List Atom) (l : List Fact), Asc l → Asc (bd.foldl (fun l a => insF l a.fact) l) from h bd [] List.Pairwise.nil
  intro bd
  induction bd with
  | nil => intro l h; exact h
  | cons a r ih => intro l h; exact ih _ (asc_insF h)
/-- A strictly ascending list with the members of the frozen atoms is they. -/
theorem frz_eq {bd : List Atom} {l : List Fact} (h : Asc l) (hm : ∀ x, x ∈ l ↔ x ∈ bd.map Atom.fact) : l = frz bd := by
  refine asc_eq h (asc_frz bd) fun x => ?_
  rw [hm, mem_frz, List.mem_map]
  constructor
  · rintro ⟨a, ha, rfl⟩; exact ⟨a, ha, rfl⟩
  · rintro ⟨a, ha, rfl⟩; exact ⟨a, ha, rfl⟩
/-- An ascending list without equal neighbours ascends strictly. -/
theorem asc_of {ys : List Fact} (hs : Srt (fat ys) ys.length) (hn : ∀ i, 0 < i → i < ys.length → fat ys i ≠ fat ys (i - 1)) : Asc ys := by
  have nb : ∀ i, 0 < i → i < ys.length → (fat ys (i - 1)).less (fat ys i) = true := fun i h0 h1 => by
    cases h : (fat ys (i - 1)).less (fat ys i)
    · exact absurd (fl_tot (hs (i - 1) i (by omega) h1) h) (hn i h0 h1)
    · rfl
  unfold Asc
  rw [List.pairwise_iff_getElem]
  intro i j hi hj hij
  have h1 := hs i (j - 1)
  have h2 := nb j (by omega) hj
  rw [← fat_at hi, ← fat_at hj]
  by_cases e : i = j - 1
  · rw [e]; exact h2
  · exact fl_lt_ge (h1 (by omega) (by omega)) h2
/-- What compaction has gathered when the first m facts of an ascending list have been seen. -/
def Cpt (ys : List Fact) (m : Nat) (ds : List Fact) : Prop := Asc ds ∧ (∀ x, x ∈ ds ↔ x ∈ ys.take m) ∧ ds.length < m
theorem cpt_same {ys ds : List Fact} {m : Nat} (h : Cpt ys m ds) (hm : 0 < m) (hl : m < ys.length) (he : fat ys m = fat ys (m - 1)) : Cpt ys (m + 1) ds := by
  obtain ⟨h1, h2, h3⟩ := h
  refine ⟨h1, fun x => ?_, by omega⟩
  rw [h2, List.take_succ_eq_append_getElem hl, List.mem_append]
  constructor
  · exact fun h => .inl h
  · rintro (h | h)
    · exact h
    · simp only [List.mem_cons, List.not_mem_nil, or_false] at h
      rw [h, ← fat_at hl, he, fat_at (by omega), List.mem_take_iff_getElem]
      exact ⟨m - 1, by omega, rfl⟩
theorem asc_snoc {ys ds : List Fact} {m : Nat} (hs : Srt (fat ys) ys.length) (h1 : Asc ds) (h2 : ∀ x, x ∈ ds → x ∈ ys.take m) (hm : 0 < m) (hl : m < ys.length) (he : fat ys m ≠ fat ys (m - 1)) : Asc (ds ++ [fat ys m]) := by
  unfold Asc
  rw [List.pairwise_append]
  refine ⟨h1, by simp, fun x hx y hy => ?_⟩
  simp only [List.mem_cons, List.not_mem_nil, or_false] at hy
  subst hy
  have nb : (fat ys (m - 1)).less (fat ys m) = true := by
    cases h : (fat ys (m - 1)).less (fat ys m)
    · exact absurd (fl_tot (hs (m - 1) m (by omega) hl) h) he
    · rfl
  obtain ⟨p, hp, rfl⟩ := List.mem_take_iff_getElem.1 (h2 x hx)
  rw [← fat_at (by omega)]
  by_cases e : p = m - 1
  · rw [e]; exact nb
  · exact fl_lt_ge (hs p (m - 1) (by omega) (by omega)) nb
theorem cpt_new {ys ds : List Fact} {m : Nat} (hs : Srt (fat ys) ys.length) (h : Cpt ys m ds) (hm : 0 < m) (hl : m < ys.length) (he : fat ys m ≠ fat ys (m - 1)) : Cpt ys (m + 1) (ds ++ [fat ys m]) := by
  obtain ⟨h1, h2, h3⟩ := h
  refine ⟨asc_snoc hs h1 (fun x hx => (h2 x).1 hx) hm hl he, fun x => ?_, by simp; omega⟩
  rw [List.take_succ_eq_append_getElem hl, List.mem_append, List.mem_append, h2, fat_at hl]
/-- Compaction begins: the first m facts ascend strictly, the next is the last of them again. -/
theorem cpt_start {ys : List Fact} {m : Nat} (hs : Srt (fat ys) ys.length) (hm : 0 < m) (hl : m < ys.length) (hn : ∀ i, 0 < i → i < m → fat ys i ≠ fat ys (i - 1)) (he : fat ys m = fat ys (m - 1)) : Cpt ys (m + 1) (ys.take m) := by
  have ht : ∀ p, p < m → fat (ys.take m) p = fat ys p := fun p hp => by
    rw [fat_at (by simp; omega), fat_at (by omega), List.getElem_take]
  refine ⟨asc_of (fun p q h1 h2 => ?_) (fun i h0 h1 => ?_), fun x => ?_, by simp; omega⟩
  · simp only [List.length_take] at h2
    rw [ht p (by omega), ht q (by omega)]; exact hs p q h1 (by omega)
  · simp only [List.length_take] at h1
    rw [ht i (by omega), ht (i - 1) (by omega)]; exact hn i h0 (by omega)
  · rw [List.take_succ_eq_append_getElem hl, List.mem_append]
    constructor
    · exact fun h => .inl h
    · rintro (h | h)
      · exact h
      · simp only [List.mem_cons, List.not_mem_nil, or_false] at h
        rw [h, ← fat_at hl, he, fat_at (by omega), List.mem_take_iff_getElem]
        exact ⟨m - 1, by omega, rfl⟩
end Go.Proofs.YtahclhldpcboeaaGreatDoor
