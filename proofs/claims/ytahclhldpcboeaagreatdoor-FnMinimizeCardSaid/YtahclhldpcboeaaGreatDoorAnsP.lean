/- Plain maths of the answers of a query: lists of numbers in order; the search over the lists of facts that an atom may be. -/
import Derived.Test.YtahclhldpcboeaaGreatDoorHomP
namespace Go.Proofs.YtahclhldpcboeaaGreatDoor

/-! Lists of numbers in lexicographical order. -/
def lx : List Int → List Int → Int
  | [], [] => 0
  | [], _ :: _ => -1
  | _ :: _, [] => 1
  | a :: r, b :: s => if a < b then -1 else if b < a then 1 else lx r s
theorem lx_self : ∀ a : List Int, lx a a = 0
  | [] => rfl
  | a :: r => by unfold lx; rw [if_neg (by omega), if_neg (by omega)]; exact lx_self r
theorem lx_eq : ∀ {a b : List Int}, lx a b = 0 → a = b
  | [], [], _ => rfl
  | [], _ :: _, h => by unfold lx at h; omega
  | _ :: _, [], h => by unfold lx at h; omega
  | a :: r, b :: s, h => by
    unfold lx at h
    split at h
    · omega
    · split at h
      · omega
      · rw [lx_eq h, show a = b by omega]
theorem lx_swap : ∀ a b : List Int, lx a b = - lx b a
  | [], [] => rfl
  | [], _ :: _ => rfl
  | _ :: _, [] => rfl
  | a :: r, b :: s => by
    unfold lx
    by_cases h1 : a < b
    · rw [if_pos h1, if_neg (by omega), if_pos h1]
    · by_cases h2 : b < a
      · rw [if_neg h1, if_pos h2, if_pos h2]; rfl
      · rw [if_neg h1, if_neg h2, if_neg h2, if_neg h1]; exact lx_swap r s
theorem lx_trans : ∀ {a b c : List Int}, lx a b < 0 → lx b c < 0 → lx a c < 0
  | [], [], _, h, _ => by unfold lx at h; omega
  | [], _ :: _, [], _, h => by unfold lx at h; omega
  | [], _ :: _, _ :: _, _, _ => by unfold lx; omega
  | _ :: _, [], _, h, _ => by unfold lx at h; omega
  | _ :: _, _ :: _, [], _, h => by unfold lx at h; omega
  | a :: r, b :: s, c :: t, h, k => by
    unfold lx at h k ⊢
    by_cases h1 : a < b
    · by_cases k1 : b < c
      · rw [if_pos (by omega)]; omega
      · rw [if_neg k1] at k
        by_cases k2 : c < b
        · rw [if_pos k2] at k; omega
        · rw [if_pos (by omega)]; omega
    · rw [if_neg h1] at h
      by_cases h2 : b < a
      · rw [if_pos h2] at h; omega
      · rw [if_neg h2] at h
        by_cases k1 : b < c
        · rw [if_pos (by omega)]; omega
        · rw [if_neg k1] at k
          by_cases k2 : c < b
          · rw [if_pos k2] at k; omega
          · rw [if_neg k2] at k
            rw [if_neg (by omega), if_neg (by omega)]
            exact lx_trans h k
/-- not b < a, not c < b: not c < a. -/
theorem lx_ge {a b c : List Int} (h : ¬ lx b a < 0) (k : ¬ lx c b < 0) : ¬ lx c a < 0 := by
  intro hc
  rcases Int.lt_trichotomy (lx a b) 0 with e | e | e
  · exact k (lx_trans hc e)
  · rw [lx_eq e] at hc; exact k hc
  · rw [lx_swap] at e; omega
theorem lx_tot {a b : List Int} (h : ¬ lx a b < 0) (k : ¬ lx b a < 0) : a = b := by
  refine lx_eq ?_
  rw [lx_swap] at k
  omega
theorem lx_lt_ge {a b c : List Int} (h : ¬ lx b a < 0) (k : lx b c < 0) : lx a c < 0 := by
  rcases Int.lt_trichotomy (lx a b) 0 with e | e | e
  · exact lx_trans e k
  · rw [lx_eq e]; exact k
  · rw [lx_swap] at e; omega
theorem cmpI_lx : ∀ {a b : List Int}, a.length = b.length → (cmpI a b < 0 ↔ lx a b < 0)
  | [], [], _ => by simp [cmpI, lx]
  | a :: r, b :: s, h => by
    unfold cmpI lx
    by_cases h1 : a = b
    · rw [if_pos h1, if_neg (by omega), if_neg (by omega)]
      exact cmpI_lx (by simpa using h)
    · rw [if_neg h1]
      by_cases h2 : a < b
      · rw [if_pos h2]; omega
      · rw [if_neg h2, if_pos (by omega)]; omega
  | [], _ :: _, h => by simp at h
  | _ :: _, [], h => by simp at h
/-- A list put into an ascending list of lists, unless it is there. -/
def insX : List (List Int) → List Int → List (List Int)
  | [], f => [f]
  | x :: r, f => if lx x f < 0 then x :: insX r f else if x = f then x :: r else f :: x :: r
theorem insX_at : ∀ (xs : List (List Int)) (f : List Int) (k : Nat), k ≤ xs.length → (∀ i (h : i < xs.length), i < k → lx xs[i] f < 0) → insX xs f = xs.take k ++ insX (xs.drop k) f
  | xs, f, 0, _, _ => by simp
  | [], f, k + 1, h, _ => by simp at h
  | x :: r, f, k + 1, h, hl => by
    have h0 : lx x f < 0 := hl 0 (by simp) (by omega)
    have := insX_at r f k (by simpa using h) (fun i hi hk => by have := hl (i + 1) (by simpa using hi) (by omega); simpa using this)
    rw [insX, if_pos h0, this]; simp
theorem insX_same {xs : List (List Int)} {f : List Int} {k : Nat} (hk : k < xs.length) (hl : ∀ i (h : i < xs.length), i < k → lx xs[i] f < 0) (he : xs[k] = f) : insX xs f = xs := by
  rw [insX_at xs f k (by omega) hl, List.drop_eq_getElem_cons hk, insX, if_neg (by rw [he, lx_self]; omega), if_pos he, ← List.drop_eq_getElem_cons hk, List.take_append_drop]
theorem insX_new {xs : List (List Int)} {f : List Int} {k : Nat} (hk : k ≤ xs.length) (hl : ∀ i (h : i < xs.length), i < k → lx xs[i] f < 0) (he : ∀ h : k < xs.length, ¬ lx xs[k] f < 0 ∧ xs[k] ≠ f) : insX xs f = xs.take k ++ f :: xs.drop k := by
  rw [insX_at xs f k hk hl]
  congr 1
  by_cases h : k < xs.length
  · obtain ⟨h1, h2⟩ := he h
    rw [List.drop_eq_getElem_cons h, insX, if_neg h1, if_neg h2]
  · rw [List.drop_eq_nil_of_le (by omega)]; rfl
theorem mem_insX {g f : List Int} : ∀ {l : List (List Int)}, g ∈ insX l f ↔ g = f ∨ g ∈ l
  | [] => by simp [insX]
  | x :: r => by
    unfold insX
    split
    · simp only [List.mem_cons, mem_insX]
      constructor
      · rintro (h | h | h)
        · exact .inr (.inl h)
        · exact .inl h
        · exact .inr (.inr h)
      · rintro (h | h | h)
        · exact .inr (.inl h)
        · exact .inl h
        · exact .inr (.inr h)
    · split
      · rename_i h
        subst h
        simp only [List.mem_cons]
        constructor
        · exact fun h => .inr h
        · rintro (h | h)
          · exact .inl h
          · exact h
      · simp only [List.mem_cons]
theorem insX_len (l : List (List Int)) (f : List Int) : (insX l f).length ≤ l.length + 1 := by
  induction l with
  | nil => simp [insX]
  | cons x r ih =>
    unfold insX
    split
    · simp only [List.length_cons]; omega
    · split <;> simp
/-- Lists put in order, each once. -/
def srtX (xs : List (List Int)) : List (List Int) := xs.foldl insX []
theorem srtX_take {xs : List (List Int)} {k : Nat} (hk : k < xs.length) : srtX (xs.take (k + 1)) = insX (srtX (xs.take k)) xs[k] := by
  unfold srtX
  rw [List.take_succ_eq_append_getElem hk, List.foldl_append]; rfl
theorem mem_srtX {g : List Int} {xs : List (List Int)} : g ∈ srtX xs ↔ g ∈ xs := by
  suffices h : ∀ (xs l : List (List Int)), g ∈ xs.foldl insX l ↔ g ∈ l ∨ g ∈ xs by
    have := h xs []
    simpa [srtX] using this
  intro xs
  induction xs with
  | nil => intro l; simp
  | cons a r ih =>
    intro l
    simp only [List.foldl_cons, ih, mem_insX, List.mem_cons]
    constructor
    · rintro ((h | h) | h)
      · exact .inr (.inl h)
      · exact .inl h
      · exact .inr (.inr h)
    · rintro (h | h | h)
      · exact .inl (.inr h)
      · exact .inl (.inl h)
      · exact .inr h
theorem srtX_len (xs : List (List Int)) : (srtX xs).length ≤ xs.length := by
  suffices h : ∀ (xs l : List (List Int)), (xs.foldl insX l).length ≤ l.length + xs.length by simpa [srtX] using h xs []
  intro xs
  induction xs with
  | nil => intro l; simp
  | cons a r ih =>
    intro l
    have h1 := ih (insX l a)
    have h2 := insX_len l a
    simp only [List.foldl_cons, List.length_cons]
    omega
/-- Strictly ascending. -/
def AscX (l : List (List Int)) : Prop := l.Pairwise (fun a b => lx a b < 0)
theorem ascX_eq : ∀ {l m : List (List Int)}, AscX l → AscX m → (∀ x, x ∈ l ↔ x ∈ m) → l = m
  | [], [], _, _, _ => rfl
  | [], y :: m, _, _, h => by have := (h y).2 (by simp); simp at this
  | x :: l, [], _, _, h => by have := (h x).1 (by simp); simp at this
  | x :: l, y :: m, hl, hm, h => by
    obtain ⟨l1, l2⟩ := List.pairwise_cons.1 hl
    obtain ⟨m1, m2⟩ := List.pairwise_cons.1 hm
    have e : x = y := by
      rcases List.mem_cons.1 ((h x).1 (by simp)) with e | e
      · exact e
      · rcases List.mem_cons.1 ((h y).2 (by simp)) with e' | e'
        · exact e'.symm
        · have h1 := m1 x e
          have h2 := l1 y e'
          rw [lx_swap] at h1; omega
    subst e
    congr 1
    refine ascX_eq l2 m2 fun z => ?_
    constructor
    · intro hz
      rcases List.mem_cons.1 ((h z).1 (List.mem_cons_of_mem _ hz)) with e | e
      · subst e; have := l1 z hz; rw [lx_self] at this; omega
      · exact e
    · intro hz
      rcases List.mem_cons.1 ((h z).2 (List.mem_cons_of_mem _ hz)) with e | e
      · subst e; have := m1 z hz; rw [lx_self] at this; omega
      · exact e
theorem asc_insX {f : List Int} : ∀ {l : List (List Int)}, AscX l → AscX (insX l f)
  | [], _ => by simp [insX, AscX]
  | x :: r, h => by
    obtain ⟨h1, h2⟩ := List.pairwise_cons.1 h
    unfold insX
    by_cases hx : lx x f < 0
    · rw [if_pos hx]
      refine List.pairwise_cons.2 ⟨fun y hy => ?_, asc_insX h2⟩
      rcases mem_insX.1 hy with rfl | hy
      · exact hx
      · exact h1 y hy
    · rw [if_neg hx]
      by_cases e : x = f
      · rw [if_pos e]; exact h
      · rw [if_neg e]
        have hf : lx f x < 0 := by
          by_cases hf : lx f x < 0
          · exact hf
          · exact absurd (lx_tot hx hf) e
        refine List.pairwise_cons.2 ⟨fun y hy => ?_, h⟩
        rcases List.mem_cons.1 hy with rfl | hy
        · exact hf
        · exact lx_trans hf (h1 y hy)
theorem asc_srtX (xs : List (List Int)) : AscX (srtX xs) := by
  suffices h : ∀ (xs l : List (List Int)), AscX l → AscX (xs.foldl insX l) from h xs [] List.Pairwise.nil
  intro xs
  induction xs with
  | nil => intro l h; exact h
  | cons a r ih => intro l h; exact ih _ (asc_insX h)
theorem srtX_eq {xs l : List (List Int)} (h : AscX l) (hm : ∀ x, x ∈ l ↔ x ∈ xs) : l = srtX xs :=
  ascX_eq h (asc_srtX xs) fun x => by rw [hm, mem_srtX]
/-- The same members give the same answers. -/
theorem srtX_congr {xs ys : List (List Int)} (h : ∀ x, x ∈ xs ↔ x ∈ ys) : srtX xs = srtX ys :=
  srtX_eq (asc_srtX xs) fun x => by rw [mem_srtX, h]
/-- What compaction has gathered when the first m lists of an ascending list have been seen. -/
def CptX (ys : List (List Int)) (m : Nat) (ds : List (List Int)) : Prop := AscX ds ∧ (∀ x, x ∈ ds ↔ x ∈ ys.take m)
def SrtX (ys : List (List Int)) : Prop := ∀ p q (hp : p < ys.length) (hq : q < ys.length), p < q → ¬ lx ys[q] ys[p] < 0
theorem cptX_same {ys ds : List (List Int)} {m : Nat} (h : CptX ys m ds) (hm : 0 < m) (hl : m < ys.length) (he : ys[m] = ys[m - 1]'(by omega)) : CptX ys (m + 1) ds := by
  obtain ⟨h1, h2⟩ := h
  refine ⟨h1, fun x => ?_⟩
  rw [h2, List.take_succ_eq_append_getElem hl, List.mem_append]
  constructor
  · exact fun h => .inl h
  · rintro (h | h)
    · exact h
    · simp only [List.mem_cons, List.not_mem_nil, or_false] at h
      rw [h, he, List.mem_take_iff_getElem]
      exact ⟨m - 1, by omega, rfl⟩
theorem cptX_new {ys ds : List (List Int)} {m : Nat} (hs : SrtX ys) (h : CptX ys m ds) (hm : 0 < m) (hl : m < ys.length) (he : ys[m] ≠ ys[m - 1]'(by omega)) : CptX ys (m + 1) (ds ++ [ys[m]]) := by
  obtain ⟨h1, h2⟩ := h
  refine ⟨?_, fun x => ?_⟩
  · unfold AscX
    rw [List.pairwise_append]
    refine ⟨h1, by simp, fun x hx y hy => ?_⟩
    simp only [List.mem_cons, List.not_mem_nil, or_false] at hy
    subst hy
    have nb : lx (ys[m - 1]'(by omega)) ys[m] < 0 := by
      by_cases h : lx (ys[m - 1]'(by omega)) ys[m] < 0
      · exact h
      · exact absurd (lx_tot h (hs (m - 1) m (by omega) hl (by omega))).symm he
    obtain ⟨p, hp, rfl⟩ := List.mem_take_iff_getElem.1 ((h2 x).1 hx)
    by_cases e : p = m - 1
    · subst e; exact nb
    · exact lx_lt_ge (hs p (m - 1) (by omega) (by omega) (by omega)) nb
  · rw [List.mem_append, h2, List.take_succ_eq_append_getElem hl, List.mem_append]
theorem cptX_start {ys : List (List Int)} (h : 0 < ys.length) : CptX ys 1 [ys[0]] := by
  refine ⟨by simp [AscX], fun x => ?_⟩
  rw [List.take_succ_eq_append_getElem h]; simp

/-! The search. -/
/-- A fact that an atom may be. -/
def cnd (a : Atom) (f : Fact) : Bool := decide (a.rel = f.rel) && (!decide (a.x = a.y) || decide (f.x = f.y))
/-- Two facts that give the common variables of two atoms the same values. -/
def agr (a : Atom) (f : Fact) (b : Atom) (g : Fact) : Bool :=
  ((!decide (a.x = b.x) || decide (f.x = g.x)) && (!decide (a.x = b.y) || decide (f.x = g.y))) && ((!decide (a.y = b.x) || decide (f.y = g.x)) && (!decide (a.y = b.y) || decide (f.y = g.y)))
theorem agr_by (a b : Atom) (M : List Int) : agr a (a.by M).fact b (b.by M).fact = true := by
  unfold agr Atom.by Atom.fact
  simp only [Bool.and_eq_true, Bool.or_eq_true, Bool.not_eq_true', decide_eq_true_eq, decide_eq_false_iff_not]
  refine ⟨⟨?_, ?_⟩, ?_, ?_⟩
  · by_cases h : a.x = b.x
    · right; rw [h]
    · exact .inl h
  · by_cases h : a.x = b.y
    · right; rw [h]
    · exact .inl h
  · by_cases h : a.y = b.x
    · right; rw [h]
    · exact .inl h
  · by_cases h : a.y = b.y
    · right; rw [h]
    · exact .inl h
theorem cnd_by (a : Atom) (M : List Int) : cnd a (a.by M).fact = true := by
  unfold cnd Atom.by Atom.fact
  simp only [Bool.and_eq_true, Bool.or_eq_true, Bool.not_eq_true', decide_eq_true_eq, decide_eq_false_iff_not, true_and]
  by_cases h : a.x = a.y
  · right; rw [h]
  · exact .inl h
/-- Lists of facts for the atoms of a body that lack no fact of an assignment. -/
structure Cnd (bd : List Atom) (fs : List Fact) (L : List (List Fact)) : Prop where
  len : L.length = bd.length
  sub : ∀ i, i < bd.length → ∃ p : Fact → Bool, L.getD i [] = fs.filter p
  ok : ∀ i (h : i < bd.length), ∀ f ∈ L.getD i [], cnd bd[i] f = true
  sol : ∀ M : List Int, (∀ a ∈ bd, (a.by M).fact ∈ fs) → ∀ i (h : i < bd.length), (bd[i].by M).fact ∈ L.getD i []
theorem cnd_new (bd : List Atom) (fs : List Fact) : Cnd bd fs (bd.map fun a => fs.filter (cnd a)) := by
  have e : ∀ i (h : i < bd.length), (bd.map fun a => fs.filter (cnd a)).getD i [] = fs.filter (cnd bd[i]) := fun i h => by
    rw [getD_at (by simpa using h), List.getElem_map]
  refine ⟨by simp, fun i h => ⟨_, e i h⟩, fun i h f hf => ?_, fun M hM i h => ?_⟩
  · rw [e i h] at hf
    exact (List.mem_filter.1 hf).2
  · rw [e i h]
    exact List.mem_filter.2 ⟨hM _ (List.getElem_mem h), cnd_by _ _⟩
theorem getD_set {X : Type} {L : List X} {i k : Nat} {x d : X} (hi : i < L.length) : (L.set i x).getD k d = if i = k then x else L.getD k d := by
  rw [List.getD_eq_getElem?_getD, List.getElem?_set]
  by_cases h : i = k
  · subst h; rw [if_pos rfl, if_pos rfl, if_pos hi]; rfl
  · rw [if_neg h, if_neg h, List.getD_eq_getElem?_getD]
/-- Facts that agree with none of another atom's are left out. -/
theorem Cnd.cut {bd : List Atom} {fs : List Fact} {L : List (List Fact)} (h : Cnd bd fs L) {i j : Nat} (hi : i < bd.length) (hj : j < bd.length) :
    Cnd bd fs (L.set i ((L.getD i []).filter fun f => (L.getD j []).any fun g => agr bd[i] f bd[j] g)) := by
  have hl := h.len
  refine ⟨by simp [hl], fun k hk => ?_, fun k hk f hf => ?_, fun M hM k hk => ?_⟩
  · rw [getD_set (by omega)]
    split
    · obtain ⟨p, hp⟩ := h.sub i hi
      rw [hp, List.filter_filter]
      exact ⟨_, rfl⟩
    · exact h.sub k hk
  · rw [getD_set (by omega)] at hf
    split at hf
    · rename_i e
      subst e
      exact h.ok i hi f (List.mem_filter.1 hf).1
    · exact h.ok k hk f hf
  · rw [getD_set (by omega)]
    split
    · rename_i e
      subst e
      refine List.mem_filter.2 ⟨h.sol M hM i hi, ?_⟩
      rw [List.any_eq_true]
      exact ⟨_, h.sol M hM j hj, agr_by _ _ _⟩
    · exact h.sol M hM k hk
/-- All mappings that extend m, each atom over its own list. -/
def mtl : List Atom → List (List Fact) → List Int → List (List Int)
  | [], _, m => [m]
  | a :: r, L, m => (L.headD []).flatMap fun f => match fit m a f with
    | some m' => mtl r L.tail m'
    | none => []
def stepL (r : List Atom) (L : List (List Fact)) (m : List Int) (a : Atom) (f : Fact) : List (List Int) := match fit m a f with
  | some m' => mtl r L m'
  | none => []
theorem stepL_none {r : List Atom} {L : List (List Fact)} {m : List Int} {a : Atom} {f : Fact} (h : fit m a f = none) : stepL r L m a f = [] := by unfold stepL; rw [h]
theorem stepL_some {r : List Atom} {L : List (List Fact)} {m m' : List Int} {a : Atom} {f : Fact} (h : fit m a f = some m') : stepL r L m a f = mtl r L m' := by unfold stepL; rw [h]
theorem mtl_at {bd : List Atom} {L : List (List Fact)} {i : Nat} (h : i < bd.length) (hl : L.length = bd.length) (m : List Int) : mtl (bd.drop i) (L.drop i) m = (L.getD i []).flatMap (stepL (bd.drop (i + 1)) (L.drop (i + 1)) m bd[i]) := by
  have h2 : i < L.length := by omega
  rw [List.drop_eq_getElem_cons h, List.drop_eq_getElem_cons h2, getD_at h2]; rfl
theorem mtl_end {bd : List Atom} {L : List (List Fact)} {i : Nat} (h : bd.length ≤ i) (m : List Int) : mtl (bd.drop i) L m = [m] := by
  rw [List.drop_eq_nil_of_le h]; rfl
theorem flat_filter {X Y : Type} {g h : X → List Y} {p : X → Bool} : ∀ {xs : List X}, (∀ x ∈ xs, p x = true → h x = g x) → (∀ x ∈ xs, p x = false → g x = []) → (xs.filter p).flatMap h = xs.flatMap g
  | [], _, _ => rfl
  | x :: r, h1, h2 => by
    have ih := flat_filter (xs := r) (fun y hy => h1 y (by simp [hy])) (fun y hy => h2 y (by simp [hy]))
    rw [List.flatMap_cons]
    cases hp : p x
    · rw [List.filter_cons_of_neg (by rw [hp]; simp), h2 x (by simp) hp, List.nil_append, ih]
    · rw [List.filter_cons_of_pos hp, List.flatMap_cons, h1 x (by simp) hp, ih]
/-- The lists find what all facts find. -/
theorem mtl_mts {bd : List Atom} {fs : List Fact} {L : List (List Fact)} (hC : Cnd bd fs L) (hf : ∀ f ∈ fs, 0 ≤ f.x ∧ 0 ≤ f.y) (d : Nat) :
    ∀ (i : Nat) (m : List Int), i + d = bd.length → (∀ a ∈ bd, a.x.toNat < m.length ∧ a.y.toNat < m.length) → (∀ a ∈ bd.take i, (a.by m).fact ∈ fs ∧ 0 ≤ var m a.x ∧ 0 ≤ var m a.y) → mtl (bd.drop i) (L.drop i) m = mts (bd.drop i) fs m := by
  induction d with
  | zero => intro i m hi _ _; rw [mtl_end (by omega), mts_end (by omega)]
  | succ d ih =>
    intro i m hid hx hp
    have hi : i < bd.length := by omega
    rw [mtl_at hi hC.len, mts_at hi]
    obtain ⟨p, hL⟩ := hC.sub i hi
    have ha := hx _ (List.getElem_mem hi)
    rw [hL]
    refine flat_filter (fun f hfm hpf => ?_) (fun f hfm hpf => ?_)
    · cases e : fit m bd[i] f with
      | none => rw [step_none e, stepL_none e]
      | some m' =>
        rw [step_some e, stepL_some e]
        have hlen := fit_len e
        have hf0 := hf f hfm
        obtain ⟨e1, e2⟩ := fit_ext e ha.1 ha.2 hf0.1 hf0.2
        refine ih (i + 1) m' (by omega) (fun a h => by rw [hlen]; exact hx a h) fun a h => ?_
        rw [List.take_succ_eq_append_getElem hi, List.mem_append] at h
        rcases h with h | h
        · obtain ⟨q1, q2, q3⟩ := hp a h
          have hxa := hx a (List.mem_of_mem_take h)
          have v1 := e1.var hxa.1 q2
          have v2 := e1.var hxa.2 q3
          refine ⟨?_, by rw [v1]; exact q2, by rw [v2]; exact q3⟩
          have : a.by m' = a.by m := by unfold Atom.by; rw [v1, v2]
          rw [this]; exact q1
        · simp only [List.mem_cons, List.not_mem_nil, or_false] at h
          subst h
          have v1 : var m' bd[i].x = f.x := by rw [← e2]; rfl
          have v2 : var m' bd[i].y = f.y := by rw [← e2]; rfl
          exact ⟨by rw [e2]; exact hfm, by rw [v1]; exact hf0.1, by rw [v2]; exact hf0.2⟩
    · cases e : fit m bd[i] f with
      | none => exact step_none e
      | some m' =>
        rw [step_some e]
        cases e3 : mts (bd.drop (i + 1)) fs m' with
        | nil => rfl
        | cons M r =>
          exfalso
          have hM : M ∈ mts (bd.drop (i + 1)) fs m' := by rw [e3]; simp
          have hlen := fit_len e
          have hf0 := hf f hfm
          obtain ⟨e1, e2⟩ := fit_ext e ha.1 ha.2 hf0.1 hf0.2
          obtain ⟨e4, e5⟩ := mts_ext hM (fun a h => by rw [hlen]; exact hx a (List.mem_of_mem_drop h)) hf
          have v1 : var m' bd[i].x = f.x := by rw [← e2]; rfl
          have v2 : var m' bd[i].y = f.y := by rw [← e2]; rfl
          have ei : (bd[i].by M).fact = f := by
            rw [← e2]
            unfold Atom.by Atom.fact
            rw [e4.var (by rw [hlen]; exact ha.1) (by rw [v1]; exact hf0.1), e4.var (by rw [hlen]; exact ha.2) (by rw [v2]; exact hf0.2)]
          have hs := hC.sol M (fun a h => by
            rw [← List.take_append_drop i bd, List.mem_append] at h
            rcases h with h | h
            · obtain ⟨q1, q2, q3⟩ := hp a h
              have hxa := hx a (List.mem_of_mem_take h)
              have w1 := (e1.trans e4).var hxa.1 q2
              have w2 := (e1.trans e4).var hxa.2 q3
              have : a.by M = a.by m := by unfold Atom.by; rw [w1, w2]
              rw [this]; exact q1
            · rw [List.drop_eq_getElem_cons hi] at h
              rcases List.mem_cons.1 h with rfl | h
              · rw [ei]; exact hfm
              · exact (e5 a h).1) i hi
          rw [ei, hL] at hs
          have := (List.mem_filter.1 hs).2
          rw [hpf] at this; cases this
/-- The program's values and marks of the variables, for a mapping in which -1 stands for no value. -/
def VB (m vs : List Int) (bs : List Bool) : Prop := vs.length = m.length ∧ bs.length = m.length ∧ ∀ v : Nat, v < m.length → bs.getD v false = decide (0 ≤ m.getD v 0) ∧ (0 ≤ m.getD v 0 → vs.getD v 0 = m.getD v 0)
/-- The same while the facts of an atom are tried: the marks of its variables may be any. -/
def VW (m : List Int) (x y : Nat) (vs : List Int) (bs : List Bool) : Prop := vs.length = m.length ∧ bs.length = m.length ∧ ∀ v : Nat, v < m.length → (v ≠ x → v ≠ y → bs.getD v false = decide (0 ≤ m.getD v 0)) ∧ (0 ≤ m.getD v 0 → vs.getD v 0 = m.getD v 0)
theorem VB.vw {m vs : List Int} {bs : List Bool} (h : VB m vs bs) (x y : Nat) : VW m x y vs bs := ⟨h.1, h.2.1, fun v hv => ⟨fun _ _ => (h.2.2 v hv).1, (h.2.2 v hv).2⟩⟩
theorem vb_new (n : Nat) : VB (List.replicate n (-1)) (List.replicate n 0) (List.replicate n false) := by
  refine ⟨by simp, by simp, fun v hv => ?_⟩
  rw [List.length_replicate] at hv
  have e1 : (List.replicate n (-1 : Int)).getD v 0 = -1 := by rw [getD_at (by simpa using hv), List.getElem_replicate]
  have e2 : (List.replicate n false).getD v false = false := by rw [getD_at (by simpa using hv), List.getElem_replicate]
  rw [e1, e2]
  exact ⟨by decide, fun h => absurd h (by decide)⟩
/-- The test that the program makes of a fact. -/
def tst (m vs : List Int) (x y : Nat) (f : Fact) : Bool := (decide (0 ≤ m.getD x 0) && !decide (vs.getD x 0 = f.x)) || (decide (0 ≤ m.getD y 0) && !decide (vs.getD y 0 = f.y))
theorem tst_fit {m vs : List Int} {bs : List Bool} {x y : Nat} {a : Atom} {f : Fact} (h : VW m x y vs bs) (hx : a.x = x) (hy : a.y = y) (hxl : x < m.length) (hyl : y < m.length) (hc : cnd a f = true) :
    (tst m vs x y f = true → fit m a f = none) ∧ (tst m vs x y f = false → fit m a f = some ((m.set x f.x).set y f.y)) := by
  unfold cnd at hc
  simp only [Bool.and_eq_true, Bool.or_eq_true, Bool.not_eq_true', decide_eq_true_eq, decide_eq_false_iff_not] at hc
  obtain ⟨hr, hxy⟩ := hc
  have px := (h.2.2 x hxl).2
  have py := (h.2.2 y hyl).2
  have vx : var m a.x = m.getD x 0 := by unfold var; rw [hx]; rfl
  have e1 : putV m a.x f.x = m.set x f.x := by unfold putV; rw [hx]; rfl
  have vy : var (putV m a.x f.x) a.y = if x = y then f.x else m.getD y 0 := by
    rw [e1]; unfold var; rw [hy, Int.toNat_natCast, getD_set hxl]
  have e2 : putV (putV m a.x f.x) a.y f.y = (m.set x f.x).set y f.y := by rw [e1]; unfold putV; rw [hy]; rfl
  unfold tst fit fitV
  rw [vx, vy, e2]
  simp only [Bool.or_eq_true, Bool.and_eq_true, Bool.not_eq_true', decide_eq_true_eq, decide_eq_false_iff_not, Bool.or_eq_false_iff, Bool.and_eq_false_iff, Bool.not_eq_false', beq_iff_eq]
  by_cases e : x = y
  · subst e
    have hff : f.x = f.y := by
      rcases hxy with h | h
      · exact absurd (by rw [hx, hy]) h
      · exact h
    rw [if_pos rfl]
    constructor
    · rintro (⟨k1, k2⟩ | ⟨k1, k2⟩)
      · rw [if_neg]; rintro ⟨_, k | k⟩
        · omega
        · rw [px k1] at k2; exact k2 k
      · rw [if_neg]; rintro ⟨_, k | k⟩
        · omega
        · rw [px k1, ← hff] at k2; exact k2 k
    · rintro ⟨k1, _⟩
      have q : m.getD x 0 < 0 ∨ m.getD x 0 = f.x := by
        by_cases k : 0 ≤ m.getD x 0
        · rcases k1 with k1 | k1
          · exact absurd k k1
          · right; rw [← px k]; exact k1
        · left; omega
      rw [if_pos ⟨hr.symm, q⟩, if_pos (.inr hff)]
  · rw [if_neg e]
    constructor
    · rintro (⟨k1, k2⟩ | ⟨k1, k2⟩)
      · rw [if_neg]; rintro ⟨_, k | k⟩
        · omega
        · rw [px k1] at k2; exact k2 k
      · rw [if_neg (c := m.getD y 0 < 0 ∨ m.getD y 0 = f.y) (by
          rintro (k | k)
          · omega
          · rw [py k1] at k2; exact k2 k), ite_self]
    · rintro ⟨k1, k2⟩
      have q1 : m.getD x 0 < 0 ∨ m.getD x 0 = f.x := by
        by_cases k : 0 ≤ m.getD x 0
        · rcases k1 with k1 | k1
          · exact absurd k k1
          · right; rw [← px k]; exact k1
        · left; omega
      have q2 : m.getD y 0 < 0 ∨ m.getD y 0 = f.y := by
        by_cases k : 0 ≤ m.getD y 0
        · rcases k2 with k2 | k2
          · exact absurd k k2
          · right; rw [← py k]; exact k2
        · left; omega
      rw [if_pos ⟨hr.symm, q1⟩, if_pos q2]
theorem VW.put {m vs : List Int} {bs : List Bool} {x y : Nat} {fx fy : Int} (h : VW m x y vs bs) (hx : x < m.length) (hy : y < m.length) (h0 : 0 ≤ fx) (h1 : 0 ≤ fy) :
    VB ((m.set x fx).set y fy) ((vs.set x fx).set y fy) ((bs.set x true).set y true) := by
  obtain ⟨k1, k2, k3⟩ := h
  refine ⟨by simp [k1], by simp [k2], fun v hv => ?_⟩
  simp only [List.length_set] at hv
  rw [getD_set (by simp; omega), getD_set (by omega), getD_set (by simp; omega), getD_set hx, getD_set (by simp; omega), getD_set (by omega)]
  by_cases e1 : y = v
  · rw [if_pos e1, if_pos e1, if_pos e1]; exact ⟨by simp [h1], fun _ => rfl⟩
  · by_cases e2 : x = v
    · rw [if_neg e1, if_neg e1, if_neg e1, if_pos e2, if_pos e2, if_pos e2]; exact ⟨by simp [h0], fun _ => rfl⟩
    · rw [if_neg e1, if_neg e1, if_neg e1, if_neg e2, if_neg e2, if_neg e2]
      exact ⟨(k3 v hv).1 (Ne.symm e2) (Ne.symm e1), (k3 v hv).2⟩
theorem VB.back {m m' vs : List Int} {bs : List Bool} {x y : Nat} {fx fy : Int} (h : VB m' vs bs) (e : m' = (m.set x fx).set y fy) (he : Ext m m') (hx : x < m.length) (hy : y < m.length) : VW m x y vs bs := by
  subst e
  obtain ⟨k1, k2, k3⟩ := h
  simp only [List.length_set] at k1 k2 k3
  refine ⟨k1, k2, fun v hv => ⟨fun hn1 hn2 => ?_, fun h0 => ?_⟩⟩
  · have := (k3 v hv).1
    rw [getD_set (by simp; omega), getD_set hx, if_neg (Ne.symm hn2), if_neg (Ne.symm hn1)] at this
    exact this
  · have e1 := he.2 v hv h0
    rw [(k3 v hv).2 (by rw [e1]; exact h0), e1]
theorem VW.close {m vs : List Int} {bs : List Bool} {x y : Nat} (h : VW m x y vs bs) (hx : x < m.length) (hy : y < m.length) : VB m vs ((bs.set x (decide (0 ≤ m.getD x 0))).set y (decide (0 ≤ m.getD y 0))) := by
  obtain ⟨k1, k2, k3⟩ := h
  refine ⟨k1, by simp [k2], fun v hv => ⟨?_, (k3 v hv).2⟩⟩
  rw [getD_set (by simp; omega), getD_set (by omega)]
  by_cases e1 : y = v
  · rw [if_pos e1, e1]
  · by_cases e2 : x = v
    · rw [if_neg e1, if_pos e2, e2]
    · rw [if_neg e1, if_neg e2]; exact (k3 v hv).1 (Ne.symm e2) (Ne.symm e1)
/-- The values of a head. -/
def hdV (hd m : List Int) : List Int := hd.map (var m)
theorem VB.head {m vs : List Int} {bs : List Bool} {hd : List Int} (h : VB m vs bs) (hh : ∀ v ∈ hd, 0 ≤ v ∧ v < m.length ∧ 0 ≤ var m v) : hdV hd vs = hdV hd m := by
  refine List.map_congr_left fun v hv => ?_
  obtain ⟨h1, h2, h3⟩ := hh v hv
  exact (h.2.2 v.toNat (by omega)).2 h3
/-- The answers of a query. -/
def ans (q : Int) (hd : List Int) (bd : List Atom) (fs : List Fact) : List (List Int) := srtX (((mts bd fs (List.replicate q.toNat (-1))).take 2000).map (hdV hd))
def ansO (q : Int) (hd : List Int) (bd : List Atom) (fs : List Fact) : List (List Int) := if vrule q hd bd && vfacts fs then ans q hd bd fs else []
theorem ans_len (q : Int) (hd : List Int) (bd : List Atom) (fs : List Fact) : (ans q hd bd fs).length ≤ 2000 := by
  refine Nat.le_trans (srtX_len _) ?_
  rw [List.length_map, List.length_take]; omega
end Go.Proofs.YtahclhldpcboeaaGreatDoor
