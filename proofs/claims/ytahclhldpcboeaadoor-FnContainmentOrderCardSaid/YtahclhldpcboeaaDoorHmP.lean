/- Plain maths of the homomorphism that is found: the head is bound first, then the atoms, each to the first fact that is possible. -/
import Derived.Test.YtahclhldpcboeaaDoorExtP
namespace Go.Proofs.YtahclhldpcboeaaDoor

/-- Variables bound one after the other. -/
def bindH : List Int → List Int → List Int → Option (List Int)
  | [], [], m => some m
  | v :: vs, x :: xs, m => if fitV m v x = true then bindH vs xs (putV m v x) else none
  | _, _, _ => none
/-- The homomorphism, where a variable without a value has -1. -/
def hom1 (q1 : Int) (hd1 : List Int) (bd1 : List Atom) (hd2 : List Int) (bd2 : List Atom) : Option (List Int) :=
  (bindH hd1 hd2 (List.replicate q1.toNat (-1))).bind fun m => (mts bd1 (frz bd2) m).head?
def homO (q1 : Int) (hd1 : List Int) (bd1 : List Atom) (hd2 : List Int) (bd2 : List Atom) : Option (List Int) := (hom1 q1 hd1 bd1 hd2 bd2).map (List.map (fun x => max x 0))
/-- Entries of a mapping. -/
def Rng (B : Int) (m : List Int) : Prop := ∀ x ∈ m, -1 ≤ x ∧ x < B
theorem Rng.mono {B C : Int} {m : List Int} (h : Rng B m) (hb : B ≤ C) : Rng C m := fun x hx => ⟨(h x hx).1, by have := (h x hx).2; omega⟩
theorem Rng.put {B v x : Int} {m : List Int} (h : Rng B m) (h0 : 0 ≤ x) (h1 : x < B) : Rng B (putV m v x) := fun y hy => by
  rcases List.mem_or_eq_of_mem_set hy with h2 | h2
  · exact h y h2
  · subst h2; exact ⟨by omega, h1⟩
theorem rng_new {B : Int} (hB : 0 ≤ B) (n : Nat) : Rng B (List.replicate n (-1)) := fun x hx => by
  obtain ⟨_, rfl⟩ := List.mem_replicate.1 hx
  exact ⟨by omega, by omega⟩
theorem Rng.var {B v : Int} {m : List Int} (h : Rng B m) (h0 : 0 ≤ v) (h1 : v < m.length) : -1 ≤ var m v ∧ var m v < B := by
  obtain ⟨n, rfl⟩ : ∃ n : Nat, v = n := ⟨v.toNat, by omega⟩
  rw [var_at rfl (by omega)]
  exact h _ (List.getElem_mem _)
theorem bindH_len : ∀ {vs xs m m' : List Int}, bindH vs xs m = some m' → m'.length = m.length
  | [], [], m, m', h => by unfold bindH at h; cases h; rfl
  | v :: vs, x :: xs, m, m', h => by
    unfold bindH at h
    split at h
    · rw [bindH_len h, putV_len]
    · cases h
  | [], _ :: _, _, _, h => by unfold bindH at h; cases h
  | _ :: _, [], _, _, h => by unfold bindH at h; cases h
theorem bindH_rng {B : Int} : ∀ {vs xs m m' : List Int}, bindH vs xs m = some m' → Rng B m → (∀ x ∈ xs, 0 ≤ x ∧ x < B) → Rng B m'
  | [], [], m, m', h, hm, _ => by unfold bindH at h; cases h; exact hm
  | v :: vs, x :: xs, m, m', h, hm, hx => by
    unfold bindH at h
    split at h
    · exact bindH_rng h (hm.put (hx x (by simp)).1 (hx x (by simp)).2) fun y hy => hx y (by simp [hy])
    · cases h
  | [], _ :: _, _, _, h, _, _ => by unfold bindH at h; cases h
  | _ :: _, [], _, _, h, _, _ => by unfold bindH at h; cases h
theorem bindH_ne {vs xs m : List Int} (h : vs.length ≠ xs.length) : bindH vs xs m = none := by
  induction vs generalizing xs m with
  | nil => cases xs with
    | nil => exact absurd rfl h
    | cons => rfl
  | cons v vs ih => cases xs with
    | nil => rfl
    | cons x xs =>
      unfold bindH
      split
      · exact ih (by simpa using h)
      · rfl
/-- Binding, at an index. -/
theorem bindH_end {vs xs m : List Int} {k : Nat} (h1 : vs.length ≤ k) (h2 : xs.length = vs.length) : bindH (vs.drop k) (xs.drop k) m = some m := by
  rw [List.drop_eq_nil_of_le h1, List.drop_eq_nil_of_le (by omega)]; rfl
theorem bindH_step {vs xs m : List Int} {k : Nat} (h1 : k < vs.length) (h2 : k < xs.length) (h : fitV m vs[k] xs[k] = true) : bindH (vs.drop k) (xs.drop k) m = bindH (vs.drop (k + 1)) (xs.drop (k + 1)) (putV m vs[k] xs[k]) := by
  rw [List.drop_eq_getElem_cons h1, List.drop_eq_getElem_cons h2]
  conv => lhs; unfold bindH
  rw [if_pos h]
theorem bindH_stop {vs xs m : List Int} {k : Nat} (h1 : k < vs.length) (h2 : k < xs.length) (h : fitV m vs[k] xs[k] = false) : bindH (vs.drop k) (xs.drop k) m = none := by
  rw [List.drop_eq_getElem_cons h1, List.drop_eq_getElem_cons h2]
  conv => lhs; unfold bindH
  rw [if_neg (by rw [h]; simp)]
/-- An atom is matched by binding its two variables. -/
theorem fit_bind {m : List Int} {a : Atom} {f : Fact} (h : f.rel = a.rel) : fit m a f = bindH [a.x, a.y] [f.x, f.y] m := by
  unfold fit bindH bindH bindH
  by_cases h1 : fitV m a.x f.x = true
  · rw [if_pos ⟨h, h1⟩, if_pos h1]
  · rw [if_neg (fun k => h1 k.2), if_neg h1]
theorem fit_rel {m : List Int} {a : Atom} {f : Fact} (h : f.rel ≠ a.rel) : fit m a f = none := by
  unfold fit
  rw [if_neg (fun k => h k.1)]
theorem fit_rng {B : Int} {m m' : List Int} {a : Atom} {f : Fact} (h : fit m a f = some m') (hm : Rng B m) (h1 : 0 ≤ f.x ∧ f.x < B) (h2 : 0 ≤ f.y ∧ f.y < B) : Rng B m' := by
  by_cases hr : f.rel = a.rel
  · rw [fit_bind hr] at h
    exact bindH_rng h hm fun x hx => by
      simp only [List.mem_cons, List.not_mem_nil, or_false] at hx
      rcases hx with rfl | rfl
      · exact h1
      · exact h2
  · rw [fit_rel hr] at h; cases h
theorem mem_step {r : List Atom} {fs : List Fact} {m x : List Int} {a : Atom} {f : Fact} (h : x ∈ step r fs m a f) : ∃ m', fit m a f = some m' ∧ x ∈ mts r fs m' := by
  unfold step at h
  split at h
  · rename_i m' e; exact ⟨m', e, h⟩
  · cases h
theorem mts_len : ∀ {bd : List Atom} {fs : List Fact} {m m' : List Int}, m' ∈ mts bd fs m → m'.length = m.length
  | [], fs, m, m', h => by simp [mts] at h; rw [h]
  | a :: r, fs, m, m', h => by
    rw [mts_cons] at h
    obtain ⟨f, _, h⟩ := List.mem_flatMap.1 h
    obtain ⟨m1, e, h⟩ := mem_step h
    rw [mts_len h, fit_len e]
theorem mts_rng {B : Int} : ∀ {bd : List Atom} {fs : List Fact} {m m' : List Int}, m' ∈ mts bd fs m → Rng B m → (∀ f ∈ fs, (0 ≤ f.x ∧ f.x < B) ∧ 0 ≤ f.y ∧ f.y < B) → Rng B m'
  | [], fs, m, m', h, hm, _ => by simp [mts] at h; rw [h]; exact hm
  | a :: r, fs, m, m', h, hm, hf => by
    rw [mts_cons] at h
    obtain ⟨f, h1, h⟩ := List.mem_flatMap.1 h
    obtain ⟨m1, e, h⟩ := mem_step h
    exact mts_rng h (fit_rng e hm (hf f h1).1 (hf f h1).2) hf
/-- The first of many. -/
theorem flat_none {X Y : Type} {f : X → List Y} {xs : List X} (h : ∀ i (hi : i < xs.length), f xs[i] = []) : xs.flatMap f = [] := by
  rw [List.flatMap_eq_nil_iff]
  intro x hx
  obtain ⟨i, hi, rfl⟩ := List.getElem_of_mem hx
  exact h i hi
theorem flat_first {X Y : Type} {f : X → List Y} {xs : List X} {k : Nat} {y : Y} (hk : k < xs.length) (h : ∀ i (hi : i < xs.length), i < k → f xs[i] = []) (hy : (f xs[k]).head? = some y) : (xs.flatMap f).head? = some y := by
  rw [← List.take_append_drop k xs, List.flatMap_append, List.drop_eq_getElem_cons hk, List.flatMap_cons]
  have : (xs.take k).flatMap f = [] := flat_none fun i hi => by
    simp only [List.length_take] at hi
    rw [List.getElem_take]
    exact h i (by omega) (by omega)
  rw [this, List.nil_append]
  rw [List.head?_append, hy]
  rfl
theorem head_nil {X : Type} {l : List X} (h : l.head? = none) : l = [] := by
  cases l with
  | nil => rfl
  | cons => cases h
/-- The mapping that is found has the query's length and entries in range. -/
theorem hom1_len {q1 : Int} {hd1 hd2 m : List Int} {bd1 bd2 : List Atom} (h : hom1 q1 hd1 bd1 hd2 bd2 = some m) : m.length = q1.toNat := by
  unfold hom1 at h
  obtain ⟨m0, h0, h1⟩ := Option.bind_eq_some_iff.1 h
  rw [mts_len (List.mem_of_head? h1), bindH_len h0, List.length_replicate]
theorem frz_rng {B : Int} {bd : List Atom} (h : ∀ a ∈ bd, 0 ≤ a.x ∧ a.x < B ∧ 0 ≤ a.y ∧ a.y < B) : ∀ f ∈ frz bd, (0 ≤ f.x ∧ f.x < B) ∧ 0 ≤ f.y ∧ f.y < B := fun f hf => by
  obtain ⟨a, ha, rfl⟩ := mem_frz.1 hf
  have := h a ha
  exact ⟨⟨this.1, this.2.1⟩, this.2.2⟩
theorem hom1_rng {q1 B : Int} {hd1 hd2 m : List Int} {bd1 bd2 : List Atom} (h : hom1 q1 hd1 bd1 hd2 bd2 = some m) (hB : 0 ≤ B) (hh : ∀ x ∈ hd2, 0 ≤ x ∧ x < B) (hb : ∀ a ∈ bd2, 0 ≤ a.x ∧ a.x < B ∧ 0 ≤ a.y ∧ a.y < B) : Rng B m := by
  unfold hom1 at h
  obtain ⟨m0, h0, h1⟩ := Option.bind_eq_some_iff.1 h
  exact mts_rng (List.mem_of_head? h1) (bindH_rng h0 (rng_new hB _) hh) (frz_rng hb)
/-- A query without an atom. -/
def lessA (bd : List Atom) (k : Nat) : List Atom := bd.take k ++ bd.drop (k + 1)
theorem lessA_len {bd : List Atom} {k : Nat} (hk : k < bd.length) : (lessA bd k).length + 1 = bd.length := by simp [lessA]; omega
/-- An atom without which a query has the same answers. -/
def redAt (q : Int) (hd : List Int) (bd : List Atom) (k : Nat) : Bool := vrule q hd (lessA bd k) && (homO q hd bd hd (lessA bd k)).isSome
def redF (q : Int) (hd : List Int) (bd : List Atom) : Nat → Nat → Int
  | 0, _ => -1
  | d + 1, k => if redAt q hd bd k then (k : Int) else redF q hd bd d (k + 1)
/-- The first such atom, or -1. -/
def red (q : Int) (hd : List Int) (bd : List Atom) : Int := redF q hd bd bd.length 0
theorem redF_yes {q : Int} {hd : List Int} {bd : List Atom} {d k : Nat} (h : redAt q hd bd k = true) : redF q hd bd (d + 1) k = k := by unfold redF; rw [if_pos h]
theorem redF_no {q : Int} {hd : List Int} {bd : List Atom} {d k : Nat} (h : redAt q hd bd k = false) : redF q hd bd (d + 1) k = redF q hd bd d (k + 1) := by
  conv => lhs; unfold redF
  rw [if_neg (by rw [h]; simp)]
theorem redF_out {q : Int} {hd : List Int} {bd : List Atom} : ∀ {d k : Nat}, redF q hd bd d k = -1 ∨ ∃ j : Nat, redF q hd bd d k = j ∧ k ≤ j ∧ j < k + d ∧ redAt q hd bd j = true
  | 0, _ => .inl rfl
  | d + 1, k => by
    by_cases h : redAt q hd bd k = true
    · exact .inr ⟨k, redF_yes h, by omega, by omega, h⟩
    · rw [redF_no (by simpa using h)]
      rcases redF_out (q := q) (hd := hd) (bd := bd) (d := d) (k := k + 1) with h1 | ⟨j, h1, h2, h3, h4⟩
      · exact .inl h1
      · exact .inr ⟨j, h1, by omega, by omega, h4⟩
theorem red_out {q : Int} {hd : List Int} {bd : List Atom} : red q hd bd = -1 ∨ ∃ j : Nat, red q hd bd = j ∧ j < bd.length ∧ redAt q hd bd j = true := by
  rcases redF_out (q := q) (hd := hd) (bd := bd) (d := bd.length) (k := 0) with h1 | ⟨j, h1, _, h3, h4⟩
  · exact .inl h1
  · exact .inr ⟨j, h1, by omega, h4⟩
/-- The first redundant atom is taken away again and again. -/
def mini (q : Int) (hd : List Int) : Nat → List Atom → List Atom
  | 0, bd => bd
  | n + 1, bd => if red q hd bd < 0 then bd else mini q hd n (lessA bd (red q hd bd).toNat)
theorem mini_stop {q : Int} {hd : List Int} {n : Nat} {bd : List Atom} (h : red q hd bd < 0) : mini q hd n bd = bd := by
  cases n with
  | zero => rfl
  | succ n => unfold mini; rw [if_pos h]
theorem mini_step {q : Int} {hd : List Int} {n : Nat} {bd : List Atom} {j : Nat} (h : red q hd bd = j) : mini q hd (n + 1) bd = mini q hd n (lessA bd j) := by
  conv => lhs; unfold mini
  rw [if_neg (by omega), h]
  rfl
end Go.Proofs.YtahclhldpcboeaaDoor
