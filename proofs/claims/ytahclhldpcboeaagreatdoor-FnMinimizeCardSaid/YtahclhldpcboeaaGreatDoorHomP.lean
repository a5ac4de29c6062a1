/- Plain maths of homomorphisms: frozen atoms, mappings. -/
import Derived.Test.YtahclhldpcboeaaGreatDoorRelP
namespace Go.Proofs.YtahclhldpcboeaaGreatDoor

def Atom.fact (a : Atom) : Fact := ⟨a.rel, a.x, a.y⟩
/-- A fact put into an ascending list, unless it is there. -/
def insF : List Fact → Fact → List Fact
  | [], f => [f]
  | x :: r, f => if x.less f then x :: insF r f else if x = f then x :: r else f :: x :: r
theorem insF_at : ∀ (xs : List Fact) (f : Fact) (k : Nat), k ≤ xs.length → (∀ i (h : i < xs.length), i < k → xs[i].less f = true) → insF xs f = xs.take k ++ insF (xs.drop k) f
  | xs, f, 0, _, _ => by simp
  | [], f, k + 1, h, _ => by simp at h
  | x :: r, f, k + 1, h, hl => by
    have h0 : x.less f = true := hl 0 (by simp) (by omega)
    have := insF_at r f k (by simpa using h) (fun i hi hk => by have := hl (i + 1) (by simpa using hi) (by omega); simpa using this)
    rw [insF, if_pos h0, this]; simp
theorem insF_same {xs : List Fact} {f : Fact} {k : Nat} (hk : k < xs.length) (hl : ∀ i (h : i < xs.length), i < k → xs[i].less f = true) (hn : xs[k].less f = false) (he : xs[k] = f) : insF xs f = xs := by
  rw [insF_at xs f k (by omega) hl, List.drop_eq_getElem_cons hk, insF, if_neg (by simp [hn]), if_pos he, ← List.drop_eq_getElem_cons hk, List.take_append_drop]
theorem insF_new {xs : List Fact} {f : Fact} {k : Nat} (hk : k ≤ xs.length) (hl : ∀ i (h : i < xs.length), i < k → xs[i].less f = true) (he : ∀ h : k < xs.length, xs[k].less f = false ∧ xs[k] ≠ f) : insF xs f = xs.take k ++ f :: xs.drop k := by
  rw [insF_at xs f k hk hl]
  congr 1
  by_cases h : k < xs.length
  · obtain ⟨h1, h2⟩ := he h
    rw [List.drop_eq_getElem_cons h, insF, if_neg (by simp [h1]), if_neg h2]
  · rw [List.drop_eq_nil_of_le (by omega)]; rfl
theorem mem_insF {g f : Fact} : ∀ {l : List Fact}, g ∈ insF l f ↔ g = f ∨ g ∈ l
  | [] => by simp [insF]
  | x :: r => by
    unfold insF
    split
    · simp only [List.mem_cons, mem_insF]
      constructor
      · rintro (h | h | h)
        · exact .inr (.inl h)
        · exact .inl h
        · exact .inr (.inr h)
      · rintro (h | h | h)
        · exact .inr (.inl h)
        · exact .inl h
        · exact .inr (.inr h)
    · split
      · rename_i h
        subst h
        simp only [List.mem_cons]
        constructor
        · exact fun h => .inr h
        · rintro (h | h)
          · exact .inl h
          · exact h
      · simp only [List.mem_cons]
theorem insF_len (l : List Fact) (f : Fact) : (insF l f).length ≤ l.length + 1 := by
  induction l with
  | nil => simp [insF]
  | cons x r ih =>
    unfold insF
    split
    · simp only [List.length_cons]; omega
    · split <;> simp
/-- The atoms as facts, in order, each once. -/
def frz (bd : List Atom) : List Fact := bd.foldl (fun l a => insF l a.fact) []
theorem frz_take {bd : List Atom} {k : Nat} (hk : k < bd.length) : frz (bd.take (k + 1)) = insF (frz (bd.take k)) bd[k].fact := by
  unfold frz
  rw [List.take_succ_eq_append_getElem hk, List.foldl_append]; rfl
theorem frz_len (bd : List Atom) : (frz bd).length ≤ bd.length := by
  suffices h : ∀ (bd : List Atom) (l : List Fact), (bd.foldl (fun l a => insF l a.fact) l).length ≤ l.length + bd.length by simpa [frz] using h bd []
  intro bd
  induction bd with
  | nil => intro l; simp
  | cons a r ih =>
    intro l
    have h1 := ih (insF l a.fact)
    have h2 := insF_len l a.fact
    simp only [List.foldl_cons, List.length_cons]
    omega
theorem mem_frz {g : Fact} {bd : List Atom} : g ∈ frz bd ↔ ∃ a ∈ bd, g = a.fact := by
  suffices h : ∀ (bd : List Atom) (l : List Fact), g ∈ bd.foldl (fun l a => insF l a.fact) l ↔ g ∈ l ∨ ∃ a ∈ bd, g = a.fact by
    have := h bd []
    simpa [frz] using this
  intro bd
  induction bd with
  | nil => intro l; simp
  | cons a r ih =>
    intro l
    simp only [List.foldl_cons, ih, mem_insF, List.mem_cons]
    constructor
    · rintro ((h | h) | ⟨b, hb, h⟩)
      · exact .inr ⟨a, .inl rfl, h⟩
      · exact .inl h
      · exact .inr ⟨b, .inr hb, h⟩
    · rintro (h | ⟨b, rfl | hb, h⟩)
      · exact .inl (.inr h)
      · exact .inl (.inl h)
      · exact .inr ⟨b, hb, h⟩

/-- What a mapping has for a variable. -/
def var (m : List Int) (v : Int) : Int := m.getD v.toNat 0
def Atom.by (m : List Int) (a : Atom) : Atom := ⟨a.rel, var m a.x, var m a.y⟩
theorem var_at {m : List Int} {v : Int} {n : Nat} (hv : v = n) (hn : n < m.length) : var m v = m[n] := by
  subst hv; unfold var; rw [Int.toNat_natCast, getD_at hn]
theorem fact_inj {a b : Atom} : a.fact = b.fact ↔ a = b := by
  cases a; cases b; simp [Atom.fact]
theorem by_frz {m : List Int} {a : Atom} {bd : List Atom} : (a.by m).fact ∈ frz bd ↔ a.by m ∈ bd := by
  rw [mem_frz]
  constructor
  · rintro ⟨b, hb, h⟩
    rw [fact_inj] at h
    rw [h]; exact hb
  · exact fun h => ⟨_, h, rfl⟩
def inA (bd : List Atom) (a : Atom) : Bool := decide (a ∈ bd)
theorem inA_iff {bd : List Atom} {a : Atom} : inA bd a = true ↔ a ∈ bd := by unfold inA; simp
def isHom (hd1 : List Int) (bd1 : List Atom) (hd2 : List Int) (bd2 : List Atom) (m : List Int) : Bool := bd1.all (fun a => inA bd2 (a.by m)) && decide (hd1.map (var m) = hd2)
def chkHom (q1 : Int) (hd1 : List Int) (bd1 : List Atom) (q2 : Int) (hd2 : List Int) (bd2 : List Atom) (m : List Int) : Bool :=
  (vrule q1 hd1 bd1 && vrule q2 hd2 bd2 && decide ((m.length : Int) = q1)) && (m.all (hasV q2) && isHom hd1 bd1 hd2 bd2 m)
theorem vrule_parts {q : Int} {hd : List Int} {bd : List Atom} (h : vrule q hd bd = true) : 1 ≤ q ∧ q ≤ 6 ∧ hd.length ≤ 6 ∧ 1 ≤ bd.length ∧ bd.length ≤ 6 ∧ (∀ a ∈ bd, 0 ≤ a.rel ∧ a.rel ≤ 3 ∧ 0 ≤ a.x ∧ a.x < q ∧ 0 ≤ a.y ∧ a.y < q) ∧ ∀ v ∈ hd, 0 ≤ v ∧ v < q := by
  unfold vrule at h
  simp only [Bool.and_eq_true, decide_eq_true_eq, List.all_eq_true] at h
  obtain ⟨⟨⟨⟨⟨h1, h2⟩, h3⟩, h4, h5⟩, h6⟩, h7⟩ := h
  have hb : ∀ a ∈ bd, 0 ≤ a.rel ∧ a.rel ≤ 3 ∧ 0 ≤ a.x ∧ a.x < q ∧ 0 ≤ a.y ∧ a.y < q := fun a ha => by
    have := h6 a ha
    simp only [Atom.ok, hasV, Bool.and_eq_true, decide_eq_true_eq] at this
    omega
  refine ⟨h1, h2, h3, h4, h5, hb, fun v hv => ?_⟩
  have := h7 v hv
  rw [List.any_eq_true] at this
  obtain ⟨a, ha, h⟩ := this
  have := hb a ha
  simp only [Atom.has, Bool.or_eq_true, beq_iff_eq] at h
  omega
/-- The first difference of two lists. -/
def cmpI : List Int → List Int → Int
  | a :: r, b :: s => if a = b then cmpI r s else a - b
  | _, _ => 0
theorem cmpI_zero : ∀ {a b : List Int}, a.length = b.length → (cmpI a b = 0 ↔ a = b)
  | [], [], _ => by simp [cmpI]
  | a :: r, b :: s, h => by
    unfold cmpI
    split
    · rename_i he
      subst he
      rw [cmpI_zero (by simpa using h)]
      simp
    · rename_i he
      constructor
      · intro h; omega
      · intro h; injection h with h _; exact absurd h he
  | [], _ :: _, h => by simp at h
  | _ :: _, [], h => by simp at h
theorem cmpI_at : ∀ {a b : List Int} {k : Nat} (ha : k < a.length) (hb : k < b.length), (∀ i (h1 : i < a.length) (h2 : i < b.length), i < k → a[i] = b[i]) → a[k] ≠ b[k] → cmpI a b = a[k] - b[k]
  | a :: r, b :: s, 0, _, _, _, hn => by
    simp only [List.getElem_cons_zero] at hn ⊢
    rw [cmpI, if_neg hn]
  | a :: r, b :: s, k + 1, h1, h2, he, hn => by
    have h0 := he 0 (by simp) (by simp) (by omega)
    simp only [List.getElem_cons_zero] at h0
    simp only [List.getElem_cons_succ] at hn ⊢
    rw [cmpI, if_pos h0]
    exact cmpI_at (by simpa using h1) (by simpa using h2) (fun i hi hj hk => by have := he (i + 1) (by simpa using hi) (by simpa using hj) (by omega); simpa using this) hn
  | [], _, k, h, _, _, _ => by simp at h
  | _ :: _, [], k, _, h, _, _ => by simp at h
/- Plain maths of matching: how a mapping is extended atom by atom, over the facts in order. -/

/-- A variable has no other value than x. -/
def fitV (m : List Int) (v x : Int) : Bool := decide (var m v < 0) || var m v == x
def putV (m : List Int) (v x : Int) : List Int := m.set v.toNat x
theorem putV_len (m : List Int) (v x : Int) : (putV m v x).length = m.length := by simp [putV]
/-- A mapping with which an atom is a fact. -/
def fit (m : List Int) (a : Atom) (f : Fact) : Option (List Int) :=
  if f.rel = a.rel ∧ fitV m a.x f.x = true then (if fitV (putV m a.x f.x) a.y f.y = true then some (putV (putV m a.x f.x) a.y f.y) else none) else none
/-- All mappings that extend m, in the order of the facts. -/
def mts : List Atom → List Fact → List Int → List (List Int)
  | [], _, m => [m]
  | a :: r, fs, m => fs.flatMap fun f => match fit m a f with
    | some m' => mts r fs m'
    | none => []
def step (r : List Atom) (fs : List Fact) (m : List Int) (a : Atom) (f : Fact) : List (List Int) := match fit m a f with
  | some m' => mts r fs m'
  | none => []
theorem mts_cons (a : Atom) (r : List Atom) (fs : List Fact) (m : List Int) : mts (a :: r) fs m = fs.flatMap (step r fs m a) := rfl
theorem mts_at {bd : List Atom} {i : Nat} (h : i < bd.length) (fs : List Fact) (m : List Int) : mts (bd.drop i) fs m = fs.flatMap (step (bd.drop (i + 1)) fs m bd[i]) := by
  rw [List.drop_eq_getElem_cons h]; rfl
theorem mts_end {bd : List Atom} {i : Nat} (h : bd.length ≤ i) (fs : List Fact) (m : List Int) : mts (bd.drop i) fs m = [m] := by
  rw [List.drop_eq_nil_of_le h]; rfl
theorem flat_take {X Y : Type} {f : X → List Y} {xs : List X} {k : Nat} (h : k < xs.length) : (xs.take (k + 1)).flatMap f = (xs.take k).flatMap f ++ f xs[k] := by
  rw [List.take_succ_eq_append_getElem h, List.flatMap_append]; simp
theorem step_none {r : List Atom} {fs : List Fact} {m : List Int} {a : Atom} {f : Fact} (h : fit m a f = none) : step r fs m a f = [] := by unfold step; rw [h]
theorem step_some {r : List Atom} {fs : List Fact} {m m' : List Int} {a : Atom} {f : Fact} (h : fit m a f = some m') : step r fs m a f = mts r fs m' := by unfold step; rw [h]
theorem fit_len {m m' : List Int} {a : Atom} {f : Fact} (h : fit m a f = some m') : m'.length = m.length := by
  unfold fit at h
  split at h
  · split at h
    · injection h with h; subst h; rw [putV_len, putV_len]
    · cases h
  · cases h
/-- What is found, cut at a number: cut again it is the same. -/
theorem take_app {X : Type} (k : Nat) (a b : List X) : ((a.take k) ++ b).take k = (a ++ b).take k := by
  rw [List.take_append, List.take_append, List.take_take, Nat.min_self, List.length_take]
  by_cases h : k ≤ a.length
  · rw [Nat.min_eq_left h, Nat.sub_self, show k - a.length = 0 by omega]
  · rw [Nat.min_eq_right (by omega)]
theorem take_full {X : Type} {k : Nat} {a : List X} (h : a.length = k) (b : List X) : (a ++ b).take k = a := by
  rw [← h, List.take_left']
  rfl
/-- The values put back are as they were. -/
theorem putV_back {m : List Int} {v x : Int} (hv : 0 ≤ v) (hl : v.toNat < m.length) : putV (putV m v x) v (var m v) = m := by
  unfold putV var
  rw [List.set_set]
  refine List.ext_getElem (by simp) fun i h1 h2 => ?_
  rw [List.getElem_set]
  split
  · rename_i e; subst e; rw [getD_at hl]
  · rfl
theorem var_put {m : List Int} {v x : Int} (hl : v.toNat < m.length) : var (putV m v x) v = x := by
  unfold putV var
  rw [getD_at (by simpa using hl), List.getElem_set_self]
/- Plain maths of the homomorphism that is found: the head is bound first, then the atoms, each to the first fact that is possible. -/

/-- Variables bound one after the other. -/
def bindH : List Int → List Int → List Int → Option (List Int)
  | [], [], m => some m
  | v :: vs, x :: xs, m => if fitV m v x = true then bindH vs xs (putV m v x) else none
  | _, _, _ => none
/-- The homomorphism, where a variable without a value has -1. -/
def hom1 (q1 : Int) (hd1 : List Int) (bd1 : List Atom) (hd2 : List Int) (bd2 : List Atom) : Option (List Int) :=
  (bindH hd1 hd2 (List.replicate q1.toNat (-1))).bind fun m => (mts bd1 (frz bd2) m).head?
def homO (q1 : Int) (hd1 : List Int) (bd1 : List Atom) (hd2 : List Int) (bd2 : List Atom) : Option (List Int) := (hom1 q1 hd1 bd1 hd2 bd2).map (List.map (fun x => max x 0))
/-- Entries of a mapping. -/
def Rng (B : Int) (m : List Int) : Prop := ∀ x ∈ m, -1 ≤ x ∧ x < B
theorem Rng.mono {B C : Int} {m : List Int} (h : Rng B m) (hb : B ≤ C) : Rng C m := fun x hx => ⟨(h x hx).1, by have := (h x hx).2; omega⟩
theorem Rng.put {B v x : Int} {m : List Int} (h : Rng B m) (h0 : 0 ≤ x) (h1 : x < B) : Rng B (putV m v x) := fun y hy => by
  rcases List.mem_or_eq_of_mem_set hy with h2 | h2
  · exact h y h2
  · subst h2; exact ⟨by omega, h1⟩
theorem rng_new {B : Int} (hB : 0 ≤ B) (n : Nat) : Rng B (List.replicate n (-1)) := fun x hx => by
  obtain ⟨_, rfl⟩ := List.mem_replicate.1 hx
  exact ⟨by omega, by omega⟩
theorem Rng.var {B v : Int} {m : List Int} (h : Rng B m) (h0 : 0 ≤ v) (h1 : v < m.length) : -1 ≤ var m v ∧ var m v < B := by
  obtain ⟨n, rfl⟩ : ∃ n : Nat, v = n := ⟨v.toNat, by omega⟩
  rw [var_at rfl (by omega)]
  exact h _ (List.getElem_mem _)
theorem bindH_len : ∀ {vs xs m m' : List Int}, bindH vs xs m = some m' → m'.length = m.length
  | [], [], m, m', h => by unfold bindH at h; cases h; rfl
  | v :: vs, x :: xs, m, m', h => by
    unfold bindH at h
    split at h
    · rw [bindH_len h, putV_len]
    · cases h
  | [], _ :: _, _, _, h => by unfold bindH at h; cases h
  | _ :: _, [], _, _, h => by unfold bindH at h; cases h
theorem bindH_rng {B : Int} : ∀ {vs xs m m' : List Int}, bindH vs xs m = some m' → Rng B m → (∀ x ∈ xs, 0 ≤ x ∧ x < B) → Rng B m'
  | [], [], m, m', h, hm, _ => by unfold bindH at h; cases h; exact hm
  | v :: vs, x :: xs, m, m', h, hm, hx => by
    unfold bindH at h
    split at h
    · exact bindH_rng h (hm.put (hx x (by simp)).1 (hx x (by simp)).2) fun y hy => hx y (by simp [hy])
    · cases h
  | [], _ :: _, _, _, h, _, _ => by unfold bindH at h; cases h
  | _ :: _, [], _, _, h, _, _ => by unfold bindH at h; cases h
theorem bindH_ne {vs xs m : List Int} (h : vs.length ≠ xs.length) : bindH vs xs m = none := by
  induction vs generalizing xs m with
  | nil => cases xs with
    | nil => exact absurd rfl h
    | cons => rfl
  | cons v vs ih => cases xs with
    | nil => rfl
    | cons x xs =>
      unfold bindH
      split
      · exact ih (by simpa using h)
      · rfl
/-- Binding, at an index. -/
theorem bindH_end {vs xs m : List Int} {k : Nat} (h1 : vs.length ≤ k) (h2 : xs.length = vs.length) : bindH (vs.drop k) (xs.drop k) m = some m := by
  rw [List.drop_eq_nil_of_le h1, List.drop_eq_nil_of_le (by omega)]; rfl
theorem bindH_step {vs xs m : List Int} {k : Nat} (h1 : k < vs.length) (h2 : k < xs.length) (h : fitV m vs[k] xs[k] = true) : bindH (vs.drop k) (xs.drop k) m = bindH (vs.drop (k + 1)) (xs.drop (k + 1)) (putV m vs[k] xs[k]) := by
  rw [List.drop_eq_getElem_cons h1, List.drop_eq_getElem_cons h2]
  conv => lhs; unfold bindH
  rw [if_pos h]
theorem bindH_stop {vs xs m : List Int} {k : Nat} (h1 : k < vs.length) (h2 : k < xs.length) (h : fitV m vs[k] xs[k] = false) : bindH (vs.drop k) (xs.drop k) m = none := by
  rw [List.drop_eq_getElem_cons h1, List.drop_eq_getElem_cons h2]
  conv => lhs; unfold bindH
  rw [if_neg (by rw [h]; simp)]
/-- An atom is matched by binding its two variables. -/
theorem fit_bind {m : List Int} {a : Atom} {f : Fact} (h : f.rel = a.rel) : fit m a f = bindH [a.x, a.y] [f.x, f.y] m := by
  unfold fit bindH bindH bindH
  by_cases h1 : fitV m a.x f.x = true
  · rw [if_pos ⟨h, h1⟩, if_pos h1]
  · rw [if_neg (fun k => h1 k.2), if_neg h1]
theorem fit_rel {m : List Int} {a : Atom} {f : Fact} (h : f.rel ≠ a.rel) : fit m a f = none := by
  unfold fit
  rw [if_neg (fun k => h k.1)]
theorem fit_rng {B : Int} {m m' : List Int} {a : Atom} {f : Fact} (h : fit m a f = some m') (hm : Rng B m) (h1 : 0 ≤ f.x ∧ f.x < B) (h2 : 0 ≤ f.y ∧ f.y < B) : Rng B m' := by
  by_cases hr : f.rel = a.rel
  · rw [fit_bind hr] at h
    exact bindH_rng h hm fun x hx => by
      simp only [List.mem_cons, List.not_mem_nil, or_false] at hx
      rcases hx with rfl | rfl
      · exact h1
      · exact h2
  · rw [fit_rel hr] at h; cases h
theorem mem_step {r : List Atom} {fs : List Fact} {m x : List Int} {a : Atom} {f : Fact} (h : x ∈ step r fs m a f) : ∃ m', fit m a f = some m' ∧ x ∈ mts r fs m' := by
  unfold step at h
  split at h
  · rename_i m' e; exact ⟨m', e, h⟩
  · cases h
theorem mts_len : ∀ {bd : List Atom} {fs : List Fact} {m m' : List Int}, m' ∈ mts bd fs m → m'.length = m.length
  | [], fs, m, m', h => by simp [mts] at h; rw [h]
  | a :: r, fs, m, m', h => by
    rw [mts_cons] at h
    obtain ⟨f, _, h⟩ := List.mem_flatMap.1 h
    obtain ⟨m1, e, h⟩ := mem_step h
    rw [mts_len h, fit_len e]
theorem mts_rng {B : Int} : ∀ {bd : List Atom} {fs : List Fact} {m m' : List Int}, m' ∈ mts bd fs m → Rng B m → (∀ f ∈ fs, (0 ≤ f.x ∧ f.x < B) ∧ 0 ≤ f.y ∧ f.y < B) → Rng B m'
  | [], fs, m, m', h, hm, _ => by simp [mts] at h; rw [h]; exact hm
  | a :: r, fs, m, m', h, hm, hf => by
    rw [mts_cons] at h
    obtain ⟨f, h1, h⟩ := List.mem_flatMap.1 h
    obtain ⟨m1, e, h⟩ := mem_step h
    exact mts_rng h (fit_rng e hm (hf f h1).1 (hf f h1).2) hf
/-- The first of many. -/
theorem flat_none {X Y : Type} {f : X → List Y} {xs : List X} (h : ∀ i (hi : i < xs.length), f xs[i] = []) : xs.flatMap f = [] := by
  rw [List.flatMap_eq_nil_iff]
  intro x hx
  obtain ⟨i, hi, rfl⟩ := List.getElem_of_mem hx
  exact h i hi
theorem flat_first {X Y : Type} {f : X → List Y} {xs : List X} {k : Nat} {y : Y} (hk : k < xs.length) (h : ∀ i (hi : i < xs.length), i < k → f xs[i] = []) (hy : (f xs[k]).head? = some y) : (xs.flatMap f).head? = some y := by
  rw [← List.take_append_drop k xs, List.flatMap_append, List.drop_eq_getElem_cons hk, List.flatMap_cons]
  have : (xs.take k).flatMap f = [] := flat_none fun i hi => by
    simp only [List.length_take] at hi
    rw [List.getElem_take]
    exact h i (by omega) (by omega)
  rw [this, List.nil_append]
  rw [List.head?_append, hy]
  rfl
theorem head_nil {X : Type} {l : List X} (h : l.head? = none) : l = [] := by
  cases l with
  | nil => rfl
  | cons => cases h
/-- The mapping that is found has the query's length and entries in range. -/
theorem hom1_len {q1 : Int} {hd1 hd2 m : List Int} {bd1 bd2 : List Atom} (h : hom1 q1 hd1 bd1 hd2 bd2 = some m) : m.length = q1.toNat := by
  unfold hom1 at h
  obtain ⟨m0, h0, h1⟩ := Option.bind_eq_some_iff.1 h
  rw [mts_len (List.mem_of_head? h1), bindH_len h0, List.length_replicate]
theorem frz_rng {B : Int} {bd : List Atom} (h : ∀ a ∈ bd, 0 ≤ a.x ∧ a.x < B ∧ 0 ≤ a.y ∧ a.y < B) : ∀ f ∈ frz bd, (0 ≤ f.x ∧ f.x < B) ∧ 0 ≤ f.y ∧ f.y < B := fun f hf => by
  obtain ⟨a, ha, rfl⟩ := mem_frz.1 hf
  have := h a ha
  exact ⟨⟨this.1, this.2.1⟩, this.2.2⟩
theorem hom1_rng {q1 B : Int} {hd1 hd2 m : List Int} {bd1 bd2 : List Atom} (h : hom1 q1 hd1 bd1 hd2 bd2 = some m) (hB : 0 ≤ B) (hh : ∀ x ∈ hd2, 0 ≤ x ∧ x < B) (hb : ∀ a ∈ bd2, 0 ≤ a.x ∧ a.x < B ∧ 0 ≤ a.y ∧ a.y < B) : Rng B m := by
  unfold hom1 at h
  obtain ⟨m0, h0, h1⟩ := Option.bind_eq_some_iff.1 h
  exact mts_rng (List.mem_of_head? h1) (bindH_rng h0 (rng_new hB _) hh) (frz_rng hb)
/-- A query without an atom. -/
def lessA (bd : List Atom) (k : Nat) : List Atom := bd.take k ++ bd.drop (k + 1)
theorem lessA_len {bd : List Atom} {k : Nat} (hk : k < bd.length) : (lessA bd k).length + 1 = bd.length := by simp [lessA]; omega
/-- An atom without which a query has the same answers. -/
def redAt (q : Int) (hd : List Int) (bd : List Atom) (k : Nat) : Bool := vrule q hd (lessA bd k) && (homO q hd bd hd (lessA bd k)).isSome
def redF (q : Int) (hd : List Int) (bd : List Atom) : Nat → Nat → Int
  | 0, _ => -1
  | d + 1, k => if redAt q hd bd k then (k : Int) else redF q hd bd d (k + 1)
/-- The first such atom, or -1. -/
def red (q : Int) (hd : List Int) (bd : List Atom) : Int := redF q hd bd bd.length 0
theorem redF_yes {q : Int} {hd : List Int} {bd : List Atom} {d k : Nat} (h : redAt q hd bd k = true) : redF q hd bd (d + 1) k = k := by unfold redF; rw [if_pos h]
theorem redF_no {q : Int} {hd : List Int} {bd : List Atom} {d k : Nat} (h : redAt q hd bd k = false) : redF q hd bd (d + 1) k = redF q hd bd d (k + 1) := by
  conv => lhs; unfold redF
  rw [if_neg (by rw [h]; simp)]
theorem redF_out {q : Int} {hd : List Int} {bd : List Atom} : ∀ {d k : Nat}, redF q hd bd d k = -1 ∨ ∃ j : Nat, redF q hd bd d k = j ∧ k ≤ j ∧ j < k + d ∧ redAt q hd bd j = true
  | 0, _ => .inl rfl
  | d + 1, k => by
    by_cases h : redAt q hd bd k = true
    · exact .inr ⟨k, redF_yes h, by omega, by omega, h⟩
    · rw [redF_no (by simpa using h)]
      rcases redF_out (q := q) (hd := hd) (bd := bd) (d := d) (k := k + 1) with h1 | ⟨j, h1, h2, h3, h4⟩
      · exact .inl h1
      · exact .inr ⟨j, h1, by omega, by omega, h4⟩
theorem red_out {q : Int} {hd : List Int} {bd : List Atom} : red q hd bd = -1 ∨ ∃ j : Nat, red q hd bd = j ∧ j < bd.length ∧ redAt q hd bd j = true := by
  rcases redF_out (q := q) (hd := hd) (bd := bd) (d := bd.length) (k := 0) with h1 | ⟨j, h1, _, h3, h4⟩
  · exact .inl h1
  · exact .inr ⟨j, h1, by omega, h4⟩
/-- The first redundant atom is taken away again and again. -/
def mini (q : Int) (hd : List Int) : Nat → List Atom → List Atom
  | 0, bd => bd
  | n + 1, bd => if red q hd bd < 0 then bd else mini q hd n (lessA bd (red q hd bd).toNat)
theorem mini_stop {q : Int} {hd : List Int} {n : Nat} {bd : List Atom} (h : red q hd bd < 0) : mini q hd n bd = bd := by
  cases n with
  | zero => rfl
  | succ n => unfold mini; rw [if_pos h]
theorem mini_step {q : Int} {hd : List Int} {n : Nat} {bd : List Atom} {j : Nat} (h : red q hd bd = j) : mini q hd (n + 1) bd = mini q hd n (lessA bd j) := by
  conv => lhs; unfold mini
  rw [if_neg (by omega), h]
  rfl
/-- What has a value keeps it. -/
def Ext (m m' : List Int) : Prop := m.length = m'.length ∧ ∀ n : Nat, n < m.length → 0 ≤ m.getD n 0 → m'.getD n 0 = m.getD n 0
theorem Ext.refl (m : List Int) : Ext m m := ⟨rfl, fun _ _ _ => rfl⟩
theorem Ext.trans {a b c : List Int} (h : Ext a b) (k : Ext b c) : Ext a c :=
  ⟨h.1.trans k.1, fun n hn h0 => by
    have h1 := h.2 n hn h0
    rw [k.2 n (by rw [← h.1]; exact hn) (by rw [h1]; exact h0), h1]⟩
theorem Ext.var {m m' : List Int} {v : Int} (h : Ext m m') (hv : v.toNat < m.length) (h0 : 0 ≤ var m v) : var m' v = var m v := h.2 _ hv h0
theorem ext_put {m : List Int} {v x : Int} (h : fitV m v x = true) : Ext m (putV m v x) := by
  refine ⟨(putV_len m v x).symm, fun n hn h0 => ?_⟩
  unfold putV
  by_cases e : v.toNat = n
  · subst e
    rw [List.getD_eq_getElem?_getD, List.getElem?_set_self hn]
    unfold fitV var at h
    simp only [Bool.or_eq_true, decide_eq_true_eq, beq_iff_eq] at h
    rcases h with h | h
    · omega
    · exact h.symm
  · rw [List.getD_eq_getElem?_getD, List.getElem?_set_ne e, ← List.getD_eq_getElem?_getD]
theorem bindH_ext : ∀ {vs xs m m' : List Int}, bindH vs xs m = some m' → (∀ v ∈ vs, v.toNat < m.length) → (∀ x ∈ xs, 0 ≤ x) → Ext m m' ∧ vs.map (var m') = xs
  | [], [], m, m', h, _, _ => by unfold bindH at h; cases h; exact ⟨Ext.refl _, rfl⟩
  | v :: vs, x :: xs, m, m', h, hv, hx => by
    unfold bindH at h
    split at h
    · rename_i hf
      have h0 := hv v (by simp)
      obtain ⟨h1, h2⟩ := bindH_ext h (fun u hu => by rw [putV_len]; exact hv u (by simp [hu])) fun y hy => hx y (by simp [hy])
      refine ⟨(ext_put hf).trans h1, ?_⟩
      rw [List.map_cons, h2, h1.var (by rw [putV_len]; exact h0) (by rw [var_put h0]; exact hx x (by simp)), var_put h0]
    · cases h
  | [], _ :: _, _, _, h, _, _ => by unfold bindH at h; cases h
  | _ :: _, [], _, _, h, _, _ => by unfold bindH at h; cases h
theorem fit_ext {m m' : List Int} {a : Atom} {f : Fact} (h : fit m a f = some m') (hx : a.x.toNat < m.length) (hy : a.y.toNat < m.length) (h0 : 0 ≤ f.x) (h1 : 0 ≤ f.y) : Ext m m' ∧ (a.by m').fact = f := by
  by_cases hr : f.rel = a.rel
  · rw [fit_bind hr] at h
    obtain ⟨h2, h3⟩ := bindH_ext h (fun v hv => by
      simp only [List.mem_cons, List.not_mem_nil, or_false] at hv
      rcases hv with rfl | rfl
      · exact hx
      · exact hy) (fun x hx => by
      simp only [List.mem_cons, List.not_mem_nil, or_false] at hx
      rcases hx with rfl | rfl
      · exact h0
      · exact h1)
    simp only [List.map_cons, List.map_nil, List.cons.injEq, and_true] at h3
    refine ⟨h2, ?_⟩
    unfold Atom.by Atom.fact
    rw [h3.1, h3.2, ← hr]
  · rw [fit_rel hr] at h; cases h
theorem mts_ext {fs : List Fact} : ∀ {bd : List Atom} {m m' : List Int}, m' ∈ mts bd fs m → (∀ a ∈ bd, a.x.toNat < m.length ∧ a.y.toNat < m.length) → (∀ f ∈ fs, 0 ≤ f.x ∧ 0 ≤ f.y) → Ext m m' ∧ ∀ a ∈ bd, (a.by m').fact ∈ fs ∧ 0 ≤ var m' a.x ∧ 0 ≤ var m' a.y
  | [], m, m', h, _, _ => by
    simp [mts] at h
    subst h
    exact ⟨Ext.refl _, fun a ha => by cases ha⟩
  | a :: r, m, m', h, ha, hf => by
    rw [mts_cons] at h
    obtain ⟨f, h1, h⟩ := List.mem_flatMap.1 h
    obtain ⟨m1, e, h⟩ := mem_step h
    obtain ⟨k1, k2⟩ := ha a (by simp)
    obtain ⟨k3, k4⟩ := hf f h1
    obtain ⟨e1, e2⟩ := fit_ext e k1 k2 k3 k4
    have hl : m1.length = m.length := fit_len e
    obtain ⟨e3, e4⟩ := mts_ext (bd := r) h (fun b hb => by rw [hl]; exact ha b (by simp [hb])) hf
    have v1 : var m1 a.x = f.x := by rw [← e2]; rfl
    have v2 : var m1 a.y = f.y := by rw [← e2]; rfl
    have w1 : var m' a.x = f.x := by rw [e3.var (by rw [hl]; exact k1) (by rw [v1]; exact k3), v1]
    have w2 : var m' a.y = f.y := by rw [e3.var (by rw [hl]; exact k2) (by rw [v2]; exact k4), v2]
    refine ⟨e1.trans e3, fun b hb => ?_⟩
    rcases List.mem_cons.1 hb with rfl | hb
    · refine ⟨?_, by rw [w1]; exact k3, by rw [w2]; exact k4⟩
      have : (b.by m').fact = f := by
        rw [← e2]
        unfold Atom.by Atom.fact
        rw [w1, w2, v1, v2]
      rw [this]; exact h1
    · exact e4 b hb
theorem var_max {m : List Int} {v : Int} (h : 0 ≤ var m v) : var (m.map (fun x => max x 0)) v = var m v := by
  unfold var at h ⊢
  rw [List.getD_eq_getElem?_getD, List.getElem?_map]
  rw [List.getD_eq_getElem?_getD] at h ⊢
  cases e : m[v.toNat]? with
  | none => rfl
  | some x =>
    rw [e] at h
    simp only [Option.getD_some] at h
    show max x 0 = x
    omega
/-- m has no value that M has not. -/
def Le (m M : List Int) : Prop := m.length = M.length ∧ ∀ n : Nat, n < M.length → m.getD n 0 < 0 ∨ m.getD n 0 = M.getD n 0
theorem Le.fit {m M : List Int} {v : Int} (h : Le m M) (hv : v.toNat < M.length) : fitV m v (var M v) = true := by
  unfold fitV var
  rcases h.2 _ hv with h1 | h1
  · rw [decide_eq_true h1]; rfl
  · rw [h1]; simp
theorem Le.put {m M : List Int} {v : Int} (h : Le m M) (hv : v.toNat < M.length) : Le (putV m v (var M v)) M := by
  refine ⟨by rw [putV_len]; exact h.1, fun n hn => ?_⟩
  unfold putV var
  by_cases e : v.toNat = n
  · subst e
    right
    rw [List.getD_eq_getElem?_getD, List.getElem?_set_self (by rw [h.1]; exact hv)]
    rfl
  · rw [List.getD_eq_getElem?_getD, List.getElem?_set_ne e, ← List.getD_eq_getElem?_getD]
    exact h.2 n hn
theorem bindH_le {M : List Int} : ∀ {vs m : List Int}, Le m M → (∀ v ∈ vs, v.toNat < M.length) → ∃ m', bindH vs (vs.map (var M)) m = some m' ∧ Le m' M
  | [], m, h, _ => ⟨m, rfl, h⟩
  | v :: vs, m, h, hv => by
    have h0 := hv v (by simp)
    obtain ⟨m', h1, h2⟩ := bindH_le (vs := vs) (h.put h0) fun u hu => hv u (by simp [hu])
    refine ⟨m', ?_, h2⟩
    rw [List.map_cons]
    conv => lhs; unfold bindH
    rw [if_pos (h.fit h0)]
    exact h1
theorem fit_le {m M : List Int} {a : Atom} (h : Le m M) (hx : a.x.toNat < M.length) (hy : a.y.toNat < M.length) : ∃ m', fit m a (a.by M).fact = some m' ∧ Le m' M := by
  rw [fit_bind (a := a) (f := (a.by M).fact) rfl]
  exact bindH_le (vs := [a.x, a.y]) h fun v hv => by
    simp only [List.mem_cons, List.not_mem_nil, or_false] at hv
    rcases hv with rfl | rfl
    · exact hx
    · exact hy
theorem mts_le {M : List Int} {fs : List Fact} : ∀ {bd : List Atom} {m : List Int}, Le m M → (∀ a ∈ bd, a.x.toNat < M.length ∧ a.y.toNat < M.length ∧ (a.by M).fact ∈ fs) → ∃ m', m' ∈ mts bd fs m ∧ Le m' M
  | [], m, h, _ => ⟨m, by simp [mts], h⟩
  | a :: r, m, h, ha => by
    obtain ⟨h1, h2, h3⟩ := ha a (by simp)
    obtain ⟨m1, e, hl⟩ := fit_le h h1 h2
    obtain ⟨m', h4, h5⟩ := mts_le (bd := r) hl fun b hb => ha b (by simp [hb])
    refine ⟨m', ?_, h5⟩
    rw [mts_cons]
    exact List.mem_flatMap.2 ⟨_, h3, by rw [step_some e]; exact h4⟩
theorem le_new (M : List Int) : Le (List.replicate M.length (-1)) M := by
  refine ⟨by simp, fun n hn => ?_⟩
  left
  rw [List.getD_eq_getElem?_getD, List.getElem?_replicate, if_pos hn]
  decide
/-- The identity. -/
def idM (q : Int) : List Int := (List.range q.toNat).map (fun n : Nat => (n : Int))
theorem idM_len (q : Int) : (idM q).length = q.toNat := by simp [idM]
theorem var_idM {q v : Int} (h0 : 0 ≤ v) (h1 : v < q) : var (idM q) v = v := by
  unfold var idM
  rw [List.getD_eq_getElem?_getD, List.getElem?_map, List.getElem?_range (by omega)]
  show ((v.toNat : Nat) : Int) = v
  omega
theorem by_idM {q : Int} {a : Atom} (h : 0 ≤ a.x ∧ a.x < q ∧ 0 ≤ a.y ∧ a.y < q) : a.by (idM q) = a := by
  unfold Atom.by
  rw [var_idM h.1 h.2.1, var_idM h.2.2.1 h.2.2.2]
theorem map_idM {q : Int} {hd : List Int} (h : ∀ v ∈ hd, 0 ≤ v ∧ v < q) : hd.map (var (idM q)) = hd := by
  have : hd.map (var (idM q)) = hd.map id := List.map_congr_left fun v hv => var_idM (h v hv).1 (h v hv).2
  rw [this, List.map_id]
end Go.Proofs.YtahclhldpcboeaaGreatDoor
