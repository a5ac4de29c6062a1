/- Plain maths of homomorphisms: frozen atoms, mappings. -/
import Derived.Test.YtahclhldpcboeaaRelP
namespace Go.Proofs.Ytahclhldpcboeaa

def Atom.fact (a : Atom) : Fact := ⟨a.rel, a.x, a.y⟩
/-- A fact put into an ascending list, unless it is there. -/
def insF : List Fact → Fact → List Fact
  | [], f => [f]
  | x :: r, f => if x.less f then x :: insF r f else if x = f then x :: r else f :: x :: r
theorem insF_at : ∀ (xs : List Fact) (f : Fact) (k : Nat), k ≤ xs.length → (∀ i (h : i < xs.length), i < k → xs[i].less f = true) → insF xs f = xs.take k ++ insF (xs.drop k) f
  | xs, f, 0, _, _ => by simp
  | [], f, k + 1, h, _ => by simp at h
  | x :: r, f, k + 1, h, hl => by
    have h0 : x.less f = true := hl 0 (by simp) (by omega)
    have := insF_at r f k (by simpa using h) (fun i hi hk => by have := hl (i + 1) (by simpa using hi) (by omega); simpa using this)
    rw [insF, if_pos h0, this]; simp
theorem insF_same {xs : List Fact} {f : Fact} {k : Nat} (hk : k < xs.length) (hl : ∀ i (h : i < xs.length), i < k → xs[i].less f = true) (hn : xs[k].less f = false) (he : xs[k] = f) : insF xs f = xs := by
  rw [insF_at xs f k (by omega) hl, List.drop_eq_getElem_cons hk, insF, if_neg (by simp [hn]), if_pos he, ← List.drop_eq_getElem_cons hk, List.take_append_drop]
theorem insF_new {xs : List Fact} {f : Fact} {k : Nat} (hk : k ≤ xs.length) (hl : ∀ i (h : i < xs.length), i < k → xs[i].less f = true) (he : ∀ h : k < xs.length, xs[k].less f = false ∧ xs[k] ≠ f) : insF xs f = xs.take k ++ f :: xs.drop k := by
  rw [insF_at xs f k hk hl]
  congr 1
  by_cases h : k < xs.length
  · obtain ⟨h1, h2⟩ := he h
    rw [List.drop_eq_getElem_cons h, insF, if_neg (by simp [h1]), if_neg h2]
  · rw [List.drop_eq_nil_of_le (by omega)]; rfl
theorem mem_insF {g f : Fact} : ∀ {l : List Fact}, g ∈ insF l f ↔ g = f ∨ g ∈ l
  | [] => by simp [insF]
  | x :: r => by
    unfold insF
    split
    · simp only [List.mem_cons, mem_insF]
      constructor
      · rintro (h | h | h)
        · exact .inr (.inl h)
        · exact .inl h
        · exact .inr (.inr h)
      · rintro (h | h | h)
        · exact .inr (.inl h)
        · exact .inl h
        · exact .inr (.inr h)
    · split
      · rename_i h
        subst h
        simp only [List.mem_cons]
        constructor
        · exact fun h => .inr h
        · rintro (h | h)
          · exact .inl h
          · exact h
      · simp only [List.mem_cons]
theorem insF_len (l : List Fact) (f : Fact) : (insF l f).length ≤ l.length + 1 := by
  induction l with
  | nil => simp [insF]
  | cons x r ih =>
    unfold insF
    split
    · simp only [List.length_cons]; omega
    · split <;> simp
/-- The atoms as facts, in order, each once. -/
def frz (bd : List Atom) : List Fact := bd.foldl (fun l a => insF l a.fact) []
theorem frz_take {bd : List Atom} {k : Nat} (hk : k < bd.length) : frz (bd.take (k + 1)) = insF (frz (bd.take k)) bd[k].fact := by
  unfold frz
  rw [List.take_succ_eq_append_getElem hk, List.foldl_append]; rfl
theorem frz_len (bd : List Atom) : (frz bd).length ≤ bd.length := by
  suffices h : ∀ (bd : List Atom) (l : List Fact), (bd.foldl (fun l a => insF l a.fact) l).length ≤ l.length + bd.length by simpa [frz] using h bd []
  intro bd
  induction bd with
  | nil => intro l; simp
  | cons a r ih =>
    intro l
    have h1 := ih (insF l a.fact)
    have h2 := insF_len l a.fact
    simp only [List.foldl_cons, List.length_cons]
    omega
theorem mem_frz {g : Fact} {bd : List Atom} : g ∈ frz bd ↔ ∃ a ∈ bd, g = a.fact := by
  suffices h : ∀ (bd : List Atom) (l : List Fact), g ∈ bd.foldl (fun l a => insF l a.fact) l ↔ g ∈ l ∨ ∃ a ∈ bd, g = a.fact by
    have := h bd []
    simpa [frz] using this
  intro bd
  induction bd with
  | nil => intro l; simp
  | cons a r ih =>
    intro l
    simp only [List.foldl_cons, ih, mem_insF, List.mem_cons]
    constructor
    · rintro ((h | h) | ⟨b, hb, h⟩)
      · exact .inr ⟨a, .inl rfl, h⟩
      · exact .inl h
      · exact .inr ⟨b, .inr hb, h⟩
    · rintro (h | ⟨b, rfl | hb, h⟩)
      · exact .inl (.inr h)
      · exact .inl (.inl h)
      · exact .inr ⟨b, hb, h⟩

/-- What a mapping has for a variable. -/
def var (m : List Int) (v : Int) : Int := m.getD v.toNat 0
def Atom.by (m : List Int) (a : Atom) : Atom := ⟨a.rel, var m a.x, var m a.y⟩
theorem var_at {m : List Int} {v : Int} {n : Nat} (hv : v = n) (hn : n < m.length) : var m v = m[n] := by
  subst hv; unfold var; rw [Int.toNat_natCast, getD_at hn]
theorem fact_inj {a b : Atom} : a.fact = b.fact ↔ a = b := by
  cases a; cases b; simp [Atom.fact]
theorem by_frz {m : List Int} {a : Atom} {bd : List Atom} : (a.by m).fact ∈ frz bd ↔ a.by m ∈ bd := by
  rw [mem_frz]
  constructor
  · rintro ⟨b, hb, h⟩
    rw [fact_inj] at h
    rw [h]; exact hb
  · exact fun h => ⟨_, h, rfl⟩
def inA (bd : List Atom) (a : Atom) : Bool := decide (a ∈ bd)
theorem inA_iff {bd : List Atom} {a : Atom} : inA bd a = true ↔ a ∈ bd := by unfold inA; simp
def isHom (hd1 : List Int) (bd1 : List Atom) (hd2 : List Int) (bd2 : List Atom) (m : List Int) : Bool := bd1.all (fun a => inA bd2 (a.by m)) && decide (hd1.map (var m) = hd2)
def chkHom (q1 : Int) (hd1 : List Int) (bd1 : List Atom) (q2 : Int) (hd2 : List Int) (bd2 : List Atom) (m : List Int) : Bool :=
  (vrule q1 hd1 bd1 && vrule q2 hd2 bd2 && decide ((m.length : Int) = q1)) && (m.all (hasV q2) && isHom hd1 bd1 hd2 bd2 m)
theorem vrule_parts {q : Int} {hd : List Int} {bd : List Atom} (h : vrule q hd bd = true) : 1 ≤ q ∧ q ≤ 6 ∧ hd.length ≤ 6 ∧ 1 ≤ bd.length ∧ bd.length ≤ 6 ∧ (∀ a ∈ bd, 0 ≤ a.rel ∧ a.rel ≤ 3 ∧ 0 ≤ a.x ∧ a.x < q ∧ 0 ≤ a.y ∧ a.y < q) ∧ ∀ v ∈ hd, 0 ≤ v ∧ v < q := by
  unfold vrule at h
  simp only [Bool.and_eq_true, decide_eq_true_eq, List.all_eq_true] at h
  obtain ⟨⟨⟨⟨⟨h1, h2⟩, h3⟩, h4, h5⟩, h6⟩, h7⟩ := h
  have hb : ∀ a ∈ bd, 0 ≤ a.rel ∧ a.rel ≤ 3 ∧ 0 ≤ a.x ∧ a.x < q ∧ 0 ≤ a.y ∧ a.y < q := fun a ha => by
    have := h6 a ha
    simp only [Atom.ok, hasV, Bool.and_eq_true, decide_eq_true_eq] at this
    omega
  refine ⟨h1, h2, h3, h4, h5, hb, fun v hv => ?_⟩
  have := h7 v hv
  rw [List.any_eq_true] at this
  obtain ⟨a, ha, h⟩ := this
  have := hb a ha
  simp only [Atom.has, Bool.or_eq_true, beq_iff_eq] at h
  omega
/-- The first difference of two lists. -/
def cmpI : List Int → List Int → Int
  | a :: r, b :: s => if a = b then cmpI r s else a - b
  | _, _ => 0
theorem cmpI_zero : ∀ {a b : List Int}, a.length = b.length → (cmpI a b = 0 ↔ a = b)
  | [], [], _ => by simp [cmpI]
  | a :: r, b :: s, h => by
    unfold cmpI
    split
    · rename_i he
      subst he
      rw [cmpI_zero (by simpa using h)]
      simp
    · rename_i he
      constructor
      · intro h; omega
      · intro h; injection h with h _; exact absurd h he
  | [], _ :: _, h => by simp at h
  | _ :: _, [], h => by simp at h
theorem cmpI_at : ∀ {a b : List Int} {k : Nat} (ha : k < a.length) (hb : k < b.length), (∀ i (h1 : i < a.length) (h2 : i < b.length), i < k → a[i] = b[i]) → a[k] ≠ b[k] → cmpI a b = a[k] - b[k]
  | a :: r, b :: s, 0, _, _, _, hn => by
    simp only [List.getElem_cons_zero] at hn ⊢
    rw [cmpI, if_neg hn]
  | a :: r, b :: s, k + 1, h1, h2, he, hn => by
    have h0 := he 0 (by simp) (by simp) (by omega)
    simp only [List.getElem_cons_zero] at h0
    simp only [List.getElem_cons_succ] at hn ⊢
    rw [cmpI, if_pos h0]
    exact cmpI_at (by simpa using h1) (by simpa using h2) (fun i hi hj hk => by have := he (i + 1) (by simpa using hi) (by simpa using hj) (by omega); simpa using this) hn
  | [], _, k, h, _, _, _ => by simp at h
  | _ :: _, [], k, _, h, _, _ => by simp at h
end Go.Proofs.Ytahclhldpcboeaa
