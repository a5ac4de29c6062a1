/- Plain maths of validity: statistics, facts, rules, graphs, rows. -/
import Derived.Test.YtlmiadeaiiehaaaTFact
import Derived.Test.YtlmiadeaiiehaaaTValue
namespace Go.Proofs.Ytlmiadeaiiehaaa

/-- p holds of all numbers below n. -/
def allIx (n : Nat) (p : Nat → Bool) : Bool := (List.range n).all p
theorem allIx_yes {n : Nat} {p : Nat → Bool} (h : ∀ i, i < n → p i = true) : allIx n p = true := by
  unfold allIx; rw [List.all_eq_true]; intro i hi; exact h i (List.mem_range.1 hi)
theorem allIx_no {n : Nat} {p : Nat → Bool} {i : Nat} (hi : i < n) (h : p i = false) : allIx n p = false := by
  unfold allIx; rw [List.all_eq_false]; exact ⟨i, List.mem_range.2 hi, by simp [h]⟩
theorem allIx_at {n : Nat} {p : Nat → Bool} (h : allIx n p = true) {i : Nat} (hi : i < n) : p i = true := by
  unfold allIx at h; rw [List.all_eq_true] at h; exact h i (List.mem_range.2 hi)
theorem getD_at {X : Type} {xs : List X} {i : Nat} {d : X} (h : i < xs.length) : xs.getD i d = xs[i] := by simp [List.getD, List.getElem?_eq_getElem h]
theorem allIx_list {X : Type} [Inhabited X] (xs : List X) (p : X → Bool) : allIx xs.length (fun i => p (xs.getD i default)) = xs.all p := by
  rw [Bool.eq_iff_iff]
  unfold allIx
  simp only [List.all_eq_true, List.mem_range]
  constructor
  · intro h x hx
    obtain ⟨i, hi, rfl⟩ := List.getElem_of_mem hx
    have := h i hi
    rwa [getD_at hi] at this
  · intro h i hi
    rw [getD_at hi]
    exact h _ (List.getElem_mem hi)
theorem all_no {X : Type} {xs : List X} {p : X → Bool} {k : Nat} (hk : k < xs.length) (h : p xs[k] = false) : xs.all p = false := by
  rw [List.all_eq_false]; exact ⟨_, List.getElem_mem hk, by simp [h]⟩
theorem all_yes {X : Type} {xs : List X} {p : X → Bool} (h : ∀ i (hi : i < xs.length), p xs[i] = true) : xs.all p = true := by
  rw [List.all_eq_true]; intro x hx
  obtain ⟨i, hi, rfl⟩ := List.getElem_of_mem hx
  exact h i hi

def wid (n : Int) : Bool := decide (1 ≤ n) && decide (n ≤ 6)
/-! Statistics. -/
def colOk (rows : Int) (d n : Int) : Bool := decide (0 ≤ n) && decide (n ≤ rows) && (decide (0 ≤ d) && decide (d ≤ rows - n))
def cols (rows : Int) (ds ns : List Int) : Bool := allIx ns.length fun i => colOk rows (ds.getD i 0) (ns.getD i 0)
def vstat (rows : Int) (ds ns : List Int) (wd : Int) : Bool :=
  wid wd && (decide (0 ≤ rows) && decide (rows ≤ 400) && decide ((ds.length : Int) = wd) && decide ((ns.length : Int) = wd) && cols rows ds ns)
/-! Facts. -/
def Fact.ok (f : Fact) : Bool := decide (0 ≤ f.rel) && decide (f.rel ≤ 3) && (decide (0 ≤ f.x) && decide (f.x ≤ 9999)) && (decide (0 ≤ f.y) && decide (f.y ≤ 9999))
def Fact.less (a b : Fact) : Bool := if a.rel = b.rel then (if a.x = b.x then decide (a.y < b.y) else decide (a.x < b.x)) else decide (a.rel < b.rel)
def factAt (xs : List Fact) (i : Nat) : Bool := (xs.getD i default).ok && (i == 0 || (xs.getD (i - 1) default).less (xs.getD i default))
def vfacts (xs : List Fact) : Bool := decide (xs.length ≤ 60) && allIx xs.length (factAt xs)
def Fact.cmp (a b : Fact) : Int := if a.rel = b.rel then (if a.x = b.x then icmp a.y b.y else icmp a.x b.x) else icmp a.rel b.rel
theorem icmp_lt (a b : Int) : (0 ≤ icmp a b) = ¬ (a < b) := by unfold icmp; split <;> (try split) <;> simp <;> omega
theorem Fact.cmp_less (a b : Fact) : decide (0 ≤ a.cmp b) = !a.less b := by
  unfold Fact.cmp Fact.less
  split
  · split <;> simp [icmp_lt, -Int.not_lt]
  · simp [icmp_lt, -Int.not_lt]
/-! Rules. -/
def hasV (vars x : Int) : Bool := decide (0 ≤ x) && decide (x < vars)
def Atom.ok (vars : Int) (a : Atom) : Bool := (decide (0 ≤ a.rel) && decide (a.rel ≤ 3)) && (hasV vars a.x && hasV vars a.y)
def Atom.has (v : Int) (a : Atom) : Bool := a.x == v || a.y == v
def vrule (vars : Int) (head : List Int) (body : List Atom) : Bool :=
  (decide (1 ≤ vars) && decide (vars ≤ 6)) && decide (head.length ≤ 6) && (decide (1 ≤ body.length) && decide (body.length ≤ 6)) && body.all (Atom.ok vars) && head.all (fun v => body.any (Atom.has v))
/-! Graphs. -/
def relOk (r : Int) : Bool := decide (1 ≤ r) && decide (r ≤ 1000)
def Edge.ok (n : Nat) (e : Edge) : Bool := decide (0 ≤ e.a) && decide (e.a < e.b) && decide (e.b < (n : Int)) && (decide (1 ≤ e.den) && decide (e.den ≤ 1000))
def vgraph (rows : List Int) (edges : List Edge) : Bool :=
  (decide (1 ≤ rows.length) && decide (rows.length ≤ 5)) && decide (edges.length ≤ 6) && rows.all relOk && edges.all (Edge.ok rows.length)
/-! Rows. -/
instance : Inhabited V := ⟨⟨false, 0⟩⟩
def vrow (xs : List V) : Bool := (decide (1 ≤ xs.length) && decide (xs.length ≤ 6)) && xs.all V.valid
def rcmp : List V → List V → Int
  | a :: r, b :: s => if a.cmp b = 0 then rcmp r s else a.cmp b
  | [], _ :: _ => -1
  | _ :: _, [] => 1
  | [], [] => 0
def rcmp2 (xs ys : List V) : Int := if vrow xs && vrow ys && decide (xs.length = ys.length) then rcmp xs ys else 2
/-! Tables. -/
def rowAt (wd : Int) (rows : List (List V)) (i : Nat) : Bool :=
  (vrow (rows.getD i default) && decide (((rows.getD i default).length : Int) = wd)) && (i == 0 || decide (rcmp (rows.getD (i - 1) default) (rows.getD i default) ≤ 0))
def vtab (wd : Int) (rows : List (List V)) : Bool := wid wd && decide (rows.length ≤ 400) && allIx rows.length (rowAt wd rows)
end Go.Proofs.Ytlmiadeaiiehaaa
