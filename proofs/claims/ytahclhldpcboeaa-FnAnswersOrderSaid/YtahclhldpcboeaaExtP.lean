/- Plain maths of matching: how a mapping is extended atom by atom, over the facts in order. -/
import Derived.Test.YtahclhldpcboeaaHomP
namespace Go.Proofs.Ytahclhldpcboeaa

/-- A variable has no other value than x. -/
def fitV (m : List Int) (v x : Int) : Bool := decide (var m v < 0) || var m v == x
def putV (m : List Int) (v x : Int) : List Int := m.set v.toNat x
theorem putV_len (m : List Int) (v x : Int) : (putV m v x).length = m.length := by simp [putV]
/-- A mapping with which an atom is a fact. -/
def fit (m : List Int) (a : Atom) (f : Fact) : Option (List Int) :=
  if f.rel = a.rel ∧ fitV m a.x f.x = true then (if fitV (putV m a.x f.x) a.y f.y = true then some (putV (putV m a.x f.x) a.y f.y) else none) else none
/-- All mappings that extend m, in the order of the facts. -/
def mts : List Atom → List Fact → List Int → List (List Int)
  | [], _, m => [m]
  | a :: r, fs, m => fs.flatMap fun f => match fit m a f with
    | some m' => mts r fs m'
    | none => []
def step (r : List Atom) (fs : List Fact) (m : List Int) (a : Atom) (f : Fact) : List (List Int) := match fit m a f with
  | some m' => mts r fs m'
  | none => []
theorem mts_cons (a : Atom) (r : List Atom) (fs : List Fact) (m : List Int) : mts (a :: r) fs m = fs.flatMap (step r fs m a) := rfl
theorem mts_at {bd : List Atom} {i : Nat} (h : i < bd.length) (fs : List Fact) (m : List Int) : mts (bd.drop i) fs m = fs.flatMap (step (bd.drop (i + 1)) fs m bd[i]) := by
  rw [List.drop_eq_getElem_cons h]; rfl
theorem mts_end {bd : List Atom} {i : Nat} (h : bd.length ≤ i) (fs : List Fact) (m : List Int) : mts (bd.drop i) fs m = [m] := by
  rw [List.drop_eq_nil_of_le h]; rfl
theorem flat_take {X Y : Type} {f : X → List Y} {xs : List X} {k : Nat} (h : k < xs.length) : (xs.take (k + 1)).flatMap f = (xs.take k).flatMap f ++ f xs[k] := by
  rw [List.take_succ_eq_append_getElem h, List.flatMap_append]; simp
theorem step_none {r : List Atom} {fs : List Fact} {m : List Int} {a : Atom} {f : Fact} (h : fit m a f = none) : step r fs m a f = [] := by unfold step; rw [h]
theorem step_some {r : List Atom} {fs : List Fact} {m m' : List Int} {a : Atom} {f : Fact} (h : fit m a f = some m') : step r fs m a f = mts r fs m' := by unfold step; rw [h]
theorem fit_len {m m' : List Int} {a : Atom} {f : Fact} (h : fit m a f = some m') : m'.length = m.length := by
  unfold fit at h
  split at h
  · split at h
    · injection h with h; subst h; rw [putV_len, putV_len]
    · cases h
  · cases h
/-- What is found, cut at a number: cut again it is the same. -/
theorem take_app {X : Type} (k : Nat) (a b : List X) : ((a.take k) ++ b).take k = (a ++ b).take k := by
  rw [List.take_append, List.take_append, List.take_take, Nat.min_self, List.length_take]
  by_cases h : k ≤ a.length
  · rw [Nat.min_eq_left h, Nat.sub_self, show k - a.length = 0 by omega]
  · rw [Nat.min_eq_right (by omega)]
theorem take_full {X : Type} {k : Nat} {a : List X} (h : a.length = k) (b : List X) : (a ++ b).take k = a := by
  rw [← h, List.take_left']
  rfl
/-- The values put back are as they were. -/
theorem putV_back {m : List Int} {v x : Int} (hv : 0 ≤ v) (hl : v.toNat < m.length) : putV (putV m v x) v (var m v) = m := by
  unfold putV var
  rw [List.set_set]
  refine List.ext_getElem (by simp) fun i h1 h2 => ?_
  rw [List.getElem_set]
  split
  · rename_i e; subst e; rw [getD_at hl]
  · rfl
theorem var_put {m : List Int} {v x : Int} (hl : v.toNat < m.length) : var (putV m v x) v = x := by
  unfold putV var
  rw [getD_at (by simpa using hl), List.getElem_set_self]
end Go.Proofs.Ytahclhldpcboeaa
