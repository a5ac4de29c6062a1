/- Plain maths of expressions: validity, size. -/
import Derived.Test.YtfillcjpdnpaiaaRExpr
import Derived.Test.YtfillcjpdnpaiaaValW
namespace Go.Proofs.Ytfillcjpdnpaiaa

/-- How many kids a kind has. -/
def nk (k : Int) : Int := if k = 1 ∨ k = 2 then 0 else if k = 10 ∨ k = 11 then 1 else if 3 ≤ k ∧ k ≤ 9 then 2 else -1
theorem nk_le (k : Int) : nk k ≤ 2 := by unfold nk; split <;> (try split) <;> (try split) <;> omega
def vHead (deep : Int) (e : Ex) : Bool := decide ((e.kids.length : Int) = nk e.kind) && !(decide (0 < e.kids.length) && decide (deep = 0))
def V.isZero (v : V) : Bool := !v.null && decide (v.n = 0)
def vScal (wd : Int) (e : Ex) : Bool :=
  if e.kind = 1 then (decide (0 ≤ e.col) && decide (e.col < wd)) && e.val.isZero else if e.kind = 2 then decide (e.col = 0) && e.val.valid else decide (e.col = 0) && e.val.isZero
/-- Validity, of a tree whose kids have at most n levels. -/
def vE (wd : Int) : Nat → Int → Ex → Bool
  | 0, deep, e => vHead deep e && vScal wd e
  | n + 1, deep, e => vHead deep e && vScal wd e && e.kids.all (vE wd n (deep - 1))
def sumL (f : Ex → Int) : List Ex → Int
  | [] => 0
  | x :: r => f x + sumL f r
/-- Size. -/
def sE : Nat → Ex → Int
  | 0, _ => 1
  | n + 1, e => 1 + sumL (sE n) e.kids
theorem sumL_take {f : Ex → Int} {xs : List Ex} {k : Nat} (hk : k < xs.length) : sumL f (xs.take (k + 1)) = sumL f (xs.take k) + f xs[k] := by
  induction xs generalizing k with
  | nil => simp at hk
  | cons x r ih =>
    cases k with
    | zero => simp [sumL]
    | succ k =>
      simp only [List.length_cons] at hk
      simp only [List.take_succ_cons, sumL, List.getElem_cons_succ]
      rw [ih (by omega)]; omega
theorem vE_head {wd deep : Int} {n : Nat} {e : Ex} (h : vE wd n deep e = true) : vHead deep e = true ∧ vScal wd e = true := by
  cases n with
  | zero => simpa [vE] using h
  | succ n => simp only [vE, Bool.and_eq_true] at h; exact h.1
theorem vE_kids {wd deep : Int} {n : Nat} {e : Ex} (h : vE wd (n + 1) deep e = true) : ∀ i (hi : i < e.kids.length), vE wd n (deep - 1) e.kids[i] = true := fun i hi => by
  simp only [vE, Bool.and_eq_true, List.all_eq_true] at h
  exact h.2 _ (List.getElem_mem hi)
theorem vE_two {wd deep : Int} {n : Nat} {e : Ex} (h : vE wd n deep e = true) : e.kids.length ≤ 2 := by
  have := (vE_head h).1
  simp only [vHead, Bool.and_eq_true, decide_eq_true_eq] at this
  have := nk_le e.kind
  omega
theorem two_pow : ∀ d : Nat, (1 : Int) ≤ 2 ^ d
  | 0 => by decide
  | d + 1 => by have := two_pow d; rw [Int.pow_succ]; omega
/-- A valid tree is small. -/
theorem sE_bound {wd : Int} : ∀ (n : Nat) (deep : Nat) (e : Ex), vE wd n deep e = true → 1 ≤ sE n e ∧ sE n e ≤ 2 ^ (deep + 1) - 1
  | 0, deep, e, _ => by
    have : (2 : Int) ≤ 2 ^ (deep + 1) := by
      rw [Int.pow_succ]; have := two_pow deep
      omega
    simp only [sE]; omega
  | n + 1, deep, e, h => by
    have h2 := vE_two h
    have hp := two_pow deep
    have hs : (2 : Int) ^ (deep + 1) = 2 ^ deep * 2 := Int.pow_succ ..
    have hk := vE_kids h
    have hd : 0 < e.kids.length → 0 < deep := fun hpos => by
      have := (vE_head h).1
      simp only [vHead, Bool.and_eq_true, Bool.not_eq_true', Bool.and_eq_false_iff, decide_eq_true_eq, decide_eq_false_iff_not] at this
      rcases this.2 with h1 | h1 <;> omega
    unfold sE
    match hks : e.kids, h2 with
    | [], _ => simp only [sumL]; omega
    | [a], _ =>
      obtain ⟨d, rfl⟩ : ∃ d, deep = d + 1 := ⟨deep - 1, by have := hd (by rw [hks]; simp); omega⟩
      have ha := sE_bound n d a (by have := hk 0 (by rw [hks]; simp); simp only [hks, List.getElem_cons_zero] at this; rw [show ((d + 1 : Nat) : Int) - 1 = d by omega] at this; exact this)
      simp only [sumL]; omega
    | [a, b], _ =>
      obtain ⟨d, rfl⟩ : ∃ d, deep = d + 1 := ⟨deep - 1, by have := hd (by rw [hks]; simp); omega⟩
      have ha := sE_bound n d a (by have := hk 0 (by rw [hks]; simp); simp only [hks, List.getElem_cons_zero] at this; rw [show ((d + 1 : Nat) : Int) - 1 = d by omega] at this; exact this)
      have hb := sE_bound n d b (by have := hk 1 (by rw [hks]; simp); simp only [hks, List.getElem_cons_succ, List.getElem_cons_zero] at this; rw [show ((d + 1 : Nat) : Int) - 1 = d by omega] at this; exact this)
      simp only [sumL]; omega
    | _ :: _ :: _ :: _, h2 => simp at h2
end Go.Proofs.Ytfillcjpdnpaiaa
