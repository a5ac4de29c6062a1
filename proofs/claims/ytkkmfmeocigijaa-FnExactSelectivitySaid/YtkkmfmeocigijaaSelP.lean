/- Plain maths of selectivities. -/
import Derived.Test.YtkkmfmeocigijaaStatW
import Derived.Test.YtkkmfmeocigijaaEvalL
namespace Go.Proofs.Ytkkmfmeocigijaa
open Go

def eqlP (rows : Int) (ds ns : List Int) (c : Nat) : Int := if rows = 0 ∨ ds.getD c 0 = 0 then 0 else (1000 * (rows - ns.getD c 0)).tdiv (rows * ds.getD c 0)
def truP (v : V) : Int := if v.tS = 1 then 1000 else 0
def nulP (rows : Int) (ns : List Int) (c : Nat) : Int := (1000 * ns.getD c 0).tdiv rows
/-- Does the equation compare a column with a number? -/
def colEq (x y : Ex) : Bool := x.kind == 1 && (y.kind == 2 && !y.val.null)
/-- The permille of rows for which an expression is true. -/
def pm (rows : Int) (ds ns : List Int) : Nat → Ex → Int
  | 0, e => if e.kind = 2 then truP e.val else 500
  | n + 1, e => if e.kind = 2 then truP e.val else if e.kind = 10 then 1000 - pm rows ds ns n (e.kids.getD 0 default) else
    if e.kind = 8 then (pm rows ds ns n (e.kids.getD 0 default) * pm rows ds ns n (e.kids.getD 1 default)).tdiv 1000 else
    if e.kind = 9 then pm rows ds ns n (e.kids.getD 0 default) + pm rows ds ns n (e.kids.getD 1 default) - (pm rows ds ns n (e.kids.getD 0 default) * pm rows ds ns n (e.kids.getD 1 default)).tdiv 1000 else
    if e.kind = 6 then (if colEq (e.kids.getD 0 default) (e.kids.getD 1 default) then eqlP rows ds ns (e.kids.getD 0 default).col.toNat else 100) else
    if e.kind = 7 then 333 else
    if e.kind = 11 then (if (e.kids.getD 0 default).kind = 1 ∧ 0 < rows then nulP rows ns (e.kids.getD 0 default).col.toNat else 0) else 500
/-- What valid statistics say of a column. -/
structure StOk (rows : Int) (ds ns : List Int) : Prop where
  r0 : 0 ≤ rows
  r4 : rows ≤ 400
  len : ds.length = ns.length
  d0 : ∀ i, 0 ≤ ds.getD i 0
  d4 : ∀ i, ds.getD i 0 ≤ 400
  n0 : ∀ i, 0 ≤ ns.getD i 0
  nr : ∀ i, ns.getD i 0 ≤ rows
theorem stOk_of {rows : Int} {ds ns : List Int} {wd : Int} (h : vstat rows ds ns wd = true) : StOk rows ds ns ∧ (ds.length : Int) = wd ∧ (ns.length : Int) = wd := by
  unfold vstat at h
  simp only [Bool.and_eq_true, decide_eq_true_eq] at h
  obtain ⟨_, ⟨⟨⟨h1, h2⟩, h3⟩, h4⟩, h5⟩ := h
  have hc : ∀ i, i < ns.length → 0 ≤ ns.getD i 0 ∧ ns.getD i 0 ≤ rows ∧ 0 ≤ ds.getD i 0 ∧ ds.getD i 0 ≤ rows - ns.getD i 0 := fun i hi => by
    have := allIx_at h5 hi
    simp only [colOk, Bool.and_eq_true, decide_eq_true_eq] at this
    exact ⟨this.1.1, this.1.2, this.2.1, this.2.2⟩
  have hz : ∀ (xs : List Int) i, ¬ i < xs.length → xs.getD i 0 = 0 := fun xs i hi => by simp [List.getD, List.getElem?_eq_none (show xs.length ≤ i by omega)]
  refine ⟨⟨h1, h2, by omega, ?_, ?_, ?_, ?_⟩, h3, h4⟩
  all_goals intro i
  all_goals by_cases hi : i < ns.length
  all_goals first
    | (have := hc i hi; omega)
    | (rw [hz ds i (by omega)]; omega)
    | (rw [hz ns i hi]; omega)
theorem tdiv_range {a b k : Int} (ha : 0 ≤ a) (hb : 0 < b) (h : a ≤ k * b) : 0 ≤ a.tdiv b ∧ a.tdiv b ≤ k := by
  rw [Int.tdiv_eq_ediv_of_nonneg ha]
  exact ⟨Int.ediv_nonneg ha (by omega), Int.ediv_le_of_le_mul hb h⟩
theorem eqlP_range {rows : Int} {ds ns : List Int} (h : StOk rows ds ns) (c : Nat) : 0 ≤ eqlP rows ds ns c ∧ eqlP rows ds ns c ≤ 1000 := by
  unfold eqlP
  split
  · omega
  · rename_i hne
    have h1 := h.r0
    have h2 := h.d0 c
    have h3 := h.n0 c
    have h4 := h.nr c
    have hd : 1 ≤ ds.getD c 0 := by omega
    have hm : rows * 1 ≤ rows * ds.getD c 0 := Int.mul_le_mul_of_nonneg_left hd h1
    exact tdiv_range (by omega) (by omega) (by omega)
theorem truP_range (v : V) : 0 ≤ truP v ∧ truP v ≤ 1000 := by unfold truP; split <;> omega
theorem mul_range' {a b : Int} (a0 : 0 ≤ a) (a1 : a ≤ 1000) (b0 : 0 ≤ b) (b1 : b ≤ 1000) : 0 ≤ a * b ∧ a * b ≤ 1000 * a ∧ a * b ≤ 1000 * b ∧ 1000 * (a + b) - 1000000 ≤ a * b := by
  refine ⟨Int.mul_nonneg a0 b0, ?_, ?_, ?_⟩
  · have := Int.mul_le_mul_of_nonneg_left b1 a0; rw [Int.mul_comm a 1000] at this; exact this
  · exact Int.mul_le_mul_of_nonneg_right a1 b0
  · have h := Int.mul_nonneg (show 0 ≤ 1000 - a by omega) (show 0 ≤ 1000 - b by omega)
    rw [Int.sub_mul, Int.mul_sub, Int.mul_sub] at h
    omega
theorem and_range {a b : Int} (a0 : 0 ≤ a) (a1 : a ≤ 1000) (b0 : 0 ≤ b) (b1 : b ≤ 1000) : 0 ≤ (a * b).tdiv 1000 ∧ (a * b).tdiv 1000 ≤ 1000 ∧ (a * b).tdiv 1000 ≤ b ∧ a + b - 1000 ≤ (a * b).tdiv 1000 := by
  obtain ⟨h1, h2, h3, h4⟩ := mul_range' a0 a1 b0 b1
  rw [Int.tdiv_eq_ediv_of_nonneg h1]
  omega
theorem pm_range {rows : Int} {ds ns : List Int} (h : StOk rows ds ns) : ∀ (n : Nat) (e : Ex), 0 ≤ pm rows ds ns n e ∧ pm rows ds ns n e ≤ 1000
  | 0, e => by
    unfold pm
    split
    · exact truP_range _
    · omega
  | n + 1, e => by
    have h0 := pm_range h n (e.kids.getD 0 default)
    have h1 := pm_range h n (e.kids.getD 1 default)
    have ha := and_range h0.1 h0.2 h1.1 h1.2
    unfold pm
    split
    · exact truP_range _
    · split
      · omega
      · split
        · omega
        · split
          · omega
          · split
            · split
              · exact eqlP_range h _
              · omega
            · split
              · omega
              · split
                · split
                  · rename_i hq
                    have := h.n0 (e.kids.getD 0 default).col.toNat
                    have := h.nr (e.kids.getD 0 default).col.toNat
                    exact tdiv_range (by omega) (by omega) (by omega)
                  · omega
                · omega
end Go.Proofs.Ytkkmfmeocigijaa
