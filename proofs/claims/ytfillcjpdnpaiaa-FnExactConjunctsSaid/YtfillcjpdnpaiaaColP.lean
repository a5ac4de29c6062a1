/- Plain maths of the columns of expressions. -/
import Derived.Test.YtfillcjpdnpaiaaEvalL
import Derived.Laws.BitsAllLaws
import Derived.Laws.BitsLemmas
namespace Go.Proofs.Ytfillcjpdnpaiaa
open Go

theorem ofInt_i64 (a : Nat) (ha : a < 9223372036854775808) : (BitVec.ofInt 64 (a : Int)).toNat = a := by
  rw [BitVec.ofInt_natCast, BitVec.toNat_ofNat]; exact Nat.mod_eq_of_lt (by omega)
theorem i64_and (a b : Nat) (ha : a < 64) (hb : b < 64) : bits .and .i64 (a : Int) (b : Int) = ((a &&& b : Nat) : Int) := by
  have hx : a &&& b < 2 ^ 6 := Nat.and_lt_two_pow _ (by omega)
  show IntKind.i64.wrap ((BitVec.ofInt 64 (a : Int) &&& BitVec.ofInt 64 (b : Int)).toNat : Int) = _
  rw [BitVec.toNat_and, ofInt_i64 a (by omega), ofInt_i64 b (by omega), IntKind.wrap_i64]
  omega
theorem i64_or (a b : Nat) (ha : a < 64) (hb : b < 64) : bits .or .i64 (a : Int) (b : Int) = ((a ||| b : Nat) : Int) := by
  have hx : a ||| b < 2 ^ 6 := Nat.or_lt_two_pow (by omega) (by omega)
  show IntKind.i64.wrap ((BitVec.ofInt 64 (a : Int) ||| BitVec.ofInt 64 (b : Int)).toNat : Int) = _
  rw [BitVec.toNat_or, ofInt_i64 a (by omega), ofInt_i64 b (by omega), IntKind.wrap_i64]
  omega

def orL (f : Ex → Nat) : List Ex → Nat
  | [] => 0
  | x :: r => f x ||| orL f r
/-- The set of an expression's columns, as bits. -/
def msk : Nat → Ex → Nat
  | 0, e => if e.kind = 1 then 1 <<< e.col.toNat else 0
  | n + 1, e => if e.kind = 1 then 1 <<< e.col.toNat else orL (msk n) e.kids
theorem orL_take {f : Ex → Nat} {xs : List Ex} {k : Nat} (hk : k < xs.length) : orL f (xs.take (k + 1)) = orL f (xs.take k) ||| f xs[k] := by
  induction xs generalizing k with
  | nil => simp at hk
  | cons x r ih =>
    cases k with
    | zero => simp [orL]
    | succ k =>
      simp only [List.length_cons] at hk
      simp only [List.take_succ_cons, orL, List.getElem_cons_succ]
      rw [ih (by omega), Nat.or_assoc]
theorem or_64 {a b : Nat} (ha : a < 64) (hb : b < 64) : a ||| b < 64 := Nat.or_lt_two_pow (n := 6) ha hb
theorem orL_64 {f : Ex → Nat} : ∀ {xs : List Ex}, (∀ x ∈ xs, f x < 64) → orL f xs < 64
  | [], _ => by simp [orL]
  | x :: r, h => or_64 (h x (by simp)) (orL_64 fun y hy => h y (by simp [hy]))
theorem one_64 {c : Int} (h0 : 0 ≤ c) (h6 : c < 6) : 1 <<< c.toNat < 64 := by
  rcases (by omega : c = 0 ∨ c = 1 ∨ c = 2 ∨ c = 3 ∨ c = 4 ∨ c = 5) with rfl | rfl | rfl | rfl | rfl | rfl <;> decide
theorem msk_64 {wd : Int} (hw : wd ≤ 6) : ∀ (n d : Nat) (e : Ex), vE wd n d e = true → msk n e < 64
  | 0, d, e, h => by
    unfold msk
    split
    · rename_i hk; have := col_ok h hk; exact one_64 this.1 (by omega)
    · omega
  | n + 1, d, e, h => by
    unfold msk
    split
    · rename_i hk; have := col_ok h hk; exact one_64 this.1 (by omega)
    · exact orL_64 fun x hx => by
        obtain ⟨i, hi, rfl⟩ := List.getElem_of_mem hx
        obtain ⟨d0, _, hv⟩ := vE_down h hi
        exact msk_64 hw n d0 _ hv
/-- The numbers of a set. -/
def bitsN (m : Nat) (k : Nat) : List Nat := (List.range k).filter (fun c => m.testBit c)
theorem bitsN_succ (m k : Nat) : bitsN m (k + 1) = bitsN m k ++ if m.testBit k then [k] else [] := by
  unfold bitsN
  rw [List.range_succ, List.filter_append]
  congr 1
  cases h : m.testBit k <;> simp [h]
theorem filter_or (p q : Nat → Bool) : ∀ l : List Nat, (l.filter (fun c => p c || q c)).length ≤ (l.filter p).length + (l.filter q).length
  | [] => by simp
  | c :: r => by
    have := filter_or p q r
    cases hp : p c <;> cases hq : q c <;> simp [hp, hq] <;> omega
theorem bits_or (a b k : Nat) : (bitsN (a ||| b) k).length ≤ (bitsN a k).length + (bitsN b k).length := by
  unfold bitsN
  have : (fun c => (a ||| b).testBit c) = fun c => a.testBit c || b.testBit c := by funext c; exact Nat.testBit_or a b c
  rw [this]
  exact filter_or _ _ _
theorem bits_one {c : Int} (h0 : 0 ≤ c) (h6 : c < 6) : (bitsN (1 <<< c.toNat) 6).length ≤ 1 := by
  rcases (by omega : c = 0 ∨ c = 1 ∨ c = 2 ∨ c = 3 ∨ c = 4 ∨ c = 5) with rfl | rfl | rfl | rfl | rfl | rfl <;> decide
theorem bits_orL {f : Ex → Nat} {g : Ex → Int} : ∀ {xs : List Ex}, (∀ x ∈ xs, ((bitsN (f x) 6).length : Int) ≤ g x) → ((bitsN (orL f xs) 6).length : Int) ≤ sumL g xs
  | [], _ => by
    have : bitsN 0 6 = [] := by decide
    simp [orL, sumL, this]
  | x :: r, h => by
    have h1 := h x (by simp)
    have h2 := bits_orL (f := f) (g := g) (xs := r) fun y hy => h y (by simp [hy])
    have h3 := bits_or (f x) (orL f r) 6
    simp only [orL, sumL]
    omega
theorem bits_size {wd : Int} (hw : wd ≤ 6) : ∀ (n d : Nat) (e : Ex), vE wd n d e = true → ((bitsN (msk n e) 6).length : Int) ≤ sE n e
  | 0, d, e, h => by
    unfold msk sE
    split
    · rename_i hk; have h1 := col_ok h hk; have := bits_one h1.1 (show e.col < 6 by omega); omega
    · have : bitsN 0 6 = [] := by decide
      rw [this]; simp
  | n + 1, d, e, h => by
    unfold msk sE
    split
    · rename_i hk
      have h1 := col_ok h hk
      have h2 := bits_one h1.1 (show e.col < 6 by omega)
      have h3 : e.kids = [] := by
        rcases kind_cases h with q | q | q | q | q
        · exact List.eq_nil_of_length_eq_zero q.2
        all_goals omega
      rw [h3]; simp only [sumL]; omega
    · have := bits_orL (f := msk n) (g := sE n) (xs := e.kids) fun x hx => by
        obtain ⟨i, hi, rfl⟩ := List.getElem_of_mem hx
        obtain ⟨d0, _, hv⟩ := vE_down h hi
        exact bits_size hw n d0 _ hv
      omega
theorem bit_test {m : Nat} (hm : m < 64) : ∀ k : Nat, k < 6 → (bits .and .i64 (m : Int) ((2 ^ k : Nat) : Int) != 0) = m.testBit k := by
  intro k hk
  rw [i64_and _ _ hm (by rcases (by omega : k = 0 ∨ k = 1 ∨ k = 2 ∨ k = 3 ∨ k = 4 ∨ k = 5) with rfl | rfl | rfl | rfl | rfl | rfl <;> decide)]
  rcases (by omega : k = 0 ∨ k = 1 ∨ k = 2 ∨ k = 3 ∨ k = 4 ∨ k = 5) with rfl | rfl | rfl | rfl | rfl | rfl
  all_goals (revert m; decide)
end Go.Proofs.Ytfillcjpdnpaiaa
