/- Join trees: their sets of relations, with and without a bound of levels; their leaves. -/
import Derived.Test.YtgjbmigplomekaaRJoinTree
namespace Go.Proofs.Ytgjbmigplomekaa
open Go Go.RowKit

def lfM (N : Int) (x : Int) : Nat := if 0 ≤ x ∧ x < N then 2 ^ x.toNat else 0
def mk2 (a b : Nat) : Nat := if a = 0 ∨ b = 0 ∨ a &&& b ≠ 0 then 0 else a ||| b
/-- The relations of a tree as a set of bits; 0 if it is invalid. -/
def jm : Nat → Int → JT → Nat
  | 0, N, e => if e.kids.length = 0 then lfM N e.leaf else 0
  | n + 1, N, e => if e.kids.length = 0 then lfM N e.leaf else
      if h : e.kids.length = 2 then (if e.leaf = 0 then mk2 (jm n N (e.kids[0]'(by omega))) (jm n N (e.kids[1]'(by omega))) else 0) else 0
/-- The same with at most a number of levels of kids. -/
def jml : Nat → Int → Nat → JT → Nat
  | 0, N, _, e => if e.kids.length = 0 then lfM N e.leaf else 0
  | n + 1, N, l, e => if e.kids.length = 0 then lfM N e.leaf else
      if h : e.kids.length = 2 then (if e.leaf = 0 ∧ l ≠ 0 then mk2 (jml n N (l - 1) (e.kids[0]'(by omega))) (jml n N (l - 1) (e.kids[1]'(by omega))) else 0) else 0
/-- The leaves from left to right. -/
def lvs : Nat → JT → List Int
  | 0, e => [e.leaf]
  | n + 1, e => if h : e.kids.length = 2 then lvs n (e.kids[0]'(by omega)) ++ lvs n (e.kids[1]'(by omega)) else [e.leaf]
theorem jm_leaf {n : Nat} {N : Int} {e : JT} (h : e.kids.length = 0) : jm n N e = lfM N e.leaf := by
  cases n <;> (unfold jm; rw [if_pos h])
theorem jml_leaf {n l : Nat} {N : Int} {e : JT} (h : e.kids.length = 0) : jml n N l e = lfM N e.leaf := by
  cases n <;> (unfold jml; rw [if_pos h])
theorem jm_two {n : Nat} {N : Int} {e : JT} (h : e.kids.length = 2) (hl : e.leaf = 0) : jm (n + 1) N e = mk2 (jm n N (e.kids[0]'(by omega))) (jm n N (e.kids[1]'(by omega))) := by
  rw [jm, if_neg (by omega), dif_pos h, if_pos hl]
theorem jml_two {n l : Nat} {N : Int} {e : JT} (h : e.kids.length = 2) (hl : e.leaf = 0) : jml (n + 1) N (l + 1) e = mk2 (jml n N l (e.kids[0]'(by omega))) (jml n N l (e.kids[1]'(by omega))) := by
  rw [jml, if_neg (by omega), dif_pos h, if_pos ⟨hl, by omega⟩]; rfl
theorem jm_bad {n : Nat} {N : Int} {e : JT} (h : e.kids.length ≠ 0) (hb : e.kids.length ≠ 2 ∨ e.leaf ≠ 0) : jm n N e = 0 := by
  cases n with
  | zero => unfold jm; rw [if_neg h]
  | succ n =>
    unfold jm
    rw [if_neg h]
    split
    · rw [if_neg (by omega)]
    · rfl
theorem jml_bad {n l : Nat} {N : Int} {e : JT} (h : e.kids.length ≠ 0) (hb : e.kids.length ≠ 2 ∨ e.leaf ≠ 0 ∨ l = 0) : jml n N l e = 0 := by
  cases n with
  | zero => unfold jml; rw [if_neg h]
  | succ n =>
    unfold jml
    rw [if_neg h]
    split
    · rw [if_neg (by omega)]
    · rfl
theorem lvs_leaf {n : Nat} {e : JT} (h : e.kids.length = 0) : lvs n e = [e.leaf] := by
  cases n with
  | zero => rfl
  | succ n => unfold lvs; rw [dif_neg (by omega)]
theorem lvs_two {n : Nat} {e : JT} (h : e.kids.length = 2) : lvs (n + 1) e = lvs n (e.kids[0]'(by omega)) ++ lvs n (e.kids[1]'(by omega)) := by
  rw [lvs, dif_pos h]
theorem lfM_lt {N x : Int} (hN : N ≤ 5) : lfM N x < 32 := by
  unfold lfM
  split
  · rename_i h
    have : x.toNat ≤ 4 := by omega
    exact Nat.lt_of_le_of_lt (Nat.pow_le_pow_right (by omega) this) (by decide)
  · omega
theorem mk2_lt {a b : Nat} (ha : a < 32) (hb : b < 32) : mk2 a b < 32 := by
  unfold mk2
  split
  · omega
  · exact Nat.or_lt_two_pow (n := 5) ha hb
theorem jm_lt {N : Int} (hN : N ≤ 5) : ∀ (n : Nat) (e : JT), jm n N e < 32
  | 0, e => by
    unfold jm
    split
    · exact lfM_lt hN
    · omega
  | n + 1, e => by
    unfold jm
    split
    · exact lfM_lt hN
    · split
      · split
        · exact mk2_lt (jm_lt hN n _) (jm_lt hN n _)
        · omega
      · omega
theorem jml_lt {N : Int} (hN : N ≤ 5) : ∀ (n l : Nat) (e : JT), jml n N l e < 32
  | 0, l, e => by
    unfold jml
    split
    · exact lfM_lt hN
    · omega
  | n + 1, l, e => by
    unfold jml
    split
    · exact lfM_lt hN
    · split
      · split
        · exact mk2_lt (jml_lt hN n _ _) (jml_lt hN n _ _)
        · omega
      · omega
theorem mk2_yes {a b : Nat} (h : mk2 a b ≠ 0) : a ≠ 0 ∧ b ≠ 0 ∧ a &&& b = 0 ∧ mk2 a b = a ||| b := by
  unfold mk2 at h ⊢
  split at h
  · exact absurd rfl h
  · rename_i h'
    have : a ≠ 0 ∧ b ≠ 0 ∧ a &&& b = 0 := by omega
    exact ⟨this.1, this.2.1, this.2.2, if_neg h'⟩
/-- How many of five bits are set. -/
def pc (m : Nat) : Nat := m % 2 + m / 2 % 2 + m / 4 % 2 + m / 8 % 2 + m / 16 % 2
theorem pc_or : ∀ a, a < 32 → ∀ b, b < 32 → a &&& b = 0 → pc (a ||| b) = pc a + pc b := by decide
theorem pc_pos : ∀ a, a < 32 → a ≠ 0 → 1 ≤ pc a := by decide
theorem pc_le (a : Nat) : pc a ≤ 5 := by unfold pc; omega
theorem pc_one : ∀ x, x < 5 → pc (2 ^ x) = 1 := by decide
theorem jml_up {N : Int} (hN : N ≤ 5) : ∀ (n l : Nat) (e : JT), jm n N e ≠ 0 → pc (jm n N e) ≤ l + 1 → jml n N l e = jm n N e
  | 0, l, e, _, _ => rfl
  | n + 1, l, e, h, hp => by
    by_cases h0 : e.kids.length = 0
    · rw [jm_leaf h0, jml_leaf h0]
    · by_cases h2 : e.kids.length = 2 ∧ e.leaf = 0
      · rw [jm_two h2.1 h2.2] at h hp ⊢
        obtain ⟨ha, hb, hab, he⟩ := mk2_yes h
        rw [he, pc_or _ (jm_lt hN _ _) _ (jm_lt hN _ _) hab] at hp
        have p1 := pc_pos _ (jm_lt hN n (e.kids[0]'(by omega))) ha
        have p2 := pc_pos _ (jm_lt hN n (e.kids[1]'(by omega))) hb
        obtain ⟨l', rfl⟩ : ∃ l', l = l' + 1 := ⟨l - 1, by omega⟩
        rw [jml_two h2.1 h2.2, jml_up hN n l' _ ha (by omega), jml_up hN n l' _ hb (by omega)]
      · exact absurd (jm_bad h0 (by omega)) h
theorem jml_dn {N : Int} : ∀ (n l : Nat) (e : JT), jml n N l e ≠ 0 → jm n N e = jml n N l e
  | 0, l, e, _ => rfl
  | n + 1, l, e, h => by
    by_cases h0 : e.kids.length = 0
    · rw [jm_leaf h0, jml_leaf h0]
    · by_cases h2 : e.kids.length = 2 ∧ e.leaf = 0 ∧ l ≠ 0
      · obtain ⟨l', rfl⟩ : ∃ l', l = l' + 1 := ⟨l - 1, by omega⟩
        rw [jml_two h2.1 h2.2.1] at h ⊢
        obtain ⟨ha, hb, _, _⟩ := mk2_yes h
        rw [jm_two h2.1 h2.2.1, jml_dn n l' _ ha, jml_dn n l' _ hb]
      · exact absurd (jml_bad h0 (by omega)) h
/-- With four levels of kids below the root's, and five relations, the bound is never met. -/
theorem jml_eq {N : Int} (hN : N ≤ 5) (n : Nat) (e : JT) : jml n N 5 e = jm n N e := by
  by_cases h : jm n N e = 0
  · by_cases h' : jml n N 5 e = 0
    · rw [h, h']
    · rw [jml_dn n 5 e h']
  · exact jml_up hN n 5 e h (by have := pc_le (jm n N e); omega)
theorem lvs_len {N : Int} (hN : N ≤ 5) : ∀ (n : Nat) (e : JT), jm n N e ≠ 0 → (lvs n e).length = pc (jm n N e)
  | n, e, h => by
    by_cases h0 : e.kids.length = 0
    · rw [lvs_leaf h0, jm_leaf h0]
      rw [jm_leaf h0] at h
      unfold lfM at h ⊢
      split at h
      · rename_i h'
        rw [if_pos h', pc_one _ (by omega)]; rfl
      · exact absurd rfl h
    · cases n with
      | zero => exact absurd (by unfold jm; rw [if_neg h0]) h
      | succ n =>
        by_cases h2 : e.kids.length = 2 ∧ e.leaf = 0
        · rw [jm_two h2.1 h2.2] at h ⊢
          obtain ⟨ha, hb, hab, he⟩ := mk2_yes h
          rw [lvs_two h2.1, he, pc_or _ (jm_lt hN _ _) _ (jm_lt hN _ _) hab, List.length_append, lvs_len hN n _ ha, lvs_len hN n _ hb]
        · exact absurd (jm_bad h0 (by omega)) h
theorem lvs_len5 {N : Int} (hN : N ≤ 5) {n : Nat} {e : JT} (h : jm n N e ≠ 0) : 1 ≤ (lvs n e).length ∧ (lvs n e).length ≤ 5 := by
  rw [lvs_len hN n e h]
  exact ⟨pc_pos _ (jm_lt hN _ _) h, pc_le _⟩
/-- A leaf is a relation, its bit is in the set. -/
theorem lvs_bit {N : Int} (hN : N ≤ 5) : ∀ (n : Nat) (e : JT), jm n N e ≠ 0 → ∀ x ∈ lvs n e, 0 ≤ x ∧ x < N ∧ (jm n N e).testBit x.toNat = true
  | n, e, h, x, hx => by
    by_cases h0 : e.kids.length = 0
    · rw [lvs_leaf h0] at hx
      simp only [List.mem_cons, List.not_mem_nil, or_false] at hx
      subst hx
      rw [jm_leaf h0] at h ⊢
      unfold lfM at h ⊢
      split at h
      · rename_i h'
        rw [if_pos h']
        exact ⟨h'.1, h'.2, by rw [Nat.testBit_two_pow_self]⟩
      · exact absurd rfl h
    · cases n with
      | zero => exact absurd (by unfold jm; rw [if_neg h0]) h
      | succ n =>
        by_cases h2 : e.kids.length = 2 ∧ e.leaf = 0
        · rw [jm_two h2.1 h2.2] at h ⊢
          obtain ⟨ha, hb, hab, he⟩ := mk2_yes h
          rw [lvs_two h2.1] at hx
          rw [he, Nat.testBit_or]
          rcases List.mem_append.1 hx with hx | hx
          · obtain ⟨q1, q2, q3⟩ := lvs_bit hN n _ ha x hx
            exact ⟨q1, q2, by rw [q3]; rfl⟩
          · obtain ⟨q1, q2, q3⟩ := lvs_bit hN n _ hb x hx
            exact ⟨q1, q2, by rw [q3, Bool.or_true]⟩
        · exact absurd (jm_bad h0 (by omega)) h
/-- No relation occurs twice. -/
theorem lvs_nodup {N : Int} (hN : N ≤ 5) : ∀ (n : Nat) (e : JT), jm n N e ≠ 0 → (lvs n e).Nodup
  | n, e, h => by
    by_cases h0 : e.kids.length = 0
    · rw [lvs_leaf h0]; simp
    · cases n with
      | zero => exact absurd (by unfold jm; rw [if_neg h0]) h
      | succ n =>
        by_cases h2 : e.kids.length = 2 ∧ e.leaf = 0
        · rw [jm_two h2.1 h2.2] at h
          obtain ⟨ha, hb, hab, he⟩ := mk2_yes h
          rw [lvs_two h2.1, List.nodup_append]
          refine ⟨lvs_nodup hN n _ ha, lvs_nodup hN n _ hb, fun x hx y hy hxy => ?_⟩
          subst hxy
          obtain ⟨_, _, q1⟩ := lvs_bit hN n _ ha x hx
          obtain ⟨_, _, q2⟩ := lvs_bit hN n _ hb x hy
          have q3 : (jm n N (e.kids[0]'(by omega)) &&& jm n N (e.kids[1]'(by omega))).testBit x.toNat = true := by rw [Nat.testBit_and, q1, q2]; rfl
          rw [hab] at q3
          simp at q3
        · exact absurd (jm_bad h0 (by omega)) h
/-- What LeavesOf answers. -/
def lvOf (n : Nat) (v : Bool) (N : Int) (e : JT) : List Int := if v = true ∧ jm n N e ≠ 0 then lvs n e else []
end Go.Proofs.Ytgjbmigplomekaa
