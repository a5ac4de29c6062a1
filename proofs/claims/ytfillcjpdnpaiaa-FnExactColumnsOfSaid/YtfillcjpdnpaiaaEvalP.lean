/- Plain maths of expressions: their values. -/
import Derived.Test.YtfillcjpdnpaiaaExprP
import Derived.Test.YtfillcjpdnpaiaaRelP
namespace Go.Proofs.Ytfillcjpdnpaiaa

def V.nil : V := ⟨true, 0⟩
def V.num (n : Int) : V := ⟨false, n⟩
/-- A number, or null where it is out of range. -/
def V.ofN (n : Int) : V := if -9999 ≤ n ∧ n ≤ 9999 then ⟨false, n⟩ else ⟨true, 0⟩
def V.flag (b : Bool) : V := ⟨false, if b then 1 else 0⟩
/-- Truths: 0 false, 1 unknown, 2 true. -/
def V.tr (v : V) : Int := if v.null then 1 else if v.n = 0 then 0 else 2
def trV (t : Int) : V := if t = 1 then ⟨true, 0⟩ else ⟨false, if t = 2 then 1 else 0⟩
def comb (k : Int) (a b : V) : V :=
  if k = 8 then trV (min a.tr b.tr) else if k = 9 then trV (max a.tr b.tr) else if a.null || b.null then ⟨true, 0⟩ else
  if k = 3 then V.ofN (a.n + b.n) else if k = 4 then V.ofN (a.n - b.n) else if k = 5 then V.ofN (a.n * b.n) else if k = 6 then V.flag (decide (a.n = b.n)) else V.flag (decide (a.n < b.n))
instance : Inhabited Ex := ⟨.mk 0 0 ⟨false, 0⟩ []⟩
/-- The value of an expression. -/
def ev (row : List V) : Nat → Ex → V
  | 0, e => if e.kind = 1 then row.getD e.col.toNat default else e.val
  | n + 1, e => if e.kind = 1 then row.getD e.col.toNat default else if e.kind = 2 then e.val else
    if e.kind = 10 then trV (2 - (ev row n (e.kids.getD 0 default)).tr) else if e.kind = 11 then V.flag (ev row n (e.kids.getD 0 default)).null else
    comb e.kind (ev row n (e.kids.getD 0 default)) (ev row n (e.kids.getD 1 default))
theorem V.ofN_valid (n : Int) : (V.ofN n).valid = true := by
  unfold V.ofN
  split
  · rename_i h; simp [V.valid, h]
  · rfl
theorem V.flag_valid (b : Bool) : (V.flag b).valid = true := by cases b <;> rfl
theorem trV_valid (t : Int) : (trV t).valid = true := by
  unfold trV
  split
  · rfl
  · split <;> rfl
theorem comb_valid (k : Int) (a b : V) : (comb k a b).valid = true := by
  unfold comb
  repeat' split
  all_goals first | exact trV_valid _ | exact V.ofN_valid _ | exact V.flag_valid _ | rfl
theorem ev_valid {row : List V} {wd : Int} (hr : row.all V.valid = true) (hw : (row.length : Int) = wd) : ∀ (n : Nat) (deep : Int) (e : Ex), vE wd n deep e = true → (ev row n e).valid = true := by
  have col : ∀ e : Ex, vScal wd e = true → e.kind = 1 → (row.getD e.col.toNat default).valid = true := fun e hs hk => by
    unfold vScal at hs
    rw [if_pos hk] at hs
    simp only [Bool.and_eq_true, decide_eq_true_eq] at hs
    have hlt : e.col.toNat < row.length := by omega
    rw [List.getD, List.getElem?_eq_getElem hlt]
    rw [List.all_eq_true] at hr
    exact hr _ (List.getElem_mem hlt)
  have con : ∀ e : Ex, vScal wd e = true → e.kind ≠ 1 → e.val.valid = true := fun e hs hk => by
    unfold vScal at hs
    rw [if_neg hk] at hs
    split at hs
    · simp only [Bool.and_eq_true] at hs; exact hs.2
    · simp only [Bool.and_eq_true, V.isZero, Bool.not_eq_true', decide_eq_true_eq] at hs
      simp [V.valid, hs.2.1, hs.2.2]
  intro n
  cases n with
  | zero =>
    intro deep e h
    have hs := (vE_head h).2
    unfold ev
    split
    · rename_i hk; exact col e hs hk
    · rename_i hk; exact con e hs hk
  | succ n =>
    intro deep e h
    have hs := (vE_head h).2
    unfold ev
    split
    · rename_i hk; exact col e hs hk
    · rename_i hk
      split
      · exact con e hs hk
      · split
        · exact trV_valid _
        · split
          · exact V.flag_valid _
          · exact comb_valid _ _ _
end Go.Proofs.Ytfillcjpdnpaiaa
