/- Plain maths of expressions: their values. -/
import Derived.Test.YtfillcjpdnpaiaaExprP
import Derived.Test.YtfillcjpdnpaiaaRelP
import Derived.Test.YtfillcjpdnpaiaaExprV
namespace Go.Proofs.Ytfillcjpdnpaiaa

def V.nil : V := ⟨true, 0⟩
def V.num (n : Int) : V := ⟨false, n⟩
/-- A number, or null where it is out of range. -/
def V.ofN (n : Int) : V := if -9999 ≤ n ∧ n ≤ 9999 then ⟨false, n⟩ else ⟨true, 0⟩
def V.flag (b : Bool) : V := ⟨false, if b then 1 else 0⟩
/-- Truths: 0 false, 1 unknown, 2 true. -/
def V.tr (v : V) : Int := if v.null then 1 else if v.n = 0 then 0 else 2
def trV (t : Int) : V := if t = 1 then ⟨true, 0⟩ else ⟨false, if t = 2 then 1 else 0⟩
def comb (k : Int) (a b : V) : V :=
  if k = 8 then trV (min a.tr b.tr) else if k = 9 then trV (max a.tr b.tr) else if a.null || b.null then ⟨true, 0⟩ else
  if k = 3 then V.ofN (a.n + b.n) else if k = 4 then V.ofN (a.n - b.n) else if k = 5 then V.ofN (a.n * b.n) else if k = 6 then V.flag (decide (a.n = b.n)) else V.flag (decide (a.n < b.n))
instance : Inhabited Ex := ⟨.mk 0 0 ⟨false, 0⟩ []⟩
/-- The value of an expression. -/
def ev (row : List V) : Nat → Ex → V
  | 0, e => if e.kind = 1 then row.getD e.col.toNat default else e.val
  | n + 1, e => if e.kind = 1 then row.getD e.col.toNat default else if e.kind = 2 then e.val else
    if e.kind = 10 then trV (2 - (ev row n (e.kids.getD 0 default)).tr) else if e.kind = 11 then V.flag (ev row n (e.kids.getD 0 default)).null else
    comb e.kind (ev row n (e.kids.getD 0 default)) (ev row n (e.kids.getD 1 default))
theorem V.ofN_valid (n : Int) : (V.ofN n).valid = true := by
  unfold V.ofN
  split
  · rename_i h; simp [V.valid, h]
  · rfl
theorem V.flag_valid (b : Bool) : (V.flag b).valid = true := by cases b <;> rfl
theorem trV_valid (t : Int) : (trV t).valid = true := by
  unfold trV
  split
  · rfl
  · split <;> rfl
theorem comb_valid (k : Int) (a b : V) : (comb k a b).valid = true := by
  unfold comb
  repeat' split
  all_goals first | exact trV_valid _ | exact V.ofN_valid _ | exact V.flag_valid _ | rfl
theorem ev_valid {row : List V} {wd : Int} (hr : row.all V.valid = true) (hw : (row.length : Int) = wd) : ∀ (n : Nat) (deep : Int) (e : Ex), vE wd n deep e = true → (ev row n e).valid = true := by
  have col : ∀ e : Ex, vScal wd e = true → e.kind = 1 → (row.getD e.col.toNat default).valid = true := fun e hs hk => by
    unfold vScal at hs
    rw [if_pos hk] at hs
    simp only [Bool.and_eq_true, decide_eq_true_eq] at hs
    have hlt : e.col.toNat < row.length := by omega
    rw [List.getD, List.getElem?_eq_getElem hlt]
    rw [List.all_eq_true] at hr
    exact hr _ (List.getElem_mem hlt)
  have con : ∀ e : Ex, vScal wd e = true → e.kind ≠ 1 → e.val.valid = true := fun e hs hk => by
    unfold vScal at hs
    rw [if_neg hk] at hs
    split at hs
    · simp only [Bool.and_eq_true] at hs; exact hs.2
    · simp only [Bool.and_eq_true, V.isZero, Bool.not_eq_true', decide_eq_true_eq] at hs
      simp [V.valid, hs.2.1, hs.2.2]
  intro n
  cases n with
  | zero =>
    intro deep e h
    have hs := (vE_head h).2
    unfold ev
    split
    · rename_i hk; exact col e hs hk
    · rename_i hk; exact con e hs hk
  | succ n =>
    intro deep e h
    have hs := (vE_head h).2
    unfold ev
    split
    · rename_i hk; exact col e hs hk
    · rename_i hk
      split
      · exact con e hs hk
      · split
        · exact trV_valid _
        · split
          · exact V.flag_valid _
          · exact comb_valid _ _ _
/- Walks of the small functions that compute values of expressions. -/
open Go Go.RowKit

abbrev Vv (v : V) : Value := .agg #[.bool v.null, .int .i64 v.n]
/-- Spec's truths: 0 false, 1 true, 2 unknown. -/
def V.tS (v : V) : Int := if v.null then 2 else if v.n = 0 then 0 else 1
def trS (t : Int) : V := if t = 2 then ⟨true, 0⟩ else ⟨false, t⟩
def notS (t : Int) : Int := if t = 2 then 2 else 1 - t
def andS (a b : Int) : Int := if a = 0 ∨ b = 0 then 0 else if a = 1 ∧ b = 1 then 1 else 2

theorem specTruth (v : V) (w : World) : Calls Try.prog 81 #[Vv v] w fun r w' => r = .returned (.int .i64 v.tS) ∧ Fr w w' := by
  obtain ⟨b, n⟩ := v
  cases b
  · by_cases h : n = 0
    · subst h
      go_enter Try.func81, Try.ntmps81
      go_wp2
      go_ret
      exact ⟨rfl, by (repeat (first | with_reducible exact Fr.refl _ | with_reducible assumption | with_reducible refine Fr.alloc ?_ _ | with_reducible refine Fr.drew ?_ | with_reducible refine Fr.drewN ?_ _ | (with_reducible refine Fr.setNew2 ?_ ?_ _; · (simp <;> omega)) | with_reducible refine Fr.trans ?_ (by assumption)))⟩
    · have e : (n == 0) = false := by simp [h]
      go_enter Try.func81, Try.ntmps81
      go_wp2
      go_ret
      exact ⟨ret_int (by simp [V.tS, h]), by (repeat (first | with_reducible exact Fr.refl _ | with_reducible assumption | with_reducible refine Fr.alloc ?_ _ | with_reducible refine Fr.drew ?_ | with_reducible refine Fr.drewN ?_ _ | (with_reducible refine Fr.setNew2 ?_ ?_ _; · (simp <;> omega)) | with_reducible refine Fr.trans ?_ (by assumption)))⟩
  · go_enter Try.func81, Try.ntmps81
    go_wp2
    go_ret
    exact ⟨rfl, by (repeat (first | with_reducible exact Fr.refl _ | with_reducible assumption | with_reducible refine Fr.alloc ?_ _ | with_reducible refine Fr.drew ?_ | with_reducible refine Fr.drewN ?_ _ | (with_reducible refine Fr.setNew2 ?_ ?_ _; · (simp <;> omega)) | with_reducible refine Fr.trans ?_ (by assumption)))⟩
theorem implTruth (v : V) (w : World) : Calls Try.prog 74 #[Vv v] w fun r w' => r = .returned (.int .i64 v.tr) ∧ Fr w w' := by
  obtain ⟨b, n⟩ := v
  cases b
  · by_cases h : n = 0
    · subst h
      go_enter Try.func74, Try.ntmps74
      go_wp2
      go_ret
      exact ⟨rfl, by (repeat (first | with_reducible exact Fr.refl _ | with_reducible assumption | with_reducible refine Fr.alloc ?_ _ | with_reducible refine Fr.drew ?_ | with_reducible refine Fr.drewN ?_ _ | (with_reducible refine Fr.setNew2 ?_ ?_ _; · (simp <;> omega)) | with_reducible refine Fr.trans ?_ (by assumption)))⟩
    · have e : (n == 0) = false := by simp [h]
      go_enter Try.func74, Try.ntmps74
      go_wp2
      go_ret
      exact ⟨ret_int (by simp [V.tr, h]), by (repeat (first | with_reducible exact Fr.refl _ | with_reducible assumption | with_reducible refine Fr.alloc ?_ _ | with_reducible refine Fr.drew ?_ | with_reducible refine Fr.drewN ?_ _ | (with_reducible refine Fr.setNew2 ?_ ?_ _; · (simp <;> omega)) | with_reducible refine Fr.trans ?_ (by assumption)))⟩
  · go_enter Try.func74, Try.ntmps74
    go_wp2
    go_ret
    exact ⟨rfl, by (repeat (first | with_reducible exact Fr.refl _ | with_reducible assumption | with_reducible refine Fr.alloc ?_ _ | with_reducible refine Fr.drew ?_ | with_reducible refine Fr.drewN ?_ _ | (with_reducible refine Fr.setNew2 ?_ ?_ _; · (simp <;> omega)) | with_reducible refine Fr.trans ?_ (by assumption)))⟩
theorem specNot (t : Int) (w : World) (h0 : 0 ≤ t) (h2 : t ≤ 2) : Calls Try.prog 80 #[.int .i64 t] w fun r w' => r = .returned (.int .i64 (notS t)) ∧ w = w' := by
  go_enter Try.func80, Try.ntmps80
  go_wp2
  all_goals go_ret
  all_goals exact ⟨ret_int (by unfold notS; split <;> simp_all <;> omega), rfl⟩
theorem specAnd (a b : Int) (w : World) : Calls Try.prog 90 #[.int .i64 a, .int .i64 b] w fun r w' => r = .returned (.int .i64 (andS a b)) ∧ w = w' := by
  by_cases a0 : a = 0 <;> by_cases b0 : b = 0 <;> by_cases a1 : a = 1 <;> by_cases b1 : b = 1
  all_goals go_enter Try.func90, Try.ntmps90
  all_goals go_wp2
  all_goals go_ret
  all_goals exact ⟨ret_int (by simp_all [andS]), rfl⟩
theorem specToInt (b : Bool) (w : World) : Calls Try.prog 82 #[.bool b] w fun r w' => r = .returned (.int .i64 (if b then 1 else 0)) ∧ w = w' := by
  cases b
  all_goals go_enter Try.func82, Try.ntmps82
  all_goals go_wp2
  all_goals go_ret
  all_goals exact ⟨rfl, rfl⟩
theorem specOf (t : Int) (w : World) : Calls Try.prog 79 #[.int .i64 t] w fun r w' => r = .returned (Vv (trS t)) ∧ Fr w w' := by
  by_cases h : t = 2
  · subst h
    go_enter Try.func79, Try.ntmps79
    go_wp2
    exact bodyPost_ret (v := .agg #[.bool true, .int .i64 0]) (by simp [results, Try.results79, go_sem]) rfl ⟨rfl, by (repeat (first | with_reducible exact Fr.refl _ | with_reducible assumption | with_reducible refine Fr.alloc ?_ _ | with_reducible refine Fr.drew ?_ | with_reducible refine Fr.drewN ?_ _ | (with_reducible refine Fr.setNew2 ?_ ?_ _; · (simp <;> omega)) | with_reducible refine Fr.trans ?_ (by assumption)))⟩
  · have e : (t == 2) = false := by simp [h]
    have R := hid (show trS t = ⟨false, t⟩ from if_neg h)
    go_enter Try.func79, Try.ntmps79
    go_wp2
    exact bodyPost_ret (v := .agg #[.bool false, .int .i64 t]) (by simp [results, Try.results79, go_sem]) rfl ⟨by rw [R.out], by (repeat (first | with_reducible exact Fr.refl _ | with_reducible assumption | with_reducible refine Fr.alloc ?_ _ | with_reducible refine Fr.drew ?_ | with_reducible refine Fr.drewN ?_ _ | (with_reducible refine Fr.setNew2 ?_ ?_ _; · (simp <;> omega)) | with_reducible refine Fr.trans ?_ (by assumption)))⟩
theorem implNull (w : World) : Calls Try.prog 88 #[] w fun r w' => r = .returned (.agg #[.bool true, .int .i64 0]) ∧ Fr w w' := by
  go_enter Try.func88, Try.ntmps88
  go_wp2
  exact bodyPost_ret (v := .agg #[.bool true, .int .i64 0]) (by simp [results, Try.results88, go_sem]) rfl ⟨rfl, by (repeat (first | with_reducible exact Fr.refl _ | with_reducible assumption | with_reducible refine Fr.alloc ?_ _ | with_reducible refine Fr.drew ?_ | with_reducible refine Fr.drewN ?_ _ | (with_reducible refine Fr.setNew2 ?_ ?_ _; · (simp <;> omega)) | with_reducible refine Fr.trans ?_ (by assumption)))⟩
theorem implNumber (n : Int) (w : World) : Calls Try.prog 50 #[.int .i64 n] w fun r w' => r = .returned (.agg #[.bool false, .int .i64 n]) ∧ Fr w w' := by
  go_enter Try.func50, Try.ntmps50
  go_wp2
  exact bodyPost_ret (v := .agg #[.bool false, .int .i64 n]) (by simp [results, Try.results50, go_sem]) rfl ⟨rfl, by (repeat (first | with_reducible exact Fr.refl _ | with_reducible assumption | with_reducible refine Fr.alloc ?_ _ | with_reducible refine Fr.drew ?_ | with_reducible refine Fr.drewN ?_ _ | (with_reducible refine Fr.setNew2 ?_ ?_ _; · (simp <;> omega)) | with_reducible refine Fr.trans ?_ (by assumption)))⟩
/-- The result's block behind a last call. -/
theorem resBlk {w w1 : World} {t : TypeId} {a b : Value} (b1 : Fr (w.alloc (.cells #[a, b] t)) w1) : Blk w1 w.heap.size t #[a, b] := (Blk.new w t #[a, b]).fr b1
theorem implFlag (b : Bool) (w : World) : Calls Try.prog 76 #[.bool b] w fun r w' => r = .returned (Vv (V.flag b)) ∧ Fr w w' := by
  cases b
  all_goals go_enter Try.func76, Try.ntmps76
  all_goals go_wp2_with fail
  all_goals refine (implNumber _ _).mono ?_
  all_goals rintro r w1 ⟨rfl, b1⟩
  all_goals obtain ⟨d0, d1, f0, f1⟩ := (resBlk b1).pair
  all_goals have F1 : Fr w w1 := ((Fr.refl w).alloc _).trans b1
  all_goals go_wp2
  · exact bodyPost_ret (v := .agg #[.bool false, .int .i64 0]) (by simp [results, Try.results76, go_sem, d0, d1]) rfl ⟨rfl, by (repeat (first | with_reducible exact Fr.refl _ | with_reducible assumption | with_reducible refine Fr.alloc ?_ _ | with_reducible refine Fr.drew ?_ | with_reducible refine Fr.drewN ?_ _ | (with_reducible refine Fr.setNew2 ?_ ?_ _; · (simp <;> omega)) | with_reducible refine Fr.trans ?_ (by assumption)))⟩
  · exact bodyPost_ret (v := .agg #[.bool false, .int .i64 1]) (by simp [results, Try.results76, go_sem, d0, d1]) rfl ⟨rfl, by (repeat (first | with_reducible exact Fr.refl _ | with_reducible assumption | with_reducible refine Fr.alloc ?_ _ | with_reducible refine Fr.drew ?_ | with_reducible refine Fr.drewN ?_ _ | (with_reducible refine Fr.setNew2 ?_ ?_ _; · (simp <;> omega)) | with_reducible refine Fr.trans ?_ (by assumption)))⟩
end Go.Proofs.Ytfillcjpdnpaiaa
