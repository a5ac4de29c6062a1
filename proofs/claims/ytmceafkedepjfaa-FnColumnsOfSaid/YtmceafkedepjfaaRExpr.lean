/- Expr: a tree: how it lies in memory, how an argument of it opens, and the walks of its size, copy and comparison. -/
import Derived.Test.YtmceafkedepjfaaProg
import Derived.Test.YtmceafkedepjfaaOpen
import Derived.Test.YtmceafkedepjfaaMemQ
import Derived.Test.YtmceafkedepjfaaMemS
import Derived.Test.YtmceafkedepjfaaTValue
import Derived.WalkKit
import Derived.WalkSpells
import Derived.WalkLawsBesides
import Derived.BigQuiet
import Derived.Deep.QuietTactic
import Derived.StillTailTactics
namespace Go.Proofs.Ytmceafkedepjfaa
open Go Go.RowKit

inductive Ex where
  | mk (kind : Int) (col : Int) (val : V) (kids : List Ex)
def Ex.kind : Ex → Int | .mk x _ _ _ => x
def Ex.col : Ex → Int | .mk _ x _ _ => x
def Ex.val : Ex → V | .mk _ _ x _ => x
def Ex.kids : Ex → List Ex | .mk _ _ _ ks => ks
/-- A tree of at most n levels in memory. -/
def rdEx : Nat → Rd Ex
  | 0 => fun _ _ _ => False
  | n + 1 => fun m c e => c 0 = some (.int .i64 e.kind) ∧ c 1 = some (.int .i64 e.col) ∧ c 2 = some (.bool e.val.null) ∧ c 3 = some (.int .i64 e.val.n) ∧ rdSlice (rdEx n) 5 m (fun j => c (4 + j)) e.kids
theorem rdEx_mono : ∀ n, RdMono (rdEx n)
  | 0 => fun _ _ _ _ _ _ _ h => h
  | n + 1 => fun m m' _ _ _ hm hc h => ⟨hc _ _ h.1, hc _ _ h.2.1, hc _ _ h.2.2.1, hc _ _ h.2.2.2.1, rdSlice_mono (rdEx_mono n) m m' _ _ _ hm (fun _ _ hv => hc _ _ hv) h.2.2.2.2⟩
theorem rdEx_up : ∀ (n : Nat) m c e, rdEx n m c e → rdEx (n + 1) m c e
  | 0, _, _, _, h => h.elim
  | n + 1, m, c, e, h => by
    obtain ⟨A, cap, h0, h1, h2⟩ := h.2.2.2.2
    exact ⟨h.1, h.2.1, h.2.2.1, h.2.2.2.1, A, cap, h0, fun hne => by obtain ⟨b, o, hA, hc⟩ := h1 hne; exact ⟨b, o, hA, fun i hi => rdEx_up n _ _ _ (hc i hi)⟩, h2⟩
theorem rdEx_le {n n' : Nat} (h : n ≤ n') {m : Mv} {c : Nat → Option Value} {e : Ex} (hr : rdEx n m c e) : rdEx n' m c e := by
  induction h with
  | refl => exact hr
  | step _ ih => exact rdEx_up _ _ _ _ ih
theorem RdSl.ex0 {m : Mv} {A : Option Addr} {xs : List Ex} (h : RdSl (rdEx 0) m 5 A xs) : xs = [] := by
  cases xs with
  | nil => rfl
  | cons a r => obtain ⟨b, o, hA, hc⟩ := h (by simp); exact (hc 0 (by simp)).elim
theorem RdSl.ex {n : Nat} {m : Mv} {A : Option Addr} {xs : List Ex} (h : RdSl (rdEx (n + 1)) m 5 A xs) {k : Nat} (hk : k < xs.length) :
    ∃ b o B c, A = some ⟨b, o, none⟩ ∧ m ⟨b, o + k * 5, none⟩ = some (.int .i64 xs[k].kind) ∧ m ⟨b, o + k * 5 + 1, none⟩ = some (.int .i64 xs[k].col) ∧ m ⟨b, o + k * 5 + 2, none⟩ = some (.bool xs[k].val.null) ∧ m ⟨b, o + k * 5 + 3, none⟩ = some (.int .i64 xs[k].val.n) ∧ m ⟨b, o + k * 5 + 4, none⟩ = some (.slice B xs[k].kids.length c) ∧ RdSl (rdEx n) m 5 B xs[k].kids ∧ xs[k].kids.length ≤ maxLen := by
  obtain ⟨b, o, hA, hc⟩ := h.at_ hk
  obtain ⟨g0, g1, g2, g3, B, c, h0, h1, h2, _⟩ := hc
  exact ⟨b, o, B, c, hA, g0, g1, g2, g3, h0, h1, h2⟩
def exSzL (f : Int → Ex → Int) : Int → List Ex → Int
  | left, [] => left
  | left, x :: r => if f left x < 0 then -1 else exSzL f (f left x) r
def exSz : Nat → Int → List Ex → Int
  | 0, left, xs => if left < (xs.length : Int) then -1 else left - xs.length
  | n + 1, left, xs => if left < (xs.length : Int) then -1 else exSzL (fun l e => exSz n l e.kids) (left - xs.length) xs
def exSm : Nat → List Ex → Prop
  | 0, xs => xs.length ≤ 1048576
  | n + 1, xs => xs.length ≤ 1048576 ∧ ∀ i (h : i < xs.length), exSm n xs[i].kids
theorem exSm_len {n : Nat} {xs : List Ex} (h : exSm n xs) : xs.length ≤ 1048576 := by
  cases n with
  | zero => exact h
  | succ n => exact h.1
theorem exSzL_facts {f : Int → Ex → Int} {P : Ex → Prop} (hf : ∀ l e, 0 ≤ l → l ≤ 1048576 → f l e = -1 ∨ (0 ≤ f l e ∧ f l e ≤ l ∧ P e)) : ∀ (xs : List Ex) (l : Int), 0 ≤ l → l ≤ 1048576 → exSzL f l xs = -1 ∨ (0 ≤ exSzL f l xs ∧ exSzL f l xs ≤ l ∧ ∀ x ∈ xs, P x)
  | [], l, h, _ => .inr ⟨h, Int.le_refl _, fun x hx => by simp at hx⟩
  | x :: r, l, h, h' => by
    unfold exSzL
    rcases hf l x h h' with h1 | ⟨h1, h2, h3⟩
    · left; rw [if_pos (by omega)]
    · rw [if_neg (by omega)]
      rcases exSzL_facts hf r (f l x) h1 (by omega) with h4 | ⟨h4, h5, h6⟩
      · exact .inl h4
      · exact .inr ⟨h4, by omega, fun y hy => by
          rcases List.mem_cons.1 hy with rfl | hy
          · exact h3
          · exact h6 y hy⟩
theorem exSz_facts : ∀ (n : Nat) (left : Int) (xs : List Ex), 0 ≤ left → left ≤ 1048576 → exSz n left xs = -1 ∨ (0 ≤ exSz n left xs ∧ exSz n left xs ≤ left ∧ exSm n xs)
  | 0, left, xs, h, h' => by
    unfold exSz exSm
    by_cases hl : left < (xs.length : Int)
    · left; rw [if_pos hl]
    · right; rw [if_neg hl]; omega
  | n + 1, left, xs, h, h' => by
    unfold exSz exSm
    by_cases hl : left < (xs.length : Int)
    · left; rw [if_pos hl]
    · rw [if_neg hl]
      rcases exSzL_facts (P := fun e => exSm n e.kids) (fun l e h1 h2 => exSz_facts n l e.kids h1 h2) xs (left - xs.length) (by omega) (by omega) with h1 | ⟨h1, h2, h3⟩
      · exact .inl h1
      · exact .inr ⟨h1, by omega, by omega, fun i hi => h3 _ (List.getElem_mem hi)⟩
theorem exSzL_at {f : Int → Ex → Int} {xs : List Ex} {k : Nat} (hk : k < xs.length) (l : Int) : exSzL f l (xs.drop k) = if f l xs[k] < 0 then -1 else exSzL f (f l xs[k]) (xs.drop (k + 1)) := by
  rw [List.drop_eq_getElem_cons hk]; rfl
end Go.Proofs.Ytmceafkedepjfaa
