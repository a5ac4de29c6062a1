/- Marks on expressions: where the lists of kids lie, how many parts there are, and what marks leave. -/
import Derived.Test.YtlmiadeaiiehaaaRExpr
namespace Go.Proofs.Ytlmiadeaiiehaaa
open Go Go.RowKit

def sumT (f : Ex → Nat) : List Ex → Nat
  | [] => 0
  | x :: r => f x + sumT f r
/-- How many parts a list of expressions has. -/
def tot : Nat → List Ex → Nat
  | 0, xs => xs.length
  | n + 1, xs => xs.length + sumT (fun x => tot n x.kids) xs
theorem exSzL_tot {f : Int → Ex → Int} {t : Ex → Nat} (hf : ∀ l e, 0 ≤ l → l ≤ 1048576 → f l e = -1 ∨ (0 ≤ f l e ∧ f l e = l - t e)) : ∀ (xs : List Ex) (l : Int), 0 ≤ l → l ≤ 1048576 → exSzL f l xs = -1 ∨ (0 ≤ exSzL f l xs ∧ exSzL f l xs = l - sumT t xs)
  | [], l, h, _ => .inr ⟨h, by simp [exSzL, sumT]⟩
  | x :: r, l, h, h' => by
    unfold exSzL
    rcases hf l x h h' with h1 | ⟨h1, h2⟩
    · left; rw [if_pos (by omega)]
    · rw [if_neg (by omega)]
      rcases exSzL_tot hf r (f l x) h1 (by omega) with h4 | ⟨h4, h5⟩
      · exact .inl h4
      · exact .inr ⟨h4, by rw [h5, h2]; simp only [sumT]; omega⟩
theorem exSz_tot : ∀ (n : Nat) (left : Int) (xs : List Ex), 0 ≤ left → left ≤ 1048576 → exSz n left xs = -1 ∨ (0 ≤ exSz n left xs ∧ exSz n left xs = left - tot n xs)
  | 0, left, xs, h, h' => by
    unfold exSz tot
    by_cases hl : left < (xs.length : Int)
    · left; rw [if_pos hl]
    · right; rw [if_neg hl]; omega
  | n + 1, left, xs, h, h' => by
    unfold exSz tot
    by_cases hl : left < (xs.length : Int)
    · left; rw [if_pos hl]
    · rw [if_neg hl]
      rcases exSzL_tot (t := fun e => tot n e.kids) (fun l e h1 h2 => exSz_tot n l e.kids h1 h2) xs (left - xs.length) (by omega) (by omega) with h1 | ⟨h1, h2⟩
      · exact .inl h1
      · exact .inr ⟨h1, by omega⟩
theorem sumT_take {f : Ex → Nat} {xs : List Ex} {k : Nat} (hk : k < xs.length) : sumT f (xs.take (k + 1)) = sumT f (xs.take k) + f xs[k] := by
  induction xs generalizing k with
  | nil => simp at hk
  | cons x r ih =>
    cases k with
    | zero => simp [sumT]
    | succ k =>
      simp only [List.length_cons] at hk
      simp only [List.take_succ_cons, sumT, List.getElem_cons_succ]
      rw [ih (by omega)]; omega
theorem sumT_le {f : Ex → Nat} {xs : List Ex} (k : Nat) : sumT f (xs.take k) ≤ sumT f xs := by
  induction xs generalizing k with
  | nil => simp
  | cons x r ih =>
    cases k with
    | zero => simp [sumT]
    | succ k =>
      simp only [List.take_succ_cons, sumT]
      have := ih k
      omega
/-- Blocks of expressions from lo on: as they were, but for cells that hold no list of kids. -/
def KM (lo : Nat) (w w' : World) : Prop := ∀ k cs, lo ≤ k → Blk w k 93 cs → ∃ cs', Blk w' k 93 cs' ∧ cs'.size = cs.size ∧ ∀ j, j % 5 = 4 → cs'[j]? = cs[j]?
theorem KM.refl {lo : Nat} (w : World) : KM lo w w := fun _ cs _ h => ⟨cs, h, rfl, fun _ _ => rfl⟩
theorem KM.trans {lo : Nat} {a b c : World} (h : KM lo a b) (k : KM lo b c) : KM lo a c := fun i cs hi hB => by
  obtain ⟨cs1, h1, h2, h3⟩ := h i cs hi hB
  obtain ⟨cs2, h4, h5, h6⟩ := k i cs1 hi h1
  exact ⟨cs2, h4, h5.trans h2, fun j hj => (h6 j hj).trans (h3 j hj)⟩
theorem Fr.km {lo : Nat} {a b : World} (h : Fr a b) : KM lo a b := fun _ cs _ hB => ⟨cs, hB.fr h, rfl, fun _ _ => rfl⟩
theorem Ch.km {S : Nat → Prop} {lo : Nat} {a b : World} (h : Ch S a b) (hS : ∀ k, S k → k < lo) : KM lo a b := fun k cs hk hB => ⟨cs, (h.block k hB.lt (fun hs => by have := hS _ hs; omega)).trans hB, rfl, fun _ _ => rfl⟩
theorem KM.set {lo : Nat} {w : World} {p : Addr} (hp : p.off % 5 ≠ 4) (hn : p = ⟨p.block, p.off, none⟩) (u : Value) : KM lo w (w.setCell p u) := fun k cs hk hB => by
  by_cases e : k = p.block
  · subst e
    refine ⟨cs.setIfInBounds p.off u, by rw [hn]; exact hB.set_ _ _, by simp, fun j hj => ?_⟩
    rw [Array.getElem?_setIfInBounds, if_neg (by intro e; exact hp (by rw [e]; exact hj))]
  · exact ⟨cs, hB.far e u, rfl, fun _ _ => rfl⟩
/-- A list of expressions lies at the head of a block of [lo, hi) that may be written, its kids' lists too. -/
def Sh : Nat → World → Nat → Nat → Option Addr → List Ex → Prop
  | 0, _, _, _, _, xs => xs = []
  | n + 1, w, lo, hi, A, xs => xs ≠ [] → ∃ b cs, A = some ⟨b, 0, none⟩ ∧ lo ≤ b ∧ b < hi ∧ Blk w b 93 cs ∧ xs.length * 5 ≤ cs.size ∧ ∀ i (h : i < xs.length), ∃ K c, cs[i * 5 + 4]? = some (.slice K xs[i].kids.length c) ∧ Sh n w lo hi K xs[i].kids
theorem Sh.km {w w' : World} {lo hi : Nat} (hk : KM lo w w') : ∀ {n : Nat} {A : Option Addr} {xs : List Ex}, Sh n w lo hi A xs → Sh n w' lo hi A xs
  | 0, _, _, h => h
  | n + 1, A, xs, h => fun hne => by
    obtain ⟨b, cs, hA, h1, h2, hB, hs, hc⟩ := h hne
    obtain ⟨cs', hB', hs', hm⟩ := hk b cs h1 hB
    refine ⟨b, cs', hA, h1, h2, hB', by omega, fun i hi => ?_⟩
    obtain ⟨K, c, h4, h5⟩ := hc i hi
    exact ⟨K, c, (hm _ (by omega)).trans h4, Sh.km hk h5⟩
theorem Sh.wide {w : World} {lo hi lo' hi' : Nat} (h1 : lo' ≤ lo) (h2 : hi ≤ hi') : ∀ {n : Nat} {A : Option Addr} {xs : List Ex}, Sh n w lo hi A xs → Sh n w lo' hi' A xs
  | 0, _, _, h => h
  | n + 1, A, xs, h => fun hne => by
    obtain ⟨b, cs, hA, q1, q2, hB, hs, hc⟩ := h hne
    refine ⟨b, cs, hA, by omega, by omega, hB, hs, fun i hi => ?_⟩
    obtain ⟨K, c, h4, h5⟩ := hc i hi
    exact ⟨K, c, h4, Sh.wide h1 h2 h5⟩
/-- Blocks of S that hold expressions stand. -/
def KeepS (S : Nat → Prop) (w w' : World) : Prop := ∀ k cs, S k → Blk w k 93 cs → Blk w' k 93 cs
theorem Fr.keepS {S : Nat → Prop} {w w' : World} (h : Fr w w') : KeepS S w w' := fun _ _ _ hB => hB.fr h
theorem Ch.keepS {D S : Nat → Prop} {w w' : World} (h : Ch D w w') (hd : ∀ k, S k → ¬ D k) : KeepS S w w' := fun k _ hk hB => (h.block k hB.lt (hd k hk)).trans hB
theorem Ch.mono {S T : Nat → Prop} {w w' : World} (h : Ch S w w') (hs : ∀ k, S k → T k) : Ch T w w' := ⟨h.os, h.tape, h.output, h.size, fun k hk hn => h.block k hk fun hh => hn (hs k hh)⟩
theorem KeepS.trans {S : Nat → Prop} {a b c : World} (h : KeepS S a b) (k : KeepS S b c) : KeepS S a c := fun i cs hi hB => k i cs hi (h i cs hi hB)
theorem KeepS.sub {S T : Nat → Prop} {a b : World} (h : KeepS S a b) (hs : ∀ k, T k → S k) : KeepS T a b := fun i cs hi hB => h i cs (hs i hi) hB
/-- A list of expressions lies at the head of a block of S, its kids' lists in blocks of S too, all different. -/
def ShS : Nat → World → (Nat → Prop) → Option Addr → List Ex → Prop
  | 0, _, _, _, xs => xs = []
  | n + 1, w, S, A, xs => xs ≠ [] → ∃ b cs, ∃ T : Nat → Nat → Prop, A = some ⟨b, 0, none⟩ ∧ S b ∧ Blk w b 93 cs ∧ xs.length * 5 ≤ cs.size ∧ (∀ i k, T i k → S k ∧ k ≠ b) ∧ (∀ i j k, T i k → T j k → i = j) ∧
      ∀ i (h : i < xs.length), ∃ K c, cs[i * 5 + 4]? = some (.slice K xs[i].kids.length c) ∧ ShS n w (T i) K xs[i].kids
theorem ShS.keep : ∀ {n : Nat} {w w' : World} {S : Nat → Prop} {A : Option Addr} {xs : List Ex}, KeepS S w w' → ShS n w S A xs → ShS n w' S A xs
  | 0, _, _, _, _, _, _, h => h
  | n + 1, _, _, _, _, _, hk, h => fun hne => by
    obtain ⟨b, cs, T, hA, hb, hB, hs, h1, h2, hc⟩ := h hne
    refine ⟨b, cs, T, hA, hb, hk b cs hb hB, hs, h1, h2, fun i hi => ?_⟩
    obtain ⟨K, c, h4, h5⟩ := hc i hi
    exact ⟨K, c, h4, ShS.keep (hk.sub fun k hT => (h1 i k hT).1) h5⟩
theorem ShS.sub {n : Nat} {w : World} {S S' : Nat → Prop} {A : Option Addr} {xs : List Ex} (hs : ∀ k, S k → S' k) (h : ShS n w S A xs) : ShS n w S' A xs := by
  cases n with
  | zero => exact h
  | succ n =>
    intro hne
    obtain ⟨b, cs, T, hA, hb, hB, hz, h1, h2, hc⟩ := h hne
    exact ⟨b, cs, T, hA, hs b hb, hB, hz, fun i k hT => ⟨hs k (h1 i k hT).1, (h1 i k hT).2⟩, h2, hc⟩
theorem ShS.up : ∀ {n : Nat} {w : World} {S : Nat → Prop} {A : Option Addr} {xs : List Ex}, ShS n w S A xs → ShS (n + 1) w S A xs
  | 0, _, _, _, xs, h => fun hne => absurd (show xs = [] from h) hne
  | n + 1, _, _, _, _, h => fun hne => by
    obtain ⟨b, cs, T, hA, hb, hB, hz, h1, h2, hc⟩ := h hne
    refine ⟨b, cs, T, hA, hb, hB, hz, h1, h2, fun i hi => ?_⟩
    obtain ⟨K, c, h4, h5⟩ := hc i hi
    exact ⟨K, c, h4, h5.up⟩
theorem ShS.le {n m : Nat} (hnm : n ≤ m) {w : World} {S : Nat → Prop} {A : Option Addr} {xs : List Ex} (h : ShS n w S A xs) : ShS m w S A xs := by
  induction hnm with
  | refl => exact h
  | step _ ih => exact ih.up
theorem ShS.nil {n : Nat} {w : World} {S : Nat → Prop} {A : Option Addr} : ShS n w S A [] := by
  cases n with
  | zero => rfl
  | succ n => exact fun h => absurd rfl h
end Go.Proofs.Ytlmiadeaiiehaaa
