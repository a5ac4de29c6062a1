/- Walks of the program's functions that take an atom out of a query: copied at atoms, Grow, Concat, without. -/
import Derived.Test.YtahclhldpcboeaaMapI
import Derived.Test.YtahclhldpcboeaaFrzW
import Derived.Lib.AppendZeros
import Derived.Deep.RegionHeld3
namespace Go.Proofs.Ytahclhldpcboeaa
open Go Go.RowKit

def cellsA (a : Atom) : List Value := [.int .i64 a.rel, .int .i64 a.x, .int .i64 a.y]
theorem own_A {w : World} {base e n cap : Nat} {A : Option Addr} {xs : List Atom} (h : w.ownsRow base e 3 (.slice A n cap) n (xs.flatMap cellsA)) (hn : n = xs.length) : RdSl rdAtom (fromB w base) 3 A xs :=
  own_rd h hn (fun _ => rfl) fun m c x hc => ⟨hc 0 (by simp [cellsA]), hc 1 (by simp [cellsA]), hc 2 (by simp [cellsA])⟩
theorem cellsA_len (xs : List Atom) : (xs.flatMap cellsA).length = xs.length * 3 := by
  induction xs with
  | nil => rfl
  | cons a r ih => rw [List.flatMap_cons, List.length_append, ih]; simp [cellsA]; omega
theorem cellsA_one (xs : List Atom) : (xs.flatMap cellsA).all (·.oneCell') = true := by
  rw [List.all_eq_true]
  intro u hu
  rw [List.mem_flatMap] at hu
  obtain ⟨x, _, hx⟩ := hu
  simp only [cellsA, List.mem_cons, List.not_mem_nil, or_false] at hx
  rcases hx with rfl | rfl | rfl <;> rfl
theorem rd_cellsA {m : Mv} {g p : Nat} {xs : List Atom} (h : RdSl rdAtom m 3 (some ⟨g, p, none⟩) xs) : ∀ (j : Nat) u, (xs.flatMap cellsA)[j]? = some u → m ⟨g, p + j, none⟩ = some u := by
  intro j u hu
  have hl := cellsA_len xs
  have hj : j < xs.length * 3 := by
    rw [← hl]; exact (List.getElem?_eq_some_iff.1 hu).1
  have hi : j / 3 < xs.length := by omega
  obtain ⟨b, o, hA, r0, r1, r2⟩ := h.atom hi
  injection hA with hA
  injection hA with h1 h2 _
  subst h1 h2
  have h2 := flatMap_get (f := cellsA) (sz := 3) (fun _ => rfl) xs (j / 3) hi (j % 3) (Nat.mod_lt _ (by decide)) (by simp [cellsA]; omega)
  have ej : j / 3 * 3 + j % 3 = j := by omega
  rw [ej, hu] at h2
  rcases (by omega : j % 3 = 0 ∨ j % 3 = 1 ∨ j % 3 = 2) with e | e | e
  all_goals simp only [e, cellsA] at h2
  all_goals injection h2 with h2
  all_goals rw [h2]
  all_goals first
    | (rw [show p + j = p + j / 3 * 3 by omega]; exact r0)
    | (rw [show p + j = p + j / 3 * 3 + 1 by omega]; exact r1)
    | (rw [show p + j = p + j / 3 * 3 + 2 by omega]; exact r2)
/-- A part of a list that lies in memory. -/
theorem rd_drop {X : Type} {rd : Rd X} {m : Mv} {b o sz k : Nat} {xs : List X} (h : RdSl rd m sz (some ⟨b, o, none⟩) xs) : RdSl rd m sz (some ⟨b, o + k * sz, none⟩) (xs.drop k) := fun hne => by
  have hx : xs ≠ [] := by rintro rfl; simp at hne
  obtain ⟨b', o', hA, hc⟩ := h hx
  cases hA
  refine ⟨b, _, rfl, fun i hi => ?_⟩
  simp only [List.length_drop] at hi
  have h1 := hc (k + i) (by omega)
  rw [List.getElem_drop]
  rwa [show o + (k + i) * sz = o + k * sz + i * sz by rw [Nat.add_mul]; omega] at h1
theorem rd_take {X : Type} {rd : Rd X} {m : Mv} {A : Option Addr} {sz k : Nat} {xs : List X} (h : RdSl rd m sz A xs) : RdSl rd m sz A (xs.take k) := fun hne => by
  have hx : xs ≠ [] := by rintro rfl; simp at hne
  obtain ⟨b', o', hA, hc⟩ := h hx
  refine ⟨b', o', hA, fun i hi => ?_⟩
  simp only [List.length_take] at hi
  rw [List.getElem_take]
  exact hc i (by omega)
/-- A block that holds just a list's cells is a row of it. -/
theorem own_blk {w : World} {g base sz n : Nat} {t : TypeId} {xs : List Value} (hB : Blk w g t xs.toArray) (hb : base ≤ g) (hl : xs.length = n * sz) (hn : n ≤ maxLen) : w.ownsRow base t sz (.slice (some ⟨g, 0, none⟩) n n) n xs :=
  ⟨hl, .inr ⟨g, n, xs.toArray, rfl, hb, hB, Nat.le_refl _, hn, by simp [hl], by rw [← hl]; simp⟩⟩
/- Walk of the program's without. -/

/-- A query of the call's own. -/
def RulOut (base : Nat) (q : Int) (hd : List Int) (bd : List Atom) (r : Ending) (w' : World) : Prop := ∃ A c B d, r = .returned (.agg #[.int .i64 q, .slice A hd.length c, .slice B bd.length d]) ∧
  w'.ownsRow base 3 1 (.slice A hd.length c) hd.length (hd.map iv) ∧ w'.ownsRow base 60 3 (.slice B bd.length d) bd.length (bd.flatMap cellsA)
theorem Ch.setAt {g i : Nat} {a w : World} (h : Ch (· = g) a w) (u : Value) (_ : Unit) : Ch (· = g) a (w.setCell ⟨g, i, none⟩ u) := h.set (.inl rfl) u
theorem own_capM {w : World} {base e sz n cap : Nat} {A : Option Addr} {xs : List Value} (h : w.ownsRow base e sz (.slice A n cap) n xs) : n ≤ cap ∧ cap ≤ maxLen := by
  rcases h.2 with ⟨h1, h2⟩ | ⟨g, c, cur, hv, _, _, h1, h2, _⟩
  · cases h1; exact ⟨by omega, Nat.zero_le _⟩
  · cases hv; exact ⟨h1, h2⟩
end Go.Proofs.Ytahclhldpcboeaa
