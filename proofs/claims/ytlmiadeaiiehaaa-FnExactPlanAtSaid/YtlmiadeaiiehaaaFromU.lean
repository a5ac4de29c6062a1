/- Cells that are not frozen, in blocks of a call's own. -/
import Derived.Test.YtlmiadeaiiehaaaMem
namespace Go.Proofs.Ytlmiadeaiiehaaa
open Go Go.RowKit

/-- The cells of the blocks from lo on that are not frozen. -/
def fromU (w : World) (lo : Nat) : Mv := fun p => if lo ≤ p.block ∧ w.frozen? p = false then w.cell? p else none
theorem fromU_le (w : World) (lo : Nat) : Mle (fromU w lo) (fromB w lo) := fun p v e => by
  unfold fromU at e
  unfold fromB
  split at e
  · rename_i h; rw [if_pos h.1]; exact e
  · cases e
theorem fromU_lo {w : World} {lo lo' : Nat} (h : lo' ≤ lo) : Mle (fromU w lo) (fromU w lo') := fun p v e => by
  unfold fromU at e ⊢
  split at e
  · rename_i h'; rw [if_pos ⟨by omega, h'.2⟩]; exact e
  · cases e
theorem Fr.mle_u {w w' : World} (h : Fr w w') (lo : Nat) : Mle (fromU w lo) (fromU w' lo) := fun p v e => by
  unfold fromU at e ⊢
  split at e
  · rename_i h'; rw [if_pos ⟨h'.1, h.frozen e h'.2⟩]; exact h.cell e
  · cases e
theorem Ch.mle_u {S : Nat → Prop} {w w' : World} {lo : Nat} (h : Ch S w w') (hS : ∀ k, S k → k < lo) : Mle (fromU w lo) (fromU w' lo) := fun p v e => by
  unfold fromU at e ⊢
  split at e
  · rename_i h'
    have hb := h.block p.block (cell_lt e) (fun hs => by have := hS _ hs; omega)
    have hf : w'.frozen? p = w.frozen? p := by unfold World.frozen?; rw [hb]
    rw [if_pos ⟨h'.1, hf.trans h'.2⟩]
    exact (World.cell?_of_block (w := w) hb).trans e
  · cases e
theorem Blk.u {w : World} {g lo : Nat} {t : TypeId} {cs : Array Value} (h : Blk w g t cs) (hl : lo ≤ g) (i : Nat) : fromU w lo ⟨g, i, none⟩ = cs[i]? := by
  unfold fromU
  rw [if_pos ⟨hl, h.frozen i⟩, h.cell]
theorem RdSl.toU {X : Type} {rd : Rd X} (hfl : RdFlat rd) {w : World} {sz g lo : Nat} {t : TypeId} {cs : Array Value} {xs : List X} (h : RdSl rd w.cell? sz (some ⟨g, 0, none⟩) xs) (hB : Blk w g t cs) (hg : lo ≤ g) : RdSl rd (fromU w lo) sz (some ⟨g, 0, none⟩) xs := fun hne => by
  obtain ⟨b, o', hA, hc⟩ := h hne
  injection hA with hA
  injection hA with h1 h2 _
  subst h1 h2
  refine ⟨g, 0, rfl, fun i hi => hfl _ _ _ _ _ (fun j v hv => ?_) (hc i hi)⟩
  rw [hB.u hg, ← hB.cell]; exact hv
/-- The cells of the blocks from lo on and below hi that are not frozen. -/
def inU (w : World) (lo hi : Nat) : Mv := fun p => if lo ≤ p.block ∧ p.block < hi ∧ w.frozen? p = false then w.cell? p else none
theorem inU_some {w : World} {lo hi : Nat} {p : Addr} {v : Value} (h : inU w lo hi p = some v) : lo ≤ p.block ∧ p.block < hi ∧ w.frozen? p = false ∧ w.cell? p = some v := by
  unfold inU at h
  split at h
  · rename_i h'; exact ⟨h'.1, h'.2.1, h'.2.2, h⟩
  · cases h
theorem inU_of {w : World} {lo hi : Nat} {p : Addr} {v : Value} (h1 : lo ≤ p.block) (h2 : p.block < hi) (h3 : w.frozen? p = false) (h4 : w.cell? p = some v) : inU w lo hi p = some v := by
  unfold inU; rw [if_pos ⟨h1, h2, h3⟩]; exact h4
theorem fromU_in {w : World} {lo hi : Nat} (hh : w.heap.size ≤ hi) : Mle (fromU w lo) (inU w lo hi) := fun p v e => by
  unfold fromU at e
  split at e
  · rename_i h'; exact inU_of h'.1 (Nat.lt_of_lt_of_le (cell_lt e) hh) h'.2 e
  · cases e
theorem inU_cell {w : World} {lo hi : Nat} : Mle (inU w lo hi) w.cell? := fun _ _ h => (inU_some h).2.2.2
theorem inU_wide {w : World} {lo hi lo' hi' : Nat} (h1 : lo' ≤ lo) (h2 : hi ≤ hi') : Mle (inU w lo hi) (inU w lo' hi') := fun p v e => by
  obtain ⟨q1, q2, q3, q4⟩ := inU_some e
  exact inU_of (by omega) (by omega) q3 q4
theorem Fr.mle_in {w w' : World} (h : Fr w w') (lo hi : Nat) : Mle (inU w lo hi) (inU w' lo hi) := fun p v e => by
  obtain ⟨q1, q2, q3, q4⟩ := inU_some e
  exact inU_of q1 q2 (h.frozen q4 q3) (h.cell q4)
/-- The blocks from lo on and below hi. -/
def Inn (lo hi : Nat) : Nat → Prop := fun b => lo ≤ b ∧ b < hi
theorem inn {w : World} {lo hi b o : Nat} {v : Value} (h : inU w lo hi ⟨b, o, none⟩ = some v) : Inn lo hi b := ⟨(inU_some h).1, (inU_some h).2.1⟩
theorem inU_far {w : World} {lo hi : Nat} {p q : Addr} {v : Value} (h : p ≠ q) : inU (w.setCell p v) lo hi q = inU w lo hi q := by
  unfold inU; rw [World.frozen?_setCell, World.cell?_setCell_other _ _ _ _ h]
/-- A number or a truth value. -/
def scalar : Value → Prop
  | .int .i64 _ => True
  | .bool _ => True
  | _ => False
/-- Numbers and truth values stay such, everything else stays as it is. -/
def KI (lo hi : Nat) (w w' : World) : Prop := ∀ p v, inU w lo hi p = some v → inU w' lo hi p = some v ∨ (scalar v ∧ ∃ v', scalar v' ∧ inU w' lo hi p = some v')
theorem KI.refl {lo hi : Nat} (w : World) : KI lo hi w w := fun _ _ h => .inl h
theorem KI.trans {lo hi : Nat} {a b c : World} (h : KI lo hi a b) (k : KI lo hi b c) : KI lo hi a c := fun p v e => by
  rcases h p v e with h1 | ⟨h1, v', h2, h3⟩
  · exact k p v h1
  · rcases k p v' h3 with h4 | ⟨_, v2, h5, h6⟩
    · exact .inr ⟨h1, v', h2, h4⟩
    · exact .inr ⟨h1, v2, h5, h6⟩
theorem KI.set {lo hi : Nat} {a w : World} (h : KI lo hi a w) {p : Addr} {u v : Value} (hp : inU w lo hi p = some u) (hu : scalar u) (hv : scalar v) : KI lo hi a (w.setCell p v) := h.trans fun q x e => by
  obtain ⟨q1, q2, q3, q4⟩ := inU_some e
  by_cases hq : p = q
  · subst hq
    have : u = x := by have h1 := (inU_some hp).2.2.2; rw [q4] at h1; injection h1 with h1; exact h1.symm
    subst this
    exact .inr ⟨hu, v, hv, inU_of q1 q2 (by rw [World.frozen?_setCell]; exact q3) (World.cell?_setCell_same _ _ _ q4)⟩
  · exact .inl (inU_of q1 q2 (by rw [World.frozen?_setCell]; exact q3) (by rw [World.cell?_setCell_other _ _ _ _ hq]; exact q4))
theorem Fr.ki {lo hi : Nat} {a b : World} (h : Fr a b) : KI lo hi a b := fun p v e => .inl (h.mle_in lo hi p v e)
/-- Only the shape is read: sz cells of numbers or truth values. -/
def rdSc (X : Type) (sz : Nat) : Rd X := fun _ c _ => ∀ j, j < sz → ∃ u, c j = some u ∧ scalar u
theorem rdSc_mono {X : Type} {sz : Nat} : RdMono (rdSc X sz) := fun _ _ _ _ _ _ hc h j hj => by
  obtain ⟨u, h1, h2⟩ := h j hj
  exact ⟨u, hc _ _ h1, h2⟩
theorem RdSl.sc {X : Type} {rd : Rd X} {m : Mv} {sz : Nat} {A : Option Addr} {xs : List X} (h : RdSl rd m sz A xs) (hr : ∀ m c x, rd m c x → rdSc X sz m c x) : RdSl (rdSc X sz) m sz A xs := fun hne => by
  obtain ⟨b, o, hA, hc⟩ := h hne
  exact ⟨b, o, hA, fun i hi => hr _ _ _ (hc i hi)⟩
theorem KI.sc {X : Type} {lo hi : Nat} {w w' : World} (hk : KI lo hi w w') {sz : Nat} {A : Option Addr} {xs : List X} (h : RdSl (rdSc X sz) (inU w lo hi) sz A xs) : RdSl (rdSc X sz) (inU w' lo hi) sz A xs := fun hne => by
  obtain ⟨b, o, hA, hc⟩ := h hne
  refine ⟨b, o, hA, fun i hi j hj => ?_⟩
  obtain ⟨u, h1, h2⟩ := hc i hi j hj
  rcases hk _ _ h1 with h3 | ⟨_, v', h3, h4⟩
  · exact ⟨u, h3, h2⟩
  · exact ⟨v', h4, h3⟩
/-- The cells of one element: what the walk of a store wants. -/
theorem RdSl.sc_at {X : Type} {lo hi : Nat} {w : World} {sz : Nat} {A : Option Addr} {xs : List X} (h : RdSl (rdSc X sz) (inU w lo hi) sz A xs) {i : Nat} (hi' : i < xs.length) :
    ∃ b o, A = some ⟨b, o, none⟩ ∧ ∀ j, j < sz → ∃ u, scalar u ∧ inU w lo hi ⟨b, o + i * sz + j, none⟩ = some u := by
  obtain ⟨b, o, hA, hc⟩ := h.at_ hi'
  exact ⟨b, o, hA, fun j hj => by obtain ⟨u, h1, h2⟩ := hc j hj; exact ⟨u, h2, h1⟩⟩
end Go.Proofs.Ytlmiadeaiiehaaa
