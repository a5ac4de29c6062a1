/- Walks of the laws' marks on slices of ints: what is written, what is held. -/
import Derived.Test.YtlmiadeaiiehaaaProg
import Derived.Test.YtlmiadeaiiehaaaMem
import Derived.WalkKit
import Derived.WalkSpells
import Derived.WalkLawsBesides
import Derived.BigQuiet
import Derived.Deep.QuietTactic
import Derived.StillTailTactics
namespace Go.Proofs.Ytlmiadeaiiehaaa
open Go Go.RowKit

/-- A slice's first n cells lie at the head of a block that may be written. -/
def Mk (w : World) (A : Option Addr) (n : Nat) : Prop := n ≠ 0 → ∃ g t cs, A = some ⟨g, 0, none⟩ ∧ Blk w g t cs ∧ n ≤ cs.size
def AtB (A : Option Addr) : Nat → Prop := fun j => ∃ ad, A = some ad ∧ ad.block = j
theorem atB_self {g o : Nat} : AtB (some ⟨g, o, none⟩) g := ⟨_, rfl, rfl⟩
theorem mk_of_own {w : World} {base e sz n cap : Nat} {A : Option Addr} {xs : List Value} (h : w.ownsRow base e sz (.slice A n cap) n xs) : Mk w A (n * sz) := fun hne => by
  rcases h.2 with ⟨_, h0⟩ | ⟨g, cap', cur, hv, _, hh, hnc, _, hs, _⟩
  · subst h0; simp at hne
  · injection hv with hA
    exact ⟨g, e, cur, hA, hh, by rw [hs]; exact Nat.mul_le_mul_right _ hnc⟩
theorem Mk.fr {w w' : World} {A : Option Addr} {n : Nat} (h : Mk w A n) (hf : Fr w w') : Mk w' A n := fun hne => by
  obtain ⟨g, t, cs, hA, hB, hn⟩ := h hne
  exact ⟨g, t, cs, hA, hB.fr hf, hn⟩
theorem Mk.from_ {S : Nat → Prop} {w w' w'' : World} {A : Option Addr} {n : Nat} (h : Mk w A n) (hf : Fr w w') (hc : Ch S w' w'') (hS : ∀ k, AtB A k → ¬ S k) : Mk w'' A n := fun hne => by
  obtain ⟨g, t, cs, rfl, hB, hn⟩ := h hne
  have h1 := hB.fr hf
  exact ⟨g, t, cs, rfl, (hc.block g h1.lt (hS g atB_self)).trans h1, hn⟩
theorem own_atB {w : World} {base e sz n cap : Nat} {A : Option Addr} {xs : List Value} (h : w.ownsRow base e sz (.slice A n cap) n xs) : ∀ k, AtB A k → base ≤ k := fun k ⟨ad, h1, h2⟩ => by
  rcases h.2 with ⟨hv, _⟩ | ⟨g, cap', cur, hv, hg, _⟩
  · injection hv with hA; rw [hA] at h1; cases h1
  · injection hv with hA; rw [hA] at h1; injection h1 with h1; subst h1; rw [← h2]; exact hg
/-- The numbers from k on. -/
def marks (k n : Nat) : List Int := (List.range n).map fun i => ((k + i : Nat) : Int)

theorem markInts (A : Option Addr) (n cap k : Nat) (w : World) (hn : n ≤ 1099511627776) (hk : k ≤ 1099511627776) (hB : Mk w A n) :
    Calls Try.prog 22 #[.slice A n cap, .int .i64 k] w fun e w' => e = .returned (.int .i64 ((k + n : Nat) : Int)) ∧ Ch (AtB A) w w' ∧ RdSl rdInt w'.cell? 1 A (marks k n) ∧ Mk w' A n := by
  by_cases h0 : n = 0
  · subst h0
    go_enter Try.func22, Try.ntmps22
    go_wp2
    refine wp_loop_rounds 1 ?_
    rw [rounds_succ]
    go_wp2
    go_ret
    exact ⟨by simp, Ch.refl _, RdSl.nil, fun h => absurd rfl h⟩
  · obtain ⟨g, t, cs, rfl, hB, hz⟩ := hB h0
    have HB := hid hB
    have HZ := hid hz
    clear hB hz
    go_enter Try.func22, Try.ntmps22
    go_wp2
    go_loopw [1, 5] (fun kv iv wr => ∃ (i : Nat) (cs : Array Value), i ≤ n ∧ iv = .int .i64 i ∧ kv = .int .i64 ((k + i : Nat) : Int) ∧ Ch (AtB (some ⟨g, 0, none⟩)) w wr ∧ Hid (Blk wr g t cs ∧ n ≤ cs.size ∧ ∀ j, j < i → cs[j]? = some (.int .i64 ((k + j : Nat) : Int)))) (fun _ iv _ => n - (intOf iv).toNat)
    case atStart => exact ⟨0, cs, by omega, rfl, by simp, Ch.refl _, hid ⟨HB.out, HZ.out, fun j h => absurd h (by omega)⟩⟩
    case round =>
      obtain ⟨i, cs', hi, rfl, rfl, hc, hH⟩ := hrel
      by_cases hlt : i < n
      · obtain ⟨u, c0⟩ := hH.out.1.cell_some (i := i) (by have := hH.out.2.1; omega)
        have f0 := hH.out.1.frozen i
        go_wp2
        go_roundw
        case rel => exact ⟨i + 1, _, by omega, by go_num, by go_num, hc.set (p := ⟨g, i, none⟩) (.inl atB_self) _, hid ⟨hH.out.1.set_ _ _, by simpa using hH.out.2.1, fun j hj => by
          obtain ⟨h1, h2, h3⟩ := hH.out
          simp only [Array.getElem?_setIfInBounds]
          by_cases e : i = j
          · subst e; rw [if_pos rfl, if_pos (by omega)]; simp
          · rw [if_neg e]; exact h3 j (by omega)⟩⟩
        case measure => simp [intOf]; omega
      · obtain rfl : i = n := by omega
        go_wp2
        go_ret
        obtain ⟨h1, h2, h3⟩ := hH.out
        exact ⟨rfl, hc, fun _ => ⟨g, 0, rfl, fun j hj => by
          simp only [rdInt, marks, Nat.mul_one, Nat.zero_add, Nat.add_zero, h1.cell] at hj ⊢
          simp at hj
          rw [h3 j hj]; simp⟩, fun _ => ⟨g, t, cs', rfl, h1, h2⟩⟩
theorem heldInts (A : Option Addr) (n cap k : Nat) (w : World) (hn : n ≤ 1099511627776) (hk : k ≤ 1099511627776) (hR : RdSl rdInt w.cell? 1 A (marks k n)) :
    Calls Try.prog 31 #[.slice A n cap, .int .i64 k] w fun e w' => e = .returned (.int .i64 ((k + n : Nat) : Int)) ∧ w = w' := by
  have H := hid hR
  clear hR
  go_enter Try.func31, Try.ntmps31
  go_wp2
  go_loopw [1, 5] (fun kv iv wr => ∃ (i : Nat), i ≤ n ∧ iv = .int .i64 i ∧ kv = .int .i64 ((k + i : Nat) : Int) ∧ w = wr) (fun _ iv _ => n - (intOf iv).toNat)
  case atStart => exact ⟨0, by omega, rfl, by simp, rfl⟩
  case round =>
    obtain ⟨i, hi, rfl, rfl, rfl⟩ := hrel
    by_cases hlt : i < n
    · obtain ⟨b, o, rfl, c0⟩ := H.out.at_ (k := i) (by simp [marks]; exact hlt)
      simp only [rdInt, marks, List.getElem_map, List.getElem_range, Nat.mul_one, Nat.add_zero] at c0
      go_wp2
      go_roundw
      case rel => exact ⟨i + 1, by omega, by go_num, by go_num, trivial⟩
      case measure => simp [intOf]; omega
    · obtain rfl : i = n := by omega
      go_wp2
      go_ret
      exact ⟨rfl, rfl⟩
end Go.Proofs.Ytlmiadeaiiehaaa
