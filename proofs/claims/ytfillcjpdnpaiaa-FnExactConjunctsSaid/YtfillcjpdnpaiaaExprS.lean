/- Walks of the size of expressions. -/
import Derived.Test.YtfillcjpdnpaiaaExprV
namespace Go.Proofs.Ytfillcjpdnpaiaa
open Go Go.RowKit

theorem vE_down {wd : Int} {n deep : Nat} {e : Ex} (h : vE wd (n + 1) deep e = true) {i : Nat} (hi : i < e.kids.length) : ∃ d : Nat, deep = d + 1 ∧ vE wd n d e.kids[i] = true := by
  have hd := (head_yes (vE_head h).1).2
  obtain ⟨d, rfl⟩ : ∃ d, deep = d + 1 := ⟨deep - 1, by rcases hd with q | ⟨_, q⟩ <;> omega⟩
  have := vE_kids h i hi
  rw [show ((d + 1 : Nat) : Int) - 1 = d by omega] at this
  exact ⟨d, rfl, this⟩
theorem sE_small {wd : Int} {n deep : Nat} {e : Ex} (h : vE wd n deep e = true) (hd : deep ≤ 8) : 1 ≤ sE n e ∧ sE n e ≤ 511 := by
  obtain ⟨h1, h2⟩ := sE_bound n deep e h
  refine ⟨h1, ?_⟩
  have h3 : (2 : Int) ^ (deep + 1) ≤ 512 := by
    have : deep = 0 ∨ deep = 1 ∨ deep = 2 ∨ deep = 3 ∨ deep = 4 ∨ deep = 5 ∨ deep = 6 ∨ deep = 7 ∨ deep = 8 := by omega
    rcases this with rfl | rfl | rfl | rfl | rfl | rfl | rfl | rfl | rfl <;> decide
  omega
def SumAt (n : Nat) (e : Ex) (k : Nat) (N : Int) : Prop := 1 ≤ N ∧ N ≤ 1 + 511 * (k : Int) ∧ (k = 0 → N = 1) ∧ ∀ n', n = n' + 1 → N = 1 + sumL (sE n') (e.kids.take k)
theorem sumAt_end {n : Nat} {e : Ex} {N : Int} (h : SumAt n e e.kids.length N) (h0 : n = 0 → e.kids.length = 0) : N = sE n e := by
  cases n with
  | zero => exact h.2.2.1 (h0 rfl)
  | succ n => rw [h.2.2.2 n rfl, List.take_of_length_le (Nat.le_refl _)]; rfl
theorem sumAt_step {n : Nat} {e : Ex} {k : Nat} {N : Int} (h : SumAt (n + 1) e k N) (hk : k < e.kids.length) (hs : 1 ≤ sE n e.kids[k] ∧ sE n e.kids[k] ≤ 511) : SumAt (n + 1) e (k + 1) (N + sE n e.kids[k]) := by
  obtain ⟨h1, h2, h3, h4⟩ := h
  refine ⟨by omega, by omega, fun h => by omega, fun n' hn => ?_⟩
  obtain rfl : n = n' := by omega
  rw [sumL_take hk, h4 n rfl]; omega

def xsize (n : Nat) (e : Ex) : Int := if vexpr 6 n e then sE n e else 0
theorem vexpr_vE {n : Nat} {e : Ex} (h : vexpr 6 n e = true) : vE 6 n (8 : Nat) e = true := by
  unfold vexpr at h
  rw [Bool.and_eq_true] at h
  exact h.2
end Go.Proofs.Ytfillcjpdnpaiaa
