/- How many parts a valid expression has. -/
import Derived.Test.YtfillcjpdnpaiaaConjC
import Derived.Test.YtfillcjpdnpaiaaEvalL
import Derived.Test.YtfillcjpdnpaiaaMarkT
namespace Go.Proofs.Ytfillcjpdnpaiaa
open Go Go.RowKit

theorem sumNT {f : Ex → Nat} {g : Ex → Nat} (h : ∀ x, g x + 1 = f x) : ∀ xs : List Ex, xs.length + sumT g xs = sumN f xs
  | [] => rfl
  | x :: r => by have := sumNT h r; have := h x; simp only [List.length_cons, sumT, sumN]; omega
theorem tot_parts : ∀ (n : Nat) (e : Ex), tot n e.kids + 1 = parts (n + 1) e
  | 0, e => by
    have h : ∀ xs : List Ex, sumN (parts 0) xs = xs.length := fun xs => by
      induction xs with
      | nil => rfl
      | cons x r ih =>
        show 1 + sumN (parts 0) r = _
        rw [ih, List.length_cons]; omega
    show e.kids.length + 1 = 1 + sumN (parts 0) e.kids
    rw [h e.kids]; omega
  | n + 1, e => by
    show (e.kids.length + sumT (fun x => tot n x.kids) e.kids) + 1 = 1 + sumN (parts (n + 1)) e.kids
    rw [sumNT (f := parts (n + 1)) (fun x => tot_parts n x)]; omega
theorem tot_vE {wd : Int} {n d : Nat} {e : Ex} (hd : Dp n e) (h8 : d ≤ 8) (hv : vE wd n d e = true) : tot n e.kids ≤ 512 := by
  have h1 := tot_parts n e
  have h2 := parts_le (n := n + 1) (deep := d) (e := e) (by rw [vE_lift n _ e hd]; exact hv)
  have h3 : 2 ^ (d + 1) ≤ 2 ^ 9 := Nat.pow_le_pow_right (by omega) (by omega)
  omega
theorem tot_valid {n : Nat} {e : Ex} (hd : Dp n e) (hv : vexpr 6 n e = true) : tot n e.kids ≤ 512 := tot_vE hd (Nat.le_refl _) (vexpr_vE hv)
theorem sumT_bound {f : Ex → Nat} {B : Nat} : ∀ {xs : List Ex}, (∀ x ∈ xs, f x ≤ B) → sumT f xs ≤ xs.length * B
  | [], _ => by simp [sumT]
  | x :: r, h => by
    have h1 := h x (by simp)
    have h2 := sumT_bound (xs := r) fun y hy => h y (by simp [hy])
    simp only [sumT, List.length_cons, Nat.add_mul]; omega
end Go.Proofs.Ytfillcjpdnpaiaa
