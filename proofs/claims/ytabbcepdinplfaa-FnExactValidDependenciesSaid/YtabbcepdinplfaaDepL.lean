/- Walks of the dependency laws. -/
import Derived.Test.YtabbcepdinplfaaDepW6
import Derived.Test.YtabbcepdinplfaaDepOpen
namespace Go.Proofs.Ytabbcepdinplfaa
open Go Go.RowKit

theorem szR {n : Nat} (h : n ≤ 1048576) : (if (1048576 : Int) < (n : Int) then (-1 : Int) else 1048576 - n) = 1048576 - n := by rw [if_neg (by omega)]
theorem szR' {n : Nat} (h : ¬ n ≤ 1048576) : (if (1048576 : Int) < (n : Int) then (-1 : Int) else 1048576 - n) = -1 := by rw [if_pos (by omega)]
/-- What toDependencyS hands back, without its block. -/
theorem toDepS' (A : Option Addr) (cap : Nat) (xs : List Dep) (w : World) (hx : RdSl rdDep w.cell? 2 A xs) (hl : xs.length ≤ 1048576) :
    Calls Try.prog 24 #[.slice A xs.length cap] w fun e w' => ∃ g, e = .returned (.slice (some ⟨g, 0, none⟩) xs.length xs.length) ∧ RdSl rdDep w'.cell? 2 (some ⟨g, 0, none⟩) xs ∧ Fr w w' :=
  (toDepS A cap xs w hx hl).mono fun _ _ ⟨g, _, h1, _, _, _, h5, h6⟩ => ⟨g, h1, h5, h6⟩

theorem walkFnExactValidDependencies (A : Option Addr) (c : Nat) (xs : List Dep) (wd : Int) (w : World) (hx : RdSl rdDep w.cell? 2 A xs) (hl : xs.length ≤ maxLen) (_ : I64 wd) :
    Calls Try.prog 6 #[.slice A xs.length c, .int .i64 wd] w fun e w' => e = .returned (.bool true) ∧ Fr w w' := by
  have H := hid hx
  clear hx
  by_cases hs : xs.length ≤ 1048576
  · go_enter Try.func6, Try.ntmps6
    go_wp2_with fail
    refine (szDepS _ _ _ _ _ hl (by omega) (by omega)).mono ?_
    rintro e w' ⟨rfl, rfl⟩
    rw [szR hs]
    go_wp2_with fail
    refine (toDepS' _ _ _ _ H.out hs).mono ?_
    rintro e w1 ⟨g1, rfl, x1, b1⟩
    have X1 := hid x1; clear x1
    go_wp2_with fail
    refine (specValidDependencies _ _ _ _ _ X1.out hl).mono ?_
    rintro e w2 ⟨rfl, b2⟩
    go_wp2_with fail
    refine (toDepS' _ _ _ _ (H.out.fr rdDep_mono (b1.trans b2)) hs).mono ?_
    rintro e w3 ⟨g3, rfl, x3, b3⟩
    have X3 := hid x3; clear x3
    go_wp2_with fail
    refine (implValidDeps _ _ _ _ _ X3.out hl).mono ?_
    rintro e w4 ⟨rfl, b4⟩
    go_wp2_with fail
    refine (toDepS' _ _ _ _ (H.out.fr rdDep_mono (((b1.trans b2).trans b3).trans b4)) hs).mono ?_
    rintro e w5 ⟨g5, rfl, x5, b5⟩
    have X5 := hid x5; clear x5
    go_wp2_with fail
    refine (eqDepS _ _ _ _ _ _ _ (X3.out.fr rdDep_mono (b4.trans b5)) X5.out hs hs).mono ?_
    rintro e w6 ⟨rfl, b6⟩
    go_wp2
    go_ret
    exact ⟨ret_bool (by simp), ((((b1.trans b2).trans b3).trans b4).trans b5).trans b6⟩
  · go_enter Try.func6, Try.ntmps6
    go_wp2_with fail
    refine (szDepS _ _ _ _ _ hl (by omega) (by omega)).mono ?_
    rintro e w' ⟨rfl, rfl⟩
    rw [szR' hs]
    go_wp2
    go_ret
    exact ⟨rfl, Fr.refl _⟩
end Go.Proofs.Ytabbcepdinplfaa
