/- Walks of the dependency laws with generated arguments. -/
import Derived.Test.YtabbcepdinplfaaDepW7
import Derived.Test.YtabbcepdinplfaaDepG2
import Derived.Test.YtabbcepdinplfaaDepQ
import Derived.Test.YtabbcepdinplfaaInts
namespace Go.Proofs.Ytabbcepdinplfaa
open Go Go.RowKit

theorem wrap_pow {wd : Int} (h1 : 1 ≤ wd) (h2 : wd ≤ 6) : wrap64 ((2 : Int) ^ wd.toNat) = 2 ^ wd.toNat := by
  rcases (by omega : wd = 1 ∨ wd = 2 ∨ wd = 3 ∨ wd = 4 ∨ wd = 5 ∨ wd = 6) with h | h | h | h | h | h <;> rw [h] <;> simp [wrap64]
theorem wrap_pow' {wd : Int} (h1 : 1 ≤ wd) (h2 : wd ≤ 6) : IntKind.i64.wrap ((2 : Int) ^ wd.toNat) = 2 ^ wd.toNat := by
  rcases (by omega : wd = 1 ∨ wd = 2 ∨ wd = 3 ∨ wd = 4 ∨ wd = 5 ∨ wd = 6) with h | h | h | h | h | h <;> rw [h] <;> rfl
theorem own_max {k : Nat} (h : k ≤ 1048576) : k ≤ maxLen := by unfold maxLen; omega
theorem walkFnClosureOf (A : Option Addr) (c : Nat) (xs : List Nat) (A' : Option Addr) (c' : Nat) (ys : List Nat) (w : World) (hx : RdSl rdByte w.cell? 1 A xs) (hl : xs.length ≤ maxLen) (hc : xs.length ≤ c) (hy : RdSl rdByte w.cell? 1 A' ys) (hly : ys.length ≤ maxLen) (hcy : ys.length ≤ c') :
    Calls Try.prog 12 #[.slice A xs.length c, .slice A' ys.length c'] w fun e w' => e = .returned (.bool true) ∧ Fr w w' := by
  have H := hid hx
  have HY := hid hy
  clear hx hy
  unfold maxLen at hl hly
  by_cases hs : xs.length ≤ 1048576
  · have e0 : decide ((1048576 : Int) < (xs.length : Int)) = false := by simp; omega
    by_cases ht : ys.length ≤ 1048576
    · have e1 : decide ((1048576 : Int) < (ys.length : Int)) = false := by simp; omega
      go_enter Try.func12, Try.ntmps12
      go_wp2_with fail
      refine (drawClosureOf _ _ _ _ H.out hs hc).mono ?_
      rintro e w1 ⟨A2, c2, ds, wd, s, rfl, hds, d1, -, -, -, -, b1⟩
      have D := hid d1
      clear d1
      by_cases h0 : 0 ≤ cloD ds wd s
      · obtain ⟨S, N, rfl, hN, hS6, hN6, w1', w2', g1, g2, g3, g4⟩ := clo_law h0
        obtain ⟨g5, M, g6, hM6, g7⟩ := g4 ys.length
        have i1 := i64_and N S hN6 hS6
        have i2 := i64_and M N hM6 hN6
        rw [g1] at i1
        rw [g7] at i2
        have hp := pow_bd w1' w2'
        rw [pow_nat] at hp
        have hT : ys.length % 2 ^ wd.toNat < 2 ^ wd.toNat := Nat.mod_lt _ (by omega)
        have i3 := i64_or S (ys.length % 2 ^ wd.toNat) hS6 (by omega)
        have hw := wrap_pow w1' w2'
        have i4 : bits .or .i64 (S : Int) ((ys.length : Int) % wrap64 (2 ^ wd.toNat)) = ((S ||| ys.length % 2 ^ wd.toNat : Nat) : Int) := by
          rw [hw, ← i3, pow_nat, Int.natCast_emod]
        have hz : ¬ wrap64 ((2 : Int) ^ wd.toNat) = 0 := by rw [hw, pow_nat]; omega
        have I4 := hid i4
        have G6 := hid g6
        have HZ := hid hz
        clear g1 g7 g4 h0 i3 i4 hw hT g6 g5 hz hp
        go_wp2_with fail
        refine (implClosureOf _ _ _ _ _ _ D.out (by omega)).mono ?_
        rintro e w2 ⟨rfl, b2⟩
        rw [hN]
        have n0 : decide ((N : Int) < 0) = false := by simp
        have n1 : ((N : Int) != N) = false := by simp
        have n2 : ((N : Int) == N) = true := by simp
        have n3 : ((S : Int) == S) = true := by simp
        go_wp2_with fail
        refine (specClosureOf _ _ _ _ _ _ (D.out.fr rdDep_mono b2) (by omega)).mono ?_
        rintro e w3 ⟨rfl, b3⟩
        rw [hN]
        go_wp2_with fail
        · rw [I4.out]
          refine (implClosureOf _ _ _ _ _ _ (D.out.fr rdDep_mono (b2.trans b3)) (by omega)).mono ?_
          rintro e w4 ⟨rfl, b4⟩
          rw [g2]
          go_wp2_with fail
          refine (implClosureOf _ _ _ _ _ _ (D.out.fr rdDep_mono ((b2.trans b3).trans b4)) (by omega)).mono ?_
          rintro e w5 ⟨rfl, b5⟩
          rw [G6.out]
          go_wp2_with fail
          refine (implClosureOf (xs := []) _ _ _ _ _ RdSl.nil (by simp)).mono ?_
          rintro e w6 ⟨rfl, b6⟩
          rw [g3]
          go_wp2
          go_ret
          exact ⟨ret_bool (by simp), (((((b1.trans b2).trans b3).trans b4).trans b5).alloc _).trans b6⟩
      · obtain ⟨n, hn⟩ : ∃ n, cloD ds wd s = n := ⟨_, rfl⟩
        rw [hn] at h0
        have n0 : decide (n < 0) = true := by simp; omega
        have n1 : (n != n) = false := by simp
        have n2 : (n == n) = true := by simp
        clear h0
        go_wp2_with fail
        refine (implClosureOf _ _ _ _ _ _ D.out (by omega)).mono ?_
        rintro e w2 ⟨rfl, b2⟩
        rw [hn]
        go_wp2_with fail
        refine (specClosureOf _ _ _ _ _ _ (D.out.fr rdDep_mono b2) (by omega)).mono ?_
        rintro e w3 ⟨rfl, b3⟩
        rw [hn]
        go_wp2_with fail
        refine (specClosureOf _ _ _ _ _ _ (D.out.fr rdDep_mono (b2.trans b3)) (by omega)).mono ?_
        rintro e w4 ⟨rfl, b4⟩
        rw [hn]
        go_wp2
        go_ret
        exact ⟨ret_bool (by simp), ((b1.trans b2).trans b3).trans b4⟩
    · have e1 : decide ((1048576 : Int) < (ys.length : Int)) = true := by simp; omega
      go_enter Try.func12, Try.ntmps12
      go_wp2
      go_ret
      exact ⟨rfl, Fr.refl _⟩
  · have e0 : decide ((1048576 : Int) < (xs.length : Int)) = true := by simp; omega
    go_enter Try.func12, Try.ntmps12
    go_wp2
    go_ret
    exact ⟨rfl, Fr.refl _⟩
end Go.Proofs.Ytabbcepdinplfaa
