/- The walk of the law on the checking of derivations. -/
import Derived.Test.YtabbcepdinplfaaDepW7
import Derived.Test.YtabbcepdinplfaaDepG3
import Derived.Test.YtabbcepdinplfaaDepQ
namespace Go.Proofs.Ytabbcepdinplfaa
open Go Go.RowKit

theorem walkFnCheckDerivation (A : Option Addr) (c : Nat) (xs : List Nat) (w : World) (hx : RdSl rdByte w.cell? 1 A xs) (hl : xs.length ≤ maxLen) (hc : xs.length ≤ c) :
    Calls Try.prog 16 #[.slice A xs.length c] w fun e w' => e = .returned (.bool true) ∧ Fr w w' := by
  have H := hid hx
  clear hx
  unfold maxLen at hl
  by_cases hs : xs.length ≤ 1048576
  · have e0 : decide ((1048576 : Int) < (xs.length : Int)) = false := by simp; omega
    go_enter Try.func16, Try.ntmps16
    go_wp2_with fail
    refine (drawCheckDerivation _ _ _ _ H.out hs hc).mono ?_
    rintro e w1 ⟨A2, c2, ds, wd, x, y, A3, c3, st, rfl, hds, d1, hst, r1, b1⟩
    have X := hid d1
    have R := hid r1
    have B1 := hid b1
    have c0 : (w1.alloc (.cells #[.int .i64 x, .int .i64 y] 56)).cell? ⟨w1.heap.size, 0, none⟩ = some (.int .i64 x) := ((Blk.new w1 56 #[.int .i64 x, .int .i64 y]).two).1
    have c1 : (w1.alloc (.cells #[.int .i64 x, .int .i64 y] 56)).cell? ⟨w1.heap.size, 1, none⟩ = some (.int .i64 y) := ((Blk.new w1 56 #[.int .i64 x, .int .i64 y]).two).2.1
    have F1 : Fr w1 (w1.alloc (.cells #[.int .i64 x, .int .i64 y] 56)) := (Fr.refl _).alloc _
    have hm : st.length ≤ maxLen := by unfold maxLen; omega
    have HM := hid hm
    obtain ⟨b, hb0⟩ : ∃ b, chkD ds wd ⟨x, y⟩ st = b := ⟨_, rfl⟩
    have hB := hid hb0
    have hI : Hid (b = true → impD ds wd ⟨x, y⟩ = true) := hid fun h => chk_imp (hb0.trans h)
    have n1 : (b != b) = false := by simp
    clear d1 r1 b1 H hm hb0
    go_wp2_with fail
    refine (implCheckDerivation _ _ _ _ _ _ _ _ _ _ (X.out.fr rdDep_mono F1) (by omega) (R.out.fr rdInt_mono F1) HM.out).mono ?_
    rintro e w2 ⟨rfl, b2⟩
    rw [hB.out]
    replace c0 := b2.cell c0
    replace c1 := b2.cell c1
    have F2 := F1.trans b2
    clear F1 b2
    go_wp2_with fail
    refine (specCheckDerivation _ _ _ _ _ _ _ _ _ _ (X.out.fr rdDep_mono F2) (by omega) (R.out.fr rdInt_mono F2) HM.out).mono ?_
    rintro e w3 ⟨rfl, b3⟩
    rw [hB.out]
    replace c0 := b3.cell c0
    replace c1 := b3.cell c1
    have F3 := F2.trans b3
    clear F2 b3
    cases b
    · go_wp2
      go_ret
      exact ⟨rfl, B1.out.trans F3⟩
    · have hi := hI.out rfl
      have HI := hid hi
      clear hi hI
      go_wp2_with fail
      refine (implImplies _ _ _ _ _ _ _ (X.out.fr rdDep_mono F3) (by omega)).mono ?_
      rintro e w4 ⟨rfl, b4⟩
      rw [HI.out]
      go_wp2
      go_ret
      exact ⟨rfl, B1.out.trans (F3.trans b4)⟩
  · have e0 : decide ((1048576 : Int) < (xs.length : Int)) = true := by simp; omega
    go_enter Try.func16, Try.ntmps16
    go_wp2
    go_ret
    exact ⟨rfl, Fr.refl _⟩
end Go.Proofs.Ytabbcepdinplfaa
