/- Walks of the laws' helpers on slices of ints. -/
import Derived.Test.YtahclhldpcboeaaGreatDoorProg
import Derived.Test.YtahclhldpcboeaaGreatDoorMem
import Derived.WalkKit
import Derived.WalkSpells
import Derived.WalkLawsBesides
import Derived.BigQuiet
import Derived.Deep.QuietTactic
import Derived.StillTailTactics
namespace Go.Proofs.YtahclhldpcboeaaGreatDoor
open Go Go.RowKit

theorem equalInts (A A' : Option Addr) (cap cap' : Nat) (xs ys : List Int) (w : World) (hx : RdSl rdInt w.cell? 1 A xs) (hy : RdSl rdInt w.cell? 1 A' ys) (hl : xs.length ≤ maxLen) (hl' : ys.length ≤ maxLen) :
    Calls Tryz.prog 35 #[.slice A xs.length cap, .slice A' ys.length cap'] w fun e w' => e = .returned (.bool (decide (xs = ys))) ∧ Fr w w' := by
  have HX := hid hx
  have HY := hid hy
  clear hx hy
  unfold maxLen at hl hl'
  by_cases hlen : xs.length = ys.length
  · have HL := hid hlen
    have e1 : (((xs.length : Int)) != ((ys.length : Int))) = false := by simp [hlen]
    clear hlen
    go_enter Tryz.func35, Tryz.ntmps35
    go_wp2
    go_loopw [5] (fun t wr => ∃ (k : Nat), k ≤ xs.length ∧ t = .int .i64 k ∧ Fr w wr ∧ ∀ i (h : i < xs.length) (h' : i < ys.length), i < k → xs[i] = ys[i]) (fun t _ => xs.length - (intOf t).toNat)
    case atStart => exact ⟨0, by omega, rfl, by (repeat (first | with_reducible exact Fr.refl _ | with_reducible assumption | with_reducible refine Fr.alloc ?_ _ | with_reducible refine Fr.drew ?_ | with_reducible refine Fr.drewN ?_ _ | (with_reducible refine Fr.setNew2 ?_ ?_ _; · (simp <;> omega)) | with_reducible refine Fr.trans ?_ (by assumption))), fun i h h' h'' => absurd h'' (by omega)⟩
    case round =>
      obtain ⟨k, hk, rfl, hf, hv⟩ := hrel
      have HV := hid hv
      clear hv
      by_cases hlt : k < xs.length
      · have hlt' : k < ys.length := by rw [← HL.out]; exact hlt
        obtain ⟨b, o, rfl, c0⟩ := HX.out.at_ hlt
        obtain ⟨b', o', rfl, c0'⟩ := HY.out.at_ hlt'
        replace c0 := hf.cell c0
        replace c0' := hf.cell c0'
        simp only [Nat.mul_one, Nat.add_zero] at c0 c0'
        cases hE : xs[k] != ys[k]
        · go_wp2_with fail
          go_quiet (fail)
          go_wp2
          go_roundw
          case rel => exact ⟨k + 1, by omega, by go_num, hf.drewN _, fun i h h' hi => by
            by_cases e : i = k
            · subst e; simpa using hE
            · exact HV.out i h h' (by omega)⟩
          case measure => simp [intOf]; omega
        · go_wp2_with fail
          go_quiet (fail)
          go_wp2
          go_ret
          refine ⟨ret_bool ?_, hf.drewN _⟩
          symm
          rw [decide_eq_false_iff_not]
          intro e
          subst e
          simp at hE
      · go_wp2
        go_ret
        refine ⟨ret_bool ?_, hf⟩
        symm
        rw [decide_eq_true_iff]
        exact List.ext_getElem HL.out fun i h h' => HV.out i h h' (by omega)
  · have e1 : (((xs.length : Int)) != ((ys.length : Int))) = true := by simp; omega
    go_enter Tryz.func35, Tryz.ntmps35
    go_wp2
    go_ret
    refine ⟨ret_bool ?_, Fr.refl _⟩
    symm
    rw [decide_eq_false_iff_not]
    intro e
    exact hlen (by rw [e])
end Go.Proofs.YtahclhldpcboeaaGreatDoor
