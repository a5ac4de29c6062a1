/- Walks of the laws' helpers on slices of ints. -/
import Derived.Test.YtlmiadeaiiehaaaProg
import Derived.Test.YtlmiadeaiiehaaaMem
import Derived.WalkKit
import Derived.WalkSpells
import Derived.WalkLawsBesides
import Derived.BigQuiet
import Derived.Deep.QuietTactic
import Derived.StillTailTactics
namespace Go.Proofs.Ytlmiadeaiiehaaa
open Go Go.RowKit

theorem eqInts (A A' : Option Addr) (cap cap' : Nat) (xs ys : List Int) (w : World) (hx : RdSl rdInt w.cell? 1 A xs) (hy : RdSl rdInt w.cell? 1 A' ys) (hl : xs.length ≤ maxLen) (hl' : ys.length ≤ maxLen) :
    Calls Try.prog 20 #[.slice A xs.length cap, .slice A' ys.length cap'] w fun e w' => e = .returned (.bool (decide (xs = ys))) ∧ Fr w w' := by
  have HX := hid hx
  have HY := hid hy
  clear hx hy
  unfold maxLen at hl hl'
  by_cases hlen : xs.length = ys.length
  · have HL := hid hlen
    have e1 : (((xs.length : Int)) != ((ys.length : Int))) = false := by simp [hlen]
    clear hlen
    go_enter Try.func20, Try.ntmps20
    go_wp2
    go_loopw [5] (fun t wr => ∃ (k : Nat), k ≤ xs.length ∧ t = .int .i64 k ∧ Fr w wr ∧ ∀ i (h : i < xs.length) (h' : i < ys.length), i < k → xs[i] = ys[i]) (fun t _ => xs.length - (intOf t).toNat)
    case atStart => exact ⟨0, by omega, rfl, by (repeat (first | with_reducible exact Fr.refl _ | with_reducible assumption | with_reducible refine Fr.alloc ?_ _ | with_reducible refine Fr.drew ?_ | with_reducible refine Fr.drewN ?_ _ | (with_reducible refine Fr.setNew2 ?_ ?_ _; · (simp <;> omega)) | with_reducible refine Fr.trans ?_ (by assumption))), fun i h h' h'' => absurd h'' (by omega)⟩
    case round =>
      obtain ⟨k, hk, rfl, hf, hv⟩ := hrel
      have HV := hid hv
      clear hv
      by_cases hlt : k < xs.length
      · have hlt' : k < ys.length := by rw [← HL.out]; exact hlt
        obtain ⟨b, o, rfl, c0⟩ := HX.out.at_ hlt
        obtain ⟨b', o', rfl, c0'⟩ := HY.out.at_ hlt'
        replace c0 := hf.cell c0
        replace c0' := hf.cell c0'
        simp only [Nat.mul_one, Nat.add_zero] at c0 c0'
        cases hE : xs[k] != ys[k]
        · go_wp2_with fail
          go_quiet (fail)
          go_wp2
          go_roundw
          case rel => exact ⟨k + 1, by omega, by go_num, hf.drewN _, fun i h h' hi => by
            by_cases e : i = k
            · subst e; simpa using hE
            · exact HV.out i h h' (by omega)⟩
          case measure => simp [intOf]; omega
        · go_wp2_with fail
          go_quiet (fail)
          go_wp2
          go_ret
          refine ⟨ret_bool ?_, hf.drewN _⟩
          symm
          rw [decide_eq_false_iff_not]
          intro e
          subst e
          simp at hE
      · go_wp2
        go_ret
        refine ⟨ret_bool ?_, hf⟩
        symm
        rw [decide_eq_true_iff]
        exact List.ext_getElem HL.out fun i h h' => HV.out i h h' (by omega)
  · have e1 : (((xs.length : Int)) != ((ys.length : Int))) = true := by simp; omega
    go_enter Try.func20, Try.ntmps20
    go_wp2
    go_ret
    refine ⟨ret_bool ?_, Fr.refl _⟩
    symm
    rw [decide_eq_false_iff_not]
    intro e
    exact hlen (by rw [e])
theorem toInts (A : Option Addr) (cap : Nat) (xs : List Int) (w : World) (hx : RdSl rdInt w.cell? 1 A xs) (hl : xs.length ≤ 1048576) :
    Calls Try.prog 17 #[.slice A xs.length cap] w fun e w' => ∃ g cs, e = .returned (.slice (some ⟨g, 0, none⟩) xs.length xs.length) ∧ w.heap.size ≤ g ∧ Blk w' g 3 cs ∧ cs.size = xs.length ∧ RdSl rdInt w'.cell? 1 (some ⟨g, 0, none⟩) xs ∧ Fr w w' := by
  have H := hid hx
  clear hx
  have hmk := mk_row (P := Try.prog) 26 3 (.int .i64 0) 1 8 Try.underlying26 (by kernel_rfl) xs.length (by omega) (by omega)
  go_enter Try.func17, Try.ntmps17
  go_wp2
  go_loopw [4] (fun t wr => ∃ (k : Nat) (cs : Array Value), k ≤ xs.length ∧ t = .int .i64 k ∧ Fr w wr ∧ Blk wr w.heap.size 3 cs ∧ Hid (cs.size = xs.length ∧
      ∀ i (h : i < xs.length), i < k → cs[i]? = some (.int .i64 xs[i]))) (fun t _ => xs.length - (intOf t).toNat)
  case atStart => exact ⟨0, _, by omega, rfl, by (repeat (first | with_reducible exact Fr.refl _ | with_reducible assumption | with_reducible refine Fr.alloc ?_ _ | with_reducible refine Fr.drew ?_ | with_reducible refine Fr.drewN ?_ _ | (with_reducible refine Fr.setNew2 ?_ ?_ _; · (simp <;> omega)) | with_reducible refine Fr.trans ?_ (by assumption))), Blk.new _ _ _, hid ⟨by simp [made_size], fun i h h' => absurd h' (by omega)⟩⟩
  case round =>
    obtain ⟨k, cs, hk, rfl, hf, hB, hv⟩ := hrel
    by_cases hlt : k < xs.length
    · obtain ⟨b, o, rfl, c0⟩ := H.out.at_ hlt
      replace c0 := hf.cell c0
      simp only [Nat.mul_one, Nat.add_zero] at c0
      obtain ⟨u0, d0⟩ := hB.cell_some (i := k) (by have := hv.out.1; omega)
      have f0 := hB.frozen k
      go_wp2
      go_roundw
      case rel => exact ⟨k + 1, _, by omega, by go_num, hf.setNew (Nat.le_refl _) _, hB.set_ _ _, hid ⟨by simpa using hv.out.1, fun i h hi => by
        have hz := hv.out.1
        simp only [Array.getElem?_setIfInBounds]
        by_cases e : k = i
        · subst e; rw [if_pos rfl, if_pos (by omega)]
        · rw [if_neg e]; exact hv.out.2 i h (by omega)⟩⟩
      case measure => simp [intOf]; omega
    · obtain rfl : k = xs.length := by omega
      go_wp2
      go_ret
      exact ⟨_, cs, rfl, Nat.le_refl _, hB, hv.out.1, fun hne => ⟨_, 0, rfl, fun i h => by
        simp only [rdInt, hB.cell, Nat.zero_add, Nat.mul_one, Nat.add_zero]
        exact hv.out.2 i h h⟩, hf⟩
end Go.Proofs.Ytlmiadeaiiehaaa
