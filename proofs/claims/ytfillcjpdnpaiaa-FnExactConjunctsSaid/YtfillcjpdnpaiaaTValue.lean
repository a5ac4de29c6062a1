/- Value: how it lies in memory, how an argument of it opens, and the walks of its sizes, copies and comparisons. -/
import Derived.Test.YtfillcjpdnpaiaaProg
import Derived.Test.YtfillcjpdnpaiaaOpen
import Derived.Test.YtfillcjpdnpaiaaMem
import Derived.WalkKit
import Derived.WalkSpells
import Derived.WalkLawsBesides
import Derived.Outline
import Derived.BigQuiet
import Derived.Deep.QuietTactic
import Derived.StillTailTactics
import Derived.Test.YtfillcjpdnpaiaaValW
namespace Go.Proofs.Ytfillcjpdnpaiaa
open Go Go.RowKit

def rdV : Rd V := fun _ c d => c 0 = some (.bool d.null) ∧ c 1 = some (.int .i64 d.n)
theorem rdV_flat : RdFlat rdV := fun _ _ _ _ _ hc h => ⟨hc _ _ h.1, hc _ _ h.2⟩
theorem rdV_mono : RdMono rdV := fun _ _ _ _ _ _ hc h => ⟨hc _ _ h.1, hc _ _ h.2⟩
theorem RdSl.v {m : Mv} {A : Option Addr} {xs : List V} (h : RdSl rdV m 2 A xs) {k : Nat} (hk : k < xs.length) :
    ∃ b o, A = some ⟨b, o, none⟩ ∧ m ⟨b, o + k * 2, none⟩ = some (.bool xs[k].null) ∧ m ⟨b, o + k * 2 + 1, none⟩ = some (.int .i64 xs[k].n) := by
  obtain ⟨b, o, hA, hc⟩ := h.at_ hk
  exact ⟨b, o, hA, hc⟩
section
open Go.ChangeShapes Go.WideShapes
variable {H : Type} {enc : TypeId × Value → H} {W : World}
theorem op_v (n : Nat) : Op enc Try.prog W n 23 2 rdV := fun cs x h => by
  refine ⟨op_len Try.underlying23 (by kernel_rfl) h, ?_⟩
  obtain ⟨a0, h0⟩ := op_field (rd := rdBool) (i := 0) (off := 0) (sz := 1) rdBool_mono Try.underlying23 rfl rfl (by kernel_rfl) (fun k _ => op_bool Try.underlying4) h
  obtain ⟨a1, h1⟩ := op_field (rd := rdIntB) (i := 1) (off := 1) (sz := 1) rdIntB_mono Try.underlying23 rfl rfl (by kernel_rfl) (fun k _ => op_int Try.underlying3) h
  exact ⟨⟨a0, a1⟩, h0, h1.1⟩
end
theorem toV (null : Bool) (n : Int) (w : World) :
    Calls Try.prog 41 #[.agg #[.bool null, .int .i64 n]] w fun e w' => e = .returned (.agg #[.bool null, .int .i64 n]) ∧ Fr w w' := by
  go_enter Try.func41, Try.ntmps41
  go_wp2
  exact bodyPost_ret (v := .agg #[.bool null, .int .i64 n]) (by simp [results, Try.results41, go_sem]) rfl ⟨rfl, by (repeat (first | with_reducible exact Fr.refl _ | with_reducible assumption | with_reducible refine Fr.alloc ?_ _ | with_reducible refine Fr.drew ?_ | with_reducible refine Fr.drewN ?_ _ | (with_reducible refine Fr.setNew2 ?_ ?_ _; · (simp <;> omega)) | with_reducible refine Fr.trans ?_ (by assumption)))⟩
theorem eqV (null : Bool) (n : Int) (null' : Bool) (n' : Int) (w : World) :
    Calls Try.prog 43 #[.agg #[.bool null, .int .i64 n], .agg #[.bool null', .int .i64 n']] w fun e w' => e = .returned (.bool (decide (null = null') && decide (n = n'))) ∧ Fr w w' := by
  go_enter Try.func43, Try.ntmps43
  go_wp2
  all_goals go_ret
  all_goals exact ⟨ret_bool (by rw [Bool.eq_iff_iff]; simp_all), by (repeat (first | with_reducible exact Fr.refl _ | with_reducible assumption | with_reducible refine Fr.alloc ?_ _ | with_reducible refine Fr.drew ?_ | with_reducible refine Fr.drewN ?_ _ | (with_reducible refine Fr.setNew2 ?_ ?_ _; · (simp <;> omega)) | with_reducible refine Fr.trans ?_ (by assumption)))⟩
end Go.Proofs.Ytfillcjpdnpaiaa
