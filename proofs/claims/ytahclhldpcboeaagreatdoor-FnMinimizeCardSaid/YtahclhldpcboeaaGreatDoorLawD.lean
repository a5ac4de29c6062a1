/- The last step of a law's row whose two listed variables are errors: what they hold, that they read as before, a world that meets the condition. -/
import Derived.Test.YtahclhldpcboeaaGreatDoorLaw
import Derived.Test.YtahclhldpcboeaaGreatDoorTie
import Derived.Test.YtahclhldpcboeaaGreatDoorErrW
import Derived.ChangeVars
import Derived.OpenVars
import Derived.LaidLaws
import Derived.LaidMore
import Derived.MakeChecks
import Derived.Stop.Joined
import Derived.SevenTiedAt
namespace Go.Proofs.YtahclhldpcboeaaGreatDoor
open Go Go.ChangeShapes Go.WideShapes Go.ChangeAt Go.WideElems Go.RowKit

abbrev nameInv : String := "loop.example/queryoptimizer/impl.errInvalidQuery"
abbrev nameNo : String := "loop.example/queryoptimizer/impl.errNoHomomorphism"
abbrev laidTwo : List (String × DataW Unit) := [(nameInv, Rows.laid_loop_example_queryoptimizer_impl_errInvalidQuery), (nameNo, Rows.laid_loop_example_queryoptimizer_impl_errNoHomomorphism)]
theorem gInv : Tryz.prog.globalNamed nameInv = some 0 := by kernel_rfl
theorem gNo : Tryz.prog.globalNamed nameNo = some 1 := by kernel_rfl
theorem tInv : (Tryz.prog.globals[0]?).map (·.type) = some 48 := by kernel_rfl
theorem tNo : (Tryz.prog.globals[1]?).map (·.type) = some 48 := by kernel_rfl
theorem cellsErr : Tryz.prog.cellsOf 182 = 1 := by kernel_rfl
theorem cellsStr : Tryz.prog.cellsOf 9 = 1 := by kernel_rfl
theorem starErr : "*" ++ "errors.errorString" = "*errors.errorString" := by decide
theorem rowErr (u : TypeId) (h : Tryz.prog.typeName? 3 u = some "*errors.errorString") : u = 158 :=
  typeName_ptr_named (nm := "errors.errorString") (by rw [starErr]; kernel_rfl) (by kernel_rfl) (by decide) u (by rw [starErr]; exact h)
/-- The heap that the door's own run leaves meets the condition. -/
theorem door_met (os : Os) (args : Array Value) : laidMetH Tryz.prog laidTwo ((World.doorLaid Tryz.prog 47 os).forCall (fun _ _ => 0) ⟨#[], args, []⟩).memory :=
  laidMetH_of_parts3 (fuel := 8) (laidMet_of_run' 8 (by kernel_rfl) (by kernel_rfl)) (by kernel_rfl) (by kernel_rfl)
set_option maxRecDepth 100000 in
/-- What the condition gives the walks: the two variables' cells. -/
theorem of_laid {W : World} (h : laidMetH Tryz.prog laidTwo W) : ∃ a0 a1 : Addr, W.cell? ⟨0, 0, none⟩ = some (.iface 158 (.pointer (some a0))) ∧ W.cell? ⟨1, 0, none⟩ = some (.iface 158 (.pointer (some a1))) := by
  rw [MakeChecks.laidMetH_plain _ _ _ (by kernel_rfl)] at h
  obtain ⟨ps, ⟨g0, t0, cs0, f0, p0, q0, hg0, ht0, hv0, hd0, ⟨g1, t1, cs1, f1, p1, q1, hg1, ht1, hv1, hd1, hq1, e1⟩, e0⟩, hnd, hrows⟩ := h
  obtain rfl := Option.some.inj (gInv.symm.trans hg0)
  obtain rfl := Option.some.inj (gNo.symm.trans hg1)
  obtain rfl := Option.some.inj (tInv.symm.trans ht0)
  obtain rfl := Option.some.inj (tNo.symm.trans ht1)
  have hq1' : q1 = [] := hq1
  subst hq1'
  subst e1
  subst e0
  obtain ⟨l0⟩ := cs0
  obtain ⟨l1⟩ := cs1
  have ok0 : ∀ u v, l0 = [.iface u v] → Value.okWide Tryz.prog W .any 0 u v := fun u v e => by
    subst e
    exact (hrows 0 0 (by simp [MemPlace.row])).2 u v (by simpa using World.var?_cell hg0 hv0 0)
  have ok1 : ∀ u v, l1 = [.iface u v] → Value.okWide Tryz.prog W .any 0 u v := fun u v e => by
    subst e
    exact (hrows 1 0 (by simp [MemPlace.row])).2 u v (by simpa using World.var?_cell hg1 hv1 0)
  obtain ⟨a0, s0, rfl, hc0, hs0, hz0, rfl⟩ := errorString_of_trod Tryz.underlying48 rowErr Tryz.underlying158 Tryz.underlying182 rfl rfl Tryz.underlying9 cellsErr cellsStr hd0 ok0
  obtain ⟨a1, s1, rfl, hc1, hs1, hz1, rfl⟩ := errorString_of_trod Tryz.underlying48 rowErr Tryz.underlying158 Tryz.underlying182 rfl rfl Tryz.underlying9 cellsErr cellsStr hd1 ok1
  exact ⟨a0, a1, by simpa using World.var?_cell hg0 hv0 0, by simpa using World.var?_cell hg1 hv1 0⟩
theorem varsTwo {H : Type} {enc : TypeId × Value → H} {P : Program} {W : World} {sp : Nat → Bool} {n0 n1 : String} {gs : List (DataW H)} {q : List MemPlace} (h : DataW.TrodVars enc P W sp [n0, n1] gs q) : ∃ a b, gs = [a, b] := by
  match gs, h with
  | [a, b], _ => exact ⟨a, b, rfl⟩
  | [], h => exact h.elim
  | [_], h => obtain ⟨_, _, _, _, _, _, _, _, _, _, h, _⟩ := h; exact h.elim
  | _ :: _ :: _ :: _, h => obtain ⟨_, _, _, _, _, _, _, _, _, _, ⟨_, _, _, _, _, _, _, _, _, _, h, _⟩, _⟩ := h; exact h.elim
theorem varsRow : varsRowed Tryz.prog [nameInv, nameNo] = true := by kernel_rfl
section
variable {H : Type} {enc : TypeId × Value → H} {P : Program}
theorem law_postV {fn : Func} {s : ChangeSpec} {apart fresh handsOn : Bool} {tb : TypeId} {W W' : World} {args : Array Value} {ds gs : List (DataW H)} {before : List MemPlace} (hl : laidOutB P = true)
    (hrt : fn.resultTypes = #[tb]) (htb : P.underlying tb = some .bool) (hvr : varsRowed P s.vars = true) (hr0 : (fn.params.toList.all fun t => P.readableRec t && decide (t < P.types.size)) = true)
    (hfn : s.fn H (ds ++ gs) = { results := [.lit (.bool true)], args := ds, vars := gs })
    (hW : DataW.Whole enc P fn.params.toList s.vars apart W args.toList ds gs before) (hb : Fr W W') : s.post enc P fn apart fresh handsOn false W args (.bool true) W' := by
  have hr : ∀ t ∈ fn.params.toList, P.readableRec t = true ∧ t < P.types.size := fun t ht => by
    have := List.all_eq_true.1 hr0 t ht
    simpa using this
  have hW' := hW
  obtain ⟨p, q, hA, hV, rfl, hfz, hnd⟩ := hW
  have hlt : ∀ x ∈ p, x.block < W.heap.size := fun x hx => by simpa using hW'.lt x (List.mem_append_left _ hx)
  have hargs : DataW.TrodAll enc P W' 0 (fun b => decide (b < W.heap.size)) true fn.params.toList args.toList ds p := trodAll_fr hl hb _ _ _ _ hr hA hlt _ (fun x hx => by simpa using hlt x hx)
  have hvars := Below.trodVars hl hb hvr hV
  have hres : ∀ (b : Nat) (sp : Nat → Bool) (hd : Bool), DataW.TrodAll enc P W' b sp hd fn.resultTypes.toList ((Value.bool true).resultList fn.resultTypes.size) [.lit (.bool true)] [] := fun _ _ _ => by
    rw [hrt]; exact trodAll_mk1 (shut_bool htb _)
  refine ⟨ds, gs, p ++ q, [], p, q, hW', by rw [hfn]; exact hres _ _ _, by rw [hfn]; exact hargs, by rw [hfn]; exact hvars, World.keptBut_mono (fun x hx => ⟨hx, ?_⟩) (Below.frame hb (· ∈ p ++ q)), fun h => by cases h⟩
  rcases List.mem_append.1 hx with h | h
  · exact Or.inr (Or.inl h)
  · exact Or.inr (Or.inr h)
end
end Go.Proofs.YtahclhldpcboeaaGreatDoor
