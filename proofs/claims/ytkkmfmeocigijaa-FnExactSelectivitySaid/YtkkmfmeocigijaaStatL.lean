/- The law on statistics: its argument opened, its walk. -/
import Derived.Test.YtkkmfmeocigijaaStatW
import Derived.Test.YtkkmfmeocigijaaOpen
import Derived.Deep.RegionWith
namespace Go.Proofs.Ytkkmfmeocigijaa
open Go Go.RowKit
section
open Go.ChangeShapes Go.WideShapes
variable {H : Type} {enc : TypeId × Value → H} {W : World}
structure Stat where
  rows : Int
  ds : List Int
  ns : List Int
def rdStat : Rd Stat := fun m c s => c 0 = some (.int .i64 s.rows) ∧ rdSlice rdIntB 1 m (fun j => c (1 + j)) s.ds ∧ rdSlice rdIntB 1 m (fun j => c (2 + j)) s.ns
set_option maxRecDepth 100000 in
theorem op_stat (n : Nat) : Op enc Try.prog W n 48 3 rdStat := fun cs x h => by
  refine ⟨op_len Try.underlying48 (by kernel_rfl) h, ?_⟩
  obtain ⟨a0, h0⟩ := op_field (rd := rdIntB) (i := 0) (off := 0) (sz := 1) rdIntB_mono Try.underlying48 rfl rfl (by kernel_rfl) (fun k _ => op_int Try.underlying3) h
  obtain ⟨a1, h1⟩ := op_field (rd := rdSlice rdIntB 1) (i := 1) (off := 1) (sz := 1) (rdSlice_mono rdIntB_mono) Try.underlying48 rfl rfl (by kernel_rfl) (fun k _ => op_slice rdIntB_mono Try.underlying31 (by kernel_rfl) (by decide) (fun _ _ => op_int Try.underlying3)) h
  obtain ⟨a2, h2⟩ := op_field (rd := rdSlice rdIntB 1) (i := 2) (off := 2) (sz := 1) (rdSlice_mono rdIntB_mono) Try.underlying48 rfl rfl (by kernel_rfl) (fun k _ => op_slice rdIntB_mono Try.underlying31 (by kernel_rfl) (by decide) (fun _ _ => op_int Try.underlying3)) h
  exact ⟨⟨a0, a1, a2⟩, h0.1, h1, h2⟩
set_option maxRecDepth 100000 in
theorem open_stat {base : Nat} {v : Value} {d : DataW H} {p : List MemPlace} (hv : Value.okWide Try.prog W .any base 48 v) (h : DataW.Trod enc Try.prog W 0 (fun _ => true) true 48 v d p) :
    ∃ r A ds c A' ns c', v = .agg #[.int .i64 r, .slice A ds.length c, .slice A' ns.length c'] ∧ RdSl rdInt W.cell? 1 A ds ∧ RdSl rdInt W.cell? 1 A' ns ∧ ds.length ≤ maxLen ∧ ns.length ≤ maxLen := by
  obtain ⟨cs, rfl, hsz⟩ := okWide_struct Try.underlying48 hv
  obtain ⟨hs, ⟨r, ds, ns⟩, h0, ⟨A, c, h1, r1, l1, _⟩, ⟨A', c', h2, r2, l2, _⟩⟩ := arg_agg h op_stat
  refine ⟨r, A, ds, c, A', ns, c', ?_, (rdInt_of_B r1).1, (rdInt_of_B r2).1, l1, l2⟩
  rw [arr3 hs h0 h1 h2]
end
theorem left2_yes {m n : Nat} (h : m + n ≤ 1048576) : left2 m n = 1048576 - ((m + n : Nat) : Int) := if_pos h
theorem left2_no {m n : Nat} (h : ¬ m + n ≤ 1048576) : left2 m n = -1 := if_neg h
end Go.Proofs.Ytkkmfmeocigijaa
