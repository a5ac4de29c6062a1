/- The law on statistics: its argument opened, its walk. -/
import Derived.Test.YtdkeblhkdekfjaaStatW
import Derived.Test.YtdkeblhkdekfjaaOpen
import Derived.Deep.RegionWith
namespace Go.Proofs.Ytdkeblhkdekfjaa
open Go Go.RowKit
section
open Go.ChangeShapes Go.WideShapes
variable {H : Type} {enc : TypeId × Value → H} {W : World}
structure Stat where
  rows : Int
  ds : List Int
  ns : List Int
def rdStat : Rd Stat := fun m c s => c 0 = some (.int .i64 s.rows) ∧ rdSlice rdIntB 1 m (fun j => c (1 + j)) s.ds ∧ rdSlice rdIntB 1 m (fun j => c (2 + j)) s.ns
set_option maxRecDepth 100000 in
theorem op_stat (n : Nat) : Op enc Try.prog W n 24 3 rdStat := fun cs x h => by
  refine ⟨op_len Try.underlying24 (by kernel_rfl) h, ?_⟩
  obtain ⟨a0, h0⟩ := op_field (rd := rdIntB) (i := 0) (off := 0) (sz := 1) rdIntB_mono Try.underlying24 rfl rfl (by kernel_rfl) (fun k _ => op_int Try.underlying3) h
  obtain ⟨a1, h1⟩ := op_field (rd := rdSlice rdIntB 1) (i := 1) (off := 1) (sz := 1) (rdSlice_mono rdIntB_mono) Try.underlying24 rfl rfl (by kernel_rfl) (fun k _ => op_slice rdIntB_mono Try.underlying22 (by kernel_rfl) (by decide) (fun _ _ => op_int Try.underlying3)) h
  obtain ⟨a2, h2⟩ := op_field (rd := rdSlice rdIntB 1) (i := 2) (off := 2) (sz := 1) (rdSlice_mono rdIntB_mono) Try.underlying24 rfl rfl (by kernel_rfl) (fun k _ => op_slice rdIntB_mono Try.underlying22 (by kernel_rfl) (by decide) (fun _ _ => op_int Try.underlying3)) h
  exact ⟨⟨a0, a1, a2⟩, h0.1, h1, h2⟩
set_option maxRecDepth 100000 in
theorem open_stat {base : Nat} {v : Value} {d : DataW H} {p : List MemPlace} (hv : Value.okWide Try.prog W .any base 24 v) (h : DataW.Trod enc Try.prog W 0 (fun _ => true) true 24 v d p) :
    ∃ r A ds c A' ns c', v = .agg #[.int .i64 r, .slice A ds.length c, .slice A' ns.length c'] ∧ RdSl rdInt W.cell? 1 A ds ∧ RdSl rdInt W.cell? 1 A' ns ∧ ds.length ≤ maxLen ∧ ns.length ≤ maxLen := by
  obtain ⟨cs, rfl, hsz⟩ := okWide_struct Try.underlying24 hv
  obtain ⟨hs, ⟨r, ds, ns⟩, h0, ⟨A, c, h1, r1, l1, _⟩, ⟨A', c', h2, r2, l2, _⟩⟩ := arg_agg h op_stat
  refine ⟨r, A, ds, c, A', ns, c', ?_, (rdInt_of_B r1).1, (rdInt_of_B r2).1, l1, l2⟩
  rw [arr3 hs h0 h1 h2]
end
theorem left2_yes {m n : Nat} (h : m + n ≤ 1048576) : left2 m n = 1048576 - ((m + n : Nat) : Int) := if_pos h
theorem left2_no {m n : Nat} (h : ¬ m + n ≤ 1048576) : left2 m n = -1 := if_neg h
set_option maxHeartbeats 2000000 in
theorem walkFnExactValidStats (r : Int) (A : Option Addr) (ds : List Int) (c : Nat) (A' : Option Addr) (ns : List Int) (c' : Nat) (wd : Int) (w : World) (hx : RdSl rdInt w.cell? 1 A ds) (hy : RdSl rdInt w.cell? 1 A' ns) (hl : ds.length ≤ maxLen) (hl' : ns.length ≤ maxLen) (_ : I64 wd) :
    Calls Try.prog 3 #[.agg #[.int .i64 r, .slice A ds.length c, .slice A' ns.length c'], .int .i64 wd] w fun e w' => e = .returned (.bool true) ∧ Fr w w' := by
  have HX := hid hx
  have HY := hid hy
  clear hx hy
  have BA := hid (Blk.new w 24 #[.int .i64 r, .slice A ds.length c, .slice A' ns.length c'])
  have F0 : Fr w (w.alloc (.cells #[.int .i64 r, .slice A ds.length c, .slice A' ns.length c'] 24)) := (Fr.refl _).alloc _
  by_cases hs : ds.length + ns.length ≤ 1048576
  · have hd : ds.length ≤ 1048576 := by omega
    have hn : ns.length ≤ 1048576 := by omega
    have HS := hid hs
    clear hs
    go_enter Try.func3, Try.ntmps3
    go_wp2_with fail
    refine (szStats _ _ _ _ _ _ _ _ hl hl').mono ?_
    rintro e w1 ⟨rfl, b1⟩
    rw [left2_yes HS.out]
    have hs := HS.out
    obtain ⟨a0, a1, a2, _⟩ := (BA.out.fr b1).three
    have F1 := F0.trans b1
    go_wp2_with fail
    refine (toStats _ _ _ _ _ _ _ _ (HX.out.fr rdInt_mono F1) (HY.out.fr rdInt_mono F1) hd hn).mono ?_
    rintro e w2 ⟨g, g', rfl, x2, y2, b2⟩
    clear a0 a1 a2
    have X2 := hid x2
    have Y2 := hid y2
    clear x2 y2
    go_wp2_with fail
    refine (specValidStats _ _ _ _ _ _ _ _ _ X2.out Y2.out hl hl').mono ?_
    rintro e w3 ⟨rfl, b3⟩
    have F3 := (F1.trans b2).trans b3
    obtain ⟨a0, a1, a2, _⟩ := (BA.out.fr ((b1.trans b2).trans b3)).three
    go_wp2_with fail
    refine (toStats _ _ _ _ _ _ _ _ (HX.out.fr rdInt_mono F3) (HY.out.fr rdInt_mono F3) hd hn).mono ?_
    rintro e w4 ⟨g4, g4', rfl, x4, y4, b4⟩
    clear a0 a1 a2
    have X4 := hid x4
    have Y4 := hid y4
    clear x4 y4
    have F4 := F3.trans b4
    go_wp2_with fail
    refine absW fun W5 hW5 => ?_
    have B5 : Blk W5 w4.heap.size 27 #[.int .i64 r, .slice (some ⟨g4, 0, none⟩) ds.length ds.length, .slice (some ⟨g4', 0, none⟩) ns.length ns.length] := by rw [hW5]; exact Blk.new _ _ _
    have b5 : Fr w4 W5 := by rw [hW5]; (repeat (first | with_reducible exact Fr.refl _ | with_reducible assumption | with_reducible refine Fr.alloc ?_ _ | with_reducible refine Fr.drew ?_ | with_reducible refine Fr.drewN ?_ _ | (with_reducible refine Fr.setNew2 ?_ ?_ _; · (simp <;> omega)) | with_reducible refine Fr.trans ?_ (by assumption)))
    clear hW5
    refine (implValidStats _ _ _ _ _ _ _ _ _ (X4.out.fr rdInt_mono b5) (Y4.out.fr rdInt_mono b5) hl hl').mono ?_
    rintro e w6 ⟨rfl, b6⟩
    have F6 := (F4.trans b5).trans b6
    obtain ⟨d0, d1, d2, _⟩ := (B5.fr b6).three
    obtain ⟨a0, a1, a2, _⟩ := (BA.out.fr (((((b1.trans b2).trans b3).trans b4).trans b5).trans b6)).three
    have X6 := hid (X4.out.fr rdInt_mono (b5.trans b6))
    have Y6 := hid (Y4.out.fr rdInt_mono (b5.trans b6))
    clear F4 b6
    go_wp2_with fail
    first | (go_region_with (first
      | (go_at_call 16; refine (toStats _ _ _ _ _ _ _ _ (HX.out.fr rdInt_mono F6.drew) (HY.out.fr rdInt_mono F6.drew) hd hn).mono ?_; rintro e w7 ⟨g7, g7', rfl, x7, y7, b7⟩; have X7 := hid x7; have Y7 := hid y7; clear x7 y7; have F7 := F6.drew.trans b7; have X6' := hid (X6.out.fr rdInt_mono ((Fr.refl _).drew.trans b7)); have Y6' := hid (Y6.out.fr rdInt_mono ((Fr.refl _).drew.trans b7)); have q0 := b7.cell d0; have q1 := b7.cell d1; have q2 := b7.cell d2)
      | (go_at_call 18; refine (eqStats _ _ _ _ _ _ _ _ _ _ _ _ X6'.out Y6'.out X7.out Y7.out hl hl').mono ?_; rintro e w8 ⟨rfl, b8⟩; have F8 := F7.trans b8))) | fail
    all_goals go_wp2
    all_goals go_ret
    all_goals exact ⟨rfl, F8⟩
  · go_enter Try.func3, Try.ntmps3
    go_wp2_with fail
    refine (szStats _ _ _ _ _ _ _ _ hl hl').mono ?_
    rintro e w1 ⟨rfl, b1⟩
    rw [left2_no hs]
    go_wp2
    go_ret
    exact ⟨rfl, F0.trans b1⟩
end Go.Proofs.Ytdkeblhkdekfjaa
