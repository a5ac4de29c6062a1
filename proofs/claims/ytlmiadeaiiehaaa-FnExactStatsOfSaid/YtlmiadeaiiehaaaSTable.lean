/- Table: how an argument of it opens; the walks of its size, copy and comparison. -/
import Derived.Test.YtlmiadeaiiehaaaIntsB
import Derived.Test.YtlmiadeaiiehaaaOpen
import Derived.Test.YtlmiadeaiiehaaaTRows
namespace Go.Proofs.Ytlmiadeaiiehaaa
open Go Go.RowKit
section
open Go.ChangeShapes Go.WideShapes
variable {H : Type} {enc : TypeId × Value → H} {W : World}
structure TableD where
  wd : Int
  rows : List (List V)
def rdTableD : Rd TableD := fun m c s => c 0 = some (.int .i64 s.wd) ∧ rdSlice rdRow 1 m (fun j => c (1 + j)) s.rows
set_option maxRecDepth 100000 in
theorem op_tableD (n : Nat) : Op enc Try.prog W n 24 2 rdTableD := fun cs x h => by
  refine ⟨op_len Try.underlying24 (by kernel_rfl) h, ?_⟩
  obtain ⟨a0, h0⟩ := op_field (rd := rdIntB) (i := 0) (off := 0) (sz := 1) rdIntB_mono Try.underlying24 rfl rfl (by kernel_rfl) (fun k _ => op_int Try.underlying3) h
  obtain ⟨a1, h1⟩ := op_field (rd := rdSlice rdRow 1) (i := 1) (off := 1) (sz := 1) (rdSlice_mono rdRow_mono) Try.underlying24 rfl rfl (by kernel_rfl) (fun k _ => op_slice rdRow_mono Try.underlying22 (by kernel_rfl) (by decide) (fun _ _ => op_slice rdV_mono Try.underlying79 (by kernel_rfl) (by decide) (fun _ _ => op_v _))) h
  exact ⟨⟨a0, a1⟩, h0.1, h1⟩
set_option maxRecDepth 100000 in
theorem open_table {base : Nat} {v : Value} {d : DataW H} {p : List MemPlace} (hv : Value.okWide Try.prog W .any base 24 v) (h : DataW.Trod enc Try.prog W 0 (fun _ => true) true 24 v d p) :
    ∃ wd A0 c0 rows, v = .agg #[.int .i64 wd, .slice A0 rows.length c0] ∧ RdSl rdRow W.cell? 1 A0 rows ∧ rows.length ≤ maxLen := by
  obtain ⟨cs, rfl, hsz⟩ := okWide_struct Try.underlying24 hv
  obtain ⟨hs, ⟨wd, rows⟩, h0, ⟨A0, c0, h1, r0, l0, _⟩⟩ := arg_agg h op_tableD
  refine ⟨wd, A0, c0, rows, ?_, r0, l0⟩
  rw [arr2 hs h0 h1]
end
theorem szTable (wd : Int) (A0 : Option Addr) (c0 : Nat) (rows : List (List V)) (left : Int) (w : World) (hx : RdSl rdRow w.cell? 1 A0 rows) (hm : rows.length ≤ maxLen) (h0 : 0 ≤ left) (h1 : left ≤ 1048576) :
    Calls Try.prog 5 #[.agg #[.int .i64 wd, .slice A0 rows.length c0], .int .i64 left] w fun e w' => e = .returned (.int .i64 (szSS left rows)) ∧ Fr w w' := by
  have F0 : Fr w (w.alloc (.cells #[.int .i64 wd, .slice A0 rows.length c0] 24)) := (Fr.refl _).alloc _
  have HX := hid (hx.fr rdRow_mono F0)
  clear hx
  rcases szSS_facts (rows := rows) h0 h1 with h | ⟨h2, h3, _⟩
  · have R := hid h
    go_enter Try.func5, Try.ntmps5
    go_wp2_with fail
    refine (szVSS _ _ _ _ _ HX.out hm h0 h1).mono ?_
    rintro e w' ⟨rfl, rfl⟩
    rw [R.out]
    go_wp2
    go_ret
    exact ⟨ret_int R.out.symm, F0⟩
  · have d0 : decide (szSS left rows < 0) = false := by simp; omega
    go_enter Try.func5, Try.ntmps5
    go_wp2_with fail
    refine (szVSS _ _ _ _ _ HX.out hm h0 h1).mono ?_
    rintro e w' ⟨rfl, rfl⟩
    go_wp2
    go_ret
    exact ⟨rfl, F0⟩
set_option maxHeartbeats 1000000 in
theorem toTable (wd : Int) (A0 : Option Addr) (c0 : Nat) (rows : List (List V)) (w : World) (hx0 : RdSl rdRow w.cell? 1 A0 rows) (hl0 : SmallR rows) :
    Calls Try.prog 7 #[.agg #[.int .i64 wd, .slice A0 rows.length c0]] w fun e w' => ∃ g0, e = .returned (.agg #[.int .i64 wd, .slice (some ⟨g0, 0, none⟩) rows.length rows.length]) ∧ RdSl rdRow (fromB w' w.heap.size) 1 (some ⟨g0, 0, none⟩) rows ∧ Fr w w' := by
  have HX0 := hid hx0
  clear hx0
  go_enter Try.func7, Try.ntmps7
  go_wp2_with fail
  refine absW fun W0 hW0 => ?_
  have BA0 : Blk W0 w.heap.size 24 #[.int .i64 wd, .slice A0 rows.length c0] := by
    rw [hW0]; exact ((Blk.new _ _ _).alloc _).alloc _
  have BR0 : Blk W0 (w.heap.size + 1) 32 #[.int .i64 0, .slice none 0 0] := by
    have := Blk.new (w.alloc (.cells #[.int .i64 wd, .slice A0 rows.length c0] 24)) 32 #[.int .i64 0, .slice none 0 0]
    rw [World.size_alloc] at this
    rw [hW0]; exact this.alloc _
  have BL0 : Blk W0 (w.heap.size + 2) 32 #[.int .i64 wd, .slice none 0 0] := by
    have := Blk.new ((w.alloc (.cells #[.int .i64 wd, .slice A0 rows.length c0] 24)).alloc (.cells #[.int .i64 0, .slice none 0 0] 32)) 32 #[.int .i64 wd, .slice none 0 0]
    rw [World.size_alloc, World.size_alloc] at this
    rw [hW0]; exact this
  have F0 : Fr w W0 := by rw [hW0]; (repeat (first | with_reducible exact Fr.refl _ | with_reducible assumption | with_reducible refine Fr.alloc ?_ _ | with_reducible refine Fr.drew ?_ | with_reducible refine Fr.drewN ?_ _ | (with_reducible refine Fr.setNew2 ?_ ?_ _; · (simp <;> omega)) | with_reducible refine Fr.trans ?_ (by assumption)))
  clear hW0
  have s0 := BL0.lt
  refine (toVSSB _ _ _ _ (HX0.out.fr rdRow_mono F0) hl0).mono ?_
  rintro e w0 ⟨g0, rfl, x0, b0⟩
  have X0 := hid x0; clear x0
  obtain ⟨p0, p1, f0, f1⟩ := (BL0.fr b0).pair
  obtain ⟨d0, d1, e0, e1⟩ := (BR0.fr b0).pair
  go_wp2
  have RR := ((((BR0.fr b0).far (p := ⟨w.heap.size + 1 + 1, 1, none⟩) (by simp) (.slice (some ⟨g0, 0, none⟩) rows.length rows.length)).set_ 0 (.int .i64 wd)).set_ 1 (.slice (some ⟨g0, 0, none⟩) rows.length rows.length)).pair
  have s1 : w.heap.size + 2 < w0.heap.size := (BL0.fr b0).lt
  have sb0 := b0.size
  have C : Ch (fun k => k = w.heap.size + 1 ∨ k = w.heap.size + 2) w0 (((w0.setCell ⟨w.heap.size + 1 + 1, 1, none⟩ (.slice (some ⟨g0, 0, none⟩) rows.length rows.length)).setCell ⟨w.heap.size + 1, 0, none⟩ (.int .i64 wd)).setCell ⟨w.heap.size + 1, 1, none⟩ (.slice (some ⟨g0, 0, none⟩) rows.length rows.length)) := Ch.set (Ch.set (Ch.set (Ch.refl _) (.inl (.inr rfl)) _) (.inl (.inl rfl)) _) (.inl (.inl rfl)) _
  have L0 := C.mle_from (lo := W0.heap.size) (fun k hk => by omega)
  refine bodyPost_ret (v := .agg #[.int .i64 wd, .slice (some ⟨g0, 0, none⟩) rows.length rows.length]) ?_ rfl ⟨g0, rfl, (X0.out.mono rdRow_mono L0).mono rdRow_mono (fromB_lo (by omega)), C.fr (fun k hk => by omega) (F0.trans b0)⟩
  obtain ⟨r0, r1, _⟩ := RR
  simp [results, Try.results7, go_sem, r0, r1]
theorem eqTable (wd : Int) (A0 : Option Addr) (c0 : Nat) (rows : List (List V)) (B0 : Option Addr) (k0 : Nat) (w : World) (hx0 : RdSl rdRow w.cell? 1 A0 rows) (hy0 : RdSl rdRow w.cell? 1 B0 rows) (hl0 : SmallR rows) :
    Calls Try.prog 10 #[.agg #[.int .i64 wd, .slice A0 rows.length c0], .agg #[.int .i64 wd, .slice B0 rows.length k0]] w fun e w' => e = .returned (.bool true) ∧ Fr w w' := by
  have HX0 := hid hx0
  have HY0 := hid hy0
  clear hx0 hy0
  have q0 : decide (rows = rows) = true := by simp
  go_enter Try.func10, Try.ntmps10
  go_wp2_with fail
  refine absW fun W hW => ?_
  have BA : Blk W w.heap.size 32 #[.int .i64 wd, .slice A0 rows.length c0] := by rw [hW]; exact (Blk.new _ _ _).alloc _
  have BB : Blk W (w.heap.size + 1) 32 #[.int .i64 wd, .slice B0 rows.length k0] := by
    have := Blk.new (w.alloc (.cells #[.int .i64 wd, .slice A0 rows.length c0] 32)) 32 #[.int .i64 wd, .slice B0 rows.length k0]
    rw [World.size_alloc] at this
    rw [hW]; exact this
  have F0 : Fr w W := by rw [hW]; (repeat (first | with_reducible exact Fr.refl _ | with_reducible assumption | with_reducible refine Fr.alloc ?_ _ | with_reducible refine Fr.drew ?_ | with_reducible refine Fr.drewN ?_ _ | (with_reducible refine Fr.setNew2 ?_ ?_ _; · (simp <;> omega)) | with_reducible refine Fr.trans ?_ (by assumption)))
  clear hW
  refine (eqVSS _ _ _ _ _ _ _ (HX0.out.fr rdRow_mono F0) (HY0.out.fr rdRow_mono F0) hl0 hl0).mono ?_
  rintro e w0 ⟨rfl, b0⟩
  have F1 := F0.trans b0
  go_wp2
  go_ret
  exact ⟨rfl, F1⟩
end Go.Proofs.Ytlmiadeaiiehaaa
