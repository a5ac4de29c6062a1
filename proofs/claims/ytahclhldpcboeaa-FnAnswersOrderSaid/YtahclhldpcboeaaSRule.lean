/- Rule: how an argument of it opens; the walks of its size, copy and comparison. -/
import Derived.Test.YtahclhldpcboeaaIntsB
import Derived.Test.YtahclhldpcboeaaOpen
import Derived.Test.YtahclhldpcboeaaTAtom
namespace Go.Proofs.Ytahclhldpcboeaa
open Go Go.RowKit
section
open Go.ChangeShapes Go.WideShapes
variable {H : Type} {enc : TypeId × Value → H} {W : World}
structure RuleD where
  q : Int
  hd : List Int
  bd : List Atom
def rdRuleD : Rd RuleD := fun m c s => c 0 = some (.int .i64 s.q) ∧ rdSlice rdIntB 1 m (fun j => c (1 + j)) s.hd ∧ rdSlice rdAtom 3 m (fun j => c (2 + j)) s.bd
set_option maxRecDepth 100000 in
theorem op_ruleD (n : Nat) : Op enc Try.prog W n 25 3 rdRuleD := fun cs x h => by
  refine ⟨op_len Try.underlying25 (by kernel_rfl) h, ?_⟩
  obtain ⟨a0, h0⟩ := op_field (rd := rdIntB) (i := 0) (off := 0) (sz := 1) rdIntB_mono Try.underlying25 rfl rfl (by kernel_rfl) (fun k _ => op_int Try.underlying3) h
  obtain ⟨a1, h1⟩ := op_field (rd := rdSlice rdIntB 1) (i := 1) (off := 1) (sz := 1) (rdSlice_mono rdIntB_mono) Try.underlying25 rfl rfl (by kernel_rfl) (fun k _ => op_slice rdIntB_mono Try.underlying22 (by kernel_rfl) (by decide) (fun _ _ => op_int Try.underlying3)) h
  obtain ⟨a2, h2⟩ := op_field (rd := rdSlice rdAtom 3) (i := 2) (off := 2) (sz := 1) (rdSlice_mono rdAtom_mono) Try.underlying25 rfl rfl (by kernel_rfl) (fun k _ => op_slice rdAtom_mono Try.underlying23 (by kernel_rfl) (by decide) (fun _ _ => op_atom _)) h
  exact ⟨⟨a0, a1, a2⟩, h0.1, h1, h2⟩
set_option maxRecDepth 100000 in
theorem open_rule {base : Nat} {v : Value} {d : DataW H} {p : List MemPlace} (hv : Value.okWide Try.prog W .any base 25 v) (h : DataW.Trod enc Try.prog W 0 (fun _ => true) true 25 v d p) :
    ∃ q A0 c0 hd A1 c1 bd, v = .agg #[.int .i64 q, .slice A0 hd.length c0, .slice A1 bd.length c1] ∧ RdSl rdInt W.cell? 1 A0 hd ∧ RdSl rdAtom W.cell? 3 A1 bd ∧ hd.length ≤ maxLen ∧ bd.length ≤ maxLen := by
  obtain ⟨cs, rfl, hsz⟩ := okWide_struct Try.underlying25 hv
  obtain ⟨hs, ⟨q, hd, bd⟩, h0, ⟨A0, c0, h1, r0, l0, _⟩, ⟨A1, c1, h2, r1, l1, _⟩⟩ := arg_agg h op_ruleD
  refine ⟨q, A0, c0, hd, A1, c1, bd, ?_, (rdInt_of_B r0).1, r1, l0, l1⟩
  rw [arr3 hs h0 h1 h2]
end
theorem szRule (q : Int) (A0 A1 : Option Addr) (m n c0 c1 : Nat) (left : Int) (w : World) (hm : m ≤ maxLen) (hn : n ≤ maxLen) (h0 : 0 ≤ left) (h1 : left ≤ 1048576) :
    Calls Try.prog 10 #[.agg #[.int .i64 q, .slice A0 m c0, .slice A1 n c1], .int .i64 left] w fun e w' => e = .returned (.int .i64 (lft2 left m n)) ∧ Fr w w' := by
  have F0 : Fr w (w.alloc (.cells #[.int .i64 q, .slice A0 m c0, .slice A1 n c1] 25)) := (Fr.refl _).alloc _
  have HM := hid hm
  have HN := hid hn
  unfold maxLen at hm hn
  by_cases g1 : left < m
  · have e1 : (if left < (m : Int) then (-1 : Int) else left - m) = -1 := by rw [if_pos g1]
    go_enter Try.func10, Try.ntmps10
    go_wp2_with fail
    refine (szInts _ _ _ _ _ HM.out (by omega) (by omega)).mono ?_
    rintro e w' ⟨rfl, rfl⟩
    rw [e1]
    go_wp2
    go_ret
    exact ⟨ret_int (by unfold lft2; rw [if_pos (by omega)]), F0⟩
  · have e1 : (if left < (m : Int) then (-1 : Int) else left - m) = left - m := by rw [if_neg g1]
    have d1 : decide (left - (m : Int) < 0) = false := by simp; omega
    by_cases g2 : left - m < n
    · have e2 : (if left - (m : Int) < (n : Int) then (-1 : Int) else left - m - n) = -1 := by rw [if_pos g2]
      go_enter Try.func10, Try.ntmps10
      go_wp2_with fail
      refine (szInts _ _ _ _ _ HM.out (by omega) (by omega)).mono ?_
      rintro e w' ⟨rfl, rfl⟩
      rw [e1]
      go_wp2_with fail
      refine (szAtomS _ _ _ _ _ HN.out (by omega) (by omega)).mono ?_
      rintro e w' ⟨rfl, rfl⟩
      rw [e2]
      go_wp2
      go_ret
      exact ⟨ret_int (by unfold lft2; rw [if_pos (by omega)]), F0⟩
    · have e2 : (if left - (m : Int) < (n : Int) then (-1 : Int) else left - m - n) = left - m - n := by rw [if_neg g2]
      have d2 : decide (left - (m : Int) - n < 0) = false := by simp; omega
      go_enter Try.func10, Try.ntmps10
      go_wp2_with fail
      refine (szInts _ _ _ _ _ HM.out (by omega) (by omega)).mono ?_
      rintro e w' ⟨rfl, rfl⟩
      rw [e1]
      go_wp2_with fail
      refine (szAtomS _ _ _ _ _ HN.out (by omega) (by omega)).mono ?_
      rintro e w' ⟨rfl, rfl⟩
      rw [e2]
      go_wp2
      go_ret
      exact ⟨ret_int (by unfold lft2; rw [if_neg (by omega)]; omega), F0⟩
set_option maxHeartbeats 1000000 in
theorem toRule (q : Int) (A0 : Option Addr) (c0 : Nat) (hd : List Int) (A1 : Option Addr) (c1 : Nat) (bd : List Atom) (w : World) (hx0 : RdSl rdInt w.cell? 1 A0 hd) (hx1 : RdSl rdAtom w.cell? 3 A1 bd) (hl0 : hd.length ≤ 1048576) (hl1 : bd.length ≤ 1048576) :
    Calls Try.prog 12 #[.agg #[.int .i64 q, .slice A0 hd.length c0, .slice A1 bd.length c1]] w fun e w' => ∃ g0 g1, e = .returned (.agg #[.int .i64 q, .slice (some ⟨g0, 0, none⟩) hd.length hd.length, .slice (some ⟨g1, 0, none⟩) bd.length bd.length]) ∧ RdSl rdInt (fromB w' w.heap.size) 1 (some ⟨g0, 0, none⟩) hd ∧ RdSl rdAtom (fromB w' w.heap.size) 3 (some ⟨g1, 0, none⟩) bd ∧ Fr w w' := by
  have HX0 := hid hx0
  have HX1 := hid hx1
  clear hx0 hx1
  go_enter Try.func12, Try.ntmps12
  go_wp2_with fail
  refine absW fun W0 hW0 => ?_
  have BA0 : Blk W0 w.heap.size 25 #[.int .i64 q, .slice A0 hd.length c0, .slice A1 bd.length c1] := by
    rw [hW0]; exact ((Blk.new _ _ _).alloc _).alloc _
  have BR0 : Blk W0 (w.heap.size + 1) 30 #[.int .i64 0, .slice none 0 0, .slice none 0 0] := by
    have := Blk.new (w.alloc (.cells #[.int .i64 q, .slice A0 hd.length c0, .slice A1 bd.length c1] 25)) 30 #[.int .i64 0, .slice none 0 0, .slice none 0 0]
    rw [World.size_alloc] at this
    rw [hW0]; exact this.alloc _
  have BL0 : Blk W0 (w.heap.size + 2) 30 #[.int .i64 q, .slice none 0 0, .slice none 0 0] := by
    have := Blk.new ((w.alloc (.cells #[.int .i64 q, .slice A0 hd.length c0, .slice A1 bd.length c1] 25)).alloc (.cells #[.int .i64 0, .slice none 0 0, .slice none 0 0] 30)) 30 #[.int .i64 q, .slice none 0 0, .slice none 0 0]
    rw [World.size_alloc, World.size_alloc] at this
    rw [hW0]; exact this
  have F0 : Fr w W0 := by rw [hW0]; (repeat (first | with_reducible exact Fr.refl _ | with_reducible assumption | with_reducible refine Fr.alloc ?_ _ | with_reducible refine Fr.drew ?_ | with_reducible refine Fr.drewN ?_ _ | (with_reducible refine Fr.setNew2 ?_ ?_ _; · (simp <;> omega)) | with_reducible refine Fr.trans ?_ (by assumption)))
  clear hW0
  have s0 := BL0.lt
  refine (toIntsB _ _ _ _ (HX0.out.fr rdInt_mono F0) hl0).mono ?_
  rintro e w0 ⟨g0, rfl, x0, b0⟩
  have X0 := hid x0; clear x0
  obtain ⟨p0, p1, p2, f0, f1, f2⟩ := (BL0.fr b0).three
  obtain ⟨a0, a1, a2, _⟩ := (BA0.fr b0).three
  go_wp2_with fail
  refine absW fun W1 hW1 => ?_
  have BA1 : Blk W1 w.heap.size 25 #[.int .i64 q, .slice A0 hd.length c0, .slice A1 bd.length c1] := by rw [hW1]; exact (BA0.fr b0).far (by dsimp only; omega) _
  have BL1 : Blk W1 (w.heap.size + 2) 30 #[.int .i64 q, .slice (some ⟨g0, 0, none⟩) hd.length hd.length, .slice none 0 0] := by rw [hW1]; exact (BL0.fr b0).set_ 1 _
  have BR1 : Blk W1 (w.heap.size + 1) 30 #[.int .i64 0, .slice none 0 0, .slice none 0 0] := by rw [hW1]; exact (BR0.fr b0).far (by simp) _
  have F1 : Fr w W1 := by rw [hW1]; exact (F0.trans b0).setNew (by simp; omega) _
  have C1 : Ch (fun k => k = w.heap.size + 1 ∨ k = w.heap.size + 2) w0 W1 := by rw [hW1]; exact Ch.set (Ch.refl _) (.inl (.inr rfl)) _
  clear hW1 p0 f0 a0 p1 f1 a1 p2 f2 a2
  refine (toAtomSB _ _ _ _ (HX1.out.fr rdAtom_mono F1) hl1).mono ?_
  rintro e w1 ⟨g1, rfl, x1, b1⟩
  have X1 := hid x1; clear x1
  obtain ⟨p0, p1, p2, f0, f1, f2⟩ := (BL1.fr b1).three
  obtain ⟨d0, d1, d2, e0, e1, e2⟩ := (BR1.fr b1).three
  go_wp2
  have RR := (((((BR1.fr b1).far (p := ⟨w.heap.size + 1 + 1, 2, none⟩) (by simp) (.slice (some ⟨g1, 0, none⟩) bd.length bd.length)).set_ 0 (.int .i64 q)).set_ 1 (.slice (some ⟨g0, 0, none⟩) hd.length hd.length)).set_ 2 (.slice (some ⟨g1, 0, none⟩) bd.length bd.length)).three
  have s1 : w.heap.size + 2 < w1.heap.size := (BL1.fr b1).lt
  have sb0 := b0.size
  have sb1 := b1.size
  have sc1 := C1.size
  have C : Ch (fun k => k = w.heap.size + 1 ∨ k = w.heap.size + 2) w1 ((((w1.setCell ⟨w.heap.size + 1 + 1, 2, none⟩ (.slice (some ⟨g1, 0, none⟩) bd.length bd.length)).setCell ⟨w.heap.size + 1, 0, none⟩ (.int .i64 q)).setCell ⟨w.heap.size + 1, 1, none⟩ (.slice (some ⟨g0, 0, none⟩) hd.length hd.length)).setCell ⟨w.heap.size + 1, 2, none⟩ (.slice (some ⟨g1, 0, none⟩) bd.length bd.length)) := Ch.set (Ch.set (Ch.set (Ch.set (Ch.refl _) (.inl (.inr rfl)) _) (.inl (.inl rfl)) _) (.inl (.inl rfl)) _) (.inl (.inl rfl)) _
  have L0 := ((C1.mle_from (lo := W0.heap.size) (fun k hk => by omega)).trans ((b1.mle_from W0.heap.size).trans (C.mle_from (lo := W0.heap.size) (fun k hk => by omega))))
  have L1 := C.mle_from (lo := W1.heap.size) (fun k hk => by omega)
  refine bodyPost_ret (v := .agg #[.int .i64 q, .slice (some ⟨g0, 0, none⟩) hd.length hd.length, .slice (some ⟨g1, 0, none⟩) bd.length bd.length]) ?_ rfl ⟨g0, g1, rfl, (X0.out.mono rdInt_mono L0).mono rdInt_mono (fromB_lo (by omega)), (X1.out.mono rdAtom_mono L1).mono rdAtom_mono (fromB_lo (by omega)), C.fr (fun k hk => by omega) (F1.trans b1)⟩
  obtain ⟨r0, r1, r2, _⟩ := RR
  simp [results, Try.results12, go_sem, r0, r1, r2]
theorem eqRule (q : Int) (A0 : Option Addr) (c0 : Nat) (hd : List Int) (A1 : Option Addr) (c1 : Nat) (bd : List Atom) (B0 : Option Addr) (k0 : Nat) (B1 : Option Addr) (k1 : Nat) (w : World) (hx0 : RdSl rdInt w.cell? 1 A0 hd) (hx1 : RdSl rdAtom w.cell? 3 A1 bd) (hy0 : RdSl rdInt w.cell? 1 B0 hd) (hy1 : RdSl rdAtom w.cell? 3 B1 bd) (hl0 : hd.length ≤ 1048576) (hl1 : bd.length ≤ 1048576) :
    Calls Try.prog 15 #[.agg #[.int .i64 q, .slice A0 hd.length c0, .slice A1 bd.length c1], .agg #[.int .i64 q, .slice B0 hd.length k0, .slice B1 bd.length k1]] w fun e w' => e = .returned (.bool true) ∧ Fr w w' := by
  have HX0 := hid hx0
  have HY0 := hid hy0
  have HX1 := hid hx1
  have HY1 := hid hy1
  clear hx0 hy0 hx1 hy1
  have q0 : decide (hd = hd) = true := by simp
  have q1 : decide (bd = bd) = true := by simp
  go_enter Try.func15, Try.ntmps15
  go_wp2_with fail
  refine absW fun W hW => ?_
  have BA : Blk W w.heap.size 30 #[.int .i64 q, .slice A0 hd.length c0, .slice A1 bd.length c1] := by rw [hW]; exact (Blk.new _ _ _).alloc _
  have BB : Blk W (w.heap.size + 1) 30 #[.int .i64 q, .slice B0 hd.length k0, .slice B1 bd.length k1] := by
    have := Blk.new (w.alloc (.cells #[.int .i64 q, .slice A0 hd.length c0, .slice A1 bd.length c1] 30)) 30 #[.int .i64 q, .slice B0 hd.length k0, .slice B1 bd.length k1]
    rw [World.size_alloc] at this
    rw [hW]; exact this
  have F0 : Fr w W := by rw [hW]; (repeat (first | with_reducible exact Fr.refl _ | with_reducible assumption | with_reducible refine Fr.alloc ?_ _ | with_reducible refine Fr.drew ?_ | with_reducible refine Fr.drewN ?_ _ | (with_reducible refine Fr.setNew2 ?_ ?_ _; · (simp <;> omega)) | with_reducible refine Fr.trans ?_ (by assumption)))
  clear hW
  refine (eqInts _ _ _ _ _ _ _ (HX0.out.fr rdInt_mono F0) (HY0.out.fr rdInt_mono F0) (by unfold maxLen; omega) (by unfold maxLen; omega)).mono ?_
  rintro e w0 ⟨rfl, b0⟩
  have F1 := F0.trans b0
  obtain ⟨a0, a1, a2, _⟩ := (BA.fr b0).three
  obtain ⟨d0, d1, d2, _⟩ := (BB.fr b0).three
  go_wp2_with fail
  refine (eqAtomS _ _ _ _ _ _ _ (HX1.out.fr rdAtom_mono F1) (HY1.out.fr rdAtom_mono F1) hl1 hl1).mono ?_
  rintro e w1 ⟨rfl, b1⟩
  have F2 := F1.trans b1
  go_wp2
  go_ret
  exact ⟨rfl, F2⟩
end Go.Proofs.Ytahclhldpcboeaa
