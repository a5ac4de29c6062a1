/- Rule: copies whose cells are not frozen, and marks on them. -/
import Derived.Test.YtahclhldpcboeaaSRule
import Derived.Test.YtahclhldpcboeaaFromU
namespace Go.Proofs.Ytahclhldpcboeaa
open Go Go.RowKit

theorem rdInt_sc : ∀ m c x, rdInt m c x → rdSc Int 1 m c x := fun _ _ _ h j hj => by
  obtain rfl : j = 0 := by omega
  exact ⟨_, h, trivial⟩
theorem toIntsU (A : Option Addr) (cap : Nat) (xs : List Int) (w : World) (hx : RdSl rdInt w.cell? 1 A xs) (hl : xs.length ≤ 1048576) :
    Calls Try.prog 13 #[.slice A xs.length cap] w fun e w' => ∃ g, e = .returned (.slice (some ⟨g, 0, none⟩) xs.length xs.length) ∧ RdSl rdInt (fromU w' w.heap.size) 1 (some ⟨g, 0, none⟩) xs ∧ Fr w w' :=
  (toInts A cap xs w hx hl).mono fun _ _ ⟨g, _, h1, h2, hB, _, h5, h6⟩ => ⟨g, h1, h5.toU rdInt_flat hB h2, h6⟩
set_option maxRecDepth 100000 in
set_option maxHeartbeats 1000000 in
theorem markIntsU (A : Option Addr) (cap : Nat) (xs : List Int) (k lo hi : Nat) (w : World) (hx : RdSl (rdSc Int 1) (inU w lo hi) 1 A xs) (hl : xs.length ≤ 1048576) (hk : k ≤ 1099511627776) :
    Calls Try.prog 48 #[.slice A xs.length cap, .int .i64 k] w fun e w' => e = .returned (.int .i64 ((k + xs.length : Nat) : Int)) ∧ Ch (Inn lo hi) w w' ∧ KI lo hi w w' := by
  have HX := hid hx
  clear hx
  go_enter Try.func48, Try.ntmps48
  go_wp2
  go_loopw [1, 5] (fun kv iv wr => ∃ (i : Nat), i ≤ xs.length ∧ iv = .int .i64 i ∧ kv = .int .i64 ((k + i : Nat) : Int) ∧ Ch (Inn lo hi) w wr ∧ KI lo hi w wr) (fun _ iv _ => xs.length - (intOf iv).toNat)
  case atStart => exact ⟨0, by omega, rfl, by simp, Ch.refl _, KI.refl _⟩
  case round =>
    obtain ⟨i, hi', rfl, rfl, hC, hK⟩ := hrel
    by_cases hlt : i < xs.length
    · obtain ⟨b, o, hA, hc⟩ := (hK.sc HX.out).sc_at hlt
      subst hA
      obtain ⟨u0, s0, j0⟩ := hc 0 (by omega)
      simp only [Nat.add_zero, Nat.mul_one] at j0
      have c0 := inU_cell _ _ j0
      have f0 := (inU_some j0).2.2.1
      clear hc
      go_wp2
      go_roundw
      case rel => exact ⟨i + 1, by omega, by go_num, by go_num, (hC.set (p := ⟨b, o + i, none⟩) (.inl (inn j0)) _), (hK.set j0 s0 (by exact trivial))⟩
      case measure => simp [intOf]; omega
    · obtain rfl : i = xs.length := by omega
      go_wp2
      go_ret
      exact ⟨rfl, hC, hK⟩
theorem rdAtom_sc : ∀ m c x, rdAtom m c x → rdSc Atom 3 m c x := fun _ _ _ h j hj => by
  obtain ⟨h0, h1, h2⟩ := h
  rcases (by omega : j = 0 ∨ j = 1 ∨ j = 2) with rfl | rfl | rfl
  · exact ⟨_, h0, trivial⟩
  · exact ⟨_, h1, trivial⟩
  · exact ⟨_, h2, trivial⟩
theorem toAtomSU (A : Option Addr) (cap : Nat) (xs : List Atom) (w : World) (hx : RdSl rdAtom w.cell? 3 A xs) (hl : xs.length ≤ 1048576) :
    Calls Try.prog 41 #[.slice A xs.length cap] w fun e w' => ∃ g, e = .returned (.slice (some ⟨g, 0, none⟩) xs.length xs.length) ∧ RdSl rdAtom (fromU w' w.heap.size) 3 (some ⟨g, 0, none⟩) xs ∧ Fr w w' :=
  (toAtomS A cap xs w hx hl).mono fun _ _ ⟨g, _, h1, h2, hB, _, h5, h6⟩ => ⟨g, h1, h5.toU rdAtom_flat hB h2, h6⟩
set_option maxRecDepth 100000 in
set_option maxHeartbeats 1000000 in
theorem markAtomSU (A : Option Addr) (cap : Nat) (xs : List Atom) (k lo hi : Nat) (w : World) (hx : RdSl (rdSc Atom 3) (inU w lo hi) 3 A xs) (hl : xs.length ≤ 1048576) (hk : k ≤ 1099511627776) :
    Calls Try.prog 49 #[.slice A xs.length cap, .int .i64 k] w fun e w' => e = .returned (.int .i64 ((k + xs.length * 3 : Nat) : Int)) ∧ Ch (Inn lo hi) w w' ∧ KI lo hi w w' := by
  have HX := hid hx
  clear hx
  go_enter Try.func49, Try.ntmps49
  go_wp2
  go_loopw [1, 5] (fun kv iv wr => ∃ (i : Nat), i ≤ xs.length ∧ iv = .int .i64 i ∧ kv = .int .i64 ((k + i * 3 : Nat) : Int) ∧ Ch (Inn lo hi) w wr ∧ KI lo hi w wr) (fun _ iv _ => xs.length - (intOf iv).toNat)
  case atStart => exact ⟨0, by omega, rfl, by simp, Ch.refl _, KI.refl _⟩
  case round =>
    obtain ⟨i, hi', rfl, rfl, hC, hK⟩ := hrel
    by_cases hlt : i < xs.length
    · obtain ⟨b, o, hA, hc⟩ := (hK.sc HX.out).sc_at hlt
      subst hA
      obtain ⟨u0, s0, j0⟩ := hc 0 (by omega)
      obtain ⟨u1, s1, j1⟩ := hc 1 (by omega)
      obtain ⟨u2, s2, j2⟩ := hc 2 (by omega)
      simp only [Nat.add_zero] at j0 j1 j2
      have c0 := inU_cell _ _ j0
      have f0 := (inU_some j0).2.2.1
      have c1 := inU_cell _ _ j1
      have f1 := (inU_some j1).2.2.1
      have c2 := inU_cell _ _ j2
      have f2 := (inU_some j2).2.2.1
      clear hc
      go_wp2
      go_roundw
      case rel => exact ⟨i + 1, by omega, by go_num, by go_num, (((hC.set (p := ⟨b, o + i * 3, none⟩) (.inl (inn j0)) _).set (p := ⟨b, o + i * 3 + 1, none⟩) (.inl (inn j1)) _).set (p := ⟨b, o + i * 3 + 2, none⟩) (.inl (inn j2)) _), (((hK.set j0 s0 (by exact trivial)).set ((inU_far (by simp)).trans j1) s1 (by exact trivial)).set ((inU_far (by simp)).trans ((inU_far (by simp)).trans j2)) s2 (by exact trivial))⟩
      case measure => simp [intOf]; omega
    · obtain rfl : i = xs.length := by omega
      go_wp2
      go_ret
      exact ⟨rfl, hC, hK⟩
set_option maxHeartbeats 1000000 in
theorem toRuleU (q : Int) (A0 : Option Addr) (c0 : Nat) (hd : List Int) (A1 : Option Addr) (c1 : Nat) (bd : List Atom) (w : World) (hx0 : RdSl rdInt w.cell? 1 A0 hd) (hx1 : RdSl rdAtom w.cell? 3 A1 bd) (hl0 : hd.length ≤ 1048576) (hl1 : bd.length ≤ 1048576) :
    Calls Try.prog 12 #[.agg #[.int .i64 q, .slice A0 hd.length c0, .slice A1 bd.length c1]] w fun e w' => ∃ g0 g1, e = .returned (.agg #[.int .i64 q, .slice (some ⟨g0, 0, none⟩) hd.length hd.length, .slice (some ⟨g1, 0, none⟩) bd.length bd.length]) ∧ RdSl rdInt (fromU w' w.heap.size) 1 (some ⟨g0, 0, none⟩) hd ∧ RdSl rdAtom (fromU w' w.heap.size) 3 (some ⟨g1, 0, none⟩) bd ∧ Fr w w' := by
  have HX0 := hid hx0
  have HX1 := hid hx1
  clear hx0 hx1
  go_enter Try.func12, Try.ntmps12
  go_wp2_with fail
  refine absW fun W0 hW0 => ?_
  have BA0 : Blk W0 w.heap.size 25 #[.int .i64 q, .slice A0 hd.length c0, .slice A1 bd.length c1] := by
    rw [hW0]; exact ((Blk.new _ _ _).alloc _).alloc _
  have BR0 : Blk W0 (w.heap.size + 1) 30 #[.int .i64 0, .slice none 0 0, .slice none 0 0] := by
    have := Blk.new (w.alloc (.cells #[.int .i64 q, .slice A0 hd.length c0, .slice A1 bd.length c1] 25)) 30 #[.int .i64 0, .slice none 0 0, .slice none 0 0]
    rw [World.size_alloc] at this
    rw [hW0]; exact this.alloc _
  have BL0 : Blk W0 (w.heap.size + 2) 30 #[.int .i64 q, .slice none 0 0, .slice none 0 0] := by
    have := Blk.new ((w.alloc (.cells #[.int .i64 q, .slice A0 hd.length c0, .slice A1 bd.length c1] 25)).alloc (.cells #[.int .i64 0, .slice none 0 0, .slice none 0 0] 30)) 30 #[.int .i64 q, .slice none 0 0, .slice none 0 0]
    rw [World.size_alloc, World.size_alloc] at this
    rw [hW0]; exact this
  have F0 : Fr w W0 := by rw [hW0]; (repeat (first | with_reducible exact Fr.refl _ | with_reducible assumption | with_reducible refine Fr.alloc ?_ _ | with_reducible refine Fr.drew ?_ | with_reducible refine Fr.drewN ?_ _ | (with_reducible refine Fr.setNew2 ?_ ?_ _; · (simp <;> omega)) | with_reducible refine Fr.trans ?_ (by assumption)))
  clear hW0
  have s0 := BL0.lt
  refine (toIntsU _ _ _ _ (HX0.out.fr rdInt_mono F0) hl0).mono ?_
  rintro e w0 ⟨g0, rfl, x0, b0⟩
  have X0 := hid x0; clear x0
  obtain ⟨p0, p1, p2, f0, f1, f2⟩ := (BL0.fr b0).three
  obtain ⟨a0, a1, a2, _⟩ := (BA0.fr b0).three
  go_wp2_with fail
  refine absW fun W1 hW1 => ?_
  have BA1 : Blk W1 w.heap.size 25 #[.int .i64 q, .slice A0 hd.length c0, .slice A1 bd.length c1] := by rw [hW1]; exact (BA0.fr b0).far (by dsimp only; omega) _
  have BL1 : Blk W1 (w.heap.size + 2) 30 #[.int .i64 q, .slice (some ⟨g0, 0, none⟩) hd.length hd.length, .slice none 0 0] := by rw [hW1]; exact (BL0.fr b0).set_ 1 _
  have BR1 : Blk W1 (w.heap.size + 1) 30 #[.int .i64 0, .slice none 0 0, .slice none 0 0] := by rw [hW1]; exact (BR0.fr b0).far (by simp) _
  have F1 : Fr w W1 := by rw [hW1]; exact (F0.trans b0).setNew (by simp; omega) _
  have C1 : Ch (fun k => k = w.heap.size + 1 ∨ k = w.heap.size + 2) w0 W1 := by rw [hW1]; exact Ch.set (Ch.refl _) (.inl (.inr rfl)) _
  clear hW1 p0 f0 a0 p1 f1 a1 p2 f2 a2
  refine (toAtomSU _ _ _ _ (HX1.out.fr rdAtom_mono F1) hl1).mono ?_
  rintro e w1 ⟨g1, rfl, x1, b1⟩
  have X1 := hid x1; clear x1
  obtain ⟨p0, p1, p2, f0, f1, f2⟩ := (BL1.fr b1).three
  obtain ⟨d0, d1, d2, e0, e1, e2⟩ := (BR1.fr b1).three
  go_wp2
  have RR := (((((BR1.fr b1).far (p := ⟨w.heap.size + 1 + 1, 2, none⟩) (by simp) (.slice (some ⟨g1, 0, none⟩) bd.length bd.length)).set_ 0 (.int .i64 q)).set_ 1 (.slice (some ⟨g0, 0, none⟩) hd.length hd.length)).set_ 2 (.slice (some ⟨g1, 0, none⟩) bd.length bd.length)).three
  have s1 : w.heap.size + 2 < w1.heap.size := (BL1.fr b1).lt
  have sb0 := b0.size
  have sb1 := b1.size
  have sc1 := C1.size
  have C : Ch (fun k => k = w.heap.size + 1 ∨ k = w.heap.size + 2) w1 ((((w1.setCell ⟨w.heap.size + 1 + 1, 2, none⟩ (.slice (some ⟨g1, 0, none⟩) bd.length bd.length)).setCell ⟨w.heap.size + 1, 0, none⟩ (.int .i64 q)).setCell ⟨w.heap.size + 1, 1, none⟩ (.slice (some ⟨g0, 0, none⟩) hd.length hd.length)).setCell ⟨w.heap.size + 1, 2, none⟩ (.slice (some ⟨g1, 0, none⟩) bd.length bd.length)) := Ch.set (Ch.set (Ch.set (Ch.set (Ch.refl _) (.inl (.inr rfl)) _) (.inl (.inl rfl)) _) (.inl (.inl rfl)) _) (.inl (.inl rfl)) _
  have L0 := ((C1.mle_u (lo := W0.heap.size) (fun k hk => by omega)).trans ((b1.mle_u W0.heap.size).trans (C.mle_u (lo := W0.heap.size) (fun k hk => by omega))))
  have L1 := C.mle_u (lo := W1.heap.size) (fun k hk => by omega)
  refine bodyPost_ret (v := .agg #[.int .i64 q, .slice (some ⟨g0, 0, none⟩) hd.length hd.length, .slice (some ⟨g1, 0, none⟩) bd.length bd.length]) ?_ rfl ⟨g0, g1, rfl, (X0.out.mono rdInt_mono L0).mono rdInt_mono (fromU_lo (by omega)), (X1.out.mono rdAtom_mono L1).mono rdAtom_mono (fromU_lo (by omega)), C.fr (fun k hk => by omega) (F1.trans b1)⟩
  obtain ⟨r0, r1, r2, _⟩ := RR
  simp [results, Try.results12, go_sem, r0, r1, r2]
set_option maxHeartbeats 1000000 in
theorem markRuleU (q : Int) (A0 : Option Addr) (c0 : Nat) (hd : List Int) (A1 : Option Addr) (c1 : Nat) (bd : List Atom) (k lo hi : Nat) (w : World) (hx0 : RdSl (rdSc Int 1) (inU w lo hi) 1 A0 hd) (hx1 : RdSl (rdSc Atom 3) (inU w lo hi) 3 A1 bd) (hl0 : hd.length ≤ 1048576) (hl1 : bd.length ≤ 1048576) (hk : k ≤ 1000000000) (hh : hi ≤ w.heap.size) :
    Calls Try.prog 20 #[.agg #[.int .i64 q, .slice A0 hd.length c0, .slice A1 bd.length c1], .int .i64 k] w fun e w' => e = .returned (.int .i64 ((k + hd.length + bd.length * 3 : Nat) : Int)) ∧ Ch (Inn lo hi) w w' ∧ KI lo hi w w' := by
  have HX0 := hid hx0
  have HX1 := hid hx1
  clear hx0 hx1
  have BA := Blk.new w 30 #[.int .i64 q, .slice A0 hd.length c0, .slice A1 bd.length c1]
  have F1 : Fr w (w.alloc (.cells #[.int .i64 q, .slice A0 hd.length c0, .slice A1 bd.length c1] 30)) := (Fr.refl _).alloc _
  go_enter Try.func20, Try.ntmps20
  go_wp2_with fail
  refine (markIntsU _ _ hd k lo hi _ (F1.ki.sc HX0.out) hl0 (by omega)).mono ?_
  rintro r w2 ⟨rfl, C2, K2⟩
  obtain ⟨K, eK⟩ : ∃ K, k + hd.length = K := ⟨_, rfl⟩
  have EK := hid eK
  rw [eK]
  have hK : K ≤ 1099511627776 := by omega
  clear eK
  obtain ⟨a0, a1, a2, _⟩ := (show Blk w2 w.heap.size 30 #[.int .i64 q, .slice A0 hd.length c0, .slice A1 bd.length c1] from (C2.block w.heap.size BA.lt (fun hb => by have := hb.2; omega)).trans BA).three
  go_wp2_with fail
  refine (markAtomSU _ _ bd K lo hi _ (K2.sc (F1.ki.sc HX1.out)) hl1 hK).mono ?_
  rintro r w3 ⟨rfl, C3, K3⟩
  go_wp2
  go_ret
  rw [EK.out]
  exact ⟨rfl, (F1.ch.trans C2).trans C3, (F1.ki.trans K2).trans K3⟩
end Go.Proofs.Ytahclhldpcboeaa
