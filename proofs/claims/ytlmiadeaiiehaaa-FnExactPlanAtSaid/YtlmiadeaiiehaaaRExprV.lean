/- Copies of expressions, in cells that are not frozen: each list in a block of its own (RExprU with ShS). -/
import Derived.Test.YtlmiadeaiiehaaaShp
import Derived.Test.YtlmiadeaiiehaaaFromU
import Derived.Test.YtlmiadeaiiehaaaOwnP
namespace Go.Proofs.Ytlmiadeaiiehaaa
open Go Go.RowKit

/-- Sets of blocks from lo on below hi, all different. -/
def Tok (T : Nat → Nat → Prop) (lo hi : Nat) : Prop := (∀ i k, T i k → lo ≤ k ∧ k < hi) ∧ ∀ i j k, T i k → T j k → i = j
def upT (T : Nat → Nat → Prop) (i lo hi : Nat) : Nat → Nat → Prop := fun j => if j = i then Inn lo hi else T j
theorem upT_self {T : Nat → Nat → Prop} {i lo hi : Nat} : upT T i lo hi i = Inn lo hi := if_pos rfl
theorem upT_far {T : Nat → Nat → Prop} {i j lo hi : Nat} (h : j ≠ i) : upT T i lo hi j = T j := if_neg h
theorem Tok.next {T : Nat → Nat → Prop} {lo hi hi' hi2 : Nat} (h : Tok T lo hi) (h1 : lo ≤ hi) (h2 : hi ≤ hi') (h3 : hi' ≤ hi2) (i : Nat) : Tok (upT T i hi hi') lo hi2 := by
  refine ⟨fun j k hT => ?_, fun j j' k hT hT' => ?_⟩
  · unfold upT at hT
    split at hT
    · have := hT.1; have := hT.2; omega
    · have := h.1 j k hT; omega
  · unfold upT at hT hT'
    split at hT <;> split at hT'
    · omega
    · have := hT.1; have := h.1 _ _ hT'; omega
    · have := hT'.1; have := h.1 _ _ hT; omega
    · exact h.2 _ _ _ hT hT'
theorem Tok.none (lo hi : Nat) : Tok (fun _ _ => False) lo hi := ⟨fun _ _ h => h.elim, fun _ _ _ h => h.elim⟩

def exToV (n : Nat) : Prop := ∀ (A : Option Addr) (cap : Nat) (xs : List Ex) (w : World), RdSl (rdEx n) w.cell? 5 A xs → exSm n xs →
    Calls Try.prog 37 #[.slice A xs.length cap] w fun e w' => ∃ g, e = .returned (.slice (some ⟨g, 0, none⟩) xs.length xs.length) ∧ RdSl (rdEx n) (fromU w' w.heap.size) 5 (some ⟨g, 0, none⟩) xs ∧ ShS n w' (Inn w.heap.size w'.heap.size) (some ⟨g, 0, none⟩) xs ∧ Fr w w'
set_option maxHeartbeats 1000000 in
theorem toExV {n : Nat} (hS : exToV n) (e : Ex) (A : Option Addr) (cap : Nat) (w : World) (hx : RdSl (rdEx n) w.cell? 5 A e.kids) (hm : exSm n e.kids) :
    Calls Try.prog 60 #[.agg #[.int .i64 e.kind, .int .i64 e.col, .bool e.val.null, .int .i64 e.val.n, .slice A e.kids.length cap]] w fun r w' => ∃ g, r = .returned (.agg #[.int .i64 e.kind, .int .i64 e.col, .bool e.val.null, .int .i64 e.val.n, .slice (some ⟨g, 0, none⟩) e.kids.length e.kids.length]) ∧ RdSl (rdEx n) (fromU w' w.heap.size) 5 (some ⟨g, 0, none⟩) e.kids ∧ ShS n w' (Inn w.heap.size w'.heap.size) (some ⟨g, 0, none⟩) e.kids ∧ Fr w w' := by
  have HX := hid hx
  have HS := hid hS
  clear hx hS
  go_enter Try.func60, Try.ntmps60
  go_wp2_with fail
  refine absW fun V0 hV0 => ?_
  have VA : Blk V0 w.heap.size 91 #[.int .i64 e.kind, .int .i64 e.col, .bool e.val.null, .int .i64 e.val.n, .slice A e.kids.length cap] := by
    rw [hV0]; exact ((Blk.new _ _ _).alloc _).alloc _
  have VR : Blk V0 (w.heap.size + 1) 93 #[.int .i64 0, .int .i64 0, .bool false, .int .i64 0, .slice none 0 0] := by
    have := Blk.new (w.alloc (.cells #[.int .i64 e.kind, .int .i64 e.col, .bool e.val.null, .int .i64 e.val.n, .slice A e.kids.length cap] 91)) 93 #[.int .i64 0, .int .i64 0, .bool false, .int .i64 0, .slice none 0 0]
    rw [World.size_alloc] at this
    rw [hV0]; exact this.alloc _
  have VL : Blk V0 (w.heap.size + 2) 93 #[.int .i64 e.kind, .int .i64 e.col, .bool false, .int .i64 0, .slice none 0 0] := by
    have := Blk.new ((w.alloc (.cells #[.int .i64 e.kind, .int .i64 e.col, .bool e.val.null, .int .i64 e.val.n, .slice A e.kids.length cap] 91)).alloc (.cells #[.int .i64 0, .int .i64 0, .bool false, .int .i64 0, .slice none 0 0] 93)) 93 #[.int .i64 e.kind, .int .i64 e.col, .bool false, .int .i64 0, .slice none 0 0]
    rw [World.size_alloc, World.size_alloc] at this
    rw [hV0]; exact this
  have VF : Fr w V0 := by rw [hV0]; (repeat (first | with_reducible exact Fr.refl _ | with_reducible assumption | with_reducible refine Fr.alloc ?_ _ | with_reducible refine Fr.drew ?_ | with_reducible refine Fr.drewN ?_ _ | (with_reducible refine Fr.setNew2 ?_ ?_ _; · (simp <;> omega)) | with_reducible refine Fr.trans ?_ (by assumption)))
  clear hV0
  have vs := VL.lt
  refine (toV _ _ _).mono ?_
  rintro r v1 ⟨rfl, vb⟩
  obtain ⟨p0, p1, p2, p3, p4, f0, f1, f2, f3, f4⟩ := (VL.fr vb).five
  obtain ⟨a0, a1, a2, a3, a4, _⟩ := (VA.fr vb).five
  go_wp2_with fail
  refine absW fun W0 hW0 => ?_
  have BA0 : Blk W0 w.heap.size 91 #[.int .i64 e.kind, .int .i64 e.col, .bool e.val.null, .int .i64 e.val.n, .slice A e.kids.length cap] := by rw [hW0]; exact ((VA.fr vb).far (by dsimp only; omega) _).far (by dsimp only; omega) _
  have BR0 : Blk W0 (w.heap.size + 1) 93 #[.int .i64 0, .int .i64 0, .bool false, .int .i64 0, .slice none 0 0] := by rw [hW0]; exact ((VR.fr vb).far (by dsimp only; omega) _).far (by dsimp only; omega) _
  have BL0 : Blk W0 (w.heap.size + 2) 93 #[.int .i64 e.kind, .int .i64 e.col, .bool e.val.null, .int .i64 e.val.n, .slice none 0 0] := by rw [hW0]; exact ((VL.fr vb).set_ 2 _).set_ 3 _
  have F0 : Fr w W0 := by rw [hW0]; exact ((VF.trans vb).setNew (by dsimp only; omega) _).setNew (by dsimp only; omega) _
  clear hW0 p0 p1 p2 p3 p4 f0 f1 f2 f3 f4 a0 a1 a2 a3 a4
  have s0 := BL0.lt
  refine (HS.out _ _ _ _ (HX.out.fr (rdEx_mono n) F0) hm).mono ?_
  rintro r w1 ⟨g, rfl, x1, s1', b1⟩
  have X1 := hid x1
  have S1 := hid s1'
  clear x1 s1'
  obtain ⟨p0, p1, p2, p3, p4, f0, f1, f2, f3, f4⟩ := (BL0.fr b1).five
  obtain ⟨d0, d1, d2, d3, d4, e0, e1, e2, e3, e4⟩ := (BR0.fr b1).five
  go_wp2
  have RR := (((((((BR0.fr b1).far (p := ⟨w.heap.size + 1 + 1, 4, none⟩) (by simp) (.slice (some ⟨g, 0, none⟩) e.kids.length e.kids.length)).set_ 0 (.int .i64 e.kind)).set_ 1 (.int .i64 e.col)).set_ 2 (.bool e.val.null)).set_ 3 (.int .i64 e.val.n)).set_ 4 (.slice (some ⟨g, 0, none⟩) e.kids.length e.kids.length)).five
  have s1 : w.heap.size + 2 < w1.heap.size := (BL0.fr b1).lt
  have C : Ch (fun k => k = w.heap.size + 1 ∨ k = w.heap.size + 2) w1 ((((((w1.setCell ⟨w.heap.size + 1 + 1, 4, none⟩ (.slice (some ⟨g, 0, none⟩) e.kids.length e.kids.length)).setCell ⟨w.heap.size + 1, 0, none⟩ (.int .i64 e.kind)).setCell ⟨w.heap.size + 1, 1, none⟩ (.int .i64 e.col)).setCell ⟨w.heap.size + 1, 2, none⟩ (.bool e.val.null)).setCell ⟨w.heap.size + 1, 3, none⟩ (.int .i64 e.val.n)).setCell ⟨w.heap.size + 1, 4, none⟩ (.slice (some ⟨g, 0, none⟩) e.kids.length e.kids.length)) := Ch.set (Ch.set (Ch.set (Ch.set (Ch.set (Ch.set (Ch.refl _) (.inl (.inr rfl)) _) (.inl (.inl rfl)) _) (.inl (.inl rfl)) _) (.inl (.inl rfl)) _) (.inl (.inl rfl)) _) (.inl (.inl rfl)) _
  have L1 := C.mle_u (lo := W0.heap.size) (fun k hk => by omega)
  refine bodyPost_ret (v := .agg #[.int .i64 e.kind, .int .i64 e.col, .bool e.val.null, .int .i64 e.val.n, .slice (some ⟨g, 0, none⟩) e.kids.length e.kids.length]) ?_ rfl ⟨g, rfl, (X1.out.mono (rdEx_mono n) L1).mono (rdEx_mono n) (fromU_lo (by omega)), (ShS.keep (C.keepS (fun k hk hd => by have := hk.1; omega)) S1.out).sub (fun k hk => ⟨by have := hk.1; omega, Nat.lt_of_lt_of_le hk.2 C.size⟩), C.fr (fun k hk => by omega) (F0.trans b1)⟩
  obtain ⟨r0, r1, r2, r3, r4, _⟩ := RR
  simp [results, Try.results60, go_sem, r0, r1, r2, r3, r4]
set_option maxRecDepth 100000 in
set_option maxHeartbeats 1000000 in
theorem toExSV (n : Nat) : exToV n := by
  induction n using Nat.strongRecOn with
  | _ n ih =>
    intro A cap xs w hx hm
    have HX := hid hx
    have IH := hid ih
    have hl := exSm_len hm
    have HM := hid hm
    clear hx ih hm
    have hmk := mk_row (P := Try.prog) 44 93 (.agg #[.int .i64 0, .int .i64 0, .bool false, .int .i64 0, .slice none 0 0]) 5 56 Try.underlying44 (by kernel_rfl) xs.length (by omega) (by omega)
    go_enter Try.func37, Try.ntmps37
    go_wp2
    go_loopw [4] (fun t wr => ∃ (k : Nat) (cs : Array Value) (T : Nat → Nat → Prop), k ≤ xs.length ∧ t = .int .i64 k ∧ Fr w wr ∧ Blk wr w.heap.size 93 cs ∧ cs.size = xs.length * 5 ∧ Hid (Tok T (w.heap.size + 1) wr.heap.size) ∧
        Hid (∀ i (h : i < xs.length), i < k → ∃ g, cs[i * 5]? = some (.int .i64 xs[i].kind) ∧ cs[i * 5 + 1]? = some (.int .i64 xs[i].col) ∧ cs[i * 5 + 2]? = some (.bool xs[i].val.null) ∧ cs[i * 5 + 3]? = some (.int .i64 xs[i].val.n) ∧ cs[i * 5 + 4]? = some (.slice (some ⟨g, 0, none⟩) xs[i].kids.length xs[i].kids.length) ∧ ∃ n', n = n' + 1 ∧ RdSl (rdEx n') (fromU wr (w.heap.size + 1)) 5 (some ⟨g, 0, none⟩) xs[i].kids ∧ ShS n' wr (T i) (some ⟨g, 0, none⟩) xs[i].kids)) (fun t _ => xs.length - (intOf t).toNat)
    case atStart => exact ⟨0, _, fun _ _ => False, by omega, rfl, by (repeat (first | with_reducible exact Fr.refl _ | with_reducible assumption | with_reducible refine Fr.alloc ?_ _ | with_reducible refine Fr.drew ?_ | with_reducible refine Fr.drewN ?_ _ | (with_reducible refine Fr.setNew2 ?_ ?_ _; · (simp <;> omega)) | with_reducible refine Fr.trans ?_ (by assumption))), Blk.new _ _ _, by simp [made_size], hid (Tok.none _ _), hid fun i h h' => absurd h' (by omega)⟩
    case round =>
      obtain ⟨k, cs, T, hk, rfl, hf, hB, hz, HT, HV⟩ := hrel
      have HZ := hid hz
      clear hz
      by_cases hlt : k < xs.length
      · cases n with
        | zero => exfalso; rw [HX.out.ex0] at hlt; simp at hlt
        | succ n =>
          obtain ⟨b, o, B, c, hA, d0, d1, d2, d3, cK, rK, _⟩ := HX.out.ex hlt
          subst hA
          have RK := hid (rK.fr (rdEx_mono n) hf)
          clear rK
          replace d0 := hf.cell d0
          replace d1 := hf.cell d1
          replace d2 := hf.cell d2
          replace d3 := hf.cell d3
          replace cK := hf.cell cK
          have hs := hB.lt
          go_wp2_with fail
          refine (toExV (IH.out n (by omega)) _ _ _ _ RK.out (HM.out.2 k hlt)).mono ?_
          rintro r w1 ⟨g, rfl, x1, s1, b1⟩
          have X1 := hid x1
          have S1 := hid s1
          clear x1 s1 d0 d1 d2 d3 cK
          have hB1 := hB.fr b1
          obtain ⟨u0, d0⟩ := hB1.cell_some (i := k * 5) (by have := HZ.out; omega)
          have f0 := hB1.frozen (k * 5)
          obtain ⟨u1, d1⟩ := hB1.cell_some (i := k * 5 + 1) (by have := HZ.out; omega)
          have f1 := hB1.frozen (k * 5 + 1)
          obtain ⟨u2, d2⟩ := hB1.cell_some (i := k * 5 + 2) (by have := HZ.out; omega)
          have f2 := hB1.frozen (k * 5 + 2)
          obtain ⟨u3, d3⟩ := hB1.cell_some (i := k * 5 + 3) (by have := HZ.out; omega)
          have f3 := hB1.frozen (k * 5 + 3)
          obtain ⟨u4, d4⟩ := hB1.cell_some (i := k * 5 + 4) (by have := HZ.out; omega)
          have f4 := hB1.frozen (k * 5 + 4)
          go_wp2
          go_roundw
          case rel =>
            have C1 : Ch (· = w.heap.size) w1 (((((w1.setCell ⟨w.heap.size, k * 5, none⟩ (.int .i64 xs[k].kind)).setCell ⟨w.heap.size, k * 5 + 1, none⟩ (.int .i64 xs[k].col)).setCell ⟨w.heap.size, k * 5 + 2, none⟩ (.bool xs[k].val.null)).setCell ⟨w.heap.size, k * 5 + 3, none⟩ (.int .i64 xs[k].val.n)).setCell ⟨w.heap.size, k * 5 + 4, none⟩ (.slice (some ⟨g, 0, none⟩) xs[k].kids.length xs[k].kids.length)) := Ch.set (S := (· = w.heap.size)) (Ch.set (S := (· = w.heap.size)) (Ch.set (S := (· = w.heap.size)) (Ch.set (S := (· = w.heap.size)) (Ch.set (S := (· = w.heap.size)) (Ch.refl w1) (.inl rfl) _) (.inl rfl) _) (.inl rfl) _) (.inl rfl) _) (.inl rfl) _
            refine ⟨k + 1, _, upT T k wr.heap.size w1.heap.size, by omega, by go_num, ((((((hf.trans b1).setNew (Nat.le_refl _) _).setNew (Nat.le_refl _) _).setNew (Nat.le_refl _) _).setNew (Nat.le_refl _) _).setNew (Nat.le_refl _) _), (((((hB1.set_ _ _).set_ _ _).set_ _ _).set_ _ _).set_ _ _), by simpa using HZ.out, hid (HT.out.next (by have := hB.lt; omega) b1.size C1.size k), hid fun i h hi => ?_⟩
            have hz := HZ.out
            by_cases e : i = k
            · subst e
              refine ⟨g, by simp only [Array.getElem?_setIfInBounds, Array.size_setIfInBounds]; simp; omega, by simp only [Array.getElem?_setIfInBounds, Array.size_setIfInBounds]; simp; omega, by simp only [Array.getElem?_setIfInBounds, Array.size_setIfInBounds]; simp; omega, by simp only [Array.getElem?_setIfInBounds, Array.size_setIfInBounds]; simp; omega, by simp only [Array.getElem?_setIfInBounds, Array.size_setIfInBounds]; simp; omega, n, rfl, X1.out.mono (rdEx_mono n) ((C1.mle_u (fun k hk => by omega)).trans (fromU_lo (by omega))), by rw [upT_self]; exact ShS.keep (C1.keepS (fun k hk hd => by have := hk.1; omega)) S1.out⟩
            · obtain ⟨g', q0, q1, q2, q3, hK, n', hn', h2, h3⟩ := HV.out i h (by omega)
              refine ⟨g', by simp only [Array.getElem?_setIfInBounds, Array.size_setIfInBounds]; (repeat rw [if_neg (by omega)]); exact q0, by simp only [Array.getElem?_setIfInBounds, Array.size_setIfInBounds]; (repeat rw [if_neg (by omega)]); exact q1, by simp only [Array.getElem?_setIfInBounds, Array.size_setIfInBounds]; (repeat rw [if_neg (by omega)]); exact q2, by simp only [Array.getElem?_setIfInBounds, Array.size_setIfInBounds]; (repeat rw [if_neg (by omega)]); exact q3, by simp only [Array.getElem?_setIfInBounds, Array.size_setIfInBounds]; (repeat rw [if_neg (by omega)]); exact hK, n', by omega, h2.mono (rdEx_mono n') ((b1.mle_u _).trans (C1.mle_u (fun k hk => by omega))), by rw [upT_far e]; exact ShS.keep (b1.keepS.trans (C1.keepS (fun k hk hd => by have := (HT.out.1 i k hk).1; omega))) h3⟩
          case measure => simp [intOf]; omega
      · obtain rfl : k = xs.length := by omega
        go_wp2
        go_ret
        refine ⟨_, rfl, fun hne => ⟨_, 0, rfl, fun i h => ?_⟩, ?_, hf⟩
        rotate_left
        · cases n with
          | zero => exact HX.out.ex0
          | succ n =>
            refine fun _ => ⟨_, cs, T, rfl, ⟨Nat.le_refl _, hB.lt⟩, hB, by have := HZ.out; omega, fun i k hT => ⟨⟨by have := (HT.out.1 i k hT).1; omega, (HT.out.1 i k hT).2⟩, by have := (HT.out.1 i k hT).1; omega⟩, HT.out.2, fun i h => ?_⟩
            obtain ⟨g, _, _, _, _, hK, n', hn', _, h3⟩ := HV.out i h h
            obtain rfl : n = n' := by omega
            exact ⟨_, _, hK, h3⟩
        obtain ⟨g, q0, q1, q2, q3, hK, n', rfl, h2, _⟩ := HV.out i h h
        have cell : ∀ j, (fun j => fromU wr w.heap.size ⟨w.heap.size, 0 + i * 5 + j, none⟩) j = cs[i * 5 + j]? := fun j => by
          show (if w.heap.size ≤ w.heap.size ∧ _ then _ else none) = _
          rw [if_pos ⟨Nat.le_refl _, hB.frozen _⟩, hB.cell, Nat.zero_add]
        refine ⟨(cell 0).trans q0, (cell 1).trans q1, (cell 2).trans q2, (cell 3).trans q3, _, _, (cell 4).trans hK, h2.mono (rdEx_mono n') (fromU_lo (by omega)), ?_, Nat.le_refl _⟩
        have := exSm_len (HM.out.2 i h)
        unfold maxLen; omega
end Go.Proofs.Ytlmiadeaiiehaaa
