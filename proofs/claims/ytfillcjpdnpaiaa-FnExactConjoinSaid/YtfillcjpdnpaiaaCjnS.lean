/- The conjunction of a list of expressions, on the spec's side: conjoin, Conjoin. -/
import Derived.Test.YtfillcjpdnpaiaaConH
import Derived.Test.YtfillcjpdnpaiaaExprV
import Derived.Test.YtfillcjpdnpaiaaEvalM
namespace Go.Proofs.Ytfillcjpdnpaiaa
open Go Go.RowKit

/-- The conjunction of a list, combined from left to right. -/
def cjn : List Ex → Ex
  | [] => .mk 2 0 ⟨false, 1⟩ []
  | x :: r => r.foldl (fun a b => .mk 8 0 ⟨false, 0⟩ [a, b]) x
theorem cjn_one (x : Ex) : cjn [x] = x := rfl
theorem cjn_snoc {xs : List Ex} (h : xs ≠ []) (x : Ex) : cjn (xs ++ [x]) = .mk 8 0 ⟨false, 0⟩ [cjn xs, x] := by
  cases xs with
  | nil => exact absurd rfl h
  | cons a r => simp only [cjn, List.cons_append, List.foldl_append, List.foldl_cons, List.foldl_nil]
theorem cjn_take {xs : List Ex} {k : Nat} (h1 : 1 ≤ k) (hk : k < xs.length) : cjn (xs.take (k + 1)) = .mk 8 0 ⟨false, 0⟩ [cjn (xs.take k), xs[k]] := by
  rw [List.take_succ_eq_append_getElem hk, cjn_snoc (fun e => by have h := congrArg List.length e; rw [List.length_take, List.length_nil] at h; omega)]
/-- What Conjoin answers; n: the depth of the elements' kids. -/
def xcjn (n : Nat) (xs : List Ex) : Ex := if xs.all (vexpr 6 n) && decide (xs.length ≤ 9) && vexpr 6 (n + 9) (cjn xs) then cjn xs else e0
theorem cjn_nil_ok (n : Nat) : vexpr 6 (n + 9) (cjn []) = true := by
  simp [vexpr, cjn, vE, vHead, vScal, nk, wid, Ex.kind, Ex.kids, Ex.col, Ex.val, V.valid]
/-- The state of the loop: x, the conjunction of the first k, stands in block G. -/
structure CnInv (w : World) (G n : Nat) (xs : List Ex) (wr : World) (k : Nat) (x : Ex × Option Addr × Nat) : Prop where
  fr : Fr w wr
  res : Blk wr w.heap.size 33 #[.int .i64 0, .int .i64 0, .bool false, .int .i64 0, .slice none 0 0]
  blk : Blk wr G 33 #[.int .i64 x.1.kind, .int .i64 x.1.col, .bool x.1.val.null, .int .i64 x.1.val.n, .slice x.2.1 x.1.kids.length x.2.2]
  kids : KidsOk (n + k) (offR wr (w.heap.size + 1) (VG G)) x
  sm : exSm (n + k) x.1.kids
  ex : x.1 = cjn (xs.take k)
theorem CnInv.next {w : World} {G n k : Nat} {xs : List Ex} {w5 : World} {y z : Ex × Option Addr × Nat} {q0 q1 q2 q3 q4 : Value} (hF : Fr w w5) (hR : Blk w5 w.heap.size 33 #[.int .i64 0, .int .i64 0, .bool false, .int .i64 0, .slice none 0 0]) (hB : Blk w5 G 33 #[q0, q1, q2, q3, q4]) (hwG : w.heap.size < G)
    (hy : KidsOk (n + k) (offR w5 (w.heap.size + 1) (VG G)) y) (hz : KidsOk (n + k) (offR w5 (w.heap.size + 1) (VG G)) z) (sy : exSm (n + k) y.1.kids) (sz : exSm (n + k) z.1.kids) (ey : y.1 = cjn (xs.take k)) (h1 : 1 ≤ k) (hk : k < xs.length) (ez : z.1 = xs[k]) :
    CnInv w G n xs ((((((w5.setCell ⟨G, 0, none⟩ (.int .i64 8)).setCell ⟨G, 1, none⟩ (.int .i64 0)).setCell ⟨G, 2, none⟩ (.bool false)).setCell ⟨G, 3, none⟩ (.int .i64 0)).setCell ⟨G, 4, none⟩ (.slice (some ⟨w5.heap.size, 0, none⟩) 2 2)).alloc (.cells #[.int .i64 y.1.kind, .int .i64 y.1.col, .bool y.1.val.null, .int .i64 y.1.val.n, .slice y.2.1 y.1.kids.length y.2.2, .int .i64 z.1.kind, .int .i64 z.1.col, .bool z.1.val.null, .int .i64 z.1.val.n, .slice z.2.1 z.1.kids.length z.2.2] 33)) (k + 1) (Ex.mk 8 0 ⟨false, 0⟩ [y.1, z.1], some ⟨w5.heap.size, 0, none⟩, 2) := by
  have hG := hB.lt
  have hsz := hF.size
  refine ⟨by (repeat (first | with_reducible exact Fr.refl _ | with_reducible assumption | with_reducible refine Fr.alloc ?_ _ | with_reducible refine Fr.drew ?_ | with_reducible refine Fr.drewN ?_ _ | (with_reducible refine Fr.setNew2 ?_ ?_ _; · (simp <;> omega)) | with_reducible refine Fr.trans ?_ (by assumption))), ?_, ?_, and_mem _ _ _ _ _ hy hz (by omega) hG, exSm_two (m := n + k) (by simp [Ex.kids]) (fun q hq => ?_), by rw [cjn_take h1 hk, ← ey, ← ez]⟩
  · exact (((((hR.far (p := ⟨G, 0, none⟩) (by show w.heap.size ≠ G; omega) _).far (p := ⟨G, 1, none⟩) (by show w.heap.size ≠ G; omega) _).far (p := ⟨G, 2, none⟩) (by show w.heap.size ≠ G; omega) _).far (p := ⟨G, 3, none⟩) (by show w.heap.size ≠ G; omega) _).far (p := ⟨G, 4, none⟩) (by show w.heap.size ≠ G; omega) _).alloc _
  · exact (((((hB.set_ 0 (.int .i64 8)).set_ 1 (.int .i64 0)).set_ 2 (.bool false)).set_ 3 (.int .i64 0)).set_ 4 (.slice (some ⟨w5.heap.size, 0, none⟩) 2 2)).alloc (.cells #[.int .i64 y.1.kind, .int .i64 y.1.col, .bool y.1.val.null, .int .i64 y.1.val.n, .slice y.2.1 y.1.kids.length y.2.2, .int .i64 z.1.kind, .int .i64 z.1.col, .bool z.1.val.null, .int .i64 z.1.val.n, .slice z.2.1 z.1.kids.length z.2.2] 33)
  · simp only [Ex.kids, List.mem_cons, List.not_mem_nil, or_false] at hq
    rcases hq with rfl | rfl
    · exact sy
    · exact sz
/-- An expression returned, in new memory. -/
def ResE (N : Nat) (x : Ex) (w : World) (r : Ending) (w' : World) : Prop := ∃ A c, r = .returned (.agg #[.int .i64 x.kind, .int .i64 x.col, .bool x.val.null, .int .i64 x.val.n, .slice A x.kids.length c]) ∧ KidsOk N (fromB w' w.heap.size) (x, A, c) ∧ exSm N x.kids ∧ Fr w w'
set_option maxRecDepth 100000 in
set_option maxHeartbeats 2000000 in
theorem specConjoin0 (n : Nat) (xs : List Ex) (A : Option Addr) (c : Nat) (w : World) (hx : RdSl (rdEx (n + 1)) w.cell? 5 A xs) (hs : exSm (n + 1) xs) (hl : xs.length ≤ 9) :
    Calls Try.prog 48 #[.slice A xs.length c] w (ResE (n + 9) (cjn xs) w) := by
  have HX := hid hx
  have HS := hid hs
  clear hx hs
  have BR0 := Blk.new w 33 #[.int .i64 0, .int .i64 0, .bool false, .int .i64 0, .slice none 0 0]
  have F0 : Fr w (w.alloc (.cells #[.int .i64 0, .int .i64 0, .bool false, .int .i64 0, .slice none 0 0] 33)) := (Fr.refl _).alloc _
  by_cases h0 : xs = []
  · subst h0
    go_enter Try.func48, Try.ntmps48
    go_wp2_with fail
    refine (constantE false 1 _).mono ?_
    rintro r w1 ⟨rfl, b1⟩
    obtain ⟨z0, z1, z2, z3, z4, f0, f1, f2, f3, f4⟩ := (BR0.fr b1).five
    go_wp2
    refine bodyPost_ret (v := .agg #[.int .i64 2, .int .i64 0, .bool false, .int .i64 1, .slice none 0 0]) (by simp [results, Try.results48, go_sem, z0, z1, z2, z3, z4]) rfl ⟨none, 0, rfl, ⟨RdSl.nil, by simp [cjn, Ex.kids], by simp [cjn, Ex.kids]⟩, exSm_nil _, ?_⟩
    have FF := F0.trans b1
    (repeat (first | with_reducible exact Fr.refl _ | with_reducible assumption | with_reducible refine Fr.alloc ?_ _ | with_reducible refine Fr.drew ?_ | with_reducible refine Fr.drewN ?_ _ | (with_reducible refine Fr.setNew2 ?_ ?_ _; · (simp <;> omega)) | with_reducible refine Fr.trans ?_ (by assumption)))
  · have hpos : 0 < xs.length := List.length_pos_iff.2 h0
    have e0 : (((xs.length : Nat) : Int) == 0) = false := by simp; omega
    obtain ⟨kb, ko, K, kc, hA, d0, d1, d2, d3, d4, hK⟩ := HX.out.exc hpos
    subst hA
    have HK := hid hK
    clear hK
    simp only [Nat.zero_mul, Nat.add_zero] at d0 d1 d2 d3 d4
    have d0' := F0.cell d0
    have d1' := F0.cell d1
    have d2' := F0.cell d2
    have d3' := F0.cell d3
    have d4' := F0.cell d4
    go_enter Try.func48, Try.ntmps48
    go_wp2_with fail
    refine (specCopy n xs[0] K kc _ (HK.out.fr F0).1 (HS.out.2 0 hpos)).mono ?_
    rintro r w2 ⟨A1, c1, rfl, hx1, b1⟩
    have HX1 := hid hx1
    clear hx1 d0 d1 d2 d3 d4 d0' d1' d2' d3' d4'
    have s1 := b1.size
    have s0 : w.heap.size + 1 ≤ w2.heap.size := by rw [World.size_alloc] at s1; exact s1
    have BR2 := (BR0.fr b1).alloc (.cells #[.int .i64 xs[0].kind, .int .i64 xs[0].col, .bool xs[0].val.null, .int .i64 xs[0].val.n, .slice A1 xs[0].kids.length c1] 33)
    have B4 := Blk.new w2 33 #[.int .i64 xs[0].kind, .int .i64 xs[0].col, .bool xs[0].val.null, .int .i64 xs[0].val.n, .slice A1 xs[0].kids.length c1]
    have FA : Fr w2 (w2.alloc (.cells #[.int .i64 xs[0].kind, .int .i64 xs[0].col, .bool xs[0].val.null, .int .i64 xs[0].val.n, .slice A1 xs[0].kids.length c1] 33)) := (Fr.refl _).alloc _
    have hx4 : KidsOk (n + 1) (offR (w2.alloc (.cells #[.int .i64 xs[0].kind, .int .i64 xs[0].col, .bool xs[0].val.null, .int .i64 xs[0].val.n, .slice A1 xs[0].kids.length c1] 33)) (w.heap.size + 1) (VG w2.heap.size)) (xs[0], A1, c1) := by
      have q1 : Mle (fromB w2 (w.heap.size + 1)) (offR w2 (w.heap.size + 1) (VG w2.heap.size)) := fun p u e => by
        have hlt := cell_lt (fromB_le _ _ _ _ e)
        unfold fromB at e
        unfold offR
        split at e
        · rename_i h'
          rw [if_pos ⟨by omega, by simp only [Value.ownBlock, ne_eq, Option.some.injEq]; omega⟩]
          exact e
        · cases e
      exact kids_up (HX1.out.mono ((fromB_lo (by rw [World.size_alloc]; exact Nat.le_refl _)).trans (q1.trans (off_fr FA))))
    have INV : CnInv w w2.heap.size n xs _ 1 (xs[0], A1, c1) := ⟨(F0.trans b1).trans FA, BR2, B4, hx4, exSm_to (m := n) (by omega) HX1.out.1 (HS.out.2 0 hpos), by rw [List.take_succ_eq_append_getElem hpos]; rfl⟩
    have HI := hid INV
    clear hx4 INV B4 BR0 BR2 HX1
    go_wp2
    obtain ⟨G, eG⟩ : ∃ G, w2.heap.size = G := ⟨_, rfl⟩
    rw [eG] at HI s0
    simp only [eG]
    clear eG
    go_loopw [4] (fun t wr => ∃ (k : Nat) (x : Ex × Option Addr × Nat), 1 ≤ k ∧ k ≤ xs.length ∧ t = .int .i64 k ∧ Hid (CnInv w G n xs wr k x)) (fun t _ => xs.length - (intOf t).toNat)
    case atStart => exact ⟨1, _, by omega, by omega, rfl, HI⟩
    case round =>
      obtain ⟨k, y, h1, hk, rfl, HJ⟩ := hrel
      have hGl := HJ.out.blk.lt
      have F3 := HJ.out.fr
      obtain ⟨a0, a1, a2, a3, a4, _⟩ := HJ.out.blk.five
      by_cases hlt : k < xs.length
      · obtain ⟨kb', ko', K', kc', hA', d0, d1, d2, d3, d4, hK'⟩ := HX.out.exc hlt
        cases hA'
        have HKK := hid (hK'.fr F3)
        clear hK'
        replace d0 := F3.cell d0
        replace d1 := F3.cell d1
        replace d2 := F3.cell d2
        replace d3 := F3.cell d3
        replace d4 := F3.cell d4
        go_wp2_with fail
        first | (go_region_with (first
            | (go_at_call 67; refine (specCopy n xs[k] K' kc' _ (HKK.out.fr (Fr.refl _).drew).1 (HS.out.2 k hlt)).mono ?_; rintro r w5 ⟨A5, c5, rfl, hz, b5⟩; have hc5 := (Fr.refl wr).drew.trans b5; have HZ := hid hz; clear hz; have G5 := HJ.out.blk.fr hc5; obtain ⟨g0, g1, g2, g3, g4, f0, f1, f2, f3, f4⟩ := G5.five; have hg5 : G < w5.heap.size := G5.lt)
            | fail)) | fail
        all_goals have s5 : wr.heap.size ≤ w5.heap.size := hc5.size
        all_goals have HY5 := hid (HJ.out.kids.mono (off_fr hc5))
        all_goals have HZ5 := hid (kids_leG (m := n) (n := n + k) (by omega) (HZ.out.mono (off_from (lo := w.heap.size + 1) (v := VG G) (lo' := wr.drew.heap.size) (Nat.le_trans (by omega) (Fr.refl wr).drew.size) (fun j hj => by simp only [Value.ownBlock, Option.some.injEq] at hj; exact Nat.lt_of_lt_of_le (by omega) (Fr.refl wr).drew.size))))
        all_goals have INV := hid (CnInv.next (y := y) (z := (xs[k], A5, c5)) (F3.trans hc5) (HJ.out.res.fr hc5) G5 (by omega) HY5.out HZ5.out HJ.out.sm (exSm_to (m := n) (by omega) HZ.out.1 (HS.out.2 k hlt)) HJ.out.ex h1 hlt rfl)
        all_goals clear HY5 HZ5 HZ
        all_goals go_wp2
        all_goals go_roundw
        all_goals first
          | exact ⟨k + 1, _, by omega, by omega, by go_num, INV⟩
          | (simp [intOf]; omega)
      · obtain rfl : k = xs.length := by omega
        obtain ⟨z0, z1, z2, z3, z4, f0, f1, f2, f3, f4⟩ := HJ.out.res.five
        have hw0 : w.heap.size < wr.heap.size := HJ.out.res.lt
        have EY := hid (show y.1 = cjn xs by rw [HJ.out.ex, List.take_of_length_le (Nat.le_refl _)])
        go_wp2
        refine bodyPost_ret (v := .agg #[.int .i64 y.1.kind, .int .i64 y.1.col, .bool y.1.val.null, .int .i64 y.1.val.n, .slice y.2.1 y.1.kids.length y.2.2]) (by simp [results, Try.results48, go_sem, z0, z1, z2, z3, z4]) rfl ?_
        rw [← EY.out]
        refine ⟨y.2.1, y.2.2, rfl, kids_leG (m := n + xs.length) (by omega) (HJ.out.kids.mono ?_), exSm_to (m := n + xs.length) (by omega) HJ.out.kids.1 HJ.out.sm, by (repeat (first | with_reducible exact Fr.refl _ | with_reducible assumption | with_reducible refine Fr.alloc ?_ _ | with_reducible refine Fr.drew ?_ | with_reducible refine Fr.drewN ?_ _ | (with_reducible refine Fr.setNew2 ?_ ?_ _; · (simp <;> omega)) | with_reducible refine Fr.trans ?_ (by assumption)))⟩
        refine Mle.trans (off_le (v := VG G)) ?_
        exact (Ch.mle_from (chSet (chSet (chSet (chSet (chSet (Ch.refl wr)))))) (fun k hk => by omega)).trans (fromB_lo (by omega))
theorem e0_res {N : Nat} {w w' : World} (hf : Fr w w') : ResE N e0 w (.returned (.agg #[.int .i64 0, .int .i64 0, .bool false, .int .i64 0, .slice none 0 0])) w' := ⟨none, 0, rfl, ⟨RdSl.nil, by simp [e0, Ex.kids], by simp [e0, Ex.kids]⟩, exSm_nil _, hf⟩
set_option maxRecDepth 100000 in
set_option maxHeartbeats 2000000 in
theorem specConjoin (n : Nat) (xs : List Ex) (A : Option Addr) (c : Nat) (w : World) (hx : RdSl (rdEx (n + 1)) w.cell? 5 A xs) (hs : exSm (n + 1) xs) :
    Calls Try.prog 24 #[.slice A xs.length c] w (ResE (n + 9) (xcjn n xs) w) := by
  have HX := hid hx
  have HS := hid hs
  have hlm := exSm_len hs
  clear hx hs
  have BR0 := Blk.new w 33 #[.int .i64 0, .int .i64 0, .bool false, .int .i64 0, .slice none 0 0]
  have F0 : Fr w (w.alloc (.cells #[.int .i64 0, .int .i64 0, .bool false, .int .i64 0, .slice none 0 0] 33)) := (Fr.refl _).alloc _
  go_enter Try.func24, Try.ntmps24
  go_wp2_with fail
  go_loopw [3] (fun t wr => ∃ (k : Nat), k ≤ xs.length ∧ t = .int .i64 k ∧ Hid ((xs.take k).all (vexpr 6 n) = true) ∧ Fr w wr ∧ Hid (Blk wr w.heap.size 33 #[.int .i64 0, .int .i64 0, .bool false, .int .i64 0, .slice none 0 0])) (fun t _ => xs.length - (intOf t).toNat)
  case atStart => exact ⟨0, by omega, rfl, hid (by simp), F0, hid BR0⟩
  case round =>
    obtain ⟨k, hk, rfl, hall, F3, HB⟩ := hrel
    by_cases hlt : k < xs.length
    · obtain ⟨kb', ko', K', kc', hA', d0, d1, d2, d3, d4, hK'⟩ := HX.out.exc hlt
      subst hA'
      have HKK := hid (hK'.fr F3)
      clear hK'
      replace d0 := F3.cell d0
      replace d1 := F3.cell d1
      replace d2 := F3.cell d2
      replace d3 := F3.cell d3
      replace d4 := F3.cell d4
      go_wp2_with fail
      refine (specValidExpr n xs[k] K' kc' 6 _ HKK.out.1 (HS.out.2 k hlt)).mono ?_
      rintro r w1 ⟨rfl, b1⟩
      have F4 := F3.trans b1
      have HB4 := HB.out.fr b1
      cases hv : vexpr 6 n xs[k]
      · have R := hid (show xcjn n xs = e0 by
          unfold xcjn
          rw [if_neg]
          intro hh
          simp only [Bool.and_eq_true, List.all_eq_true] at hh
          have := hh.1.1 _ (List.getElem_mem hlt)
          rw [hv] at this; cases this)
        obtain ⟨z0, z1, z2, z3, z4, f0, f1, f2, f3, f4⟩ := HB4.five
        have hw0 : w.heap.size < w1.heap.size := HB4.lt
        clear hv HB4 HB
        go_wp2
        refine bodyPost_ret (v := .agg #[.int .i64 0, .int .i64 0, .bool false, .int .i64 0, .slice none 0 0]) (by simp [results, Try.results24, go_sem, z0, z1, z2, z3, z4]) rfl ?_
        rw [R.out]
        exact e0_res (by (repeat (first | with_reducible exact Fr.refl _ | with_reducible assumption | with_reducible refine Fr.alloc ?_ _ | with_reducible refine Fr.drew ?_ | with_reducible refine Fr.drewN ?_ _ | (with_reducible refine Fr.setNew2 ?_ ?_ _; · (simp <;> omega)) | with_reducible refine Fr.trans ?_ (by assumption))))
      · have HA := hid (show (xs.take (k + 1)).all (vexpr 6 n) = true by rw [List.take_succ_eq_append_getElem hlt, List.all_append, hall.out]; simp [hv])
        have HB5 := hid HB4
        clear hv HB4 HB hall
        go_wp2
        go_roundw
        case rel => exact ⟨k + 1, by omega, by go_num, HA, F4, HB5⟩
        case measure => simp [intOf]; omega
    · obtain rfl : k = xs.length := by omega
      have HA := hid (show xs.all (vexpr 6 n) = true by have h := hall.out; rwa [List.take_of_length_le (Nat.le_refl _)] at h)
      clear hall
      by_cases h9 : xs.length ≤ 9
      · have e9 : decide ((9 : Int) < (xs.length : Int)) = false := decide_eq_false (by omega)
        go_wp2_with fail
        refine (specConjoin0 n xs A c _ (HX.out.fr (rdEx_mono _) F3) HS.out h9).mono ?_
        rintro r w1 ⟨A1, c1, rfl, hK, hS1, b1⟩
        have HK := hid hK
        have HS1 := hid hS1
        clear hK hS1
        have B4 := Blk.new w1 33 #[.int .i64 (cjn xs).kind, .int .i64 (cjn xs).col, .bool (cjn xs).val.null, .int .i64 (cjn xs).val.n, .slice A1 (cjn xs).kids.length c1]
        have F4 : Fr w1 (w1.alloc (.cells #[.int .i64 (cjn xs).kind, .int .i64 (cjn xs).col, .bool (cjn xs).val.null, .int .i64 (cjn xs).val.n, .slice A1 (cjn xs).kids.length c1] 33)) := (Fr.refl _).alloc _
        go_wp2_with fail
        refine (specValidExpr (n + 9) (cjn xs) A1 c1 6 _ ((HK.out.mono (fromB_le _ _)).fr F4).1 HS1.out).mono ?_
        rintro r w2 ⟨rfl, b2⟩
        have F5 := ((F3.trans b1).trans F4).trans b2
        have HB5 := ((HB.out.fr b1).fr F4).fr b2
        obtain ⟨z0, z1, z2, z3, z4, f0, f1, f2, f3, f4⟩ := HB5.five
        have hw0 : w.heap.size < w2.heap.size := HB5.lt
        have s3 := F3.size
        cases hv : vexpr 6 (n + 9) (cjn xs)
        · have R := hid (show xcjn n xs = e0 by unfold xcjn; rw [hv]; simp)
          clear hv HB5 HB
          go_wp2
          refine bodyPost_ret (v := .agg #[.int .i64 0, .int .i64 0, .bool false, .int .i64 0, .slice none 0 0]) (by simp [results, Try.results24, go_sem, z0, z1, z2, z3, z4]) rfl ?_
          rw [R.out]
          exact e0_res (by (repeat (first | with_reducible exact Fr.refl _ | with_reducible assumption | with_reducible refine Fr.alloc ?_ _ | with_reducible refine Fr.drew ?_ | with_reducible refine Fr.drewN ?_ _ | (with_reducible refine Fr.setNew2 ?_ ?_ _; · (simp <;> omega)) | with_reducible refine Fr.trans ?_ (by assumption))))
        · have R := hid (show xcjn n xs = cjn xs by unfold xcjn; rw [hv, HA.out]; simp [h9])
          obtain ⟨g0, g1, g2, g3, g4, _⟩ := (B4.fr b2).five
          have hwr : w.heap.size < wr.heap.size := HB.out.lt
          clear hv HB5 HB
          go_wp2
          refine bodyPost_ret (v := .agg #[.int .i64 (cjn xs).kind, .int .i64 (cjn xs).col, .bool (cjn xs).val.null, .int .i64 (cjn xs).val.n, .slice A1 (cjn xs).kids.length c1]) (by simp [results, Try.results24, go_sem, z0, z1, z2, z3, z4]) rfl ?_
          rw [R.out]
          refine ⟨A1, c1, rfl, HK.out.mono ?_, HS1.out, by (repeat (first | with_reducible exact Fr.refl _ | with_reducible assumption | with_reducible refine Fr.alloc ?_ _ | with_reducible refine Fr.drew ?_ | with_reducible refine Fr.drewN ?_ _ | (with_reducible refine Fr.setNew2 ?_ ?_ _; · (simp <;> omega)) | with_reducible refine Fr.trans ?_ (by assumption)))⟩
          refine Mle.trans ((F4.trans b2).mle_from _) ?_
          exact (Ch.mle_from (chSet (chSet (chSet (chSet (chSet (Ch.refl w2)))))) (fun k hk => by omega)).trans (fromB_lo (by omega))
      · have e9 : decide ((9 : Int) < (xs.length : Int)) = true := decide_eq_true (by omega)
        have R := hid (show xcjn n xs = e0 by unfold xcjn; rw [show decide (xs.length ≤ 9) = false from decide_eq_false h9]; simp)
        obtain ⟨z0, z1, z2, z3, z4, f0, f1, f2, f3, f4⟩ := HB.out.five
        have hw0 : w.heap.size < wr.heap.size := HB.out.lt
        clear HB
        go_wp2
        refine bodyPost_ret (v := .agg #[.int .i64 0, .int .i64 0, .bool false, .int .i64 0, .slice none 0 0]) (by simp [results, Try.results24, go_sem, z0, z1, z2, z3, z4]) rfl ?_
        rw [R.out]
        exact e0_res (by (repeat (first | with_reducible exact Fr.refl _ | with_reducible assumption | with_reducible refine Fr.alloc ?_ _ | with_reducible refine Fr.drew ?_ | with_reducible refine Fr.drewN ?_ _ | (with_reducible refine Fr.setNew2 ?_ ?_ _; · (simp <;> omega)) | with_reducible refine Fr.trans ?_ (by assumption))))
end Go.Proofs.Ytfillcjpdnpaiaa
