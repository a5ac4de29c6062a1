/- Walks of the generators of conditions: randomCondition, DrawConjuncts. -/
import Derived.Test.YtfillcjpdnpaiaaConG
import Derived.Test.YtfillcjpdnpaiaaConjC
import Derived.Test.YtfillcjpdnpaiaaExprH
namespace Go.Proofs.Ytfillcjpdnpaiaa
open Go Go.RowKit

set_option maxRecDepth 100000 in
set_option maxHeartbeats 1000000 in
theorem randomCondition (wd r p : Nat) (w : World) (hr : Rdr w r p) (hp : p + 120 ≤ 100000) (h1 : 1 ≤ wd) (h7 : wd ≤ 7) :
    Calls Try.prog 60 #[.pointer (some ⟨r, 0, none⟩), .int .i64 wd] w (DrawnE 4 120 r p w) := by
  have hlt := hr.lt
  have BR0 := Blk.new w 33 #[.int .i64 0, .int .i64 0, .bool false, .int .i64 0, .slice none 0 0]
  have hr0 := hr.alloc (.cells #[.int .i64 0, .int .i64 0, .bool false, .int .i64 0, .slice none 0 0] 33)
  have hC0 : Ch (· = r) w (w.alloc (.cells #[.int .i64 0, .int .i64 0, .bool false, .int .i64 0, .slice none 0 0] 33)) := (Ch.refl w).alloc _
  have hs0 : (w.alloc (.cells #[.int .i64 0, .int .i64 0, .bool false, .int .i64 0, .slice none 0 0] 33)).heap.size = w.heap.size + 1 := by simp
  clear hr
  go_enter Try.func60, Try.ntmps60
  go_wp2_with fail
  refine (condition 2 wd r p _ hr0 (by show p + 120 ≤ 100000; omega) h1 h7 (by omega)).mono ?_
  rintro e w1 ⟨x, rfl, hx, hxs, hxl, p1, hp1, hr1, hc1⟩
  have hC1 := hC0.trans hc1
  have hp2 : p1 ≤ p + 120 := hp1
  have hx' := hx.mono (fromB_lo (show w.heap.size + 1 ≤ _ by omega))
  obtain ⟨z0, z1, z2, z3, z4, f0, f1, f2, f3, f4⟩ := (BR0.ch hc1 (by omega)).five
  go_wp2
  refine bodyPost_ret (v := .agg #[.int .i64 x.1.kind, .int .i64 x.1.col, .bool x.1.val.null, .int .i64 x.1.val.n, .slice x.2.1 x.1.kids.length x.2.2]) (by simp [results, Try.results60, go_sem, z0, z1, z2, z3, z4]) rfl ?_
  with_reducible refine drawn_fin (m := 4) (K := 120) (r := r) (p := p) (p' := p1) (w := w) (W := w1) (x := x) hr1 hp2 hC1 hlt hx' hxs hxl
abbrev VG (G : Nat) : Value := .slice (some ⟨G, 0, none⟩) 0 0
theorem and_mem {m lo G : Nat} {w4 : World} {x y : Ex × Option Addr × Nat} (u0 u1 u2 u3 u4 : Value) (hx : KidsOk m (offR w4 lo (VG G)) x) (hy : KidsOk m (offR w4 lo (VG G)) y) (hlo : lo ≤ w4.heap.size) (hG : G < w4.heap.size) :
    KidsOk (m + 1) (offR ((((((w4.setCell ⟨G, 0, none⟩ u0).setCell ⟨G, 1, none⟩ u1).setCell ⟨G, 2, none⟩ u2).setCell ⟨G, 3, none⟩ u3).setCell ⟨G, 4, none⟩ u4).alloc (.cells #[.int .i64 x.1.kind, .int .i64 x.1.col, .bool x.1.val.null, .int .i64 x.1.val.n, .slice x.2.1 x.1.kids.length x.2.2, .int .i64 y.1.kind, .int .i64 y.1.col, .bool y.1.val.null, .int .i64 y.1.val.n, .slice y.2.1 y.1.kids.length y.2.2] 33)) lo (VG G)) (Ex.mk 8 0 ⟨false, 0⟩ [x.1, y.1], some ⟨w4.heap.size, 0, none⟩, 2) := by
  have hM : Mle (offR w4 lo (VG G)) (offR (((((w4.setCell ⟨G, 0, none⟩ u0).setCell ⟨G, 1, none⟩ u1).setCell ⟨G, 2, none⟩ u2).setCell ⟨G, 3, none⟩ u3).setCell ⟨G, 4, none⟩ u4) lo (VG G)) := by
    refine Mle.trans ?_ (off_row (p := ⟨G, 4, none⟩) rfl _)
    refine Mle.trans ?_ (off_row (p := ⟨G, 3, none⟩) rfl _)
    refine Mle.trans ?_ (off_row (p := ⟨G, 2, none⟩) rfl _)
    refine Mle.trans ?_ (off_row (p := ⟨G, 1, none⟩) rfl _)
    exact off_row (p := ⟨G, 0, none⟩) rfl _
  have hsz : (((((w4.setCell ⟨G, 0, none⟩ u0).setCell ⟨G, 1, none⟩ u1).setCell ⟨G, 2, none⟩ u2).setCell ⟨G, 3, none⟩ u3).setCell ⟨G, 4, none⟩ u4).heap.size = w4.heap.size := by simp
  generalize ((((w4.setCell ⟨G, 0, none⟩ u0).setCell ⟨G, 1, none⟩ u1).setCell ⟨G, 2, none⟩ u2).setCell ⟨G, 3, none⟩ u3).setCell ⟨G, 4, none⟩ u4 = W at hM hsz ⊢
  rw [← hsz]
  refine ⟨lit_ex (w := W) (t := 33) (xs := [x, y]) (fun p u e => ?_) (fun z hz => ?_), by show 2 ≤ maxLen; unfold maxLen; omega, Nat.le_refl _⟩
  · unfold win at e
    unfold offR
    split at e
    · rename_i h'
      rw [if_pos ⟨by omega, by simp only [Value.ownBlock, ne_eq, Option.some.injEq]; omega⟩]
      exact e
    · cases e
  · simp only [List.mem_cons, List.not_mem_nil, or_false] at hz
    rcases hz with rfl | rfl
    · exact hx.mono (hM.trans (off_fr ((Fr.refl W).alloc _)))
    · exact hy.mono (hM.trans (off_fr ((Fr.refl W).alloc _)))
/-- The state of the loop: j rounds are done, e stands in block G. -/
structure HInv (w : World) (r G : Nat) (wr : World) (j : Nat) (x : Ex × Option Addr × Nat) : Prop where
  fr : Fr w wr
  rdr : ∃ p, Rdr wr r p ∧ p ≤ 80 + 121 * j
  res : Blk wr w.heap.size 33 #[.int .i64 0, .int .i64 0, .bool false, .int .i64 0, .slice none 0 0]
  blk : Blk wr G 33 #[.int .i64 x.1.kind, .int .i64 x.1.col, .bool x.1.val.null, .int .i64 x.1.val.n, .slice x.2.1 x.1.kids.length x.2.2]
  kids : KidsOk (4 + j) (offR wr (r + 1) (VG G)) x
  sm : exSm (4 + j) x.1.kids
  len : x.1.kids.length ≤ 2
theorem HInv.next {w : World} {r G j p5 : Nat} {w5 : World} {y z : Ex × Option Addr × Nat} {q0 q1 q2 q3 q4 : Value} (hF : Fr w w5) (hr : Rdr w5 r p5) (hp : p5 ≤ 80 + 121 * (j + 1)) (hR : Blk w5 w.heap.size 33 #[.int .i64 0, .int .i64 0, .bool false, .int .i64 0, .slice none 0 0]) (hB : Blk w5 G 33 #[q0, q1, q2, q3, q4]) (hwr : w.heap.size < r) (hrG : r < G)
    (hy : KidsOk (4 + j) (offR w5 (r + 1) (VG G)) y) (hz : KidsOk (4 + j) (offR w5 (r + 1) (VG G)) z) (sy : exSm (4 + j) y.1.kids) (sz : exSm (4 + j) z.1.kids) :
    HInv w r G ((((((w5.setCell ⟨G, 0, none⟩ (.int .i64 8)).setCell ⟨G, 1, none⟩ (.int .i64 0)).setCell ⟨G, 2, none⟩ (.bool false)).setCell ⟨G, 3, none⟩ (.int .i64 0)).setCell ⟨G, 4, none⟩ (.slice (some ⟨w5.heap.size, 0, none⟩) 2 2)).alloc (.cells #[.int .i64 y.1.kind, .int .i64 y.1.col, .bool y.1.val.null, .int .i64 y.1.val.n, .slice y.2.1 y.1.kids.length y.2.2, .int .i64 z.1.kind, .int .i64 z.1.col, .bool z.1.val.null, .int .i64 z.1.val.n, .slice z.2.1 z.1.kids.length z.2.2] 33)) (j + 1) (Ex.mk 8 0 ⟨false, 0⟩ [y.1, z.1], some ⟨w5.heap.size, 0, none⟩, 2) := by
  have hG := hB.lt
  have hsz := hF.size
  refine ⟨by (repeat (first | with_reducible exact Fr.refl _ | with_reducible assumption | with_reducible refine Fr.alloc ?_ _ | with_reducible refine Fr.drew ?_ | with_reducible refine Fr.drewN ?_ _ | (with_reducible refine Fr.setNew2 ?_ ?_ _; · (simp <;> omega)) | with_reducible refine Fr.trans ?_ (by assumption))), ⟨p5, by (repeat (first | with_reducible assumption | with_reducible refine Rdr.alloc ?_ _ | with_reducible refine Rdr.drew ?_ | (with_reducible refine Rdr.set2 ?_ ?_ _; · (simp <;> omega)))), hp⟩, ?_, ?_, and_mem _ _ _ _ _ hy hz (by omega) hG, exSm_two (m := 4 + j) (by simp [Ex.kids]) (fun q hq => ?_), by simp [Ex.kids]⟩
  · exact (((((hR.far (p := ⟨G, 0, none⟩) (by show w.heap.size ≠ G; omega) _).far (p := ⟨G, 1, none⟩) (by show w.heap.size ≠ G; omega) _).far (p := ⟨G, 2, none⟩) (by show w.heap.size ≠ G; omega) _).far (p := ⟨G, 3, none⟩) (by show w.heap.size ≠ G; omega) _).far (p := ⟨G, 4, none⟩) (by show w.heap.size ≠ G; omega) _).alloc _
  · exact (((((hB.set_ 0 (.int .i64 8)).set_ 1 (.int .i64 0)).set_ 2 (.bool false)).set_ 3 (.int .i64 0)).set_ 4 (.slice (some ⟨w5.heap.size, 0, none⟩) 2 2)).alloc (.cells #[.int .i64 y.1.kind, .int .i64 y.1.col, .bool y.1.val.null, .int .i64 y.1.val.n, .slice y.2.1 y.1.kids.length y.2.2, .int .i64 z.1.kind, .int .i64 z.1.col, .bool z.1.val.null, .int .i64 z.1.val.n, .slice z.2.1 z.1.kids.length z.2.2] 33)
  · simp only [Ex.kids, List.mem_cons, List.not_mem_nil, or_false] at hq
    rcases hq with rfl | rfl
    · exact sy
    · exact sz
/-- What a drawn expression is worth to a law. -/
def OutE (m : Nat) (w : World) (r : Ending) (w' : World) : Prop := ∃ x : Ex × Option Addr × Nat, r = .returned (.agg #[.int .i64 x.1.kind, .int .i64 x.1.col, .bool x.1.val.null, .int .i64 x.1.val.n, .slice x.2.1 x.1.kids.length x.2.2]) ∧ KidsOk m w'.cell? x ∧ exSm m x.1.kids ∧ x.1.kids.length ≤ 2 ∧ Fr w w'
set_option maxRecDepth 100000 in
set_option maxHeartbeats 2000000 in
theorem drawConjuncts (A : Option Addr) (cap : Nat) (xs : List Nat) (w : World) (hx : RdSl rdByte w.cell? 1 A xs) (hl : xs.length ≤ 1048576) (hc : xs.length ≤ cap) :
    Calls Try.prog 33 #[.slice A xs.length cap] w (OutE 7 w) := by
  have hk3 : kpick 3 = 67 := rfl
  have H := hid hx
  clear hx
  have BR0 := Blk.new w 33 #[.int .i64 0, .int .i64 0, .bool false, .int .i64 0, .slice none 0 0]
  have F0 : Fr w (w.alloc (.cells #[.int .i64 0, .int .i64 0, .bool false, .int .i64 0, .slice none 0 0] 33)) := (Fr.refl _).alloc _
  go_enter Try.func33, Try.ntmps33
  go_wp2_with fail
  refine (newReader _ _ _ _ (H.out.mono rdByte_mono F0.mle) hl hc).mono ?_
  rintro e w1 ⟨r, rfl, hr, hr1, b1⟩
  have hlt := hr1.lt
  have BR1 := BR0.fr b1
  have hrr : w.heap.size < r := by simp at hr; omega
  go_wp2_with fail
  refine (anyExpr 3 r 0 _ hr1 (by omega) (by omega) (by omega)).mono ?_
  rintro e w2 ⟨x, rfl, hx, hxs, hxl, p2, hp2, hr2, hc2⟩
  have F2 : Fr w w2 := hc2.fr (fun k hk => by omega) (F0.trans b1)
  have BR2 := BR1.ch hc2 (by omega)
  have hs2 := hc2.size
  have B4 := Blk.new w2 33 #[.int .i64 x.1.kind, .int .i64 x.1.col, .bool x.1.val.null, .int .i64 x.1.val.n, .slice x.2.1 x.1.kids.length x.2.2]
  have hr3 := hr2.alloc (.cells #[.int .i64 x.1.kind, .int .i64 x.1.col, .bool x.1.val.null, .int .i64 x.1.val.n, .slice x.2.1 x.1.kids.length x.2.2] 33)
  go_wp2_with fail
  refine (pick _ _ _ _ hr3 (by omega) (by omega)).mono ?_
  rintro e w3 ⟨N, rfl, hN, hr4, hc3⟩
  have hN3 : N ≤ 3 := by omega
  have FA : Fr w2 (w2.alloc (.cells #[.int .i64 x.1.kind, .int .i64 x.1.col, .bool x.1.val.null, .int .i64 x.1.val.n, .slice x.2.1 x.1.kids.length x.2.2] 33)) := (Fr.refl _).alloc _
  have hx4 : KidsOk 4 (offR w3 (r + 1) (VG w2.heap.size)) x := by
    have q1 : Mle (fromB w2 w1.heap.size) (offR w2 (r + 1) (VG w2.heap.size)) := fun p u e => by
      have hlt := cell_lt (fromB_le _ _ _ _ e)
      unfold fromB at e
      unfold offR
      split at e
      · rename_i h'
        rw [if_pos ⟨by omega, by simp only [Value.ownBlock, ne_eq, Option.some.injEq]; omega⟩]
        exact e
      · cases e
    exact kids_le (m := 3) (by omega) (hx.mono ((q1.trans (off_fr FA)).trans (off_ch hc3 (by omega))))
  have INV : HInv w r w2.heap.size w3 0 x := ⟨hc3.fr (fun k hk => by omega) (F2.trans FA), ⟨_, hr4, by omega⟩, (BR2.alloc _).ch hc3 (by omega), B4.ch hc3 (by omega), hx4, exSm_to (m := 3) (by omega) hx.1 hxs, hxl⟩
  have HI := hid INV
  have hG : r < w2.heap.size := hr2.lt
  clear hx hxs hxl hr1 hr2 hr3 hr4 hx4 INV BR0 BR1 BR2 B4 hN
  go_wp2
  obtain ⟨G, eG⟩ : ∃ G, w2.heap.size = G := ⟨_, rfl⟩
  rw [eG] at HI hG
  have hG1 : w1.heap.size ≤ G := by omega
  simp only [eG]
  clear eG
  go_loopw [5] (fun t wr => ∃ (k j : Nat) (x : Ex × Option Addr × Nat), k + j ≤ 3 ∧ t = .int .i64 k ∧ Hid (HInv w r G wr j x)) (fun t _ => (intOf t).toNat)
  case atStart => exact ⟨N, 0, x, by omega, rfl, HI⟩
  case round =>
    obtain ⟨k, j, y, hkj, rfl, HJ⟩ := hrel
    obtain ⟨p, hrp, hpp⟩ := HJ.out.rdr
    have hGl := HJ.out.blk.lt
    by_cases hk : 0 < k
    · have ek : decide ((0 : Int) < (k : Int)) = true := by simp; omega
      go_wp2_with fail
      refine (randomCondition 3 r p _ hrp (by omega) (by omega) (by omega)).mono ?_
      rintro e w4 ⟨z, rfl, hz, hzs, hzl, p4, hp4, hr4, hc4⟩
      have hs4 := hc4.size
      have C4 := HJ.out.blk.ch hc4 (by omega)
      have hr4' := hr4.alloc (.cells #[.int .i64 z.1.kind, .int .i64 z.1.col, .bool z.1.val.null, .int .i64 z.1.val.n, .slice z.2.1 z.1.kids.length z.2.2] 33)
      have B6 := Blk.new w4 33 #[.int .i64 z.1.kind, .int .i64 z.1.col, .bool z.1.val.null, .int .i64 z.1.val.n, .slice z.2.1 z.1.kids.length z.2.2]
      have FB : Fr w4 (w4.alloc (.cells #[.int .i64 z.1.kind, .int .i64 z.1.col, .bool z.1.val.null, .int .i64 z.1.val.n, .slice z.2.1 z.1.kids.length z.2.2] 33)) := (Fr.refl _).alloc _
      go_wp2_with fail
      refine (pick _ _ _ _ hr4' (by omega) (by omega)).mono ?_
      rintro e w5 ⟨b, rfl, hb, hr5, hc5⟩
      have F5 : Fr w w5 := hc5.fr (fun k hk => by omega) ((hc4.fr (fun k hk => by omega) HJ.out.fr).trans FB)
      have R5 : Blk w5 w.heap.size 33 #[.int .i64 0, .int .i64 0, .bool false, .int .i64 0, .slice none 0 0] := ((HJ.out.res.ch hc4 (by omega)).fr FB).ch hc5 (by omega)
      have G5 : Blk w5 G 33 #[.int .i64 y.1.kind, .int .i64 y.1.col, .bool y.1.val.null, .int .i64 y.1.val.n, .slice y.2.1 y.1.kids.length y.2.2] := (C4.fr FB).ch hc5 (by omega)
      have D5 : Blk w5 w4.heap.size 33 #[.int .i64 z.1.kind, .int .i64 z.1.col, .bool z.1.val.null, .int .i64 z.1.val.n, .slice z.2.1 z.1.kids.length z.2.2] := B6.ch hc5 (by omega)
      have hy5 : KidsOk (4 + j) (offR w5 (r + 1) (VG G)) y := HJ.out.kids.mono (((off_ch hc4 (by omega)).trans (off_fr FB)).trans (off_ch hc5 (by omega)))
      have hz5 : KidsOk (4 + j) (offR w5 (r + 1) (VG G)) z := kids_le (m := 4) (by omega) (hz.mono (((off_from (by omega) (fun k hk => by simp only [Value.ownBlock, Option.some.injEq] at hk; omega)).trans (off_fr FB)).trans (off_ch hc5 (by omega))))
      have sy := HJ.out.sm
      have sz : exSm (4 + j) z.1.kids := exSm_to (m := 4) (by omega) hz.1 hzs
      have ly := HJ.out.len
      have HY := hid hy5
      have HZ := hid hz5
      have hg5 : G < w5.heap.size := G5.lt
      have hd5 : w4.heap.size < w5.heap.size := D5.lt
      have hlo : r + 1 ≤ w5.heap.size := by omega
      obtain ⟨a0, a1, a2, a3, a4, f0, f1, f2, f3, f4⟩ := G5.five
      obtain ⟨c0, c1, c2, c3, c4, _⟩ := D5.five
      have hb2 : b = 0 ∨ b = 1 := by omega
      clear hz hzs hy5 hz5 C4 B6 hb
      rcases hb2 with rfl | rfl
      · go_wp2
        go_roundw
        case rel =>
          refine ⟨k - 1, j + 1, (Ex.mk 8 0 ⟨false, 0⟩ [y.1, z.1], some ⟨w5.heap.size, 0, none⟩, 2), by omega, by congr 1; omega, hid ?_⟩
          with_reducible exact HInv.next (y := y) (z := z) F5 hr5 (by omega) R5 G5 hrr hG HY.out HZ.out sy sz
        case measure => simp [intOf]; omega
      · go_wp2
        go_roundw
        case rel =>
          refine ⟨k - 1, j + 1, (Ex.mk 8 0 ⟨false, 0⟩ [z.1, y.1], some ⟨w5.heap.size, 0, none⟩, 2), by omega, by congr 1; omega, hid ?_⟩
          with_reducible exact HInv.next (y := z) (z := y) F5 hr5 (by omega) R5 G5 hrr hG HZ.out HY.out sz sy
        case measure => simp [intOf]; omega
    · obtain rfl : k = 0 := by omega
      obtain ⟨a0, a1, a2, a3, a4, _⟩ := HJ.out.blk.five
      obtain ⟨z0, z1, z2, z3, z4, f0, f1, f2, f3, f4⟩ := HJ.out.res.five
      have hw0 : w.heap.size < wr.heap.size := HJ.out.res.lt
      have FF := HJ.out.fr
      go_wp2
      refine bodyPost_ret (v := .agg #[.int .i64 y.1.kind, .int .i64 y.1.col, .bool y.1.val.null, .int .i64 y.1.val.n, .slice y.2.1 y.1.kids.length y.2.2]) (by simp [results, Try.results33, go_sem, z0, z1, z2, z3, z4]) rfl ⟨y, rfl, ?_, ?_, HJ.out.len, by (repeat (first | with_reducible exact Fr.refl _ | with_reducible assumption | with_reducible refine Fr.alloc ?_ _ | with_reducible refine Fr.drew ?_ | with_reducible refine Fr.drewN ?_ _ | (with_reducible refine Fr.setNew2 ?_ ?_ _; · (simp <;> omega)) | with_reducible refine Fr.trans ?_ (by assumption)))⟩
      · refine kids_le (m := 4 + j) (by omega) (HJ.out.kids.mono ?_)
        refine Mle.trans ?_ (fromB_le _ (r + 1))
        refine Mle.trans ?_ (off_le (v := VG G))
        refine Mle.trans ?_ (off_out (p := ⟨w.heap.size, 4, none⟩) (by show w.heap.size < r + 1; omega) _)
        refine Mle.trans ?_ (off_out (p := ⟨w.heap.size, 3, none⟩) (by show w.heap.size < r + 1; omega) _)
        refine Mle.trans ?_ (off_out (p := ⟨w.heap.size, 2, none⟩) (by show w.heap.size < r + 1; omega) _)
        refine Mle.trans ?_ (off_out (p := ⟨w.heap.size, 1, none⟩) (by show w.heap.size < r + 1; omega) _)
        exact off_out (v := VG G) (p := ⟨w.heap.size, 0, none⟩) (by show w.heap.size < r + 1; omega) _
      · exact exSm_to (m := 4 + j) (by omega) HJ.out.kids.1 HJ.out.sm
end Go.Proofs.Ytfillcjpdnpaiaa
