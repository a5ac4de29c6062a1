/- Walk of the generator of lists of conditions: DrawConjoin. -/
import Derived.Test.YtfillcjpdnpaiaaConH
namespace Go.Proofs.Ytfillcjpdnpaiaa
open Go Go.RowKit

theorem RowE.ch {n r : Nat} {w w' : World} {lo : Nat} {v : Value} {q : List (Ex × Option Addr × Nat)} (h : RowE n w lo v q) (hc : Ch (· = r) w w') (hr : r < lo) : RowE n w' lo v q := ⟨own_ch h.own hc (by omega), fun x hx => (h.kids x hx).mono (off_ch hc hr)⟩
/-- A row with one more expression put behind it, whose kids are new. -/
theorem RowE.push {n lo1 : Nat} {w2 w4 w5 : World} {lo : Nat} {v v5 : Value} {q : List (Ex × Option Addr × Nat)} {x : Ex × Option Addr × Nat} (h : RowE n w2 lo v q) (hlo : lo ≤ lo1) (hv : ∀ k, v.ownBlock = some k → k < lo1) (hx : KidsOk n (fromB w2 lo1) x) (hf : Fr w2 w4)
    (ho : w5.ownsRow lo 33 5 v5 (q.length + 1) (q.flatMap cellsE ++ [x].flatMap cellsE)) (hg : w4.grownBy w5 v.ownBlock) (hw : Wh w4 v v5) : RowE n w5 lo v5 (q ++ [x]) := by
  refine ⟨by rw [List.length_append, List.length_singleton, List.flatMap_append]; exact ho, fun y hy => ?_⟩
  rcases List.mem_append.1 hy with hy | hy
  · exact (h.kids y hy).mono ((off_fr hf).trans (off_grown hg hw))
  · have hyx : y = x := by simpa using hy
    subst hyx
    exact hx.mono (((off_from hlo hv).trans (off_fr hf)).trans (off_grown hg hw))
/-- The first expression of a row replaced. -/
theorem RowE.put {n lo g c m : Nat} {w : World} {q : List (Ex × Option Addr × Nat)} {y x : Ex × Option Addr × Nat} (h : RowE n w lo (.slice (some ⟨g, 0, none⟩) m c) (y :: q)) (hx : KidsOk n (offR w lo (.slice (some ⟨g, 0, none⟩) m c)) x) : RowE n (put5 w g 0 x) lo (.slice (some ⟨g, 0, none⟩) m c) (x :: q) := by
  refine ⟨?_, fun z hz => ?_⟩
  · obtain ⟨A', c', hv, _⟩ := own_cap h.own
    have ho := h.own
    obtain ⟨rfl, rfl, rfl⟩ : some ⟨g, 0, none⟩ = A' ∧ m = (y :: q).length ∧ c = c' := by injection hv with h1 h2 h3; exact ⟨h1, h2, h3⟩
    exact own_put (i := 4) (own_put (i := 3) (own_put (i := 2) (own_put (i := 1) (own_put (i := 0) ho (.int .i64 x.1.kind)) (.int .i64 x.1.col)) (.bool x.1.val.null)) (.int .i64 x.1.val.n)) (.slice x.2.1 x.1.kids.length x.2.2)
  · rcases List.mem_cons.1 hz with rfl | hz
    · exact hx.mono off_put5
    · exact (h.kids z (List.mem_cons_of_mem _ hz)).mono off_put5
/-- The state of the loop: the conditions so far, laid in the row v. -/
structure DJ (w : World) (r : Nat) (wr : World) (q : List (Ex × Option Addr × Nat)) (v : Value) : Prop where
  fr : Fr w wr
  rdr : ∃ p, Rdr wr r p ∧ p ≤ 1 + 120 * q.length
  row : RowE 4 wr (r + 1) v q
  sm : ∀ x ∈ q, exSm 4 x.1.kids ∧ x.1.kids.length ≤ 2
/-- A drawn list of expressions. -/
def OutL (m k : Nat) (w : World) (r : Ending) (w' : World) : Prop := ∃ v q, r = .returned v ∧ (∃ lo, RowE m w' lo v q) ∧ (∀ x ∈ q, exSm m x.1.kids ∧ x.1.kids.length ≤ 2) ∧ q.length ≤ k ∧ Fr w w'
attribute [-go_sem] Builtin.append_
set_option maxRecDepth 100000 in
set_option maxHeartbeats 2000000 in
theorem drawConjoin (A : Option Addr) (cap : Nat) (xs : List Nat) (w : World) (hx : RdSl rdByte w.cell? 1 A xs) (hl : xs.length ≤ 1048576) (hc : xs.length ≤ cap) :
    Calls Try.prog 37 #[.slice A xs.length cap] w (OutL 4 10 w) := by
  have hk3 : kpick 3 = 67 := rfl
  have H := hid hx
  clear hx
  go_enter Try.func37, Try.ntmps37
  go_wp2_with fail
  refine (newReader _ _ _ _ H.out hl hc).mono ?_
  rintro e w1 ⟨r, rfl, hr, hr1, b1⟩
  have hlt := hr1.lt
  go_wp2_with fail
  refine (one _ _ [0, 1, 2, 3, 4, 10] r 0 _ ?_ (by omega) ?_ (by simp) (by simp)).mono ?_
  · (repeat (first | with_reducible assumption | with_reducible refine Rdr.alloc ?_ _ | with_reducible refine Rdr.drew ?_ | (with_reducible refine Rdr.set2 ?_ ?_ _; · (simp <;> omega))))
  · have h := lit_ints (w := w1.alloc (.cells #[] 33)) (t := 3) (xs := [0, 1, 2, 3, 4, 10]) (lo := r + 1) (Nat.le_trans hlt ((Fr.refl w1).alloc _).size)
    rw [World.size_alloc] at h
    exact h
  rintro e w2 ⟨N, hN, rfl, hr2, hc2⟩
  have hN2 : 0 ≤ N ∧ N ≤ 10 := by simp at hN; omega
  obtain ⟨N, rfl⟩ : ∃ m : Nat, N = m := ⟨N.toNat, by omega⟩
  have F1 : Fr w1 ((w1.alloc (.cells #[] 33)).alloc (.cells #[.int .i64 0, .int .i64 1, .int .i64 2, .int .i64 3, .int .i64 4, .int .i64 10] 3)) := ((Fr.refl _).alloc _).alloc _
  have OW := own_fr (own_lit (w := w1) (t := 33) (base := r + 1) (sz := 5) (n := 0) (xs := []) (by omega) (by simp) (by omega)) ((Fr.refl _).alloc (.cells #[.int .i64 0, .int .i64 1, .int .i64 2, .int .i64 3, .int .i64 4, .int .i64 10] 3))
  have INV : DJ w r w2 [] (.slice (some ⟨w1.heap.size, 0, none⟩) 0 0) := ⟨hc2.fr (fun k hk => by omega) (b1.trans F1), ⟨_, hr2, by simp⟩, ⟨own_ch OW hc2 (by omega), fun x hx => by simp at hx⟩, fun x hx => by simp at hx⟩
  have HI := hid INV
  clear INV OW hN H
  go_wp2
  go_loopw [4, 5] (fun s t wr => ∃ (k : Nat) (q : List (Ex × Option Addr × Nat)), k + q.length ≤ 10 ∧ t = .int .i64 k ∧ Hid (DJ w r wr q s)) (fun _ t _ => (intOf t).toNat)
  case atStart => exact ⟨N, [], by simp; omega, rfl, HI⟩
  case round =>
    obtain ⟨k, q, hkj, rfl, HJ⟩ := hrel
    obtain ⟨VA, vc, rfl⟩ := own_form HJ.out.row.own
    obtain ⟨p, hrp, hpp⟩ := HJ.out.rdr
    by_cases hk : 0 < k
    · have ek : decide ((0 : Int) < (k : Int)) = true := by simp; omega
      go_wp2_with fail
      refine (randomCondition 3 r p _ hrp (by omega) (by omega) (by omega)).mono ?_
      rintro e w4 ⟨z, rfl, hz, hzs, hzl, p4, hp4, hr4, hc4⟩
      have hw := HJ.out.fr.size
      have hs4 := hc4.size
      have hsm := HJ.out.sm
      have hl2 := hr4.lt
      have ROW := hid (RowE.ch HJ.out.row hc4 (by omega))
      have FW : Fr w w4 := hc4.fr (fun k hk => by omega) HJ.out.fr
      have HZ := hid hz
      have hlr : r < wr.heap.size := hrp.lt
      have hvk : ∀ k, (Value.slice VA q.length vc).ownBlock = some k → k < wr.heap.size := fun k hk => (own_lt HJ.out.row.own k hk).2
      clear hz
      go_wp2_with fail
      refine upon_appW (r + 1) (.slice VA q.length vc) q.length (q.flatMap cellsE) ?own ?n1 ?base w4.heap.size 1 1 [(z.1, z.2.1, z.2.2)] rfl ?n2 ?hB ?_
      case own => exact own_fr ROW.out.own ((Fr.refl w4).alloc _)
      case n1 => omega
      case base => exact Nat.le_trans (by omega) ((Fr.refl w4).alloc _).size
      case n2 => omega
      case hB => exact blk_cells (blk_new rfl)
      intro v5 w5 hO5 hg5 hw5
      have R5 : RowE 4 w5 (r + 1) v5 (q ++ [z]) := RowE.push (w2 := w4) ROW.out (lo1 := wr.heap.size) (by omega) hvk HZ.out ((Fr.refl w4).alloc _) hO5 hg5 hw5
      have F5 : Fr w w5 := Below.grown (FW.alloc _) hg5 (FW.alloc _).size (fun k hk => by have := own_lt HJ.out.row.own k hk; omega)
      have hr5 : Rdr w5 r p4 := Rdr.grown (hr4.alloc _) hg5 (fun k hk => by have := own_lt HJ.out.row.own k hk; omega)
      have HD : DJ w r w5 (q ++ [z]) v5 := ⟨F5, ⟨p4, hr5, by rw [List.length_append, List.length_singleton]; omega⟩, R5, fun x hx => by
        rcases List.mem_append.1 hx with hx | hx
        · exact hsm x hx
        · obtain rfl := List.mem_singleton.1 hx
          exact ⟨hzs, hzl⟩⟩
      replace HD := hid HD
      clear hO5 R5 hsm
      go_wp2
      go_roundw
      case rel => exact ⟨k - 1, q ++ [z], by rw [List.length_append, List.length_singleton]; omega, by congr 1; omega, HD⟩
      case measure => simp [intOf]; omega
    · obtain rfl : k = 0 := by omega
      by_cases hq : 0 < q.length
      · have eq1 : decide ((0 : Int) < (q.length : Int)) = true := by simp; omega
        go_wp2_with fail
        refine (pick _ _ _ _ hrp (by omega) (by omega)).mono ?_
        rintro e w4 ⟨b, rfl, hb, hr4, hc4⟩
        have hs4 := hc4.size
        have hsm := HJ.out.sm
        have hlr : r < wr.heap.size := hrp.lt
        have ROW := hid (RowE.ch HJ.out.row hc4 (by omega))
        have FW : Fr w w4 := hc4.fr (fun k hk => by omega) HJ.out.fr
        by_cases hb0 : b = 0
        · subst hb0
          go_wp2_with fail
          refine (anyExpr 3 r _ _ hr4 (by omega) (by omega) (by omega)).mono ?_
          rintro e w5 ⟨x, rfl, hx, hxs, hxl, p5, hp5, hr5, hc5⟩
          have hs5 := hc5.size
          obtain ⟨y, q', rfl⟩ : ∃ y q', q = y :: q' := by
            cases q with
            | nil => simp at hq
            | cons y q' => exact ⟨y, q', rfl⟩
          have R5 := RowE.ch ROW.out hc5 (by omega)
          obtain ⟨g, cap', cs, hv, hgl, hB, hcs⟩ := own_form2 R5.own (by simp)
          have hv2 := hv
          injection hv2 with h1 _ h3
          subst h1 h3
          have hm5 : 5 ≤ cs.size := by simp only [List.length_cons] at hcs; omega
          have cc : ∀ i, i < 5 → ∃ u, w5.cell? ⟨g, i, none⟩ = some u := fun i hi => ⟨cs[i]'(by omega), by rw [hB.cell]; exact Array.getElem?_eq_getElem (by omega)⟩
          obtain ⟨u0, c0⟩ := cc 0 (by omega)
          obtain ⟨u1, c1⟩ := cc 1 (by omega)
          obtain ⟨u2, c2⟩ := cc 2 (by omega)
          obtain ⟨u3, c3⟩ := cc 3 (by omega)
          obtain ⟨u4, c4⟩ := cc 4 (by omega)
          have f0 := hB.frozen 0
          have f1 := hB.frozen 1
          have f2 := hB.frozen 2
          have f3 := hB.frozen 3
          have f4 := hB.frozen 4
          have FW5 : Fr w w5 := hc5.fr (fun k hk => by omega) FW
          have hx5 : KidsOk 4 (offR w5 (r + 1) (.slice (some ⟨g, 0, none⟩) (y :: q').length vc)) x := kids_le (m := 3) (by omega) (hx.mono (off_from (by omega) (fun k hk => (own_lt ROW.out.own k hk).2)))
          have R6 := hid (RowE.put (x := x) R5 hx5)
          have F6 : Fr w (put5 w5 g 0 x) := by unfold put5; (repeat (first | with_reducible exact Fr.refl _ | with_reducible assumption | with_reducible refine Fr.alloc ?_ _ | with_reducible refine Fr.drew ?_ | with_reducible refine Fr.drewN ?_ _ | (with_reducible refine Fr.setNew2 ?_ ?_ _; · (simp <;> omega)) | with_reducible refine Fr.trans ?_ (by assumption)))
          have sm6 : ∀ z ∈ x :: q', exSm 4 z.1.kids ∧ z.1.kids.length ≤ 2 := fun z hz => by
            rcases List.mem_cons.1 hz with rfl | hz
            · exact ⟨exSm_to (m := 3) (by omega) hx.1 hxs, hxl⟩
            · exact hsm z (List.mem_cons_of_mem _ hz)
          have OUT : Hid (OutL 4 10 w (.returned (.slice (some ⟨g, 0, none⟩) (y :: q').length vc)) (put5 w5 g 0 x)) := hid ⟨_, x :: q', rfl, ⟨r + 1, R6.out⟩, sm6, by simpa using hkj, F6⟩
          clear hx hx5 R6 F6 sm6 hsm cc hcs hv R5 ROW
          unfold put5 at OUT
          go_wp2
          exact bodyPost_ret (by simp [results, Try.results37, go_sem]) rfl OUT.out
        · have eb : (((b : Int) == 0) : Bool) = false := by simp; omega
          go_wp2
          refine bodyPost_ret (by simp [results, Try.results37, go_sem]) rfl ⟨_, q, rfl, ⟨r + 1, ROW.out⟩, hsm, by omega, FW⟩
      · have eq1 : decide ((0 : Int) < (q.length : Int)) = false := decide_eq_false (by omega)
        have INV := HJ
        go_wp2
        refine bodyPost_ret (by simp [results, Try.results37, go_sem]) rfl ⟨_, q, rfl, ⟨r + 1, INV.out.row⟩, INV.out.sm, by omega, INV.out.fr⟩
end Go.Proofs.Ytfillcjpdnpaiaa
