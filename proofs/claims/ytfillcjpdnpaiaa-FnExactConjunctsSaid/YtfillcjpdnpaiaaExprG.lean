/- Walks of the generators of expressions. -/
import Derived.Test.YtfillcjpdnpaiaaOwnE
import Derived.Test.YtfillcjpdnpaiaaExprW
import Derived.Test.YtfillcjpdnpaiaaRowG
import Derived.Deep.RegionHeld3
namespace Go.Proofs.Ytfillcjpdnpaiaa
open Go Go.RowKit

/-- An expression drawn: where its kids lie. -/
def DrawnE (m K r p : Nat) (w : World) (e : Ending) (w' : World) : Prop := ∃ x : Ex × Option Addr × Nat, e = .returned (.agg #[.int .i64 x.1.kind, .int .i64 x.1.col, .bool x.1.val.null, .int .i64 x.1.val.n, .slice x.2.1 x.1.kids.length x.2.2]) ∧ KidsOk m (fromB w' w.heap.size) x ∧ exSm m x.1.kids ∧ x.1.kids.length ≤ 2 ∧ Drawn K r p w w'
def kpick : Nat → Nat
  | 0 => 4
  | d + 1 => 5 + 2 * kpick d
theorem kpick_pos (d : Nat) : 4 ≤ kpick d := by cases d <;> simp [kpick] <;> omega
theorem leaf_ok {m : Nat} {mem : Mv} {k c : Int} {v : V} : KidsOk m mem (Ex.mk k c v [], none, 0) := ⟨RdSl.nil, by simp [Ex.kids], by simp [Ex.kids]⟩
theorem exSm_nil (m : Nat) : exSm m [] := by
  cases m with
  | zero => simp [exSm]
  | succ m => exact ⟨by simp, fun i hi => by simp at hi⟩
theorem constantE (b : Bool) (n : Int) (w : World) : Calls Try.prog 69 #[.agg #[.bool b, .int .i64 n]] w fun r w' => r = .returned (.agg #[.int .i64 2, .int .i64 0, .bool b, .int .i64 n, .slice none 0 0]) ∧ Fr w w' := by
  go_enter Try.func69, Try.ntmps69
  go_wp2
  exact bodyPost_ret (v := .agg #[.int .i64 2, .int .i64 0, .bool b, .int .i64 n, .slice none 0 0]) (by simp [results, Try.results69, go_sem]) rfl ⟨rfl, by (repeat (first | with_reducible exact Fr.refl _ | with_reducible assumption | with_reducible refine Fr.alloc ?_ _ | with_reducible refine Fr.drew ?_ | with_reducible refine Fr.drewN ?_ _ | (with_reducible refine Fr.setNew2 ?_ ?_ _; · (simp <;> omega)) | with_reducible refine Fr.trans ?_ (by assumption)))⟩
theorem nk_mid {k : Int} (h1 : 3 ≤ k) (h2 : k ≤ 11) : ∃ N : Nat, (1 ≤ N ∧ N ≤ 2) ∧ nk k = N := by
  unfold nk
  rw [if_neg (by omega)]
  by_cases h : k = 10 ∨ k = 11
  · exact ⟨1, by omega, by rw [if_pos h]; rfl⟩
  · exact ⟨2, by omega, by rw [if_neg h, if_pos (by omega)]; rfl⟩
/-- The loop that draws the kids: k are drawn, q, laid in the row v. -/
structure ExInv (d wd r p : Nat) (w : World) (g9 N : Nat) (kd : Int) (wr : World) (k p' : Nat) (q : List (Ex × Option Addr × Nat)) (v : Value) (b1 : Nat) : Prop where
  le : k ≤ N
  len : q.length = k
  p0 : k = 0 → p' ≤ p + 1
  p1 : k = 1 → p' ≤ p + 1 + kpick d
  p2 : k = 2 → p' ≤ p + 1 + 2 * kpick d
  rdr : Rdr wr r p'
  ch : Ch (· = r) w wr
  blk : Blk wr g9 33 #[.int .i64 kd, .int .i64 0, .bool false, .int .i64 0, v]
  res : Blk wr w.heap.size 33 #[.int .i64 0, .int .i64 0, .bool false, .int .i64 0, .slice none 0 0]
  own : wr.ownsRow b1 33 5 v k (q.flatMap cellsE)
  lo : g9 + 1 ≤ b1
  hi : b1 ≤ wr.heap.size
  kids : ∀ x ∈ q, KidsOk d (fromB wr (g9 + 1)) x
  kids1 : k ≤ 1 → ∀ x ∈ q, KidsOk d (win wr (g9 + 1) b1) x
  small : ∀ x ∈ q, exSm d x.1.kids
  nil : k = 0 → v = .slice none 0 0
theorem ExInv.c4 {d wd r p : Nat} {w : World} {g9 N : Nat} {kd : Int} {wr : World} {k p' : Nat} {q : List (Ex × Option Addr × Nat)} {v : Value} {b1 : Nat} (h : ExInv d wd r p w g9 N kd wr k p' q v b1) : wr.cell? ⟨g9, 4, none⟩ = some v := h.blk.cell 4
theorem ExInv.pb {d wd r p : Nat} {w : World} {g9 N : Nat} {kd : Int} {wr : World} {k p' : Nat} {q : List (Ex × Option Addr × Nat)} {v : Value} {b1 : Nat} (h : ExInv d wd r p w g9 N kd wr k p' q v b1) (hN : N ≤ 2) (hk : k < N) (hp : p + kpick (d + 1) ≤ 500000) : p' + kpick d ≤ 500000 := by
  have e : kpick (d + 1) = 5 + 2 * kpick d := rfl
  rcases (by omega : k = 0 ∨ k = 1) with h0 | h0
  · have := h.p0 h0; omega
  · have := h.p1 h0; omega
theorem ExInv.row {d wd r p : Nat} {w : World} {g9 N : Nat} {kd : Int} {wr : World} {k p' : Nat} {q : List (Ex × Option Addr × Nat)} {v : Value} {b1 : Nat} (h : ExInv d wd r p w g9 N kd wr k p' q v b1) : ∀ blk, v.ownBlock = some blk → k ≠ 0 ∧ b1 ≤ blk ∧ blk < wr.heap.size := by
  intro blk hb
  refine ⟨fun h0 => ?_, own_blk h.own blk hb, ?_⟩
  · rw [h.nil h0] at hb; cases hb
  · rcases h.own.2 with ⟨rfl, _⟩ | ⟨g, cap, cur, rfl, _, hh, _⟩
    · cases hb
    · simp only [Value.ownBlock, Option.some.injEq] at hb
      subst hb
      exact Blk.lt (t := 33) (cs := cur) hh
theorem ExInv.own2 {d wd r p : Nat} {w : World} {g9 N : Nat} {kd : Int} {wr : World} {k p' : Nat} {q : List (Ex × Option Addr × Nat)} {v : Value} {b1 : Nat} (h : ExInv d wd r p w g9 N kd wr k p' q v b1) (hr : r < w.heap.size) (hwg : w.heap.size < g9) {w3 : World} (hc : Ch (· = r) wr w3) : ∃ b2, w3.ownsRow b2 33 5 v k (q.flatMap cellsE) ∧ (k = 0 ∧ b2 = w3.heap.size ∨ k ≠ 0 ∧ b2 = b1) ∧ b2 ≤ w3.heap.size := by
  by_cases h0 : k = 0
  · refine ⟨w3.heap.size, ?_, .inl ⟨h0, rfl⟩, Nat.le_refl _⟩
    have hq : q = [] := List.eq_nil_of_length_eq_zero (by rw [h.len, h0])
    rw [h.nil h0, hq, h0]
    exact own_nil
  · have := hc.size
    have := h.lo
    have := h.hi
    exact ⟨b1, own_ch h.own hc (by omega), .inr ⟨h0, rfl⟩, by omega⟩
theorem ExInv.blk5 {d wd r p : Nat} {w : World} {g9 N : Nat} {kd : Int} {wr : World} {k p' : Nat} {q : List (Ex × Option Addr × Nat)} {v : Value} {b1 : Nat} (h : ExInv d wd r p w g9 N kd wr k p' q v b1) (hrg : r < w.heap.size) (hwg : w.heap.size < g9) {w3 w5 : World} (hc3 : Ch (· = r) wr w3) {cs : Array Value} {t : TypeId} (hg5 : (w3.alloc (.cells cs t)).grownBy w5 v.ownBlock) : Blk w5 g9 33 #[.int .i64 kd, .int .i64 0, .bool false, .int .i64 0, v] := by
  have s3 := hc3.size
  have s4 : w3.heap.size ≤ (w3.alloc (.cells cs t)).heap.size := ((Fr.refl w3).alloc _).size
  have g9lt : g9 < wr.heap.size := h.blk.lt
  have hlo := h.lo
  exact (hg5.block g9 (by omega) (fun e => by have := h.row g9 e.symm; omega)).trans ((h.blk.ch hc3 (by omega)).alloc _)
theorem ExInv.step {d wd r p : Nat} {w : World} {g9 N : Nat} {kd : Int} {wr : World} {k p' : Nat} {q : List (Ex × Option Addr × Nat)} {v : Value} {b1 : Nat} (h : ExInv d wd r p w g9 N kd wr k p' q v b1) (hN : N ≤ 2) (hk : k < N) (hrg : r < w.heap.size) (hwg : w.heap.size < g9) {w3 w5 : World} {x : Ex × Option Addr × Nat} {p2 : Nat} (hc3 : Ch (· = r) wr w3) (hr3 : Rdr w3 r p2) (hp2 : p2 ≤ p' + kpick d) (hx : KidsOk d (fromB w3 wr.heap.size) x) (hxs : exSm d x.1.kids) {b2 : Nat} (hb2 : k = 0 ∧ b2 = w3.heap.size ∨ k ≠ 0 ∧ b2 = b1) {cs : Array Value} {t : TypeId} {v5 : Value}
    (hO5 : w5.ownsRow b2 33 5 v5 (k + 1) (q.flatMap cellsE ++ cellsE x)) (hg5 : (w3.alloc (.cells cs t)).grownBy w5 v.ownBlock) : ExInv d wd r p w g9 N kd (w5.setCell ⟨g9, 4, none⟩ v5) (k + 1) p2 (q ++ [x]) v5 b2 := by
  have hrow := h.row
  have hlo := h.lo
  have hhi := h.hi
  have s3 := hc3.size
  have s4 : w3.heap.size ≤ (w3.alloc (.cells cs t)).heap.size := ((Fr.refl w3).alloc _).size
  have s5 := hg5.size
  have hcs : Ch (· = g9) w5 (w5.setCell ⟨g9, 4, none⟩ v5) := chSet (Ch.refl w5)
  have s6 := hcs.size
  have hwin : ∀ hi, hi ≤ w3.heap.size → (∀ blk, v.ownBlock = some blk → hi ≤ blk) → Mle (win w3 (g9 + 1) hi) (win (w5.setCell ⟨g9, 4, none⟩ v5) (g9 + 1) hi) := fun hi h1 h2 =>
    ((win_ch (r := r) ((Fr.refl w3).alloc (.cells cs t)).ch (by omega) h1).trans (win_grown hg5 h2 (by omega))).trans (win_ch (r := g9) hcs (by omega) (by omega))
  have g9lt : g9 < wr.heap.size := h.blk.lt
  have hb9 : Blk w5 g9 33 #[.int .i64 kd, .int .i64 0, .bool false, .int .i64 0, v] := (hg5.block g9 (by omega) (fun e => by have := hrow g9 e.symm; omega)).trans ((h.blk.ch hc3 (by omega)).alloc _)
  have hbr : Blk w5 w.heap.size 33 #[.int .i64 0, .int .i64 0, .bool false, .int .i64 0, .slice none 0 0] := (hg5.block w.heap.size (by omega) (fun e => by have := hrow w.heap.size e.symm; omega)).trans ((h.res.ch hc3 (by omega)).alloc _)
  have hb2lo : g9 + 1 ≤ b2 ∧ b2 ≤ w3.heap.size := by rcases hb2 with ⟨_, e⟩ | ⟨_, e⟩ <;> omega
  refine ⟨by omega, by simp [h.len], fun e => by omega, fun e => by have := h.p0 (by omega); omega, fun e => by have := h.p1 (by omega); omega, ?_, ?_, ?_, hbr.far (by simp; omega) _, ?_, hb2lo.1, by omega, ?_, ?_, ?_, fun e => by omega⟩
  · exact ((hr3.alloc _).grown hg5 (fun blk hb => by have := hrow blk hb; omega)).set (q := ⟨g9, 4, none⟩) (by simp; omega) _
  · exact (((h.ch.trans hc3).alloc _).grown hg5 (fun blk hb => by have := hrow blk hb; omega)).setNew (p := ⟨g9, 4, none⟩) (by simp; omega) _
  · exact hb9.set_ 4 v5
  · have := own_ch hO5 hcs (by omega)
    simpa using this
  · intro y hy
    rcases List.mem_append.1 hy with hy | hy
    · have h0 : k ≠ 0 := fun e => by rw [List.eq_nil_of_length_eq_zero (h.len.trans e)] at hy; simp at hy
      have := (h.kids1 (by omega) y hy).mono (win_ch hc3 (by omega) (by omega))
      exact (this.mono (hwin b1 (by omega) (fun blk hb => (hrow blk hb).2.1))).mono win_le
    · have hyx : y = x := by simpa using hy
      subst hyx
      have m1 := from_grown (lo := wr.heap.size) hg5 (fun blk hb => (hrow blk hb).2.2)
      have m2 := Ch.mle_from (lo := wr.heap.size) hcs (fun k hk => by omega)
      exact (((hx.mono (((Fr.refl w3).alloc _).mle_from _)).mono m1).mono m2).mono (fromB_lo (by omega))
  · intro hk1 y hy
    have h0 : k = 0 := by omega
    rw [List.eq_nil_of_length_eq_zero (h.len.trans h0)] at hy
    have hyx : y = x := by simpa using hy
    subst hyx
    have e2 : b2 = w3.heap.size := by rcases hb2 with ⟨_, e⟩ | ⟨e, _⟩ <;> omega
    rw [e2]
    exact ((hx.mono (fromB_lo (show g9 + 1 ≤ wr.heap.size by omega))).mono from_win).mono (hwin _ (Nat.le_refl _) (fun blk hb => absurd h0 (hrow blk hb).1))
  · intro y hy
    rcases List.mem_append.1 hy with hy | hy
    · exact h.small y hy
    · have hyx : y = x := by simpa using hy
      subst hyx; exact hxs
theorem own_cap {w : World} {base e sz n : Nat} {v : Value} {xs : List Value} (h : w.ownsRow base e sz v n xs) : ∃ A cap, v = .slice A n cap ∧ n ≤ cap := by
  rcases h.2 with ⟨rfl, h0⟩ | ⟨g, cap, cur, hv, hg, hh, hnc, _⟩
  · exact ⟨none, 0, by rw [h0], by omega⟩
  · exact ⟨_, cap, hv, hnc⟩
theorem ExInv.fin {d wd r p : Nat} {w : World} {g9 N : Nat} {kd : Int} {wr : World} {k p' : Nat} {q : List (Ex × Option Addr × Nat)} {v : Value} {b1 : Nat} (h : ExInv d wd r p w g9 N kd wr k p' q v b1) (hk : k = N) (hN : N ≤ 2) : ∃ A cap, v = .slice A (q.map (·.1)).length cap ∧ KidsOk (d + 1) (fromB wr (g9 + 1)) (Ex.mk kd 0 ⟨false, 0⟩ (q.map (·.1)), A, cap) ∧ exSm (d + 1) (q.map (·.1)) ∧ (q.map (·.1)).length ≤ 2 := by
  obtain ⟨A, cap, rfl, hc⟩ := own_cap h.own
  have hlo := h.lo
  have e : (q.map (·.1)).length = k := by rw [List.length_map, h.len]
  have hR := own_E (m := d) (own_base (base' := g9 + 1) h.own (by omega)) h.len.symm (fun x hx => h.kids x hx)
  refine ⟨A, cap, by rw [e], ⟨hR, ?_, ?_⟩, exSm_two (by omega) (fun x hx => ?_), by omega⟩
  · show (q.map (·.1)).length ≤ maxLen
    unfold maxLen; omega
  · show (q.map (·.1)).length ≤ cap
    omega
  · obtain ⟨y, hy, rfl⟩ := List.mem_map.1 hx
    exact h.small y hy
attribute [-go_sem] Builtin.append_
set_option maxRecDepth 100000 in
set_option maxHeartbeats 2000000 in
theorem randomExpr (d wd : Nat) (r p : Nat) (w : World) (hr : Rdr w r p) (hp : p + kpick d ≤ 500000) (h1 : 1 ≤ wd) (h7 : wd ≤ 7) (hd : d ≤ 100) :
    Calls Try.prog 70 #[.pointer (some ⟨r, 0, none⟩), .int .i64 wd, .int .i64 d] w (DrawnE d (kpick d) r p w) := by
  induction d generalizing r p w with
  | zero =>
    have hk := kpick_pos 0
    have hlt := hr.lt
    have BR0 := Blk.new w 33 #[.int .i64 0, .int .i64 0, .bool false, .int .i64 0, .slice none 0 0]
    have hr0 := hr.alloc (.cells #[.int .i64 0, .int .i64 0, .bool false, .int .i64 0, .slice none 0 0] 33)
    have hC0 : Ch (· = r) w (w.alloc (.cells #[.int .i64 0, .int .i64 0, .bool false, .int .i64 0, .slice none 0 0] 33)) := (Ch.refl w).alloc _
    clear hr
    go_enter Try.func70, Try.ntmps70
    go_wp2_with fail
    refine (pick _ _ _ _ hr0 (by omega) (by omega)).mono ?_
    rintro e w1 ⟨x, rfl, hx, hr1, hc1⟩
    have hC1 := hC0.trans hc1
    have BR1 := BR0.ch hc1 (by omega)
    clear hr0
    clear hx
    go_wp2_with fail
    refine (pick _ _ _ _ hr1 (by omega) (by omega)).mono ?_
    rintro e w2 ⟨y, rfl, hy, hr2, hc2⟩
    have hC2 := hC1.trans hc2
    have BR2 := BR1.ch hc2 (by omega)
    clear hr1 hy
    cases hpos : decide (0 < y)
    · go_wp2_with fail
      refine (randomValue _ _ _ hr2 (by omega)).mono ?_
      rintro e w3 ⟨b, n, rfl, _, p3, hp3, hr3, hc3⟩
      have hC3 := hC2.trans hc3
      have BR3 := BR2.ch hc3 (by omega)
      go_wp2_with fail
      refine (constantE _ _ _).mono ?_
      rintro e w4 ⟨rfl, b4⟩
      have hC4 := hC3.trans b4.ch
      have hr4 := hr3.fr b4
      have hs4 := hC4.size
      obtain ⟨c0, c1, c2, c3, c4, f0, f1, f2, f3, f4⟩ := (BR3.fr b4).five
      go_wp2
      exact bodyPost_ret (v := .agg #[.int .i64 2, .int .i64 0, .bool b, .int .i64 n, .slice none 0 0]) (by simp [results, Try.results70, go_sem, c0, c1, c2, c3, c4]) rfl ⟨(.mk 2 0 ⟨b, n⟩ [], none, 0), rfl, leaf_ok, exSm_nil _, by simp [Ex.kids], p3, by omega, by (repeat (first | with_reducible assumption | with_reducible refine Rdr.alloc ?_ _ | with_reducible refine Rdr.drew ?_ | (with_reducible refine Rdr.set2 ?_ ?_ _; · (simp <;> omega)))), by (repeat (first | with_reducible exact Ch.refl _ | with_reducible assumption | with_reducible refine Ch.alloc ?_ _ | with_reducible refine Ch.drew ?_ | (with_reducible refine Ch.setNew2 ?_ ?_ _; · (simp <;> omega)) | with_reducible refine Ch.trans ?_ (by assumption)))⟩
    · go_wp2_with fail
      refine (pick _ _ _ _ hr2 (by omega) (by omega)).mono ?_
      rintro e w3 ⟨z, rfl, hz, hr3, hc3⟩
      have hC3 := hC2.trans hc3
      have hs3 := hC3.size
      clear hz
      obtain ⟨c0, c1, c2, c3, c4, f0, f1, f2, f3, f4⟩ := (BR2.ch hc3 (by omega)).five
      go_wp2
      exact bodyPost_ret (v := .agg #[.int .i64 1, .int .i64 z, .bool false, .int .i64 0, .slice none 0 0]) (by simp [results, Try.results70, go_sem, c0, c1, c2, c3, c4]) rfl ⟨(.mk 1 z ⟨false, 0⟩ [], none, 0), rfl, leaf_ok, exSm_nil _, by simp [Ex.kids], p + 3, by omega, by (repeat (first | with_reducible assumption | with_reducible refine Rdr.alloc ?_ _ | with_reducible refine Rdr.drew ?_ | (with_reducible refine Rdr.set2 ?_ ?_ _; · (simp <;> omega)))), by (repeat (first | with_reducible exact Ch.refl _ | with_reducible assumption | with_reducible refine Ch.alloc ?_ _ | with_reducible refine Ch.drew ?_ | (with_reducible refine Ch.setNew2 ?_ ?_ _; · (simp <;> omega)) | with_reducible refine Ch.trans ?_ (by assumption)))⟩
  | succ d ih =>
    have hk := kpick_pos (d + 1)
    have e0 : ((d : Int) + 1 == 0) = false := by simp; omega
    have hlt := hr.lt
    have BR0 := Blk.new w 33 #[.int .i64 0, .int .i64 0, .bool false, .int .i64 0, .slice none 0 0]
    have hr0 := hr.alloc (.cells #[.int .i64 0, .int .i64 0, .bool false, .int .i64 0, .slice none 0 0] 33)
    have hC0 : Ch (· = r) w (w.alloc (.cells #[.int .i64 0, .int .i64 0, .bool false, .int .i64 0, .slice none 0 0] 33)) := (Ch.refl w).alloc _
    clear hr
    go_enter Try.func70, Try.ntmps70
    go_wp2_with fail
    refine (pick _ _ _ _ hr0 (by omega) (by omega)).mono ?_
    rintro e w1 ⟨x, rfl, hx, hr1, hc1⟩
    have hC1 := hC0.trans hc1
    have BR1 := BR0.ch hc1 (by omega)
    clear hr0
    cases hk10 : decide ((10 : Int) < (x : Int))
    rotate_left
    · clear hx
      go_wp2_with fail
      refine (pick _ _ _ _ hr1 (by omega) (by omega)).mono ?_
      rintro e w2 ⟨y, rfl, hy, hr2, hc2⟩
      have hC2 := hC1.trans hc2
      have BR2 := BR1.ch hc2 (by omega)
      clear hr1 hy
      cases hpos : decide (0 < y)
      · go_wp2_with fail
        refine (randomValue _ _ _ hr2 (by omega)).mono ?_
        rintro e w3 ⟨b, n, rfl, _, p3, hp3, hr3, hc3⟩
        have hC3 := hC2.trans hc3
        have BR3 := BR2.ch hc3 (by omega)
        go_wp2_with fail
        refine (constantE _ _ _).mono ?_
        rintro e w4 ⟨rfl, b4⟩
        have hC4 := hC3.trans b4.ch
        have hr4 := hr3.fr b4
        have hs4 := hC4.size
        obtain ⟨c0, c1, c2, c3, c4, f0, f1, f2, f3, f4⟩ := (BR3.fr b4).five
        go_wp2
        exact bodyPost_ret (v := .agg #[.int .i64 2, .int .i64 0, .bool b, .int .i64 n, .slice none 0 0]) (by simp [results, Try.results70, go_sem, c0, c1, c2, c3, c4]) rfl ⟨(.mk 2 0 ⟨b, n⟩ [], none, 0), rfl, leaf_ok, exSm_nil _, by simp [Ex.kids], p3, by omega, by (repeat (first | with_reducible assumption | with_reducible refine Rdr.alloc ?_ _ | with_reducible refine Rdr.drew ?_ | (with_reducible refine Rdr.set2 ?_ ?_ _; · (simp <;> omega)))), by (repeat (first | with_reducible exact Ch.refl _ | with_reducible assumption | with_reducible refine Ch.alloc ?_ _ | with_reducible refine Ch.drew ?_ | (with_reducible refine Ch.setNew2 ?_ ?_ _; · (simp <;> omega)) | with_reducible refine Ch.trans ?_ (by assumption)))⟩
      · go_wp2_with fail
        refine (pick _ _ _ _ hr2 (by omega) (by omega)).mono ?_
        rintro e w3 ⟨z, rfl, hz, hr3, hc3⟩
        have hC3 := hC2.trans hc3
        have hs3 := hC3.size
        clear hz
        obtain ⟨c0, c1, c2, c3, c4, f0, f1, f2, f3, f4⟩ := (BR2.ch hc3 (by omega)).five
        go_wp2
        exact bodyPost_ret (v := .agg #[.int .i64 1, .int .i64 z, .bool false, .int .i64 0, .slice none 0 0]) (by simp [results, Try.results70, go_sem, c0, c1, c2, c3, c4]) rfl ⟨(.mk 1 z ⟨false, 0⟩ [], none, 0), rfl, leaf_ok, exSm_nil _, by simp [Ex.kids], p + 3, by omega, by (repeat (first | with_reducible assumption | with_reducible refine Rdr.alloc ?_ _ | with_reducible refine Rdr.drew ?_ | (with_reducible refine Rdr.set2 ?_ ?_ _; · (simp <;> omega)))), by (repeat (first | with_reducible exact Ch.refl _ | with_reducible assumption | with_reducible refine Ch.alloc ?_ _ | with_reducible refine Ch.drew ?_ | (with_reducible refine Ch.setNew2 ?_ ?_ _; · (simp <;> omega)) | with_reducible refine Ch.trans ?_ (by assumption)))⟩
    have hx13 : x < 13 := by omega
    have hx10 : x ≤ 10 := by have := of_decide_eq_false hk10; omega
    clear hx
    have ed : IntKind.i64.wrap (d : Int) = d := IntWalk.i64_in _ (by omega)
    have IH := hid (fun r p w h1 h2 => ih r p w h1 h2 (by omega))
    clear ih
    obtain ⟨kd, hkd, ekd⟩ : ∃ kd : Int, (3 ≤ kd ∧ kd ≤ 11) ∧ 3 + (x : Int) % 9 = kd := ⟨_, by omega, rfl⟩
    obtain ⟨N, hN, eN⟩ : ∃ N : Nat, (1 ≤ N ∧ N ≤ 2) ∧ nk kd = N := nk_mid hkd.1 hkd.2
    have HKD := hid hkd
    clear hkd
    have G0 := Blk.new w1 33 #[.int .i64 kd, .int .i64 0, .bool false, .int .i64 0, .slice none 0 0]
    have hr2 := hr1.alloc (.cells #[.int .i64 kd, .int .i64 0, .bool false, .int .i64 0, .slice none 0 0] 33)
    have hC2 : Ch (· = r) w (w1.alloc (.cells #[.int .i64 kd, .int .i64 0, .bool false, .int .i64 0, .slice none 0 0] 33)) := hC1.alloc _
    have BR2 := BR1.alloc (.cells #[.int .i64 kd, .int .i64 0, .bool false, .int .i64 0, .slice none 0 0] 33)
    have hs1 := hC1.size
    have hg9 : w.heap.size < w1.heap.size := BR1.lt
    clear hr1 BR1 hC1
    go_wp2_with fail
    generalize w1.alloc (.cells #[.int .i64 kd, .int .i64 0, .bool false, .int .i64 0, .slice none 0 0] 33) = W2 at G0 hr2 hC2 BR2 ⊢
    have hs2 := G0.lt
    go_loopw [10] (fun i wr => ∃ (k p' : Nat) (q : List (Ex × Option Addr × Nat)) (v : Value) (b1 : Nat), i = .int .i64 k ∧ Hid (ExInv d wd r p w w1.heap.size N kd wr k p' q v b1)) (fun i _ => N - (intOf i).toNat)
    case atStart => exact ⟨0, p + 1, [], .slice none 0 0, w1.heap.size + 1, rfl, hid ⟨by omega, rfl, fun _ => by omega, fun h => by omega, fun h => by omega, hr2, hC2, G0, BR2, own_nil, Nat.le_refl _, by omega, fun x hx => by simp at hx, fun _ x hx => by simp at hx, fun x hx => by simp at hx, fun _ => rfl⟩⟩
    case round =>
      obtain ⟨k, p', q, v, b1, rfl, INV⟩ := hrel
      have hkN := INV.out.le
      have c4 := INV.out.c4
      by_cases hlt' : k < N
      · have hkl : decide ((k : Int) < (N : Int)) = true := by simp; omega
        have hp' := INV.out.pb hN.2 hlt' hp
        have hrr := INV.out.rdr
        go_wp2_with (go_at_call 86; refine (kidsOf _ _).mono ?_; rintro r w' ⟨rfl, rfl⟩)
        first | (go_region_with (first
          | (go_at_call 70; refine (IH.out r p' _ hrr.drew hp').mono ?_; rintro e w3 ⟨x3, rfl, hx3, hxs3, hxl3, p3, hp3, hr3, hc3⟩; obtain ⟨b2, hO3, hb2, hb3⟩ := INV.out.own2 hlt hg9 ((Fr.refl wr).drew.ch.trans hc3); have B3 := INV.out.blk.ch ((Fr.refl wr).drew.ch.trans hc3) (by omega); have c4' : w3.cell? ⟨w1.heap.size, 4, none⟩ = some v := B3.cell 4; have c4'' : (w3.alloc (.cells #[.int .i64 x3.1.kind, .int .i64 x3.1.col, .bool x3.1.val.null, .int .i64 x3.1.val.n, .slice x3.2.1 x3.1.kids.length x3.2.2] 33)).cell? ⟨w1.heap.size, 4, none⟩ = some v := (B3.alloc _).cell 4; have hk1000 : k ≤ 1000 := by omega)
          | (refine upon_appE b2 _ _ _ (hO3.alloc _) hk1000 (Nat.le_trans hb3 ((Fr.refl w3).alloc _).size) w3.heap.size x3 (blk_new rfl) ?_; intro v5 w5 hO5 hg5; obtain ⟨A5, cap5, rfl⟩ := own_form hO5; have B5 := INV.out.blk5 hlt hg9 ((Fr.refl wr).drew.ch.trans hc3) hg5; have s4 : w5.cell? ⟨w1.heap.size, 4, none⟩ = some v := B5.cell 4; have f4 := B5.frozen 4))) | fail
        all_goals have INV' := hid (INV.out.step hN.2 hlt' hlt hg9 ((Fr.refl wr).drew.ch.trans hc3) hr3 hp3 hx3 hxs3 hb2 hO5 hg5)
        all_goals clear c4 c4' c4'' s4 f4 hO5 hO3 hb2
        all_goals go_wp2
        all_goals go_roundw
        all_goals first
          | exact ⟨k + 1, _, _, _, _, by go_num, INV'⟩
          | (simp [intOf]; omega)
      · obtain rfl : k = N := by omega
        have hkl : decide ((k : Int) < (k : Int)) = false := by simp
        obtain ⟨A, cap, rfl, hK, hS, hL⟩ := INV.out.fin rfl hN.2
        obtain ⟨a0, a1, a2, a3, a4, _⟩ := INV.out.blk.five
        obtain ⟨z0, z1, z2, z3, z4, f0, f1, f2, f3, f4⟩ := INV.out.res.five
        have HF := hid (And.intro hK (And.intro hS hL))
        have hpe : kpick (d + 1) = 5 + 2 * kpick d := rfl
        have hpf : p' ≤ p + kpick (d + 1) := by
          rcases (by omega : k = 1 ∨ k = 2) with h0 | h0
          · have := INV.out.p1 h0; omega
          · have := INV.out.p2 h0; omega
        have HR := hid INV.out.rdr
        have HC := hid INV.out.ch
        clear hK hS hL c4
        go_wp2_with (go_at_call 86; refine (kidsOf _ _).mono ?_; rintro r w' ⟨rfl, rfl⟩)
        have hr9 := HR.out
        have hC9 := HC.out
        have hs9 := hC9.size
        exact bodyPost_ret (v := .agg #[.int .i64 kd, .int .i64 0, .bool false, .int .i64 0, .slice A (q.map (·.1)).length cap]) (by simp [results, Try.results70, go_sem, z0, z1, z2, z3, z4]) rfl ⟨(Ex.mk kd 0 ⟨false, 0⟩ (q.map (fun x : Ex × Option Addr × Nat => x.1)), A, cap), rfl, HF.out.1.mono ((Ch.mle_from (chSet (chSet (chSet (chSet (chSet (Ch.refl _)))))) (fun k hk => by omega)).trans (fromB_lo (by omega))), HF.out.2.1, HF.out.2.2, p', hpf, by (repeat (first | with_reducible assumption | with_reducible refine Rdr.alloc ?_ _ | with_reducible refine Rdr.drew ?_ | (with_reducible refine Rdr.set2 ?_ ?_ _; · (simp <;> omega)))), by (repeat (first | with_reducible exact Ch.refl _ | with_reducible assumption | with_reducible refine Ch.alloc ?_ _ | with_reducible refine Ch.drew ?_ | (with_reducible refine Ch.setNew2 ?_ ?_ _; · (simp <;> omega)) | with_reducible refine Ch.trans ?_ (by assumption)))⟩
end Go.Proofs.Ytfillcjpdnpaiaa
