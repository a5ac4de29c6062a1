/- Walks of the generators of conditions: condition. -/
import Derived.Test.YtfillcjpdnpaiaaExprG
import Derived.Test.YtfillcjpdnpaiaaConjS
import Derived.Deep.RegionHeld3
namespace Go.Proofs.Ytfillcjpdnpaiaa
open Go Go.RowKit

def kcon : Nat → Nat
  | 0 => 40
  | d + 1 => 40 + kcon d
theorem kcon_le (d : Nat) : 40 ≤ kcon d := by cases d <;> simp only [kcon] <;> omega
/-- A literal of expressions without kids or with kids in memory, just laid. -/
theorem litOne {m lo : Nat} {W : World} {x : Ex × Option Addr × Nat} (hx : KidsOk m (fromB W lo) x) (hl : lo ≤ W.heap.size) :
    RdSl (rdEx (m + 1)) (fromB (W.alloc (.cells #[.int .i64 x.1.kind, .int .i64 x.1.col, .bool x.1.val.null, .int .i64 x.1.val.n, .slice x.2.1 x.1.kids.length x.2.2] 33)) lo) 5 (some ⟨W.heap.size, 0, none⟩) [x.1] :=
  lit_ex (w := W) (t := 33) (xs := [x]) (win_le.trans (fromB_lo hl)) (fun z hz => by
    simp only [List.mem_cons, List.not_mem_nil, or_false] at hz
    subst hz
    exact hx.mono (((Fr.refl W).alloc _).mle_from _))
theorem litTwo {m lo : Nat} {W : World} {x y : Ex × Option Addr × Nat} (hx : KidsOk m (fromB W lo) x) (hy : KidsOk m (fromB W lo) y) (hl : lo ≤ W.heap.size) :
    RdSl (rdEx (m + 1)) (fromB (W.alloc (.cells #[.int .i64 x.1.kind, .int .i64 x.1.col, .bool x.1.val.null, .int .i64 x.1.val.n, .slice x.2.1 x.1.kids.length x.2.2, .int .i64 y.1.kind, .int .i64 y.1.col, .bool y.1.val.null, .int .i64 y.1.val.n, .slice y.2.1 y.1.kids.length y.2.2] 33)) lo) 5 (some ⟨W.heap.size, 0, none⟩) [x.1, y.1] :=
  lit_ex (w := W) (t := 33) (xs := [x, y]) (win_le.trans (fromB_lo hl)) (fun z hz => by
    simp only [List.mem_cons, List.not_mem_nil, or_false] at hz
    rcases hz with rfl | rfl
    · exact hx.mono (((Fr.refl W).alloc _).mle_from _)
    · exact hy.mono (((Fr.refl W).alloc _).mle_from _))
theorem kids_leG {m n : Nat} (hmn : m ≤ n) {mem : Mv} {x : Ex × Option Addr × Nat} (h : KidsOk m mem x) : KidsOk n mem x := by
  induction hmn with
  | refl => exact h
  | step _ ih => exact kids_up ih
theorem exSm_rd : ∀ {m : Nat} {mem : Mv} {A : Option Addr} {xs : List Ex}, RdSl (rdEx m) mem 5 A xs → exSm m xs → exSm (m + 1) xs
  | 0, mem, A, xs, h, _ => by rw [h.ex0]; exact exSm_nil _
  | m + 1, mem, A, xs, h, hs => ⟨hs.1, fun i hi => by
    obtain ⟨b, o, B, c, _, _, _, _, _, _, hK, _⟩ := h.ex hi
    exact exSm_rd hK (hs.2 i hi)⟩
theorem rd_up {m n : Nat} (hmn : m ≤ n) {mem : Mv} {A : Option Addr} {xs : List Ex} (h : RdSl (rdEx m) mem 5 A xs) : RdSl (rdEx n) mem 5 A xs := fun hne => by
  obtain ⟨b, o, hA, hc⟩ := h hne
  exact ⟨b, o, hA, fun i hi => rdEx_le hmn (hc i hi)⟩
theorem exSm_to {m n : Nat} (hmn : m ≤ n) {mem : Mv} {A : Option Addr} {xs : List Ex} (h : RdSl (rdEx m) mem 5 A xs) (hs : exSm m xs) : exSm n xs := by
  induction hmn with
  | refl => exact hs
  | step hle ih => exact exSm_rd (rd_up hle h) ih
/-- The result, stored into its block. -/
theorem drawn_fin {m K r p p' : Nat} {w W : World} {x : Ex × Option Addr × Nat} (hr : Rdr W r p') (hp : p' ≤ p + K) (hC : Ch (· = r) w W) (hrw : r < w.heap.size) (hK : KidsOk m (fromB W (w.heap.size + 1)) x) (hs : exSm m x.1.kids) (hl : x.1.kids.length ≤ 2) :
    DrawnE m K r p w (.returned (.agg #[.int .i64 x.1.kind, .int .i64 x.1.col, .bool x.1.val.null, .int .i64 x.1.val.n, .slice x.2.1 x.1.kids.length x.2.2])) (((((W.setCell ⟨w.heap.size, 0, none⟩ (.int .i64 x.1.kind)).setCell ⟨w.heap.size, 1, none⟩ (.int .i64 x.1.col)).setCell ⟨w.heap.size, 2, none⟩ (.bool x.1.val.null)).setCell ⟨w.heap.size, 3, none⟩ (.int .i64 x.1.val.n)).setCell ⟨w.heap.size, 4, none⟩ (.slice x.2.1 x.1.kids.length x.2.2)) :=
  ⟨x, rfl, hK.mono ((Ch.mle_from (chSet (chSet (chSet (chSet (chSet (Ch.refl _)))))) (fun k hk => by omega)).trans (fromB_lo (by omega))), hs, hl, p', hp, by (repeat (first | with_reducible assumption | with_reducible refine Rdr.alloc ?_ _ | with_reducible refine Rdr.drew ?_ | (with_reducible refine Rdr.set2 ?_ ?_ _; · (simp <;> omega)))), by (repeat (first | with_reducible exact Ch.refl _ | with_reducible assumption | with_reducible refine Ch.alloc ?_ _ | with_reducible refine Ch.drew ?_ | (with_reducible refine Ch.setNew2 ?_ ?_ _; · (simp <;> omega)) | with_reducible refine Ch.trans ?_ (by assumption)))⟩
abbrev lf (k c n : Int) : Ex × Option Addr × Nat := (Ex.mk k c ⟨false, n⟩ [], none, 0)
/-- A tree of two leaves, its kids just laid. -/
theorem two_leaf {d lo g : Nat} {W : World} (k k1 c1 n1 k2 c2 n2 : Int) (hl : lo ≤ W.heap.size) (hg : g = W.heap.size) :
    KidsOk (d + 2) (fromB (W.alloc (.cells #[.int .i64 k1, .int .i64 c1, .bool false, .int .i64 n1, .slice none 0 0, .int .i64 k2, .int .i64 c2, .bool false, .int .i64 n2, .slice none 0 0] 33)) lo) (Ex.mk k 0 ⟨false, 0⟩ [Ex.mk k1 c1 ⟨false, n1⟩ [], Ex.mk k2 c2 ⟨false, n2⟩ []], some ⟨g, 0, none⟩, 2) := by
  subst hg
  exact kids_leG (m := 1) (by omega) ⟨litTwo (m := 0) (lo := lo) (W := W) (x := lf k1 c1 n1) (y := lf k2 c2 n2) leaf_ok leaf_ok hl, by show 2 ≤ maxLen; unfold maxLen; omega, Nat.le_refl _⟩
theorem sm_two {d : Nat} (k1 c1 n1 k2 c2 n2 : Int) : exSm (d + 2) [Ex.mk k1 c1 ⟨false, n1⟩ [], Ex.mk k2 c2 ⟨false, n2⟩ []] :=
  exSm_two (m := d + 1) (by simp) (fun x hx => by
    simp only [List.mem_cons, List.not_mem_nil, or_false] at hx
    rcases hx with rfl | rfl <;> exact exSm_nil _)
theorem not_leaf {d lo g : Nat} {W : World} (k1 c1 n1 : Int) (hl : lo ≤ W.heap.size) (hg : g = W.heap.size) :
    KidsOk (d + 2) (fromB ((W.alloc (.cells #[.int .i64 k1, .int .i64 c1, .bool false, .int .i64 n1, .slice none 0 0] 33)).alloc (.cells #[.int .i64 11, .int .i64 0, .bool false, .int .i64 0, .slice (some ⟨g, 0, none⟩) 1 1] 33)) lo) (Ex.mk 10 0 ⟨false, 0⟩ [Ex.mk 11 0 ⟨false, 0⟩ [Ex.mk k1 c1 ⟨false, n1⟩ []]], some ⟨g + 1, 0, none⟩, 1) := by
  subst hg
  have h1 := litOne (m := 0) (lo := lo) (W := W) (x := lf k1 c1 n1) leaf_ok hl
  have h2 := litOne (m := 1) (lo := lo) (W := W.alloc (.cells #[.int .i64 k1, .int .i64 c1, .bool false, .int .i64 n1, .slice none 0 0] 33)) (x := (Ex.mk 11 0 ⟨false, 0⟩ [Ex.mk k1 c1 ⟨false, n1⟩ []], some ⟨W.heap.size, 0, none⟩, 1)) ⟨h1, by show 1 ≤ maxLen; unfold maxLen; omega, Nat.le_refl _⟩ (by simp; omega)
  rw [World.size_alloc] at h2
  exact kids_leG (m := 2) (by omega) ⟨h2, by show 1 ≤ maxLen; unfold maxLen; omega, Nat.le_refl _⟩
theorem sm_not {d : Nat} (k1 c1 n1 : Int) : exSm (d + 2) [Ex.mk 11 0 ⟨false, 0⟩ [Ex.mk k1 c1 ⟨false, n1⟩ []]] :=
  exSm_two (m := d + 1) (by simp) (fun x hx => by
    simp only [List.mem_cons, List.not_mem_nil, or_false] at hx
    subst hx
    exact exSm_two (m := d) (by simp [Ex.kids]) (fun x hx => by
      simp only [Ex.kids, List.mem_cons, List.not_mem_nil, or_false] at hx
      subst hx; exact exSm_nil _))
theorem and_okA {d lo g : Nat} {W : World} {x : Ex × Option Addr × Nat} (k1 c1 n1 k2 c2 n2 : Int) (hx : KidsOk (d + 2) (fromB W lo) x) (hl : lo ≤ W.heap.size) (hg : g = W.heap.size) :
    KidsOk (d + 1 + 2) (fromB ((W.alloc (.cells #[.int .i64 k1, .int .i64 c1, .bool false, .int .i64 n1, .slice none 0 0, .int .i64 k2, .int .i64 c2, .bool false, .int .i64 n2, .slice none 0 0] 33)).alloc (.cells #[.int .i64 x.1.kind, .int .i64 x.1.col, .bool x.1.val.null, .int .i64 x.1.val.n, .slice x.2.1 x.1.kids.length x.2.2, .int .i64 6, .int .i64 0, .bool false, .int .i64 0, .slice (some ⟨g, 0, none⟩) 2 2] 33)) lo)
      (Ex.mk 8 0 ⟨false, 0⟩ [x.1, Ex.mk 6 0 ⟨false, 0⟩ [Ex.mk k1 c1 ⟨false, n1⟩ [], Ex.mk k2 c2 ⟨false, n2⟩ []]], some ⟨g + 1, 0, none⟩, 2) := by
  subst hg
  have h1 := two_leaf (d := d) (lo := lo) (W := W) 6 k1 c1 n1 k2 c2 n2 hl rfl
  have h2 := litTwo (m := d + 2) (lo := lo) (W := W.alloc (.cells #[.int .i64 k1, .int .i64 c1, .bool false, .int .i64 n1, .slice none 0 0, .int .i64 k2, .int .i64 c2, .bool false, .int .i64 n2, .slice none 0 0] 33)) (hx.mono (((Fr.refl W).alloc _).mle_from _)) h1 (by simp; omega)
  rw [World.size_alloc] at h2
  exact ⟨h2, by show 2 ≤ maxLen; unfold maxLen; omega, Nat.le_refl _⟩
theorem and_okB {d lo g g2 : Nat} {W : World} {x : Ex × Option Addr × Nat} (k1 c1 n1 k2 c2 n2 : Int) (hx : KidsOk (d + 2) (fromB W lo) x) (hy : KidsOk (d + 2) (fromB W lo) (Ex.mk 6 0 ⟨false, 0⟩ [Ex.mk k1 c1 ⟨false, n1⟩ [], Ex.mk k2 c2 ⟨false, n2⟩ []], some ⟨g2, 0, none⟩, 2)) (hl : lo ≤ W.heap.size) (hg : g = W.heap.size) :
    KidsOk (d + 1 + 2) (fromB (W.alloc (.cells #[.int .i64 x.1.kind, .int .i64 x.1.col, .bool x.1.val.null, .int .i64 x.1.val.n, .slice x.2.1 x.1.kids.length x.2.2, .int .i64 6, .int .i64 0, .bool false, .int .i64 0, .slice (some ⟨g2, 0, none⟩) 2 2] 33)) lo)
      (Ex.mk 8 0 ⟨false, 0⟩ [x.1, Ex.mk 6 0 ⟨false, 0⟩ [Ex.mk k1 c1 ⟨false, n1⟩ [], Ex.mk k2 c2 ⟨false, n2⟩ []]], some ⟨g, 0, none⟩, 2) := by
  subst hg
  exact ⟨litTwo (m := d + 2) hx hy hl, by show 2 ≤ maxLen; unfold maxLen; omega, Nat.le_refl _⟩
theorem sm_and {d : Nat} {x : Ex} (k1 c1 n1 k2 c2 n2 : Int) (hs : exSm (d + 2) x.kids) : exSm (d + 1 + 2) [x, Ex.mk 6 0 ⟨false, 0⟩ [Ex.mk k1 c1 ⟨false, n1⟩ [], Ex.mk k2 c2 ⟨false, n2⟩ []]] :=
  exSm_two (m := d + 2) (by simp) (fun y hy => by
    simp only [List.mem_cons, List.not_mem_nil, or_false] at hy
    rcases hy with rfl | rfl
    · exact hs
    · exact sm_two _ _ _ _ _ _)
theorem set5_mle {w7 : World} {g : Nat} (u0 u1 u2 u3 u4 : Value) : Mle (fromB w7 (g + 1)) (fromB (((((w7.setCell ⟨g, 0, none⟩ u0).setCell ⟨g, 1, none⟩ u1).setCell ⟨g, 2, none⟩ u2).setCell ⟨g, 3, none⟩ u3).setCell ⟨g, 4, none⟩ u4) g) :=
  (Ch.mle_from (lo := g + 1) (chSet (r := g) (chSet (r := g) (chSet (r := g) (chSet (r := g) (chSet (r := g) (Ch.refl w7)))))) (fun k hk => by omega)).trans (fromB_lo (by omega))
theorem size5 {w7 : World} {g : Nat} (u0 u1 u2 u3 u4 : Value) : (((((w7.setCell ⟨g, 0, none⟩ u0).setCell ⟨g, 1, none⟩ u1).setCell ⟨g, 2, none⟩ u2).setCell ⟨g, 3, none⟩ u3).setCell ⟨g, 4, none⟩ u4).heap.size = w7.heap.size := by simp
theorem and_drawnA {d K r p p7 : Nat} {w w7 : World} {x : Ex × Option Addr × Nat} (k1 c1 n1 k2 c2 n2 : Int) (u0 u1 u2 u3 u4 : Value) (hr : Rdr w7 r p7) (hp : p7 ≤ p + K) (hC : Ch (· = r) w w7) (hrw : r < w.heap.size) (hx : KidsOk (d + 2) (fromB w7 (w.heap.size + 1)) x) (hs : exSm (d + 2) x.1.kids) :
    DrawnE (d + 1 + 2) K r p w (.returned (.agg #[.int .i64 8, .int .i64 0, .bool false, .int .i64 0, .slice (some ⟨w7.heap.size + 1, 0, none⟩) 2 2])) (((((((w7.setCell ⟨w.heap.size, 0, none⟩ u0).setCell ⟨w.heap.size, 1, none⟩ u1).setCell ⟨w.heap.size, 2, none⟩ u2).setCell ⟨w.heap.size, 3, none⟩ u3).setCell ⟨w.heap.size, 4, none⟩ u4).alloc (.cells #[.int .i64 k1, .int .i64 c1, .bool false, .int .i64 n1, .slice none 0 0, .int .i64 k2, .int .i64 c2, .bool false, .int .i64 n2, .slice none 0 0] 33)).alloc (.cells #[.int .i64 x.1.kind, .int .i64 x.1.col, .bool x.1.val.null, .int .i64 x.1.val.n, .slice x.2.1 x.1.kids.length x.2.2, .int .i64 6, .int .i64 0, .bool false, .int .i64 0, .slice (some ⟨w7.heap.size, 0, none⟩) 2 2] 33)) := by
  have hsz := hC.size
  refine ⟨(Ex.mk 8 0 ⟨false, 0⟩ [x.1, Ex.mk 6 0 ⟨false, 0⟩ [Ex.mk k1 c1 ⟨false, n1⟩ [], Ex.mk k2 c2 ⟨false, n2⟩ []]], some ⟨w7.heap.size + 1, 0, none⟩, 2), rfl, and_okA (g := w7.heap.size) k1 c1 n1 k2 c2 n2 (hx.mono (set5_mle u0 u1 u2 u3 u4)) (by rw [size5]; exact hsz) (size5 u0 u1 u2 u3 u4).symm, sm_and k1 c1 n1 k2 c2 n2 hs, by simp [Ex.kids], p7, hp, by (repeat (first | with_reducible assumption | with_reducible refine Rdr.alloc ?_ _ | with_reducible refine Rdr.drew ?_ | (with_reducible refine Rdr.set2 ?_ ?_ _; · (simp <;> omega)))), by (repeat (first | with_reducible exact Ch.refl _ | with_reducible assumption | with_reducible refine Ch.alloc ?_ _ | with_reducible refine Ch.drew ?_ | (with_reducible refine Ch.setNew2 ?_ ?_ _; · (simp <;> omega)) | with_reducible refine Ch.trans ?_ (by assumption)))⟩
theorem and_drawnB {d K r p p7 g2 : Nat} {w w7 : World} {x : Ex × Option Addr × Nat} (k1 c1 n1 k2 c2 n2 : Int) (u0 u1 u2 u3 u4 : Value) (hr : Rdr w7 r p7) (hp : p7 ≤ p + K) (hC : Ch (· = r) w w7) (hrw : r < w.heap.size) (hx : KidsOk (d + 2) (fromB w7 (w.heap.size + 1)) x) (hy : KidsOk (d + 2) (fromB w7 (w.heap.size + 1)) (Ex.mk 6 0 ⟨false, 0⟩ [Ex.mk k1 c1 ⟨false, n1⟩ [], Ex.mk k2 c2 ⟨false, n2⟩ []], some ⟨g2, 0, none⟩, 2)) (hs : exSm (d + 2) x.1.kids) :
    DrawnE (d + 1 + 2) K r p w (.returned (.agg #[.int .i64 8, .int .i64 0, .bool false, .int .i64 0, .slice (some ⟨w7.heap.size, 0, none⟩) 2 2])) ((((((w7.setCell ⟨w.heap.size, 0, none⟩ u0).setCell ⟨w.heap.size, 1, none⟩ u1).setCell ⟨w.heap.size, 2, none⟩ u2).setCell ⟨w.heap.size, 3, none⟩ u3).setCell ⟨w.heap.size, 4, none⟩ u4).alloc (.cells #[.int .i64 x.1.kind, .int .i64 x.1.col, .bool x.1.val.null, .int .i64 x.1.val.n, .slice x.2.1 x.1.kids.length x.2.2, .int .i64 6, .int .i64 0, .bool false, .int .i64 0, .slice (some ⟨g2, 0, none⟩) 2 2] 33)) := by
  have hsz := hC.size
  refine ⟨(Ex.mk 8 0 ⟨false, 0⟩ [x.1, Ex.mk 6 0 ⟨false, 0⟩ [Ex.mk k1 c1 ⟨false, n1⟩ [], Ex.mk k2 c2 ⟨false, n2⟩ []]], some ⟨w7.heap.size, 0, none⟩, 2), rfl, and_okB (g := w7.heap.size) k1 c1 n1 k2 c2 n2 (hx.mono (set5_mle u0 u1 u2 u3 u4)) (hy.mono (set5_mle u0 u1 u2 u3 u4)) (by rw [size5]; exact hsz) (size5 u0 u1 u2 u3 u4).symm, sm_and k1 c1 n1 k2 c2 n2 hs, by simp [Ex.kids], p7, hp, by (repeat (first | with_reducible assumption | with_reducible refine Rdr.alloc ?_ _ | with_reducible refine Rdr.drew ?_ | (with_reducible refine Rdr.set2 ?_ ?_ _; · (simp <;> omega)))), by (repeat (first | with_reducible exact Ch.refl _ | with_reducible assumption | with_reducible refine Ch.alloc ?_ _ | with_reducible refine Ch.drew ?_ | (with_reducible refine Ch.setNew2 ?_ ?_ _; · (simp <;> omega)) | with_reducible refine Ch.trans ?_ (by assumption)))⟩
theorem ch_two {r g : Nat} {a b : World} (h : Ch (· = r) a b) : Ch (fun k => k = r ∨ k = g) a b := ⟨h.os, h.tape, h.output, h.size, fun k hk hS => h.block k hk (fun e => hS (.inl e))⟩
set_option maxRecDepth 100000 in
set_option maxHeartbeats 8000000 in
theorem condition (d wd : Nat) (r p : Nat) (w : World) (hr : Rdr w r p) (hp : p + kcon d ≤ 100000) (h1 : 1 ≤ wd) (h7 : wd ≤ 7) (hd : d ≤ 100) :
    Calls Try.prog 84 #[.pointer (some ⟨r, 0, none⟩), .int .i64 wd, .int .i64 d] w (DrawnE (d + 2) (kcon d) r p w) := by
  induction d using Nat.strongRecOn generalizing r p w with
  | _ d ih =>
    have IH := hid ih
    clear ih
    have hk := kcon_le d
    have hlt := hr.lt
    have B0 := Blk.new w 33 #[.int .i64 0, .int .i64 0, .bool false, .int .i64 0, .slice none 0 0]
    have hr0 := hr.alloc (.cells #[.int .i64 0, .int .i64 0, .bool false, .int .i64 0, .slice none 0 0] 33)
    have hC0 : Ch (· = r) w (w.alloc (.cells #[.int .i64 0, .int .i64 0, .bool false, .int .i64 0, .slice none 0 0] 33)) := (Ch.refl w).alloc _
    clear hr
    go_enter Try.func84, Try.ntmps84
    go_wp2_with fail
    refine (pick _ _ _ _ hr0 (by omega) (by omega)).mono ?_
    rintro e w1 ⟨cc, rfl, _, hr1, hc1⟩
    have hC1 := hC0.trans hc1
    have A0 := B0.ch hc1 (by omega)
    have hs1 := hC1.size
    have hg1 : w.heap.size < w1.heap.size := A0.lt
    have B7 := Blk.new w1 33 #[.int .i64 1, .int .i64 cc, .bool false, .int .i64 0, .slice none 0 0]
    have hr1' := hr1.alloc (.cells #[.int .i64 1, .int .i64 cc, .bool false, .int .i64 0, .slice none 0 0] 33)
    have A1 := A0.alloc (.cells #[.int .i64 1, .int .i64 cc, .bool false, .int .i64 0, .slice none 0 0] 33)
    have hC1' := hC1.alloc (.cells #[.int .i64 1, .int .i64 cc, .bool false, .int .i64 0, .slice none 0 0] 33)
    clear hr0 hr1 B0 A0 hC0 hC1
    go_wp2_with fail
    refine (pick _ _ _ _ hr1' (by omega) (by omega)).mono ?_
    rintro e w2 ⟨nn, rfl, _, hr2, hc2⟩
    have A2 := A1.ch hc2 (by omega)
    have C2 := B7.ch hc2 (by omega)
    have hC2 := hC1'.trans hc2
    clear hr1' A1 B7 hC1'
    go_wp2_with fail
    refine (constantE _ _ _).mono ?_
    rintro e w3 ⟨rfl, b3⟩
    have B8 := Blk.new w3 33 #[.int .i64 2, .int .i64 0, .bool false, .int .i64 nn, .slice none 0 0]
    have A3 := (A2.fr b3).alloc (.cells #[.int .i64 2, .int .i64 0, .bool false, .int .i64 nn, .slice none 0 0] 33)
    have C3 := (C2.fr b3).alloc (.cells #[.int .i64 2, .int .i64 0, .bool false, .int .i64 nn, .slice none 0 0] 33)
    have hr3 := (hr2.fr b3).alloc (.cells #[.int .i64 2, .int .i64 0, .bool false, .int .i64 nn, .slice none 0 0] 33)
    have hC3 := (hC2.trans b3.ch).alloc (.cells #[.int .i64 2, .int .i64 0, .bool false, .int .i64 nn, .slice none 0 0] 33)
    have hg3 : w1.heap.size < w3.heap.size := (C2.fr b3).lt
    clear hr2 A2 C2 hC2 b3
    go_wp2_with fail
    refine (pick _ _ _ _ hr3 (by omega) (by omega)).mono ?_
    rintro e w4 ⟨pk, rfl, _, hr4, hc4⟩
    have A4 := A3.ch hc4 (by omega)
    have C4 := C3.ch hc4 (by omega)
    have D4 := B8.ch hc4 (by omega)
    have hC4 := hC3.trans hc4
    clear hr3 A3 C3 hC3 B8
    have step : ∃ b : Bool, ((pk : Int) == 0) = b := ⟨_, rfl⟩
    obtain ⟨pb, hpb⟩ := step
    cases pb
    · have FACTS : ∃ y : Int × Int × Int, Blk w4 w3.heap.size 33 #[.int .i64 y.1, .int .i64 y.2.1, .bool false, .int .i64 y.2.2, .slice none 0 0] := ⟨(2, 0, nn), D4⟩
      obtain ⟨y, D5⟩ := FACTS
      clear D4
      go_wp2_with fail
      refine (pick _ _ _ _ hr4 (by omega) (by omega)).mono ?_
      rintro e w6 ⟨k, rfl, hk8, hr6', hc6⟩
      have A6 := A4.ch hc6 (by omega)
      have C6 := C4.ch hc6 (by omega)
      have D6 := D5.ch hc6 (by omega)
      have hC6 := hC4.trans hc6
      obtain ⟨p6, hr6, hp6⟩ : ∃ p6, Rdr w6 r p6 ∧ p6 ≤ p + 5 := ⟨_, hr6', by omega⟩
      clear hr4 A4 C4 D5 hC4 hr6' hc6
      have hs6 := hC6.size
      have hg6 : w.heap.size < w6.heap.size := A6.lt
      have hg17 : w1.heap.size < w6.heap.size := C6.lt
      have hg18 : w3.heap.size < w6.heap.size := D6.lt
      obtain ⟨c0, c1, c2', c3, c4, _⟩ := C6.five
      obtain ⟨o0, o1, o2, o3, o4, _⟩ := D6.five
      obtain ⟨z0, z1, z2, z3, z4, f0, f1, f2, f3, f4⟩ := A6.five
      have hk7 : k = 0 ∨ k = 1 ∨ k = 2 ∨ k = 3 ∨ k = 4 ∨ k = 5 ∨ k = 6 ∨ k = 7 := by omega
      clear hk8
      rcases hk7 with rfl | rfl | rfl | rfl | rfl | rfl | rfl | rfl
      · go_wp2_with fail
        refine (randomExpr 2 wd r p6 _ hr6 (by have : kpick 2 = 31 := rfl; omega) h1 h7 (by omega)).mono ?_
        rintro e w7 ⟨x, rfl, hx, hxs, hxl, p7, hp7, hr7, hc7⟩
        have hkp : kpick 2 = 31 := rfl
        have HX7 := hid (And.intro (kids_leG (n := d + 2) (by omega) (hx.mono (fromB_lo (show w.heap.size + 1 ≤ _ by omega)))) (exSm_to (n := d + 2) (by omega) hx.1 hxs))
        have hC7 := hC6.trans hc7
        clear z0 z1 z2 z3 z4 f0 f1 f2 f3 f4 hx hxs c0 c1 c2' c3 c4 o0 o1 o2 o3 o4
        obtain ⟨z0, z1, z2, z3, z4, f0, f1, f2, f3, f4⟩ := (A6.ch hc7 (by omega)).five
        go_wp2
        exact bodyPost_ret (v := .agg #[.int .i64 x.1.kind, .int .i64 x.1.col, .bool x.1.val.null, .int .i64 x.1.val.n, .slice x.2.1 x.1.kids.length x.2.2]) (by simp [results, Try.results84, go_sem, z0, z1, z2, z3, z4]) rfl (drawn_fin hr7 (by omega) hC7 hlt HX7.out.1 HX7.out.2 hxl)
      · go_wp2
        have BS := ((((A6.set_ 0 (.int .i64 10)).set_ 1 (.int .i64 0)).set_ 2 (.bool false)).set_ 3 (.int .i64 0)).set_ 4 (.slice (some ⟨w6.heap.size + 1, 0, none⟩) 1 1)
        have r0 := fun o o' => ((BS.alloc o).alloc o').five.1
        have r1 := fun o o' => ((BS.alloc o).alloc o').five.2.1
        have r2 := fun o o' => ((BS.alloc o).alloc o').five.2.2.1
        have r3 := fun o o' => ((BS.alloc o).alloc o').five.2.2.2.1
        have r4 := fun o o' => ((BS.alloc o).alloc o').five.2.2.2.2.1
        exact bodyPost_ret (v := .agg #[.int .i64 10, .int .i64 0, .bool false, .int .i64 0, .slice (some ⟨w6.heap.size + 1, 0, none⟩) 1 1]) (by simp [results, Try.results84, go_sem, r0, r1, r2, r3, r4]) rfl ⟨(Ex.mk 10 0 ⟨false, 0⟩ [Ex.mk 11 0 ⟨false, 0⟩ [Ex.mk 1 cc ⟨false, 0⟩ []]], some ⟨w6.heap.size + 1, 0, none⟩, 1), rfl, not_leaf 1 cc 0 (by simp; omega) (by simp), sm_not 1 cc 0, by simp [Ex.kids], p6, by omega, by (repeat (first | with_reducible assumption | with_reducible refine Rdr.alloc ?_ _ | with_reducible refine Rdr.drew ?_ | (with_reducible refine Rdr.set2 ?_ ?_ _; · (simp <;> omega)))), by (repeat (first | with_reducible exact Ch.refl _ | with_reducible assumption | with_reducible refine Ch.alloc ?_ _ | with_reducible refine Ch.drew ?_ | (with_reducible refine Ch.setNew2 ?_ ?_ _; · (simp <;> omega)) | with_reducible refine Ch.trans ?_ (by assumption)))⟩
      · cases d with
        | zero =>
          go_wp2
          have BS := ((((A6.set_ 0 (.int .i64 7)).set_ 1 (.int .i64 0)).set_ 2 (.bool false)).set_ 3 (.int .i64 0)).set_ 4 (.slice (some ⟨w6.heap.size, 0, none⟩) 2 2)
          have r0 := fun o => (BS.alloc o).five.1
          have r1 := fun o => (BS.alloc o).five.2.1
          have r2 := fun o => (BS.alloc o).five.2.2.1
          have r3 := fun o => (BS.alloc o).five.2.2.2.1
          have r4 := fun o => (BS.alloc o).five.2.2.2.2.1
          exact bodyPost_ret (v := .agg #[.int .i64 7, .int .i64 0, .bool false, .int .i64 0, .slice (some ⟨w6.heap.size, 0, none⟩) 2 2]) (by simp [results, Try.results84, go_sem, r0, r1, r2, r3, r4]) rfl ⟨(Ex.mk 7 0 ⟨false, 0⟩ [(Ex.mk 1 cc ⟨false, 0⟩ []), (Ex.mk y.1 y.2.1 ⟨false, y.2.2⟩ [])], some ⟨w6.heap.size, 0, none⟩, 2), rfl, two_leaf 7 1 cc 0 y.1 y.2.1 y.2.2 (by simp; omega) (by simp), sm_two 1 cc 0 y.1 y.2.1 y.2.2, by simp [Ex.kids], p6, by omega, by (repeat (first | with_reducible assumption | with_reducible refine Rdr.alloc ?_ _ | with_reducible refine Rdr.drew ?_ | (with_reducible refine Rdr.set2 ?_ ?_ _; · (simp <;> omega)))), by (repeat (first | with_reducible exact Ch.refl _ | with_reducible assumption | with_reducible refine Ch.alloc ?_ _ | with_reducible refine Ch.drew ?_ | (with_reducible refine Ch.setNew2 ?_ ?_ _; · (simp <;> omega)) | with_reducible refine Ch.trans ?_ (by assumption)))⟩
        | succ d =>
          have ez : (((d + 1 : Nat) : Int) == 0) = false := by simp; omega
          have ez2 : ((d : Int) + 1 == 0) = false := by simp; omega
          have ed : IntKind.i64.wrap (d : Int) = d := IntWalk.i64_in _ (by omega)
          have ekc : kcon (d + 1) = 40 + kcon d := rfl
          go_wp2_with fail
          have keepL : ∀ W' : World, Ch (fun k => k = r ∨ k = w.heap.size) w6 W' → (Ch (fun k => k = r ∨ k = w.heap.size) w6 W' ∧ W'.cell? ⟨w1.heap.size, 0, none⟩ = some (.int .i64 1) ∧ W'.cell? ⟨w1.heap.size, 1, none⟩ = some (.int .i64 cc) ∧ W'.cell? ⟨w1.heap.size, 2, none⟩ = some (.bool false) ∧ W'.cell? ⟨w1.heap.size, 3, none⟩ = some (.int .i64 0) ∧ W'.cell? ⟨w1.heap.size, 4, none⟩ = some (.slice none 0 0) ∧ W'.cell? ⟨w3.heap.size, 0, none⟩ = some (.int .i64 y.1) ∧ W'.cell? ⟨w3.heap.size, 1, none⟩ = some (.int .i64 y.2.1) ∧ W'.cell? ⟨w3.heap.size, 2, none⟩ = some (.bool false) ∧ W'.cell? ⟨w3.heap.size, 3, none⟩ = some (.int .i64 y.2.2) ∧ W'.cell? ⟨w3.heap.size, 4, none⟩ = some (.slice none 0 0)) := fun W' C => ⟨C, C.cell (fun h => by rcases h with h | h <;> simp only at h <;> omega) c0, C.cell (fun h => by rcases h with h | h <;> simp only at h <;> omega) c1, C.cell (fun h => by rcases h with h | h <;> simp only at h <;> omega) c2', C.cell (fun h => by rcases h with h | h <;> simp only at h <;> omega) c3, C.cell (fun h => by rcases h with h | h <;> simp only at h <;> omega) c4, C.cell (fun h => by rcases h with h | h <;> simp only at h <;> omega) o0, C.cell (fun h => by rcases h with h | h <;> simp only at h <;> omega) o1, C.cell (fun h => by rcases h with h | h <;> simp only at h <;> omega) o2, C.cell (fun h => by rcases h with h | h <;> simp only at h <;> omega) o3, C.cell (fun h => by rcases h with h | h <;> simp only at h <;> omega) o4⟩
          go_region_held3 (fun W' => Ch (fun k => k = r ∨ k = w.heap.size) w6 W' ∧ W'.cell? ⟨w1.heap.size, 0, none⟩ = some (.int .i64 1) ∧ W'.cell? ⟨w1.heap.size, 1, none⟩ = some (.int .i64 cc) ∧ W'.cell? ⟨w1.heap.size, 2, none⟩ = some (.bool false) ∧ W'.cell? ⟨w1.heap.size, 3, none⟩ = some (.int .i64 0) ∧ W'.cell? ⟨w1.heap.size, 4, none⟩ = some (.slice none 0 0) ∧ W'.cell? ⟨w3.heap.size, 0, none⟩ = some (.int .i64 y.1) ∧ W'.cell? ⟨w3.heap.size, 1, none⟩ = some (.int .i64 y.2.1) ∧ W'.cell? ⟨w3.heap.size, 2, none⟩ = some (.bool false) ∧ W'.cell? ⟨w3.heap.size, 3, none⟩ = some (.int .i64 y.2.2) ∧ W'.cell? ⟨w3.heap.size, 4, none⟩ = some (.slice none 0 0)) ((refine keepL _ ?_; (repeat (first | with_reducible exact Ch.refl _ | with_reducible assumption | with_reducible refine Ch.alloc ?_ _ | with_reducible refine Ch.drew ?_ | with_reducible refine Ch.set ?_ (.inl (.inr rfl)) _ | with_reducible refine Ch.trans ?_ (by assumption))); done))
            (first
            | (go_at_call 84; refine (IH.out d (by omega) r p6 _ ?_ ?_ ?_).mono ?_; (· (repeat (first | with_reducible assumption | with_reducible refine Rdr.alloc ?_ _ | with_reducible refine Rdr.drew ?_ | (with_reducible refine Rdr.set2 ?_ ?_ _; · (simp <;> omega))))); (· omega); (· omega); rintro e w7 ⟨x, rfl, hx, hxs, hxl, p7, hp7, hr7, hc7⟩; have F7 : Ch (· = r) w6 w7 := Ch.trans (by (repeat (first | with_reducible exact Ch.refl _ | with_reducible assumption | with_reducible refine Ch.alloc ?_ _ | with_reducible refine Ch.drew ?_ | (with_reducible refine Ch.setNew2 ?_ ?_ _; · (simp <;> omega)) | with_reducible refine Ch.trans ?_ (by assumption)))) hc7; have G7 : Ch (fun k => k = r ∨ k = w.heap.size) w6 w7 := ch_two F7; have hw7 := F7.size; have A7 := A6.ch F7 (by omega); have hg7 : w.heap.size < w7.heap.size := A7.lt; have hg27 : w1.heap.size < w7.heap.size := (C6.ch F7 (by omega)).lt; have hg28 : w3.heap.size < w7.heap.size := (D6.ch F7 (by omega)).lt; obtain ⟨y0, y1, y2, y3, y4, g0, g1, g2, g3, g4⟩ := A7.five; have HX7 := hid (hx.mono (fromB_lo (show w.heap.size + 1 ≤ _ from by first | omega | (simp; omega)))))
            | fail)
          all_goals clear keepL y0 y1 y2 y3 y4 g0 g1 g2 g3 g4 c0 c1 c2' c3 c4 o0 o1 o2 o3 o4 z0 z1 z2 z3 z4 f0 f1 f2 f3 f4
          all_goals have hC7 := hC6.trans F7
          all_goals go_wp2
          · (have BS := ((((A7.set_ 0 (.int .i64 8)).set_ 1 (.int .i64 0)).set_ 2 (.bool false)).set_ 3 (.int .i64 0)).set_ 4 (.slice (some ⟨w7.heap.size + 1, 0, none⟩) 2 2); have r0 := fun o o' => ((BS.alloc o).alloc o').five.1; have r1 := fun o o' => ((BS.alloc o).alloc o').five.2.1; have r2 := fun o o' => ((BS.alloc o).alloc o').five.2.2.1; have r3 := fun o o' => ((BS.alloc o).alloc o').five.2.2.2.1; have r4 := fun o o' => ((BS.alloc o).alloc o').five.2.2.2.2.1; refine bodyPost_ret (v := .agg #[.int .i64 8, .int .i64 0, .bool false, .int .i64 0, .slice (some ⟨w7.heap.size + 1, 0, none⟩) 2 2]) (by simp [results, Try.results84, go_sem, r0, r1, r2, r3, r4]) rfl ?_; with_reducible refine and_drawnA (d := d) (K := kcon (d + 1)) (r := r) (p := p) (p7 := p7) (w := w) (w7 := w7) (x := x) 1 cc 0 y.1 y.2.1 y.2.2 _ _ _ _ _ hr7 ?hp hC7 hlt HX7.out hxs; (case hp => omega))
          · have G8 : Ch (· = r) (w6.drew.alloc (.cells #[.int .i64 1, .int .i64 cc, .bool false, .int .i64 0, .slice none 0 0, .int .i64 y.1, .int .i64 y.2.1, .bool false, .int .i64 y.2.2, .slice none 0 0] 33)) w7 := hc7
            have HY7 := hid ((two_leaf (d := d) (lo := w.heap.size + 1) (W := w6.drew) (g := w6.heap.size) 6 1 cc 0 y.1 y.2.1 y.2.2 (show w.heap.size + 1 ≤ w6.heap.size from hg6) rfl).mono (G8.mle_from (lo := w.heap.size + 1) (fun k hk => by omega)))
            (have BS := ((((A7.set_ 0 (.int .i64 8)).set_ 1 (.int .i64 0)).set_ 2 (.bool false)).set_ 3 (.int .i64 0)).set_ 4 (.slice (some ⟨w7.heap.size, 0, none⟩) 2 2); have r0 := fun o => (BS.alloc o).five.1; have r1 := fun o => (BS.alloc o).five.2.1; have r2 := fun o => (BS.alloc o).five.2.2.1; have r3 := fun o => (BS.alloc o).five.2.2.2.1; have r4 := fun o => (BS.alloc o).five.2.2.2.2.1; refine bodyPost_ret (v := .agg #[.int .i64 8, .int .i64 0, .bool false, .int .i64 0, .slice (some ⟨w7.heap.size, 0, none⟩) 2 2]) (by simp [results, Try.results84, go_sem, r0, r1, r2, r3, r4]) rfl ?_; with_reducible refine and_drawnB (d := d) (K := kcon (d + 1)) (r := r) (p := p) (p7 := p7) (w := w) (w7 := w7) (x := x) 1 cc 0 y.1 y.2.1 y.2.2 _ _ _ _ _ hr7 ?hp hC7 hlt HX7.out HY7.out hxs; (case hp => omega))
      · go_wp2
        have BS := ((((A6.set_ 0 (.int .i64 7)).set_ 1 (.int .i64 0)).set_ 2 (.bool false)).set_ 3 (.int .i64 0)).set_ 4 (.slice (some ⟨w6.heap.size, 0, none⟩) 2 2)
        have r0 := fun o => (BS.alloc o).five.1
        have r1 := fun o => (BS.alloc o).five.2.1
        have r2 := fun o => (BS.alloc o).five.2.2.1
        have r3 := fun o => (BS.alloc o).five.2.2.2.1
        have r4 := fun o => (BS.alloc o).five.2.2.2.2.1
        exact bodyPost_ret (v := .agg #[.int .i64 7, .int .i64 0, .bool false, .int .i64 0, .slice (some ⟨w6.heap.size, 0, none⟩) 2 2]) (by simp [results, Try.results84, go_sem, r0, r1, r2, r3, r4]) rfl ⟨(Ex.mk 7 0 ⟨false, 0⟩ [(Ex.mk y.1 y.2.1 ⟨false, y.2.2⟩ []), (Ex.mk 1 cc ⟨false, 0⟩ [])], some ⟨w6.heap.size, 0, none⟩, 2), rfl, two_leaf 7 y.1 y.2.1 y.2.2 1 cc 0 (by simp; omega) (by simp), sm_two y.1 y.2.1 y.2.2 1 cc 0, by simp [Ex.kids], p6, by omega, by (repeat (first | with_reducible assumption | with_reducible refine Rdr.alloc ?_ _ | with_reducible refine Rdr.drew ?_ | (with_reducible refine Rdr.set2 ?_ ?_ _; · (simp <;> omega)))), by (repeat (first | with_reducible exact Ch.refl _ | with_reducible assumption | with_reducible refine Ch.alloc ?_ _ | with_reducible refine Ch.drew ?_ | (with_reducible refine Ch.setNew2 ?_ ?_ _; · (simp <;> omega)) | with_reducible refine Ch.trans ?_ (by assumption)))⟩
      · go_wp2
        have BS := ((((A6.set_ 0 (.int .i64 7)).set_ 1 (.int .i64 0)).set_ 2 (.bool false)).set_ 3 (.int .i64 0)).set_ 4 (.slice (some ⟨w6.heap.size, 0, none⟩) 2 2)
        have r0 := fun o => (BS.alloc o).five.1
        have r1 := fun o => (BS.alloc o).five.2.1
        have r2 := fun o => (BS.alloc o).five.2.2.1
        have r3 := fun o => (BS.alloc o).five.2.2.2.1
        have r4 := fun o => (BS.alloc o).five.2.2.2.2.1
        exact bodyPost_ret (v := .agg #[.int .i64 7, .int .i64 0, .bool false, .int .i64 0, .slice (some ⟨w6.heap.size, 0, none⟩) 2 2]) (by simp [results, Try.results84, go_sem, r0, r1, r2, r3, r4]) rfl ⟨(Ex.mk 7 0 ⟨false, 0⟩ [(Ex.mk y.1 y.2.1 ⟨false, y.2.2⟩ []), (Ex.mk 1 cc ⟨false, 0⟩ [])], some ⟨w6.heap.size, 0, none⟩, 2), rfl, two_leaf 7 y.1 y.2.1 y.2.2 1 cc 0 (by simp; omega) (by simp), sm_two y.1 y.2.1 y.2.2 1 cc 0, by simp [Ex.kids], p6, by omega, by (repeat (first | with_reducible assumption | with_reducible refine Rdr.alloc ?_ _ | with_reducible refine Rdr.drew ?_ | (with_reducible refine Rdr.set2 ?_ ?_ _; · (simp <;> omega)))), by (repeat (first | with_reducible exact Ch.refl _ | with_reducible assumption | with_reducible refine Ch.alloc ?_ _ | with_reducible refine Ch.drew ?_ | (with_reducible refine Ch.setNew2 ?_ ?_ _; · (simp <;> omega)) | with_reducible refine Ch.trans ?_ (by assumption)))⟩
      · go_wp2
        have BS := ((((A6.set_ 0 (.int .i64 7)).set_ 1 (.int .i64 0)).set_ 2 (.bool false)).set_ 3 (.int .i64 0)).set_ 4 (.slice (some ⟨w6.heap.size, 0, none⟩) 2 2)
        have r0 := fun o => (BS.alloc o).five.1
        have r1 := fun o => (BS.alloc o).five.2.1
        have r2 := fun o => (BS.alloc o).five.2.2.1
        have r3 := fun o => (BS.alloc o).five.2.2.2.1
        have r4 := fun o => (BS.alloc o).five.2.2.2.2.1
        exact bodyPost_ret (v := .agg #[.int .i64 7, .int .i64 0, .bool false, .int .i64 0, .slice (some ⟨w6.heap.size, 0, none⟩) 2 2]) (by simp [results, Try.results84, go_sem, r0, r1, r2, r3, r4]) rfl ⟨(Ex.mk 7 0 ⟨false, 0⟩ [(Ex.mk 1 cc ⟨false, 0⟩ []), (Ex.mk y.1 y.2.1 ⟨false, y.2.2⟩ [])], some ⟨w6.heap.size, 0, none⟩, 2), rfl, two_leaf 7 1 cc 0 y.1 y.2.1 y.2.2 (by simp; omega) (by simp), sm_two 1 cc 0 y.1 y.2.1 y.2.2, by simp [Ex.kids], p6, by omega, by (repeat (first | with_reducible assumption | with_reducible refine Rdr.alloc ?_ _ | with_reducible refine Rdr.drew ?_ | (with_reducible refine Rdr.set2 ?_ ?_ _; · (simp <;> omega)))), by (repeat (first | with_reducible exact Ch.refl _ | with_reducible assumption | with_reducible refine Ch.alloc ?_ _ | with_reducible refine Ch.drew ?_ | (with_reducible refine Ch.setNew2 ?_ ?_ _; · (simp <;> omega)) | with_reducible refine Ch.trans ?_ (by assumption)))⟩
      · go_wp2
        have BS := ((((A6.set_ 0 (.int .i64 6)).set_ 1 (.int .i64 0)).set_ 2 (.bool false)).set_ 3 (.int .i64 0)).set_ 4 (.slice (some ⟨w6.heap.size, 0, none⟩) 2 2)
        have r0 := fun o => (BS.alloc o).five.1
        have r1 := fun o => (BS.alloc o).five.2.1
        have r2 := fun o => (BS.alloc o).five.2.2.1
        have r3 := fun o => (BS.alloc o).five.2.2.2.1
        have r4 := fun o => (BS.alloc o).five.2.2.2.2.1
        exact bodyPost_ret (v := .agg #[.int .i64 6, .int .i64 0, .bool false, .int .i64 0, .slice (some ⟨w6.heap.size, 0, none⟩) 2 2]) (by simp [results, Try.results84, go_sem, r0, r1, r2, r3, r4]) rfl ⟨(Ex.mk 6 0 ⟨false, 0⟩ [(Ex.mk 1 cc ⟨false, 0⟩ []), (Ex.mk y.1 y.2.1 ⟨false, y.2.2⟩ [])], some ⟨w6.heap.size, 0, none⟩, 2), rfl, two_leaf 6 1 cc 0 y.1 y.2.1 y.2.2 (by simp; omega) (by simp), sm_two 1 cc 0 y.1 y.2.1 y.2.2, by simp [Ex.kids], p6, by omega, by (repeat (first | with_reducible assumption | with_reducible refine Rdr.alloc ?_ _ | with_reducible refine Rdr.drew ?_ | (with_reducible refine Rdr.set2 ?_ ?_ _; · (simp <;> omega)))), by (repeat (first | with_reducible exact Ch.refl _ | with_reducible assumption | with_reducible refine Ch.alloc ?_ _ | with_reducible refine Ch.drew ?_ | (with_reducible refine Ch.setNew2 ?_ ?_ _; · (simp <;> omega)) | with_reducible refine Ch.trans ?_ (by assumption)))⟩
      · go_wp2
        have BS := ((((A6.set_ 0 (.int .i64 6)).set_ 1 (.int .i64 0)).set_ 2 (.bool false)).set_ 3 (.int .i64 0)).set_ 4 (.slice (some ⟨w6.heap.size, 0, none⟩) 2 2)
        have r0 := fun o => (BS.alloc o).five.1
        have r1 := fun o => (BS.alloc o).five.2.1
        have r2 := fun o => (BS.alloc o).five.2.2.1
        have r3 := fun o => (BS.alloc o).five.2.2.2.1
        have r4 := fun o => (BS.alloc o).five.2.2.2.2.1
        exact bodyPost_ret (v := .agg #[.int .i64 6, .int .i64 0, .bool false, .int .i64 0, .slice (some ⟨w6.heap.size, 0, none⟩) 2 2]) (by simp [results, Try.results84, go_sem, r0, r1, r2, r3, r4]) rfl ⟨(Ex.mk 6 0 ⟨false, 0⟩ [(Ex.mk 1 cc ⟨false, 0⟩ []), (Ex.mk y.1 y.2.1 ⟨false, y.2.2⟩ [])], some ⟨w6.heap.size, 0, none⟩, 2), rfl, two_leaf 6 1 cc 0 y.1 y.2.1 y.2.2 (by simp; omega) (by simp), sm_two 1 cc 0 y.1 y.2.1 y.2.2, by simp [Ex.kids], p6, by omega, by (repeat (first | with_reducible assumption | with_reducible refine Rdr.alloc ?_ _ | with_reducible refine Rdr.drew ?_ | (with_reducible refine Rdr.set2 ?_ ?_ _; · (simp <;> omega)))), by (repeat (first | with_reducible exact Ch.refl _ | with_reducible assumption | with_reducible refine Ch.alloc ?_ _ | with_reducible refine Ch.drew ?_ | (with_reducible refine Ch.setNew2 ?_ ?_ _; · (simp <;> omega)) | with_reducible refine Ch.trans ?_ (by assumption)))⟩
    · go_wp2_with fail
      refine (pick _ _ _ _ hr4 (by omega) (by omega)).mono ?_
      rintro e w5 ⟨c2, rfl, _, hr5, hc5⟩
      have A5 := A4.ch hc5 (by omega)
      have C5 := C4.ch hc5 (by omega)
      have D5 := D4.ch hc5 (by omega)
      have hC5 := hC4.trans hc5
      obtain ⟨d0, d1, d2, d3, d4, f0, f1, f2, f3, f4⟩ := D5.five
      clear hr4 A4 C4 D4 hC4
      go_wp2_with fail
      have S6 : Ch (· = w3.heap.size) w5 (((((w5.setCell ⟨w3.heap.size, 0, none⟩ (.int .i64 1)).setCell ⟨w3.heap.size, 1, none⟩ (.int .i64 c2)).setCell ⟨w3.heap.size, 2, none⟩ (.bool false)).setCell ⟨w3.heap.size, 3, none⟩ (.int .i64 0)).setCell ⟨w3.heap.size, 4, none⟩ (.slice none 0 0)) := chSet (chSet (chSet (chSet (chSet (Ch.refl w5)))))
      have D5' : ∃ y : Int × Int × Int, Blk (((((w5.setCell ⟨w3.heap.size, 0, none⟩ (.int .i64 1)).setCell ⟨w3.heap.size, 1, none⟩ (.int .i64 c2)).setCell ⟨w3.heap.size, 2, none⟩ (.bool false)).setCell ⟨w3.heap.size, 3, none⟩ (.int .i64 0)).setCell ⟨w3.heap.size, 4, none⟩ (.slice none 0 0)) w3.heap.size 33 #[.int .i64 y.1, .int .i64 y.2.1, .bool false, .int .i64 y.2.2, .slice none 0 0] := ⟨(1, c2, 0), ((((D5.set_ 0 _).set_ 1 _).set_ 2 _).set_ 3 _).set_ 4 _⟩
      have hrw : w.heap.size ≤ w5.heap.size := hC5.size
      have hr5' : Rdr (((((w5.setCell ⟨w3.heap.size, 0, none⟩ (.int .i64 1)).setCell ⟨w3.heap.size, 1, none⟩ (.int .i64 c2)).setCell ⟨w3.heap.size, 2, none⟩ (.bool false)).setCell ⟨w3.heap.size, 3, none⟩ (.int .i64 0)).setCell ⟨w3.heap.size, 4, none⟩ (.slice none 0 0)) r (p + 1 + 1 + 1 + 1) := by (repeat (first | with_reducible assumption | with_reducible refine Rdr.alloc ?_ _ | with_reducible refine Rdr.drew ?_ | (with_reducible refine Rdr.set2 ?_ ?_ _; · (simp <;> omega))))
      have hC5' : Ch (· = r) w (((((w5.setCell ⟨w3.heap.size, 0, none⟩ (.int .i64 1)).setCell ⟨w3.heap.size, 1, none⟩ (.int .i64 c2)).setCell ⟨w3.heap.size, 2, none⟩ (.bool false)).setCell ⟨w3.heap.size, 3, none⟩ (.int .i64 0)).setCell ⟨w3.heap.size, 4, none⟩ (.slice none 0 0)) := by (repeat (first | with_reducible exact Ch.refl _ | with_reducible assumption | with_reducible refine Ch.alloc ?_ _ | with_reducible refine Ch.drew ?_ | (with_reducible refine Ch.setNew2 ?_ ?_ _; · (simp <;> omega)) | with_reducible refine Ch.trans ?_ (by assumption)))
      have A5' := Blk.ch A5 S6 (by omega)
      have C5' := Blk.ch C5 S6 (by omega)
      clear d0 d1 d2 d3 d4 f0 f1 f2 f3 f4 A5 C5 D5 hr5 hC5 S6
      generalize ((((w5.setCell ⟨w3.heap.size, 0, none⟩ (.int .i64 1)).setCell ⟨w3.heap.size, 1, none⟩ (.int .i64 c2)).setCell ⟨w3.heap.size, 2, none⟩ (.bool false)).setCell ⟨w3.heap.size, 3, none⟩ (.int .i64 0)).setCell ⟨w3.heap.size, 4, none⟩ (.slice none 0 0) = W5 at D5' hr5' hC5' A5' C5' ⊢
      obtain ⟨y, D5⟩ := D5'
      refine (pick _ _ _ _ hr5' (by omega) (by omega)).mono ?_
      rintro e w6 ⟨k, rfl, hk8, hr6', hc6⟩
      have A6 := A5'.ch hc6 (by omega)
      have C6 := C5'.ch hc6 (by omega)
      have D6 := D5.ch hc6 (by omega)
      have hC6 := hC5'.trans hc6
      obtain ⟨p6, hr6, hp6⟩ : ∃ p6, Rdr w6 r p6 ∧ p6 ≤ p + 5 := ⟨_, hr6', by omega⟩
      clear hr5' A5' C5' D5 hC5' hr6' hc6
      have hs6 := hC6.size
      have hg6 : w.heap.size < w6.heap.size := A6.lt
      have hg17 : w1.heap.size < w6.heap.size := C6.lt
      have hg18 : w3.heap.size < w6.heap.size := D6.lt
      obtain ⟨c0, c1, c2', c3, c4, _⟩ := C6.five
      obtain ⟨o0, o1, o2, o3, o4, _⟩ := D6.five
      obtain ⟨z0, z1, z2, z3, z4, f0, f1, f2, f3, f4⟩ := A6.five
      have hk7 : k = 0 ∨ k = 1 ∨ k = 2 ∨ k = 3 ∨ k = 4 ∨ k = 5 ∨ k = 6 ∨ k = 7 := by omega
      clear hk8
      rcases hk7 with rfl | rfl | rfl | rfl | rfl | rfl | rfl | rfl
      · go_wp2_with fail
        refine (randomExpr 2 wd r p6 _ hr6 (by have : kpick 2 = 31 := rfl; omega) h1 h7 (by omega)).mono ?_
        rintro e w7 ⟨x, rfl, hx, hxs, hxl, p7, hp7, hr7, hc7⟩
        have hkp : kpick 2 = 31 := rfl
        have HX7 := hid (And.intro (kids_leG (n := d + 2) (by omega) (hx.mono (fromB_lo (show w.heap.size + 1 ≤ _ by omega)))) (exSm_to (n := d + 2) (by omega) hx.1 hxs))
        have hC7 := hC6.trans hc7
        clear z0 z1 z2 z3 z4 f0 f1 f2 f3 f4 hx hxs c0 c1 c2' c3 c4 o0 o1 o2 o3 o4
        obtain ⟨z0, z1, z2, z3, z4, f0, f1, f2, f3, f4⟩ := (A6.ch hc7 (by omega)).five
        go_wp2
        exact bodyPost_ret (v := .agg #[.int .i64 x.1.kind, .int .i64 x.1.col, .bool x.1.val.null, .int .i64 x.1.val.n, .slice x.2.1 x.1.kids.length x.2.2]) (by simp [results, Try.results84, go_sem, z0, z1, z2, z3, z4]) rfl (drawn_fin hr7 (by omega) hC7 hlt HX7.out.1 HX7.out.2 hxl)
      · go_wp2
        have BS := ((((A6.set_ 0 (.int .i64 10)).set_ 1 (.int .i64 0)).set_ 2 (.bool false)).set_ 3 (.int .i64 0)).set_ 4 (.slice (some ⟨w6.heap.size + 1, 0, none⟩) 1 1)
        have r0 := fun o o' => ((BS.alloc o).alloc o').five.1
        have r1 := fun o o' => ((BS.alloc o).alloc o').five.2.1
        have r2 := fun o o' => ((BS.alloc o).alloc o').five.2.2.1
        have r3 := fun o o' => ((BS.alloc o).alloc o').five.2.2.2.1
        have r4 := fun o o' => ((BS.alloc o).alloc o').five.2.2.2.2.1
        exact bodyPost_ret (v := .agg #[.int .i64 10, .int .i64 0, .bool false, .int .i64 0, .slice (some ⟨w6.heap.size + 1, 0, none⟩) 1 1]) (by simp [results, Try.results84, go_sem, r0, r1, r2, r3, r4]) rfl ⟨(Ex.mk 10 0 ⟨false, 0⟩ [Ex.mk 11 0 ⟨false, 0⟩ [Ex.mk 1 cc ⟨false, 0⟩ []]], some ⟨w6.heap.size + 1, 0, none⟩, 1), rfl, not_leaf 1 cc 0 (by simp; omega) (by simp), sm_not 1 cc 0, by simp [Ex.kids], p6, by omega, by (repeat (first | with_reducible assumption | with_reducible refine Rdr.alloc ?_ _ | with_reducible refine Rdr.drew ?_ | (with_reducible refine Rdr.set2 ?_ ?_ _; · (simp <;> omega)))), by (repeat (first | with_reducible exact Ch.refl _ | with_reducible assumption | with_reducible refine Ch.alloc ?_ _ | with_reducible refine Ch.drew ?_ | (with_reducible refine Ch.setNew2 ?_ ?_ _; · (simp <;> omega)) | with_reducible refine Ch.trans ?_ (by assumption)))⟩
      · cases d with
        | zero =>
          go_wp2
          have BS := ((((A6.set_ 0 (.int .i64 7)).set_ 1 (.int .i64 0)).set_ 2 (.bool false)).set_ 3 (.int .i64 0)).set_ 4 (.slice (some ⟨w6.heap.size, 0, none⟩) 2 2)
          have r0 := fun o => (BS.alloc o).five.1
          have r1 := fun o => (BS.alloc o).five.2.1
          have r2 := fun o => (BS.alloc o).five.2.2.1
          have r3 := fun o => (BS.alloc o).five.2.2.2.1
          have r4 := fun o => (BS.alloc o).five.2.2.2.2.1
          exact bodyPost_ret (v := .agg #[.int .i64 7, .int .i64 0, .bool false, .int .i64 0, .slice (some ⟨w6.heap.size, 0, none⟩) 2 2]) (by simp [results, Try.results84, go_sem, r0, r1, r2, r3, r4]) rfl ⟨(Ex.mk 7 0 ⟨false, 0⟩ [(Ex.mk 1 cc ⟨false, 0⟩ []), (Ex.mk y.1 y.2.1 ⟨false, y.2.2⟩ [])], some ⟨w6.heap.size, 0, none⟩, 2), rfl, two_leaf 7 1 cc 0 y.1 y.2.1 y.2.2 (by simp; omega) (by simp), sm_two 1 cc 0 y.1 y.2.1 y.2.2, by simp [Ex.kids], p6, by omega, by (repeat (first | with_reducible assumption | with_reducible refine Rdr.alloc ?_ _ | with_reducible refine Rdr.drew ?_ | (with_reducible refine Rdr.set2 ?_ ?_ _; · (simp <;> omega)))), by (repeat (first | with_reducible exact Ch.refl _ | with_reducible assumption | with_reducible refine Ch.alloc ?_ _ | with_reducible refine Ch.drew ?_ | (with_reducible refine Ch.setNew2 ?_ ?_ _; · (simp <;> omega)) | with_reducible refine Ch.trans ?_ (by assumption)))⟩
        | succ d =>
          have ez : (((d + 1 : Nat) : Int) == 0) = false := by simp; omega
          have ez2 : ((d : Int) + 1 == 0) = false := by simp; omega
          have ed : IntKind.i64.wrap (d : Int) = d := IntWalk.i64_in _ (by omega)
          have ekc : kcon (d + 1) = 40 + kcon d := rfl
          go_wp2_with fail
          have keepL : ∀ W' : World, Ch (fun k => k = r ∨ k = w.heap.size) w6 W' → (Ch (fun k => k = r ∨ k = w.heap.size) w6 W' ∧ W'.cell? ⟨w1.heap.size, 0, none⟩ = some (.int .i64 1) ∧ W'.cell? ⟨w1.heap.size, 1, none⟩ = some (.int .i64 cc) ∧ W'.cell? ⟨w1.heap.size, 2, none⟩ = some (.bool false) ∧ W'.cell? ⟨w1.heap.size, 3, none⟩ = some (.int .i64 0) ∧ W'.cell? ⟨w1.heap.size, 4, none⟩ = some (.slice none 0 0) ∧ W'.cell? ⟨w3.heap.size, 0, none⟩ = some (.int .i64 y.1) ∧ W'.cell? ⟨w3.heap.size, 1, none⟩ = some (.int .i64 y.2.1) ∧ W'.cell? ⟨w3.heap.size, 2, none⟩ = some (.bool false) ∧ W'.cell? ⟨w3.heap.size, 3, none⟩ = some (.int .i64 y.2.2) ∧ W'.cell? ⟨w3.heap.size, 4, none⟩ = some (.slice none 0 0)) := fun W' C => ⟨C, C.cell (fun h => by rcases h with h | h <;> simp only at h <;> omega) c0, C.cell (fun h => by rcases h with h | h <;> simp only at h <;> omega) c1, C.cell (fun h => by rcases h with h | h <;> simp only at h <;> omega) c2', C.cell (fun h => by rcases h with h | h <;> simp only at h <;> omega) c3, C.cell (fun h => by rcases h with h | h <;> simp only at h <;> omega) c4, C.cell (fun h => by rcases h with h | h <;> simp only at h <;> omega) o0, C.cell (fun h => by rcases h with h | h <;> simp only at h <;> omega) o1, C.cell (fun h => by rcases h with h | h <;> simp only at h <;> omega) o2, C.cell (fun h => by rcases h with h | h <;> simp only at h <;> omega) o3, C.cell (fun h => by rcases h with h | h <;> simp only at h <;> omega) o4⟩
          go_region_held3 (fun W' => Ch (fun k => k = r ∨ k = w.heap.size) w6 W' ∧ W'.cell? ⟨w1.heap.size, 0, none⟩ = some (.int .i64 1) ∧ W'.cell? ⟨w1.heap.size, 1, none⟩ = some (.int .i64 cc) ∧ W'.cell? ⟨w1.heap.size, 2, none⟩ = some (.bool false) ∧ W'.cell? ⟨w1.heap.size, 3, none⟩ = some (.int .i64 0) ∧ W'.cell? ⟨w1.heap.size, 4, none⟩ = some (.slice none 0 0) ∧ W'.cell? ⟨w3.heap.size, 0, none⟩ = some (.int .i64 y.1) ∧ W'.cell? ⟨w3.heap.size, 1, none⟩ = some (.int .i64 y.2.1) ∧ W'.cell? ⟨w3.heap.size, 2, none⟩ = some (.bool false) ∧ W'.cell? ⟨w3.heap.size, 3, none⟩ = some (.int .i64 y.2.2) ∧ W'.cell? ⟨w3.heap.size, 4, none⟩ = some (.slice none 0 0)) ((refine keepL _ ?_; (repeat (first | with_reducible exact Ch.refl _ | with_reducible assumption | with_reducible refine Ch.alloc ?_ _ | with_reducible refine Ch.drew ?_ | with_reducible refine Ch.set ?_ (.inl (.inr rfl)) _ | with_reducible refine Ch.trans ?_ (by assumption))); done))
            (first
            | (go_at_call 84; refine (IH.out d (by omega) r p6 _ ?_ ?_ ?_).mono ?_; (· (repeat (first | with_reducible assumption | with_reducible refine Rdr.alloc ?_ _ | with_reducible refine Rdr.drew ?_ | (with_reducible refine Rdr.set2 ?_ ?_ _; · (simp <;> omega))))); (· omega); (· omega); rintro e w7 ⟨x, rfl, hx, hxs, hxl, p7, hp7, hr7, hc7⟩; have F7 : Ch (· = r) w6 w7 := Ch.trans (by (repeat (first | with_reducible exact Ch.refl _ | with_reducible assumption | with_reducible refine Ch.alloc ?_ _ | with_reducible refine Ch.drew ?_ | (with_reducible refine Ch.setNew2 ?_ ?_ _; · (simp <;> omega)) | with_reducible refine Ch.trans ?_ (by assumption)))) hc7; have G7 : Ch (fun k => k = r ∨ k = w.heap.size) w6 w7 := ch_two F7; have hw7 := F7.size; have A7 := A6.ch F7 (by omega); have hg7 : w.heap.size < w7.heap.size := A7.lt; have hg27 : w1.heap.size < w7.heap.size := (C6.ch F7 (by omega)).lt; have hg28 : w3.heap.size < w7.heap.size := (D6.ch F7 (by omega)).lt; obtain ⟨y0, y1, y2, y3, y4, g0, g1, g2, g3, g4⟩ := A7.five; have HX7 := hid (hx.mono (fromB_lo (show w.heap.size + 1 ≤ _ from by first | omega | (simp; omega)))))
            | fail)
          all_goals clear keepL y0 y1 y2 y3 y4 g0 g1 g2 g3 g4 c0 c1 c2' c3 c4 o0 o1 o2 o3 o4 z0 z1 z2 z3 z4 f0 f1 f2 f3 f4
          all_goals have hC7 := hC6.trans F7
          all_goals go_wp2
          · (have BS := ((((A7.set_ 0 (.int .i64 8)).set_ 1 (.int .i64 0)).set_ 2 (.bool false)).set_ 3 (.int .i64 0)).set_ 4 (.slice (some ⟨w7.heap.size + 1, 0, none⟩) 2 2); have r0 := fun o o' => ((BS.alloc o).alloc o').five.1; have r1 := fun o o' => ((BS.alloc o).alloc o').five.2.1; have r2 := fun o o' => ((BS.alloc o).alloc o').five.2.2.1; have r3 := fun o o' => ((BS.alloc o).alloc o').five.2.2.2.1; have r4 := fun o o' => ((BS.alloc o).alloc o').five.2.2.2.2.1; refine bodyPost_ret (v := .agg #[.int .i64 8, .int .i64 0, .bool false, .int .i64 0, .slice (some ⟨w7.heap.size + 1, 0, none⟩) 2 2]) (by simp [results, Try.results84, go_sem, r0, r1, r2, r3, r4]) rfl ?_; with_reducible refine and_drawnA (d := d) (K := kcon (d + 1)) (r := r) (p := p) (p7 := p7) (w := w) (w7 := w7) (x := x) 1 cc 0 y.1 y.2.1 y.2.2 _ _ _ _ _ hr7 ?hp hC7 hlt HX7.out hxs; (case hp => omega))
          · have G8 : Ch (· = r) (w6.drew.alloc (.cells #[.int .i64 1, .int .i64 cc, .bool false, .int .i64 0, .slice none 0 0, .int .i64 y.1, .int .i64 y.2.1, .bool false, .int .i64 y.2.2, .slice none 0 0] 33)) w7 := hc7
            have HY7 := hid ((two_leaf (d := d) (lo := w.heap.size + 1) (W := w6.drew) (g := w6.heap.size) 6 1 cc 0 y.1 y.2.1 y.2.2 (show w.heap.size + 1 ≤ w6.heap.size from hg6) rfl).mono (G8.mle_from (lo := w.heap.size + 1) (fun k hk => by omega)))
            (have BS := ((((A7.set_ 0 (.int .i64 8)).set_ 1 (.int .i64 0)).set_ 2 (.bool false)).set_ 3 (.int .i64 0)).set_ 4 (.slice (some ⟨w7.heap.size, 0, none⟩) 2 2); have r0 := fun o => (BS.alloc o).five.1; have r1 := fun o => (BS.alloc o).five.2.1; have r2 := fun o => (BS.alloc o).five.2.2.1; have r3 := fun o => (BS.alloc o).five.2.2.2.1; have r4 := fun o => (BS.alloc o).five.2.2.2.2.1; refine bodyPost_ret (v := .agg #[.int .i64 8, .int .i64 0, .bool false, .int .i64 0, .slice (some ⟨w7.heap.size, 0, none⟩) 2 2]) (by simp [results, Try.results84, go_sem, r0, r1, r2, r3, r4]) rfl ?_; with_reducible refine and_drawnB (d := d) (K := kcon (d + 1)) (r := r) (p := p) (p7 := p7) (w := w) (w7 := w7) (x := x) 1 cc 0 y.1 y.2.1 y.2.2 _ _ _ _ _ hr7 ?hp hC7 hlt HX7.out HY7.out hxs; (case hp => omega))
      · go_wp2
        have BS := ((((A6.set_ 0 (.int .i64 7)).set_ 1 (.int .i64 0)).set_ 2 (.bool false)).set_ 3 (.int .i64 0)).set_ 4 (.slice (some ⟨w6.heap.size, 0, none⟩) 2 2)
        have r0 := fun o => (BS.alloc o).five.1
        have r1 := fun o => (BS.alloc o).five.2.1
        have r2 := fun o => (BS.alloc o).five.2.2.1
        have r3 := fun o => (BS.alloc o).five.2.2.2.1
        have r4 := fun o => (BS.alloc o).five.2.2.2.2.1
        exact bodyPost_ret (v := .agg #[.int .i64 7, .int .i64 0, .bool false, .int .i64 0, .slice (some ⟨w6.heap.size, 0, none⟩) 2 2]) (by simp [results, Try.results84, go_sem, r0, r1, r2, r3, r4]) rfl ⟨(Ex.mk 7 0 ⟨false, 0⟩ [(Ex.mk y.1 y.2.1 ⟨false, y.2.2⟩ []), (Ex.mk 1 cc ⟨false, 0⟩ [])], some ⟨w6.heap.size, 0, none⟩, 2), rfl, two_leaf 7 y.1 y.2.1 y.2.2 1 cc 0 (by simp; omega) (by simp), sm_two y.1 y.2.1 y.2.2 1 cc 0, by simp [Ex.kids], p6, by omega, by (repeat (first | with_reducible assumption | with_reducible refine Rdr.alloc ?_ _ | with_reducible refine Rdr.drew ?_ | (with_reducible refine Rdr.set2 ?_ ?_ _; · (simp <;> omega)))), by (repeat (first | with_reducible exact Ch.refl _ | with_reducible assumption | with_reducible refine Ch.alloc ?_ _ | with_reducible refine Ch.drew ?_ | (with_reducible refine Ch.setNew2 ?_ ?_ _; · (simp <;> omega)) | with_reducible refine Ch.trans ?_ (by assumption)))⟩
      · go_wp2
        have BS := ((((A6.set_ 0 (.int .i64 7)).set_ 1 (.int .i64 0)).set_ 2 (.bool false)).set_ 3 (.int .i64 0)).set_ 4 (.slice (some ⟨w6.heap.size, 0, none⟩) 2 2)
        have r0 := fun o => (BS.alloc o).five.1
        have r1 := fun o => (BS.alloc o).five.2.1
        have r2 := fun o => (BS.alloc o).five.2.2.1
        have r3 := fun o => (BS.alloc o).five.2.2.2.1
        have r4 := fun o => (BS.alloc o).five.2.2.2.2.1
        exact bodyPost_ret (v := .agg #[.int .i64 7, .int .i64 0, .bool false, .int .i64 0, .slice (some ⟨w6.heap.size, 0, none⟩) 2 2]) (by simp [results, Try.results84, go_sem, r0, r1, r2, r3, r4]) rfl ⟨(Ex.mk 7 0 ⟨false, 0⟩ [(Ex.mk y.1 y.2.1 ⟨false, y.2.2⟩ []), (Ex.mk 1 cc ⟨false, 0⟩ [])], some ⟨w6.heap.size, 0, none⟩, 2), rfl, two_leaf 7 y.1 y.2.1 y.2.2 1 cc 0 (by simp; omega) (by simp), sm_two y.1 y.2.1 y.2.2 1 cc 0, by simp [Ex.kids], p6, by omega, by (repeat (first | with_reducible assumption | with_reducible refine Rdr.alloc ?_ _ | with_reducible refine Rdr.drew ?_ | (with_reducible refine Rdr.set2 ?_ ?_ _; · (simp <;> omega)))), by (repeat (first | with_reducible exact Ch.refl _ | with_reducible assumption | with_reducible refine Ch.alloc ?_ _ | with_reducible refine Ch.drew ?_ | (with_reducible refine Ch.setNew2 ?_ ?_ _; · (simp <;> omega)) | with_reducible refine Ch.trans ?_ (by assumption)))⟩
      · go_wp2
        have BS := ((((A6.set_ 0 (.int .i64 7)).set_ 1 (.int .i64 0)).set_ 2 (.bool false)).set_ 3 (.int .i64 0)).set_ 4 (.slice (some ⟨w6.heap.size, 0, none⟩) 2 2)
        have r0 := fun o => (BS.alloc o).five.1
        have r1 := fun o => (BS.alloc o).five.2.1
        have r2 := fun o => (BS.alloc o).five.2.2.1
        have r3 := fun o => (BS.alloc o).five.2.2.2.1
        have r4 := fun o => (BS.alloc o).five.2.2.2.2.1
        exact bodyPost_ret (v := .agg #[.int .i64 7, .int .i64 0, .bool false, .int .i64 0, .slice (some ⟨w6.heap.size, 0, none⟩) 2 2]) (by simp [results, Try.results84, go_sem, r0, r1, r2, r3, r4]) rfl ⟨(Ex.mk 7 0 ⟨false, 0⟩ [(Ex.mk 1 cc ⟨false, 0⟩ []), (Ex.mk y.1 y.2.1 ⟨false, y.2.2⟩ [])], some ⟨w6.heap.size, 0, none⟩, 2), rfl, two_leaf 7 1 cc 0 y.1 y.2.1 y.2.2 (by simp; omega) (by simp), sm_two 1 cc 0 y.1 y.2.1 y.2.2, by simp [Ex.kids], p6, by omega, by (repeat (first | with_reducible assumption | with_reducible refine Rdr.alloc ?_ _ | with_reducible refine Rdr.drew ?_ | (with_reducible refine Rdr.set2 ?_ ?_ _; · (simp <;> omega)))), by (repeat (first | with_reducible exact Ch.refl _ | with_reducible assumption | with_reducible refine Ch.alloc ?_ _ | with_reducible refine Ch.drew ?_ | (with_reducible refine Ch.setNew2 ?_ ?_ _; · (simp <;> omega)) | with_reducible refine Ch.trans ?_ (by assumption)))⟩
      · go_wp2
        have BS := ((((A6.set_ 0 (.int .i64 6)).set_ 1 (.int .i64 0)).set_ 2 (.bool false)).set_ 3 (.int .i64 0)).set_ 4 (.slice (some ⟨w6.heap.size, 0, none⟩) 2 2)
        have r0 := fun o => (BS.alloc o).five.1
        have r1 := fun o => (BS.alloc o).five.2.1
        have r2 := fun o => (BS.alloc o).five.2.2.1
        have r3 := fun o => (BS.alloc o).five.2.2.2.1
        have r4 := fun o => (BS.alloc o).five.2.2.2.2.1
        exact bodyPost_ret (v := .agg #[.int .i64 6, .int .i64 0, .bool false, .int .i64 0, .slice (some ⟨w6.heap.size, 0, none⟩) 2 2]) (by simp [results, Try.results84, go_sem, r0, r1, r2, r3, r4]) rfl ⟨(Ex.mk 6 0 ⟨false, 0⟩ [(Ex.mk 1 cc ⟨false, 0⟩ []), (Ex.mk y.1 y.2.1 ⟨false, y.2.2⟩ [])], some ⟨w6.heap.size, 0, none⟩, 2), rfl, two_leaf 6 1 cc 0 y.1 y.2.1 y.2.2 (by simp; omega) (by simp), sm_two 1 cc 0 y.1 y.2.1 y.2.2, by simp [Ex.kids], p6, by omega, by (repeat (first | with_reducible assumption | with_reducible refine Rdr.alloc ?_ _ | with_reducible refine Rdr.drew ?_ | (with_reducible refine Rdr.set2 ?_ ?_ _; · (simp <;> omega)))), by (repeat (first | with_reducible exact Ch.refl _ | with_reducible assumption | with_reducible refine Ch.alloc ?_ _ | with_reducible refine Ch.drew ?_ | (with_reducible refine Ch.setNew2 ?_ ?_ _; · (simp <;> omega)) | with_reducible refine Ch.trans ?_ (by assumption)))⟩
      · go_wp2
        have BS := ((((A6.set_ 0 (.int .i64 6)).set_ 1 (.int .i64 0)).set_ 2 (.bool false)).set_ 3 (.int .i64 0)).set_ 4 (.slice (some ⟨w6.heap.size, 0, none⟩) 2 2)
        have r0 := fun o => (BS.alloc o).five.1
        have r1 := fun o => (BS.alloc o).five.2.1
        have r2 := fun o => (BS.alloc o).five.2.2.1
        have r3 := fun o => (BS.alloc o).five.2.2.2.1
        have r4 := fun o => (BS.alloc o).five.2.2.2.2.1
        exact bodyPost_ret (v := .agg #[.int .i64 6, .int .i64 0, .bool false, .int .i64 0, .slice (some ⟨w6.heap.size, 0, none⟩) 2 2]) (by simp [results, Try.results84, go_sem, r0, r1, r2, r3, r4]) rfl ⟨(Ex.mk 6 0 ⟨false, 0⟩ [(Ex.mk 1 cc ⟨false, 0⟩ []), (Ex.mk y.1 y.2.1 ⟨false, y.2.2⟩ [])], some ⟨w6.heap.size, 0, none⟩, 2), rfl, two_leaf 6 1 cc 0 y.1 y.2.1 y.2.2 (by simp; omega) (by simp), sm_two 1 cc 0 y.1 y.2.1 y.2.2, by simp [Ex.kids], p6, by omega, by (repeat (first | with_reducible assumption | with_reducible refine Rdr.alloc ?_ _ | with_reducible refine Rdr.drew ?_ | (with_reducible refine Rdr.set2 ?_ ?_ _; · (simp <;> omega)))), by (repeat (first | with_reducible exact Ch.refl _ | with_reducible assumption | with_reducible refine Ch.alloc ?_ _ | with_reducible refine Ch.drew ?_ | (with_reducible refine Ch.setNew2 ?_ ?_ _; · (simp <;> omega)) | with_reducible refine Ch.trans ?_ (by assumption)))⟩
end Go.Proofs.Ytfillcjpdnpaiaa
