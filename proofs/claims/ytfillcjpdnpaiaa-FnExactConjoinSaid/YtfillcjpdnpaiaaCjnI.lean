/- The conjunction of a list of expressions, on the program's side: both, constant, Conjoin. -/
import Derived.Test.YtfillcjpdnpaiaaCjnS
import Derived.Test.YtfillcjpdnpaiaaCopyK
namespace Go.Proofs.Ytfillcjpdnpaiaa
open Go Go.RowKit

theorem implConstant (b : Bool) (n : Int) (w : World) : Calls Try.prog 49 #[.agg #[.bool b, .int .i64 n]] w fun r w' => r = .returned (.agg #[.int .i64 2, .int .i64 0, .bool b, .int .i64 n, .slice none 0 0]) ∧ Fr w w' := by
  go_enter Try.func49, Try.ntmps49
  go_wp2
  exact bodyPost_ret (v := .agg #[.int .i64 2, .int .i64 0, .bool b, .int .i64 n, .slice none 0 0]) (by simp [results, Try.results49, go_sem]) rfl ⟨rfl, by (repeat (first | with_reducible exact Fr.refl _ | with_reducible assumption | with_reducible refine Fr.alloc ?_ _ | with_reducible refine Fr.drew ?_ | with_reducible refine Fr.drewN ?_ _ | (with_reducible refine Fr.setNew2 ?_ ?_ _; · (simp <;> omega)) | with_reducible refine Fr.trans ?_ (by assumption)))⟩
theorem blk_at {w : World} {g : Nat} {t : TypeId} {cs : Array Value} (h : g = w.heap.size) : Blk (w.alloc (.cells cs t)) g t cs := h ▸ Blk.new w t cs
set_option maxRecDepth 100000 in
set_option maxHeartbeats 1000000 in
theorem implBoth (y z : Ex × Option Addr × Nat) (w : World) :
    Calls Try.prog 51 #[.agg #[.int .i64 y.1.kind, .int .i64 y.1.col, .bool y.1.val.null, .int .i64 y.1.val.n, .slice y.2.1 y.1.kids.length y.2.2], .agg #[.int .i64 z.1.kind, .int .i64 z.1.col, .bool z.1.val.null, .int .i64 z.1.val.n, .slice z.2.1 z.1.kids.length z.2.2]] w fun r w' => ∃ g, r = .returned (.agg #[.int .i64 8, .int .i64 0, .bool false, .int .i64 0, .slice (some ⟨g, 0, none⟩) 2 2]) ∧ w.heap.size ≤ g ∧ Blk w' g 33 ([y, z].flatMap cellsE).toArray ∧ Fr w w' := by
  go_enter Try.func51, Try.ntmps51
  go_wp2
  exact bodyPost_ret (v := .agg #[.int .i64 8, .int .i64 0, .bool false, .int .i64 0, .slice (some ⟨w.heap.size + 1 + 1 + 1, 0, none⟩) 2 2]) (by simp [results, Try.results51, go_sem]) rfl ⟨_, rfl, by omega, blk_at (by simp), by (repeat (first | with_reducible exact Fr.refl _ | with_reducible assumption | with_reducible refine Fr.alloc ?_ _ | with_reducible refine Fr.drew ?_ | with_reducible refine Fr.drewN ?_ _ | (with_reducible refine Fr.setNew2 ?_ ?_ _; · (simp <;> omega)) | with_reducible refine Fr.trans ?_ (by assumption)))⟩
/-- Two expressions side by side in one block. -/
theorem two_rd {m g : Nat} {mem : Mv} {y z : Ex × Option Addr × Nat} (h : ∀ j u, ([y, z].flatMap cellsE)[j]? = some u → mem ⟨g, j, none⟩ = some u) (hy : KidsOk m mem y) (hz : KidsOk m mem z) :
    KidsOk (m + 1) mem (Ex.mk 8 0 ⟨false, 0⟩ [y.1, z.1], some ⟨g, 0, none⟩, 2) := by
  refine ⟨?_, by show 2 ≤ maxLen; unfold maxLen; omega, Nat.le_refl _⟩
  have hr := laid_rd (m := m) (mem := mem) (A := some ⟨g, 0, none⟩) (xs := [y, z]) (fun _ => ⟨g, 0, rfl, fun i hi => ?_⟩) (fun x hx => by
    simp only [List.mem_cons, List.not_mem_nil, or_false] at hx
    rcases hx with rfl | rfl
    · exact hy
    · exact hz)
  · exact hr
  · rcases (by simp at hi; omega : i = 0 ∨ i = 1) with rfl | rfl
    · exact ⟨h 0 _ rfl, h 1 _ rfl, h 2 _ rfl, h 3 _ rfl, h 4 _ rfl⟩
    · exact ⟨h 5 _ rfl, h 6 _ rfl, h 7 _ rfl, h 8 _ rfl, h 9 _ rfl⟩
theorem CnInv.nextI {w : World} {G g n k : Nat} {xs : List Ex} {w8 : World} {y z : Ex × Option Addr × Nat} {q0 q1 q2 q3 q4 : Value} (hF : Fr w w8) (hR : Blk w8 w.heap.size 33 #[.int .i64 0, .int .i64 0, .bool false, .int .i64 0, .slice none 0 0]) (hB : Blk w8 G 33 #[q0, q1, q2, q3, q4]) (hwG : w.heap.size < G)
    (hg : Blk w8 g 33 ([y, z].flatMap cellsE).toArray) (hgw : w.heap.size + 1 ≤ g) (hgG : G ≠ g)
    (hy : KidsOk (n + k) (offR w8 (w.heap.size + 1) (VG G)) y) (hz : KidsOk (n + k) (offR w8 (w.heap.size + 1) (VG G)) z) (sy : exSm (n + k) y.1.kids) (sz : exSm (n + k) z.1.kids) (ey : y.1 = cjn (xs.take k)) (h1 : 1 ≤ k) (hk : k < xs.length) (ez : z.1 = xs[k]) :
    CnInv w G n xs (((((w8.setCell ⟨G, 0, none⟩ (.int .i64 8)).setCell ⟨G, 1, none⟩ (.int .i64 0)).setCell ⟨G, 2, none⟩ (.bool false)).setCell ⟨G, 3, none⟩ (.int .i64 0)).setCell ⟨G, 4, none⟩ (.slice (some ⟨g, 0, none⟩) 2 2)) (k + 1) (Ex.mk 8 0 ⟨false, 0⟩ [y.1, z.1], some ⟨g, 0, none⟩, 2) := by
  have hG := hB.lt
  have hsz := hF.size
  refine ⟨by (repeat (first | with_reducible exact Fr.refl _ | with_reducible assumption | with_reducible refine Fr.alloc ?_ _ | with_reducible refine Fr.drew ?_ | with_reducible refine Fr.drewN ?_ _ | (with_reducible refine Fr.setNew2 ?_ ?_ _; · (simp <;> omega)) | with_reducible refine Fr.trans ?_ (by assumption))), ?_, ?_, ?_, exSm_two (m := n + k) (by simp [Ex.kids]) (fun q hq => ?_), by rw [cjn_take h1 hk, ← ey, ← ez]⟩
  · exact ((((hR.far (p := ⟨G, 0, none⟩) (by show w.heap.size ≠ G; omega) _).far (p := ⟨G, 1, none⟩) (by show w.heap.size ≠ G; omega) _).far (p := ⟨G, 2, none⟩) (by show w.heap.size ≠ G; omega) _).far (p := ⟨G, 3, none⟩) (by show w.heap.size ≠ G; omega) _).far (p := ⟨G, 4, none⟩) (by show w.heap.size ≠ G; omega) _
  · exact ((((hB.set_ 0 (.int .i64 8)).set_ 1 (.int .i64 0)).set_ 2 (.bool false)).set_ 3 (.int .i64 0)).set_ 4 (.slice (some ⟨g, 0, none⟩) 2 2)
  · have hM : Mle (offR w8 (w.heap.size + 1) (VG G)) (offR (((((w8.setCell ⟨G, 0, none⟩ (.int .i64 8)).setCell ⟨G, 1, none⟩ (.int .i64 0)).setCell ⟨G, 2, none⟩ (.bool false)).setCell ⟨G, 3, none⟩ (.int .i64 0)).setCell ⟨G, 4, none⟩ (.slice (some ⟨g, 0, none⟩) 2 2)) (w.heap.size + 1) (VG G)) := by
      refine Mle.trans ?_ (off_row (p := ⟨G, 4, none⟩) rfl _)
      refine Mle.trans ?_ (off_row (p := ⟨G, 3, none⟩) rfl _)
      refine Mle.trans ?_ (off_row (p := ⟨G, 2, none⟩) rfl _)
      refine Mle.trans ?_ (off_row (p := ⟨G, 1, none⟩) rfl _)
      exact off_row (p := ⟨G, 0, none⟩) rfl _
    refine KidsOk.mono (two_rd (fun j u hu => ?_) hy hz) hM
    unfold offR
    rw [if_pos ⟨hgw, by simp only [Value.ownBlock, ne_eq, Option.some.injEq]; exact hgG⟩, hg.cell]
    simpa using hu
  · simp only [Ex.kids, List.mem_cons, List.not_mem_nil, or_false] at hq
    rcases hq with rfl | rfl
    · exact sy
    · exact sz
/-- The lists of an expression lie in blocks of their own, from lo on, none of them block G. -/
def ShX (N : Nat) (W : World) (lo G : Nat) (x : Ex × Option Addr × Nat) : Prop := ∃ S : Nat → Prop, ShS N W S x.2.1 x.1.kids ∧ ∀ b, S b → lo ≤ b ∧ b < W.heap.size ∧ b ≠ G
theorem ShX.fr {N : Nat} {W W' : World} {lo G : Nat} {x : Ex × Option Addr × Nat} (h : ShX N W lo G x) (hf : Fr W W') : ShX N W' lo G x := by
  obtain ⟨S, h1, h2⟩ := h
  have hs := hf.size
  exact ⟨S, h1.keep hf.keepS, fun b hb => by have := h2 b hb; omega⟩
theorem ShX.next {N lo G g : Nat} {W1 w5 w8 W9 : World} {y z : Ex × Option Addr × Nat} (hy : ShX N W1 lo G y) (h15 : Fr W1 w5) (hz : ∃ S : Nat → Prop, ShS N w5 S z.2.1 z.1.kids ∧ ∀ k, S k → W1.heap.size ≤ k ∧ k < w5.heap.size) (h58 : Fr w5 w8)
    (hg : Blk w8 g 33 ([y, z].flatMap cellsE).toArray) (hgw : w5.heap.size ≤ g) (hG : G < W1.heap.size) (hlo : lo ≤ W1.heap.size) (h9 : Ch (· = G) w8 W9) : ShX (N + 1) W9 lo G (Ex.mk 8 0 ⟨false, 0⟩ [y.1, z.1], some ⟨g, 0, none⟩, 2) := by
  obtain ⟨Sy, y1, y2⟩ := hy
  obtain ⟨Sz, z1, z2⟩ := hz
  have s1 := h15.size
  have s2 := h58.size
  have s3 := h9.size
  have hgl := hg.lt
  refine ⟨fun k => k = g ∨ Sy k ∨ Sz k, fun _ => ⟨g, ([y, z].flatMap cellsE).toArray, fun i k => (i = 0 ∧ Sy k) ∨ (i = 1 ∧ Sz k), rfl, .inl rfl, (h9.block g hg.lt (by omega)).trans hg, Nat.le_refl _, ?_, ?_, ?_⟩, ?_⟩
  · rintro i k (⟨_, h⟩ | ⟨_, h⟩)
    · exact ⟨.inr (.inl h), by have := y2 k h; omega⟩
    · exact ⟨.inr (.inr h), by have := z2 k h; omega⟩
  · rintro i j k (⟨h1, h2⟩ | ⟨h1, h2⟩) (⟨h3, h4⟩ | ⟨h3, h4⟩)
    · omega
    · have := y2 k h2; have := z2 k h4; omega
    · have := y2 k h4; have := z2 k h2; omega
    · omega
  · intro i hi
    rcases (by simp [Ex.kids] at hi; omega : i = 0 ∨ i = 1) with rfl | rfl
    · exact ⟨y.2.1, y.2.2, rfl, (((y1.keep h15.keepS).keep h58.keepS).keep (h9.keepS fun k hk => by have := y2 k hk; omega)).sub fun k hk => .inl ⟨rfl, hk⟩⟩
    · exact ⟨z.2.1, z.2.2, rfl, ((z1.keep h58.keepS).keep (h9.keepS fun k hk => by have := z2 k hk; omega)).sub fun k hk => .inr ⟨rfl, hk⟩⟩
  · rintro b (rfl | h | h)
    · omega
    · have := y2 b h; omega
    · have := z2 b h; omega
/-- An expression returned, in new memory, each list in a block of its own. -/
def ResX (N : Nat) (x : Ex) (w : World) (r : Ending) (w' : World) : Prop := ∃ A c, r = .returned (.agg #[.int .i64 x.kind, .int .i64 x.col, .bool x.val.null, .int .i64 x.val.n, .slice A x.kids.length c]) ∧ KidsOk N (fromB w' w.heap.size) (x, A, c) ∧ exSm N x.kids ∧ Fr w w' ∧ ∃ S : Nat → Prop, ShS N w' S A x.kids ∧ ∀ k, S k → w.heap.size ≤ k ∧ k < w'.heap.size
theorem e0_resX {N : Nat} {w w' : World} (hf : Fr w w') : ResX N e0 w (.returned (.agg #[.int .i64 0, .int .i64 0, .bool false, .int .i64 0, .slice none 0 0])) w' := ⟨none, 0, rfl, ⟨RdSl.nil, by simp [e0, Ex.kids], by simp [e0, Ex.kids]⟩, exSm_nil _, hf, fun _ => False, ShS.nil, fun _ h => h.elim⟩
theorem at_fr {n b o : Nat} {e : Ex} {w w' : World} (h : rdEx n w.cell? (fun j => w.cell? ⟨b, o + j, none⟩) e) (hf : Fr w w') : rdEx n w'.cell? (fun j => w'.cell? ⟨b, o + j, none⟩) e := rdEx_mono n _ _ _ _ _ hf.mle (fun _ _ hu => hf.mle _ _ hu) h
theorem parts6 {n : Nat} {e : Ex} (h : vexpr 6 n e = true) : parts n e ≤ 1048576 := by
  have h1 := parts_le (vexpr_vE h)
  have h2 : 2 ^ (8 + 1) = 512 := by decide
  omega
set_option maxRecDepth 100000 in
set_option maxHeartbeats 4000000 in
theorem implConjoin2 (n : Nat) (xs : List Ex) (A : Option Addr) (c : Nat) (w : World) (hx : RdSl (rdEx (n + 1)) w.cell? 5 A xs) (hs : exSm (n + 1) xs) :
    Calls Try.prog 26 #[.slice A xs.length c] w (ResX (n + 9) (xcjn n xs) w) := by
  have HX := hid hx
  have HS := hid hs
  have hlm := exSm_len hs
  clear hx hs
  have BR0 := Blk.new w 33 #[.int .i64 0, .int .i64 0, .bool false, .int .i64 0, .slice none 0 0]
  have F0 : Fr w (w.alloc (.cells #[.int .i64 0, .int .i64 0, .bool false, .int .i64 0, .slice none 0 0] 33)) := (Fr.refl _).alloc _
  go_enter Try.func26, Try.ntmps26
  go_wp2_with fail
  go_loopw [8] (fun t wr => ∃ (k : Nat), k ≤ xs.length ∧ t = .int .i64 k ∧ Hid ((xs.take k).all (vexpr 6 n) = true) ∧ Fr w wr ∧ Hid (Blk wr w.heap.size 33 #[.int .i64 0, .int .i64 0, .bool false, .int .i64 0, .slice none 0 0])) (fun t _ => xs.length - (intOf t).toNat)
  case atStart => exact ⟨0, by omega, rfl, hid (by simp), F0, hid BR0⟩
  case round =>
    obtain ⟨k, hk, rfl, hall, F3, HB⟩ := hrel
    by_cases hlt : k < xs.length
    · obtain ⟨kb', ko', K', kc', hA', d0, d1, d2, d3, d4, hK'⟩ := HX.out.exc hlt
      subst hA'
      have HKK := hid (hK'.fr F3)
      clear hK'
      replace d0 := F3.cell d0
      replace d1 := F3.cell d1
      replace d2 := F3.cell d2
      replace d3 := F3.cell d3
      replace d4 := F3.cell d4
      go_wp2_with fail
      refine (implValidExpr n xs[k] K' kc' 6 _ HKK.out.1 (HS.out.2 k hlt) HKK.out.2.2).mono ?_
      rintro r w1 ⟨rfl, b1⟩
      have F4 := F3.trans b1
      have HB4 := HB.out.fr b1
      cases hv : vexpr 6 n xs[k]
      · have R := hid (show xcjn n xs = e0 by
          unfold xcjn
          rw [if_neg]
          intro hh
          simp only [Bool.and_eq_true, List.all_eq_true] at hh
          have := hh.1.1 _ (List.getElem_mem hlt)
          rw [hv] at this; cases this)
        obtain ⟨z0, z1, z2, z3, z4, f0, f1, f2, f3, f4⟩ := HB4.five
        have hw0 : w.heap.size < w1.heap.size := HB4.lt
        clear hv HB4 HB
        go_wp2
        refine bodyPost_ret (v := .agg #[.int .i64 0, .int .i64 0, .bool false, .int .i64 0, .slice none 0 0]) (by simp [results, Try.results26, go_sem, z0, z1, z2, z3, z4]) rfl ?_
        rw [R.out]
        exact e0_resX (by (repeat (first | with_reducible exact Fr.refl _ | with_reducible assumption | with_reducible refine Fr.alloc ?_ _ | with_reducible refine Fr.drew ?_ | with_reducible refine Fr.drewN ?_ _ | (with_reducible refine Fr.setNew2 ?_ ?_ _; · (simp <;> omega)) | with_reducible refine Fr.trans ?_ (by assumption))))
      · have HA := hid (show (xs.take (k + 1)).all (vexpr 6 n) = true by rw [List.take_succ_eq_append_getElem hlt, List.all_append, hall.out]; simp [hv])
        have HB5 := hid HB4
        clear hv HB4 HB hall
        go_wp2
        go_roundw
        case rel => exact ⟨k + 1, by omega, by go_num, HA, F4, HB5⟩
        case measure => simp [intOf]; omega
    · obtain rfl : k = xs.length := by omega
      have HA := hid (show xs.all (vexpr 6 n) = true by have h := hall.out; rwa [List.take_of_length_le (Nat.le_refl _)] at h)
      clear hall
      by_cases h0 : xs = []
      · subst h0
        have hw0 : w.heap.size < wr.heap.size := HB.out.lt
        go_wp2_with fail
        refine (implNumber 1 _).mono ?_
        rintro r w1 ⟨rfl, b1⟩
        go_wp2_with fail
        refine (implConstant false 1 _).mono ?_
        rintro r w2 ⟨rfl, b2⟩
        have b3 := b1.trans b2
        have F5 := F3.trans b3
        have R := hid (show xcjn n [] = cjn [] by unfold xcjn; rw [cjn_nil_ok]; simp)
        obtain ⟨z0, z1, z2, z3, z4, f0, f1, f2, f3, f4⟩ := (HB.out.fr b3).five
        have hw1 : w.heap.size < w2.heap.size := (HB.out.fr b3).lt
        clear HB
        go_wp2
        refine bodyPost_ret (v := .agg #[.int .i64 2, .int .i64 0, .bool false, .int .i64 1, .slice none 0 0]) (by simp [results, Try.results26, go_sem, z0, z1, z2, z3, z4]) rfl ?_
        rw [R.out]
        exact ⟨none, 0, rfl, ⟨RdSl.nil, by simp [cjn, Ex.kids], by simp [cjn, Ex.kids]⟩, exSm_nil _, by (repeat (first | with_reducible exact Fr.refl _ | with_reducible assumption | with_reducible refine Fr.alloc ?_ _ | with_reducible refine Fr.drew ?_ | with_reducible refine Fr.drewN ?_ _ | (with_reducible refine Fr.setNew2 ?_ ?_ _; · (simp <;> omega)) | with_reducible refine Fr.trans ?_ (by assumption))), fun _ => False, ShS.nil, fun _ h => h.elim⟩
      have hpos : 0 < xs.length := List.length_pos_iff.2 h0
      have ee0 : (((xs.length : Nat) : Int) == 0) = false := by simp; omega
      by_cases h9 : xs.length ≤ 9
      · have e9 : decide ((9 : Int) < (xs.length : Int)) = false := decide_eq_false (by omega)
        obtain ⟨kb, ko, hA', hat⟩ := HX.out.at_ hpos
        subst hA'
        have HP := hid (at_fr hat F3)
        clear hat
        have hw0 : w.heap.size < wr.heap.size := HB.out.lt
        go_wp2_with fail
        refine (implCopied2 n xs[0] kb ko _ (by have h := HP.out; simp only [Nat.zero_mul, Nat.add_zero] at h; exact h) (HS.out.2 0 hpos) (parts6 (List.all_eq_true.1 HA.out _ (List.getElem_mem hpos)))).mono ?_
        rintro r w2 ⟨A1, c1, rfl, hx1, b1, hsh1⟩
        have HX1 := hid hx1
        have HSH1 := hid hsh1
        clear hx1 hsh1
        have s1 := b1.size
        have BR2 := (HB.out.fr b1).alloc (.cells #[.int .i64 xs[0].kind, .int .i64 xs[0].col, .bool xs[0].val.null, .int .i64 xs[0].val.n, .slice A1 xs[0].kids.length c1] 33)
        have B4 := Blk.new w2 33 #[.int .i64 xs[0].kind, .int .i64 xs[0].col, .bool xs[0].val.null, .int .i64 xs[0].val.n, .slice A1 xs[0].kids.length c1]
        have FA : Fr w2 (w2.alloc (.cells #[.int .i64 xs[0].kind, .int .i64 xs[0].col, .bool xs[0].val.null, .int .i64 xs[0].val.n, .slice A1 xs[0].kids.length c1] 33)) := (Fr.refl _).alloc _
        have hx4 : KidsOk (n + 1) (offR (w2.alloc (.cells #[.int .i64 xs[0].kind, .int .i64 xs[0].col, .bool xs[0].val.null, .int .i64 xs[0].val.n, .slice A1 xs[0].kids.length c1] 33)) (w.heap.size + 1) (VG w2.heap.size)) (xs[0], A1, c1) := by
          have q1 : Mle (fromB w2 (w.heap.size + 1)) (offR w2 (w.heap.size + 1) (VG w2.heap.size)) := fun p u e => by
            have hlt := cell_lt (fromB_le _ _ _ _ e)
            unfold fromB at e
            unfold offR
            split at e
            · rename_i h'
              rw [if_pos ⟨by omega, by simp only [Value.ownBlock, ne_eq, Option.some.injEq]; omega⟩]
              exact e
            · cases e
          exact kids_up (HX1.out.mono ((fromB_lo (by omega)).trans (q1.trans (off_fr FA))))
        have INV : CnInv w w2.heap.size n xs _ 1 (xs[0], A1, c1) := ⟨(F3.trans b1).trans FA, BR2, B4, hx4, exSm_to (m := n) (by omega) HX1.out.1 (HS.out.2 0 hpos), by rw [List.take_succ_eq_append_getElem hpos]; rfl⟩
        have SX : ShX (n + 1) (w2.alloc (.cells #[.int .i64 xs[0].kind, .int .i64 xs[0].col, .bool xs[0].val.null, .int .i64 xs[0].val.n, .slice A1 xs[0].kids.length c1] 33)) (w.heap.size + 1) w2.heap.size (xs[0], A1, c1) := by
          obtain ⟨S, h1, h2⟩ := HSH1.out
          have hsz := FA.size
          exact ⟨S, (h1.keep FA.keepS).up, fun b hb => by have := h2 b hb; omega⟩
        have HI := hid (And.intro INV SX)
        have hwG : w.heap.size < w2.heap.size := by omega
        clear hx4 INV SX HSH1 B4 BR2 HX1 HB HP hw0
        go_wp2
        obtain ⟨G, eG⟩ : ∃ G, w2.heap.size = G := ⟨_, rfl⟩
        rw [eG] at HI hwG s1
        simp only [eG]
        clear eG
        go_loopw [5] (fun t wr => ∃ (k : Nat) (x : Ex × Option Addr × Nat), 1 ≤ k ∧ k ≤ xs.length ∧ t = .int .i64 k ∧ Hid (CnInv w G n xs wr k x ∧ ShX (n + k) wr (w.heap.size + 1) G x)) (fun t _ => xs.length - (intOf t).toNat)
        case atStart => exact ⟨1, _, by omega, by omega, rfl, HI⟩
        case round =>
          revert wr
          intro W1 hrel
          obtain ⟨k, y, h1, hk, rfl, HJJ⟩ := hrel
          have HJ := hid HJJ.out.1
          have HSX := hid HJJ.out.2
          clear HJJ
          have hGl := HJ.out.blk.lt
          have F3 := HJ.out.fr
          have hs1 := F3.size
          obtain ⟨a0, a1, a2, a3, a4, _⟩ := HJ.out.blk.five
          by_cases hlt : k < xs.length
          · obtain ⟨kb', ko', hA', hat⟩ := HX.out.at_ hlt
            cases hA'
            have HP := hid (at_fr hat F3)
            have HPN := hid (parts6 (List.all_eq_true.1 HA.out _ (List.getElem_mem hlt)))
            clear hat
            go_wp2_with fail
            first | (go_region_with (first
              | (go_at_call 47; refine (implCopied2 n xs[k] kb (ko + k * 5) _ (at_fr HP.out (Fr.refl _).drew) (HS.out.2 k hlt) HPN.out).mono ?_; rintro r w5 ⟨A5, c5, rfl, hz, b5, hshz⟩; have HSZ := hid hshz; clear hshz; have hc5 := (Fr.refl W1).drew.trans b5; have HZ := hid hz; clear hz; have G5 := HJ.out.blk.fr hc5; obtain ⟨g0, g1, g2, g3, g4, _⟩ := G5.five; have hg5 : G < w5.heap.size := G5.lt)
              | (go_at_call 51; refine (implBoth y (xs[k], A5, c5) _).mono ?_; rintro r w8 ⟨g, rfl, hgw, hB8, b8⟩; have HB8 := hid hB8; clear hB8; have F58 : Fr w5 w8 := (by first | exact b8 | exact (Fr.refl w5).drew.trans b8); have G8 := G5.fr F58; obtain ⟨g0', g1', g2', g3', g4', f0, f1, f2, f3, f4⟩ := G8.five; have hg8 : G < w8.heap.size := G8.lt; have hw5g : w5.heap.size ≤ g := (by first | exact hgw | exact Nat.le_trans (Fr.refl w5).drew.size hgw))
              | fail)) | fail
            all_goals have s5 : W1.heap.size ≤ w5.heap.size := hc5.size
            all_goals have hc8 := hc5.trans F58
            all_goals have HY8 := hid (HJ.out.kids.mono (off_fr hc8))
            all_goals have HZ8 := hid (kids_leG (m := n) (n := n + k) (by omega) ((HZ.out.mono (off_from (lo := w.heap.size + 1) (v := VG G) (lo' := W1.drew.heap.size) (Nat.le_trans (by omega) (Fr.refl W1).drew.size) (fun j hj => by simp only [Value.ownBlock, Option.some.injEq] at hj; exact Nat.lt_of_lt_of_le (by omega) (Fr.refl W1).drew.size))).mono (off_fr F58)))
            all_goals have INV := hid (CnInv.nextI (y := y) (z := (xs[k], A5, c5)) (F3.trans hc8) (HJ.out.res.fr hc8) G8 (by omega) HB8.out (by omega) (by omega) HY8.out HZ8.out HJ.out.sm (exSm_to (m := n) (by omega) HZ.out.1 (HS.out.2 k hlt)) HJ.out.ex h1 hlt rfl)
            all_goals have SX9 := hid (fun W9 => ShX.next (y := y) (z := (xs[k], A5, c5)) (W9 := W9) HSX.out hc5 (by
              obtain ⟨S, q1, q2⟩ := HSZ.out
              exact ⟨S, q1.le (by omega), fun j hj => ⟨Nat.le_trans (Fr.refl W1).drew.size (Nat.le_of_lt (q2 j hj).1), (q2 j hj).2⟩⟩) F58 HB8.out (by omega) (by omega) (by omega))
            all_goals clear HY8 HZ8 HZ HSZ
            all_goals go_wp2
            all_goals go_roundw
            all_goals first
              | exact ⟨k + 1, _, by omega, by omega, by go_num, hid ⟨INV.out, SX9.out _ (chSet (chSet (chSet (chSet (chSet (Ch.refl w8))))))⟩⟩
              | (simp [intOf]; omega)
          · obtain rfl : k = xs.length := by omega
            have EY := hid (show y.1 = cjn xs by rw [HJ.out.ex, List.take_of_length_le (Nat.le_refl _)])
            have hKm : KidsOk (n + 9) (fromB W1 (w.heap.size + 1)) y := kids_leG (m := n + xs.length) (by omega) (HJ.out.kids.mono off_le)
            have hSm : exSm (n + 9) y.1.kids := exSm_to (m := n + xs.length) (by omega) HJ.out.kids.1 HJ.out.sm
            have HKM := hid hKm
            have HSM := hid hSm
            clear hKm hSm
            go_wp2_with fail
            refine (implValidExpr (n + 9) y.1 y.2.1 y.2.2 6 _ (HKM.out.mono (fromB_le _ _)).1 HSM.out HKM.out.2.2).mono ?_
            rintro r w6 ⟨rfl, b6⟩
            have F6 := F3.trans b6
            have HB6 := HJ.out.res.fr b6
            have HG6 := HJ.out.blk.fr b6
            obtain ⟨z0, z1, z2, z3, z4, f0, f1, f2, f3, f4⟩ := HB6.five
            have hw6 : w.heap.size < w6.heap.size := HB6.lt
            cases hv : vexpr 6 (n + 9) y.1
            · have R := hid (show xcjn n xs = e0 by unfold xcjn; rw [← EY.out, hv]; simp)
              clear hv HB6 HG6
              go_wp2
              refine bodyPost_ret (v := .agg #[.int .i64 0, .int .i64 0, .bool false, .int .i64 0, .slice none 0 0]) (by simp [results, Try.results26, go_sem, z0, z1, z2, z3, z4]) rfl ?_
              rw [R.out]
              exact e0_resX (by (repeat (first | with_reducible exact Fr.refl _ | with_reducible assumption | with_reducible refine Fr.alloc ?_ _ | with_reducible refine Fr.drew ?_ | with_reducible refine Fr.drewN ?_ _ | (with_reducible refine Fr.setNew2 ?_ ?_ _; · (simp <;> omega)) | with_reducible refine Fr.trans ?_ (by assumption))))
            · have R := hid (show xcjn n xs = y.1 by unfold xcjn; rw [← EY.out, hv, HA.out]; simp [h9])
              clear a0 a1 a2 a3 a4
              obtain ⟨a0, a1, a2, a3, a4, _⟩ := HG6.five
              clear hv HB6 HG6
              go_wp2
              refine bodyPost_ret (v := .agg #[.int .i64 y.1.kind, .int .i64 y.1.col, .bool y.1.val.null, .int .i64 y.1.val.n, .slice y.2.1 y.1.kids.length y.2.2]) (by simp [results, Try.results26, go_sem, z0, z1, z2, z3, z4]) rfl ?_
              rw [R.out]
              obtain ⟨S, q1, q2⟩ := HSX.out
              have hss := b6.size
              refine ⟨y.2.1, y.2.2, rfl, HKM.out.mono ?_, HSM.out, by (repeat (first | with_reducible exact Fr.refl _ | with_reducible assumption | with_reducible refine Fr.alloc ?_ _ | with_reducible refine Fr.drew ?_ | with_reducible refine Fr.drewN ?_ _ | (with_reducible refine Fr.setNew2 ?_ ?_ _; · (simp <;> omega)) | with_reducible refine Fr.trans ?_ (by assumption))), S, ((q1.le (by omega)).keep b6.keepS).keep (Ch.keepS (D := (· = w.heap.size)) (chSet (chSet (chSet (chSet (chSet (Ch.refl w6)))))) (fun j hj e => by have := q2 j hj; omega)), fun j hj => ⟨by have := q2 j hj; omega, by have := q2 j hj; simp; omega⟩⟩
              refine Mle.trans (b6.mle_from _) ?_
              exact (Ch.mle_from (chSet (chSet (chSet (chSet (chSet (Ch.refl w6)))))) (fun k hk => by omega)).trans (fromB_lo (by omega))
      · have e9 : decide ((9 : Int) < (xs.length : Int)) = true := decide_eq_true (by omega)
        have R := hid (show xcjn n xs = e0 by unfold xcjn; rw [show decide (xs.length ≤ 9) = false from decide_eq_false h9]; simp)
        obtain ⟨z0, z1, z2, z3, z4, f0, f1, f2, f3, f4⟩ := HB.out.five
        have hw0 : w.heap.size < wr.heap.size := HB.out.lt
        clear HB
        go_wp2
        refine bodyPost_ret (v := .agg #[.int .i64 0, .int .i64 0, .bool false, .int .i64 0, .slice none 0 0]) (by simp [results, Try.results26, go_sem, z0, z1, z2, z3, z4]) rfl ?_
        rw [R.out]
        exact e0_resX (by (repeat (first | with_reducible exact Fr.refl _ | with_reducible assumption | with_reducible refine Fr.alloc ?_ _ | with_reducible refine Fr.drew ?_ | with_reducible refine Fr.drewN ?_ _ | (with_reducible refine Fr.setNew2 ?_ ?_ _; · (simp <;> omega)) | with_reducible refine Fr.trans ?_ (by assumption))))
theorem implConjoin (n : Nat) (xs : List Ex) (A : Option Addr) (c : Nat) (w : World) (hx : RdSl (rdEx (n + 1)) w.cell? 5 A xs) (hs : exSm (n + 1) xs) :
    Calls Try.prog 26 #[.slice A xs.length c] w (ResE (n + 9) (xcjn n xs) w) :=
  (implConjoin2 n xs A c w hx hs).mono fun r w' h => by
    obtain ⟨A', c', h1, h2, h3, h4, _⟩ := h
    exact ⟨A', c', h1, h2, h3, h4⟩
end Go.Proofs.Ytfillcjpdnpaiaa
