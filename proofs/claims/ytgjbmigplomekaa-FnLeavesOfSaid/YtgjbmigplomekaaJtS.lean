/- Walks of the reference's functions on join trees. -/
import Derived.Test.YtgjbmigplomekaaJtP
import Derived.Test.YtgjbmigplomekaaValW
import Derived.Test.YtgjbmigplomekaaOwnW
import Derived.Laws.BitsAllLaws
import Derived.Laws.BitsLemmas
import Derived.Deep.RegionHeld3
namespace Go.Proofs.Ytgjbmigplomekaa
open Go Go.RowKit

theorem ofInt_j (a : Nat) (ha : a < 9223372036854775808) : (BitVec.ofInt 64 (a : Int)).toNat = a := by
  rw [BitVec.ofInt_natCast, BitVec.toNat_ofNat]; exact Nat.mod_eq_of_lt (by omega)
theorem j_and (a b : Nat) (ha : a < 32) (hb : b < 32) : bits .and .i64 (a : Int) (b : Int) = ((a &&& b : Nat) : Int) := by
  have hx : a &&& b < 2 ^ 5 := Nat.and_lt_two_pow _ (by omega)
  show IntKind.i64.wrap ((BitVec.ofInt 64 (a : Int) &&& BitVec.ofInt 64 (b : Int)).toNat : Int) = _
  rw [BitVec.toNat_and, ofInt_j a (by omega), ofInt_j b (by omega), IntKind.wrap_i64]
  omega
theorem j_or (a b : Nat) (ha : a < 32) (hb : b < 32) : bits .or .i64 (a : Int) (b : Int) = ((a ||| b : Nat) : Int) := by
  have hx : a ||| b < 2 ^ 5 := Nat.or_lt_two_pow (by omega) (by omega)
  show IntKind.i64.wrap ((BitVec.ofInt 64 (a : Int) ||| BitVec.ofInt 64 (b : Int)).toNat : Int) = _
  rw [BitVec.toNat_or, ofInt_j a (by omega), ofInt_j b (by omega), IntKind.wrap_i64]
  omega
/-- Two sets of relations joined: the four ways. -/
theorem mk2_ways (a b : Nat) (ha : a < 32) (hb : b < 32) :
    (((a : Int) == 0) = true ∧ mk2 a b = 0) ∨ (((a : Int) == 0) = false ∧ ((b : Int) == 0) = true ∧ mk2 a b = 0) ∨
    (((a : Int) == 0) = false ∧ ((b : Int) == 0) = false ∧ (bits .and .i64 (a : Int) (b : Int) != 0) = true ∧ mk2 a b = 0) ∨
    (((a : Int) == 0) = false ∧ ((b : Int) == 0) = false ∧ (bits .and .i64 (a : Int) (b : Int) != 0) = false ∧ bits .or .i64 (a : Int) (b : Int) = ((mk2 a b : Nat) : Int)) := by
  by_cases h1 : a = 0
  · exact .inl ⟨by simp [h1], by unfold mk2; rw [if_pos (.inl h1)]⟩
  · by_cases h2 : b = 0
    · exact .inr (.inl ⟨by simp; omega, by simp [h2], by unfold mk2; rw [if_pos (.inr (.inl h2))]⟩)
    · by_cases h3 : a &&& b = 0
      · exact .inr (.inr (.inr ⟨by simp; omega, by simp; omega, by rw [j_and a b ha hb, h3]; rfl, by rw [j_or a b ha hb]; unfold mk2; rw [if_neg (by omega)]⟩))
      · exact .inr (.inr (.inl ⟨by simp; omega, by simp; omega, by rw [j_and a b ha hb, bne_iff_ne]; omega, by unfold mk2; rw [if_pos (.inr (.inr h3))]⟩))
def SpecTM (n : Nat) : Prop := ∀ (e : JT) (A : Option Addr) (c : Nat) (N : Int) (w : World), RdSl (rdJT n) w.cell? 2 A e.kids → e.kids.length ≤ maxLen → 1 ≤ N → N ≤ 5 →
    Calls Try.prog 35 #[.agg #[.int .i64 e.leaf, .slice A e.kids.length c], .int .i64 N] w fun r w' => r = .returned (.int .i64 ((jm n N e : Nat) : Int)) ∧ Fr w w'
set_option maxRecDepth 100000 in
set_option maxHeartbeats 2000000 in
theorem specTM (n : Nat) : SpecTM n := by
  induction n using Nat.strongRecOn with
  | _ n ih =>
    intro e A c N w hx hm hN0 hN
    have HX := hid hx
    have IH := hid ih
    have HM := hid hm
    unfold maxLen at hm
    clear hx ih
    by_cases h0 : e.kids.length = 0
    · by_cases hl : 0 ≤ e.leaf ∧ e.leaf < N
      · have R := hid (show jm n N e = 2 ^ e.leaf.toNat by rw [jm_leaf h0]; unfold lfM; rw [if_pos hl])
        rw [h0]
        obtain ⟨hl1, hl2⟩ := hl
        rcases (by omega : e.leaf = 0 ∨ e.leaf = 1 ∨ e.leaf = 2 ∨ e.leaf = 3 ∨ e.leaf = 4) with h | h | h | h | h
        all_goals rw [h] at hl2 ⊢
        all_goals have R2 := hid (show jm n N e = 2 ^ Int.toNat _ by rw [R.out, h])
        all_goals clear h hl1 R h0 hm
        all_goals go_enter Try.func35, Try.ntmps35
        all_goals go_wp2_with (first | (go_at_call 59; refine (inRange_yes _ _ _ _ ?_ ?_).mono ?_; (· omega); (· omega); rintro e w1 ⟨rfl, rfl⟩) | (go_at_call 59; refine (inRange_no _ _ _ _ ?_).mono ?_; (· omega); rintro e w1 ⟨rfl, rfl⟩))
        all_goals go_ret
        all_goals exact ⟨ret_int (by rw [R2.out]; rfl), (Fr.refl _).alloc _⟩
      · have R := hid (show jm n N e = 0 by rw [jm_leaf h0]; unfold lfM; rw [if_neg hl])
        have hl' : e.leaf < 0 ∨ N - 1 < e.leaf := by omega
        rw [h0]
        clear hl h0 hm
        go_enter Try.func35, Try.ntmps35
        go_wp2_with (first | (go_at_call 59; refine (inRange_yes _ _ _ _ ?_ ?_).mono ?_; (· omega); (· omega); rintro e w1 ⟨rfl, rfl⟩) | (go_at_call 59; refine (inRange_no _ _ _ _ ?_).mono ?_; (· omega); rintro e w1 ⟨rfl, rfl⟩))
        go_ret
        exact ⟨ret_int (by rw [R.out]; rfl), (Fr.refl _).alloc _⟩
    · have e0 : ((e.kids.length : Int) == 0) = false := beq_eq_false_iff_ne.2 (by omega)
      by_cases hb : e.kids.length = 2 ∧ e.leaf = 0
      · cases n with
        | zero => exfalso; rw [HX.out.jt0] at h0; simp at h0
        | succ n =>
          obtain ⟨hb2, hbl⟩ := hb
          obtain ⟨kb, ko, K0, kc0, hA, d0, dK0, rK0, m0⟩ := HX.out.jt (k := 0) (by omega)
          obtain ⟨kb', ko', K1, kc1, hA', d1, dK1, rK1, m1⟩ := HX.out.jt (k := 1) (by omega)
          subst hA
          injection hA' with hA'
          injection hA' with q1 q2 _
          subst q1 q2
          simp only [Nat.zero_mul, Nat.add_zero, Nat.one_mul] at d0 dK0 d1 dK1
          have R := hid (jm_two (n := n) (N := N) hb2 hbl)
          obtain ⟨x0, ex0⟩ : ∃ x, e.kids[0] = x := ⟨_, rfl⟩
          obtain ⟨x1, ex1⟩ : ∃ x, e.kids[1] = x := ⟨_, rfl⟩
          rw [ex0] at d0 dK0 rK0 m0 R
          rw [ex1] at d1 dK1 rK1 m1 R
          have RK0 := hid rK0
          have RK1 := hid rK1
          clear rK0 rK1 ex0 ex1
          have l0 := jm_lt hN n x0
          have l1 := jm_lt hN n x1
          obtain ⟨a, ea⟩ : ∃ a, jm n N x0 = a := ⟨_, rfl⟩
          obtain ⟨b, eb⟩ : ∃ b, jm n N x1 = b := ⟨_, rfl⟩
          rw [ea] at l0 R
          rw [eb] at l1 R
          have EA := hid ea
          have EB := hid eb
          have hway := mk2_ways a b l0 l1
          clear ea eb l0 l1 e0 h0 HX HM
          obtain ⟨M, hM⟩ : ∃ M, mk2 a b = M := ⟨_, rfl⟩
          rw [hM] at hway R
          clear hM hm
          rw [R.out]
          clear R
          rw [hb2, hbl]
          have BA := Blk.new w 29 #[.int .i64 0, .slice (some ⟨kb, ko, none⟩) 2 c]
          have F1 : Fr w (w.alloc (.cells #[.int .i64 0, .slice (some ⟨kb, ko, none⟩) 2 c] 29)) := (Fr.refl _).alloc _
          go_enter Try.func35, Try.ntmps35
          generalize hRA : w.alloc (.cells #[.int .i64 0, .slice (some ⟨kb, ko, none⟩) 2 c] 29) = RA at BA F1
          obtain ⟨a0, a1, _⟩ := BA.pair
          have c0 := F1.cell d0
          have cK0 := F1.cell dK0
          go_wp2_with fail
          refine (IH.out n (by omega) x0 K0 kc0 N _ (RK0.out.fr (rdJT_mono n) F1) m0 hN0 hN).mono ?_
          rintro r w1 ⟨rfl, b1⟩
          rw [EA.out]
          clear a0 a1 c0 cK0
          obtain ⟨a0, a1, _⟩ := (BA.fr b1).pair
          have F2 := F1.trans b1
          have c1 := F2.cell d1
          have cK1 := F2.cell dK1
          go_wp2_with fail
          refine (IH.out n (by omega) x1 K1 kc1 N _ (RK1.out.fr (rdJT_mono n) F2) m1 hN0 hN).mono ?_
          rintro r w2 ⟨rfl, b2⟩
          rw [EB.out]
          have F3 := F2.trans b2
          rcases hway with ⟨h1, h2⟩ | ⟨h1, h2, h3⟩ | ⟨h1, h2, h3, h4⟩ | ⟨h1, h2, h3, h4⟩
          all_goals go_wp2
          all_goals go_ret
          all_goals exact ⟨ret_int (by first | rfl | (rw [h2]; rfl) | (rw [h3]; rfl) | (rw [h4]; rfl) | exact h4), F3⟩
      · have R := hid (show jm n N e = 0 from jm_bad h0 (by omega))
        have hc : ((e.kids.length : Int) != 2) = true ∨ (((e.kids.length : Int) != 2) = false ∧ (e.leaf != 0) = true) := by
          by_cases h2 : e.kids.length = 2
          · exact .inr ⟨by simp [h2], by simp; omega⟩
          · exact .inl (by rw [bne_iff_ne]; omega)
        clear hb h0
        rcases hc with h | ⟨h, h'⟩
        all_goals go_enter Try.func35, Try.ntmps35
        all_goals go_wp2
        all_goals go_ret
        all_goals exact ⟨ret_int (by rw [R.out]; rfl), (Fr.refl _).alloc _⟩
theorem grown_trans {w w1 w2 : World} {v v1 : Value} (h1 : w.grownBy w1 v.ownBlock) (hw : Wh w v v1) (h2 : w1.grownBy w2 v1.ownBlock) : w.grownBy w2 v.ownBlock :=
  ⟨h2.os.trans h1.os, h2.tape.trans h1.tape, h2.output.trans h1.output, Nat.le_trans h1.size h2.size, fun k hk hne => (h2.block k (Nat.lt_of_lt_of_le hk h1.size) (fun e => by
    rcases hw k e.symm with h | h
    · exact hne h.symm
    · omega)).trans (h1.block k hk hne)⟩
theorem wh_trans {w w1 : World} {v v1 v2 : Value} (h : Wh w v v1) (k : Wh w1 v1 v2) (hs : w.heap.size ≤ w1.heap.size) : Wh w v v2 := fun b hb => by
  rcases k b hb with h1 | h1
  · exact h b h1
  · exact .inr (by omega)
theorem Fr.grow {w w1 : World} (h : Fr w w1) (r : Option Nat) : w.grownBy w1 r := ⟨h.os, h.tape, h.output, h.size, fun k hk _ => h.block k hk⟩
theorem grown_fr {w w1 w2 : World} {r : Option Nat} (h : Fr w w1) (k : w1.grownBy w2 r) : w.grownBy w2 r :=
  ⟨k.os.trans h.os, k.tape.trans h.tape, k.output.trans h.output, Nat.le_trans h.size k.size, fun i hi hne => (k.block i (Nat.lt_of_lt_of_le hi h.size) hne).trans (h.block i hi)⟩
theorem grown_drew {w w1 : World} {r : Option Nat} (h : w.grownBy w1 r) : w.grownBy w1.drew r := ⟨h.os, h.tape, h.output, h.size, h.block⟩
theorem grown_refl (w : World) (r : Option Nat) : w.grownBy w r := (Fr.refl w).grow r
theorem wh_fr {w w1 : World} {v v1 : Value} (h : Wh w1 v v1) (hs : w.heap.size ≤ w1.heap.size) : Wh w v v1 := fun k hk => by
  rcases h k hk with h1 | h1
  · exact .inl h1
  · exact .inr (by omega)
/-- What an appending call answers: the row with more at its end. -/
def Added (base : Nat) (xs ys : List Int) (v : Value) (w : World) (e : Ending) (w' : World) : Prop :=
  ∃ v', e = .returned v' ∧ w'.ownsRow base 3 1 v' (xs ++ ys).length ((xs ++ ys).map iv) ∧ w.grownBy w' v.ownBlock ∧ Wh w v v'
theorem added {base : Nat} {xs ys : List Int} {v : Value} {w w' : World} {e : Ending} (h : Added base xs ys v w e w') : ∃ v', e = .returned v' ∧ w'.ownsRow base 3 1 v' (xs ++ ys).length ((xs ++ ys).map iv) ∧ w.grownBy w' v.ownBlock ∧ Wh w v v' := h
def SpecAO (n : Nat) : Prop := ∀ (e : JT) (A : Option Addr) (c : Nat) (N : Int) (W0 w : World) (v : Value) (xs : List Int), RdSl (rdJT n) W0.cell? 2 A e.kids → N ≤ 5 → jm n N e ≠ 0 → Fr W0 w →
    w.ownsRow W0.heap.size 3 1 v xs.length (xs.map iv) → xs.length + (lvs n e).length ≤ 1000 →
    Calls Try.prog 36 #[v, .agg #[.int .i64 e.leaf, .slice A e.kids.length c]] w fun r w' => Added W0.heap.size xs (lvs n e) v w r w'
set_option maxRecDepth 100000 in
set_option maxHeartbeats 2000000 in
theorem specAO (n : Nat) : SpecAO n := by
  induction n using Nat.strongRecOn with
  | _ n ih =>
    intro e A c N W0 w v xs hx hN hj hf hO hlen
    have HX := hid hx
    have IH := hid ih
    have HO := hid hO
    clear hx ih
    have hs0 := hf.size
    by_cases h0 : e.kids.length = 0
    · have R := hid (lvs_leaf (n := n) h0)
      rw [h0]
      rw [lvs_leaf h0] at hlen
      simp only [List.length_cons, List.length_nil] at hlen
      clear h0 hj hO
      go_enter Try.func36, Try.ntmps36
      have F2 : Fr w ((w.alloc (.cells #[.int .i64 e.leaf, .slice A 0 c] 29)).alloc (.cells #[.int .i64 e.leaf] 3)) := by (repeat (first | with_reducible exact Fr.refl _ | with_reducible assumption | with_reducible refine Fr.alloc ?_ _ | with_reducible refine Fr.drew ?_ | with_reducible refine Fr.drewN ?_ _ | (with_reducible refine Fr.setNew2 ?_ ?_ _; · (simp <;> omega)) | with_reducible refine Fr.trans ?_ (by assumption)))
      go_wp2_with (at_builtin; refine wp_appW rfl _ _ 23 rfl W0.heap.size 3 (.int .i64 0) 1 8 Try.underlying23 (by kernel_rfl) rfl (by decide) (by decide) _ _ _ rfl (own_fr HO.out F2) (by omega) (by simp; omega) (w.heap.size + 1) 0 1 1 [.int .i64 e.leaf] rfl rfl (fun j u hu => by
        have hB := Blk.new (w.alloc (.cells #[.int .i64 e.leaf, .slice A 0 c] 29)) 3 #[.int .i64 e.leaf]
        rw [World.size_alloc] at hB
        rw [Nat.zero_add, hB.cell]
        simpa using hu) (by omega) rfl ?_; intro v5 w5 hO5 hg5 hw5)
      have HO5 := hid hO5
      clear hO5
      go_wp2
      go_ret
      refine ⟨v5, rfl, ?_, grown_fr F2 hg5, wh_fr hw5 F2.size⟩
      rw [R.out]
      simpa using HO5.out
    · cases n with
      | zero => exfalso; rw [HX.out.jt0] at h0; simp at h0
      | succ n =>
        have hb : e.kids.length = 2 ∧ e.leaf = 0 := by
          by_cases hb : e.kids.length = 2 ∧ e.leaf = 0
          · exact hb
          · exact absurd (jm_bad h0 (by omega)) hj
        obtain ⟨hb2, hbl⟩ := hb
        obtain ⟨kb, ko, K0, kc0, hA, d0, dK0, rK0, m0⟩ := HX.out.jt (k := 0) (by omega)
        obtain ⟨kb', ko', K1, kc1, hA', d1, dK1, rK1, m1⟩ := HX.out.jt (k := 1) (by omega)
        subst hA
        injection hA' with hA'
        injection hA' with q1 q2 _
        subst q1 q2
        simp only [Nat.zero_mul, Nat.add_zero, Nat.one_mul] at d0 dK0 d1 dK1
        rw [jm_two hb2 hbl] at hj
        obtain ⟨j0, j1, _, _⟩ := mk2_yes hj
        have R := hid (lvs_two (n := n) hb2)
        rw [lvs_two hb2] at hlen
        obtain ⟨x0, ex0⟩ : ∃ x, e.kids[0] = x := ⟨_, rfl⟩
        obtain ⟨x1, ex1⟩ : ∃ x, e.kids[1] = x := ⟨_, rfl⟩
        rw [ex0] at d0 dK0 rK0 R j0 hlen
        rw [ex1] at d1 dK1 rK1 R j1 hlen
        rw [List.length_append] at hlen
        clear hj ex0 ex1 m0 m1 h0 HX
        rw [hb2, hbl]
        obtain ⟨y0, ey0⟩ : ∃ y, lvs n x0 = y := ⟨_, rfl⟩
        obtain ⟨y1, ey1⟩ : ∃ y, lvs n x1 = y := ⟨_, rfl⟩
        have hb1 : kb < W0.heap.size := cell_lt d0
        have BA := Blk.new w 29 #[.int .i64 0, .slice (some ⟨kb, ko, none⟩) 2 c]
        have F1 : Fr w (w.alloc (.cells #[.int .i64 0, .slice (some ⟨kb, ko, none⟩) 2 c] 29)) := (Fr.refl _).alloc _
        obtain ⟨RA, hRA⟩ : ∃ RA, w.alloc (.cells #[.int .i64 0, .slice (some ⟨kb, ko, none⟩) 2 c] 29) = RA := ⟨_, rfl⟩
        rw [hRA] at BA F1
        have hlt := own_lt HO.out
        have G0 := hf.trans F1
        obtain ⟨a0, a1, _⟩ := BA.pair
        have C0 : ∀ W : World, Fr RA W → Calls Try.prog 36 #[v, .agg #[.int .i64 x0.leaf, .slice K0 x0.kids.length kc0]] W fun r w' => Added W0.heap.size xs y0 v W r w' := fun W hW => by
          rw [← ey0]; exact IH.out n (by omega) x0 K0 kc0 N W0 W v xs rK0 hN j0 (G0.trans hW) (own_fr HO.out (F1.trans hW)) (by omega)
        have C1 : ∀ (W1 : World) (v1 : Value), RA.grownBy W1 v.ownBlock → W1.ownsRow W0.heap.size 3 1 v1 (xs ++ y0).length ((xs ++ y0).map iv) → ∀ W : World, Fr W1 W → Calls Try.prog 36 #[v1, .agg #[.int .i64 x1.leaf, .slice K1 x1.kids.length kc1]] W fun r w' => Added W0.heap.size (xs ++ y0) y1 v1 W r w' := fun W1 v1 hg hO1 W hW => by
          rw [← ey1]
          refine IH.out n (by omega) x1 K1 kc1 N W0 W v1 (xs ++ y0) rK1 hN j1 (Fr.trans (show Fr W0 W1 from Below.grown G0 hg G0.size (fun k hk => (hlt k hk).1)) hW) (own_fr hO1 hW) ?_
          rw [List.length_append, ← ey0]; omega
        have keepL : ∀ W' : World, RA.grownBy W' v.ownBlock → (RA.grownBy W' v.ownBlock ∧ W'.cell? ⟨w.heap.size, 1, none⟩ = some (.slice (some ⟨kb, ko, none⟩) 2 c) ∧ W'.cell? ⟨kb, ko, none⟩ = some (.int .i64 x0.leaf) ∧ W'.cell? ⟨kb, ko + 1, none⟩ = some (.slice K0 x0.kids.length kc0) ∧ W'.cell? ⟨kb, ko + 2, none⟩ = some (.int .i64 x1.leaf) ∧ W'.cell? ⟨kb, ko + 2 + 1, none⟩ = some (.slice K1 x1.kids.length kc1)) := fun W' hG => by
          have n1 : some w.heap.size ≠ v.ownBlock := fun e => by have := (hlt _ e.symm).2; omega
          have n2 : some kb ≠ v.ownBlock := fun e => by have := (hlt _ e.symm).1; omega
          exact ⟨hG, hG.cell a1 n1, hG.cell (G0.cell d0) n2, hG.cell (G0.cell dK0) n2, hG.cell (G0.cell d1) n2, hG.cell (G0.cell dK1) n2⟩
        have D0 := G0.cell d0
        have DK0 := G0.cell dK0
        have D1 := G0.cell d1
        have DK1 := G0.cell dK1
        replace C0 := hid C0
        replace C1 := hid C1
        have R' := hid (R.out.trans (show lvs n x0 ++ lvs n x1 = y0 ++ y1 by rw [ey0, ey1]))
        clear IH HO hO rK0 rK1 ey0 ey1 d0 dK0 d1 dK1 hlt R
        go_enter Try.func36, Try.ntmps36
        go_wp2_with fail
        try rw [hRA]
        clear hRA BA
        go_region_held3 (fun W' => RA.grownBy W' v.ownBlock ∧ W'.cell? ⟨w.heap.size, 1, none⟩ = some (.slice (some ⟨kb, ko, none⟩) 2 c) ∧ W'.cell? ⟨kb, ko, none⟩ = some (.int .i64 x0.leaf) ∧ W'.cell? ⟨kb, ko + 1, none⟩ = some (.slice K0 x0.kids.length kc0) ∧ W'.cell? ⟨kb, ko + 2, none⟩ = some (.int .i64 x1.leaf) ∧ W'.cell? ⟨kb, ko + 2 + 1, none⟩ = some (.slice K1 x1.kids.length kc1)) ((refine keepL _ ?_; (repeat (first | with_reducible assumption | exact grown_refl _ _ | refine grown_drew ?_)); done))
          (first
            | (go_at_call 36; with_reducible refine (C0.out _ ?_).mono ?_; (· (repeat (first | with_reducible exact Fr.refl _ | with_reducible assumption | with_reducible refine Fr.alloc ?_ _ | with_reducible refine Fr.drew ?_ | with_reducible refine Fr.drewN ?_ _ | (with_reducible refine Fr.setNew2 ?_ ?_ _; · (simp <;> omega)) | with_reducible refine Fr.trans ?_ (by assumption)))); intro r wa had; obtain ⟨v1, rfl, hO1, hga, hwa⟩ := added had; have Ga : RA.grownBy wa v.ownBlock := grown_fr (by (repeat (first | with_reducible exact Fr.refl _ | with_reducible assumption | with_reducible refine Fr.alloc ?_ _ | with_reducible refine Fr.drew ?_ | with_reducible refine Fr.drewN ?_ _ | (with_reducible refine Fr.setNew2 ?_ ?_ _; · (simp <;> omega)) | with_reducible refine Fr.trans ?_ (by assumption)))) hga; have Wa : Wh RA v v1 := wh_fr hwa (Fr.refl RA).drew.size)
            | (go_at_call 36; with_reducible refine (C1.out _ _ Ga hO1 _ ?_).mono ?_; (· (repeat (first | with_reducible exact Fr.refl _ | with_reducible assumption | with_reducible refine Fr.alloc ?_ _ | with_reducible refine Fr.drew ?_ | with_reducible refine Fr.drewN ?_ _ | (with_reducible refine Fr.setNew2 ?_ ?_ _; · (simp <;> omega)) | with_reducible refine Fr.trans ?_ (by assumption)))); intro r wb had; obtain ⟨v2, rfl, hO2, hgb, hwb⟩ := added had; have Gb : RA.grownBy wb v.ownBlock := grown_trans Ga Wa (grown_fr (by (repeat (first | with_reducible exact Fr.refl _ | with_reducible assumption | with_reducible refine Fr.alloc ?_ _ | with_reducible refine Fr.drew ?_ | with_reducible refine Fr.drewN ?_ _ | (with_reducible refine Fr.setNew2 ?_ ?_ _; · (simp <;> omega)) | with_reducible refine Fr.trans ?_ (by assumption)))) hgb); have Wb : Wh RA v v2 := wh_trans Wa (wh_fr hwb (Fr.refl wa).drew.size) Ga.size)
            | fail)
        all_goals have HO2 := hid hO2
        all_goals clear hO2 hO1 keepL C0 C1
        all_goals go_wp2
        all_goals go_ret
        all_goals refine ⟨v2, rfl, ?_, grown_fr F1 Gb, wh_fr Wb F1.size⟩
        all_goals rw [R'.out, ← List.append_assoc]
        all_goals exact HO2.out
end Go.Proofs.Ytgjbmigplomekaa
