/- Walk of the law FnLeavesOf. -/
import Derived.Test.YtgjbmigplomekaaLvG
import Derived.Test.YtgjbmigplomekaaJtT
import Derived.Test.YtgjbmigplomekaaLaw
import Derived.Deep.RegionHeld3
namespace Go.Proofs.Ytgjbmigplomekaa
open Go Go.RowKit

theorem lv_kids {n : Nat} {N : Int} {e : JT} (h : jm n N e ≠ 0) : e.kids.length = 0 ∨ (e.kids.length = 2 ∧ e.leaf = 0 ∧ ∃ m, n = m + 1) := by
  by_cases h0 : e.kids.length = 0
  · exact .inl h0
  · cases n with
    | zero => exact absurd (by unfold jm; rw [if_neg h0]) h
    | succ m =>
      by_cases h2 : e.kids.length = 2 ∧ e.leaf = 0
      · exact .inr ⟨h2.1, h2.2, m, rfl⟩
      · exact absurd (jm_bad h0 (by omega)) h
theorem not_in_take {xs : List Int} (hn : xs.Nodup) {k : Nat} (hk : k < xs.length) : decide (xs[k] ∈ xs.take k) = false := by
  rw [decide_eq_false_iff_not]
  intro hm
  obtain ⟨i, hi, he⟩ := List.mem_take_iff_getElem.1 hm
  have h1 : i < k := by omega
  have := (List.pairwise_iff_getElem.1 hn) i k (by omega) hk h1
  exact this he
set_option maxRecDepth 100000 in
theorem upon_appI {o : Oper} {a : Act} {K : Act → World → Prop} {Q : Exit → Act → World → Prop} {w : World} (base : Nat) (v : Value) (n : Nat) (xs : List Value) (hown : w.ownsRow base 3 1 v n xs) (hn : n ≤ 1000) (hbase : base ≤ w.heap.size)
    (g p cap : Nat) (ys : List Int) (hx : RdSl rdInt w.cell? 1 (some ⟨g, p, none⟩) ys) (hm : ys.length ≤ 1000)
    (h : ∀ v' w', w'.ownsRow base 3 1 v' (n + ys.length) (xs ++ ys.map iv) → w.grownBy w' v.ownBlock → K (a.put o.dst v') w') :
    Oper.upon Try.prog o a K Q ((Sem.run Try.prog (Builtin.append_ #[23, 23] 23 #[v, .slice (some ⟨g, p, none⟩) ys.length cap]) w).andThen fun a w' => .ok (.value a) w') := by
  obtain ⟨i, hi, hz, hsi, hb⟩ := info_parts (P := Try.prog) (e := 3) (z := .int .i64 0) (size := 1) (bytes := 8) (by kernel_rfl)
  obtain ⟨v', w', hr, h2, h3, _⟩ := app_where (P := Try.prog) w base 23 23 3 i (.int .i64 0) 1 8 Try.underlying23 hi hz hsi hb rfl (by decide) v n xs hown ⟨g, p, none⟩ ys.length cap (ys.map iv) (by simp) (cells_add (fun j u hu => by
    have hj : j < (ys.map iv).length := (List.getElem?_eq_some_iff.1 hu).1
    rw [List.length_map] at hj
    obtain ⟨b, q, hA, hc⟩ := hx.at_ hj
    injection hA with hA
    injection hA with e1 e2 _
    subst e1 e2
    simp only [rdInt, Nat.mul_one, Nat.add_zero] at hc
    rw [hc, ← hu]
    simp [hj])) (List.all_eq_true.1 (one_ints ys)) (by unfold maxLen; omega) (by omega) hbase
  rw [hr]
  exact h v' w' h2 h3
theorem eqFin {w : World} {base n c : Nat} {A G : Option Addr} {gc : Nat} {P0 P1 L : List Int} (h : w.ownsRow base 3 1 (.slice A n c) n (P0.map iv ++ P1.map iv)) (hn : n = P0.length + P1.length) (hG : RdSl rdInt w.cell? 1 G L) (hL : P0 ++ P1 = L) (h5 : L.length ≤ 2000) :
    Calls Try.prog 8 #[.slice A n c, .slice G L.length gc] w fun e w' => e = .returned (.bool true) ∧ Fr w w' := by
  have hn' : n = L.length := by rw [← hL, List.length_append]; omega
  subst hn'
  have h2 : L.map iv = P0.map iv ++ P1.map iv := by rw [← hL, List.map_append]
  rw [← h2] at h
  have hr := own_int (xs := L) h rfl
  refine (equalInts A G c gc L L w (hr.mono rdInt_mono (fromB_le _ _)) hG (by unfold maxLen; omega) (by unfold maxLen; omega)).mono fun e w' k => ⟨?_, k.2⟩
  rw [k.1, decide_eq_true (rfl : L = L)]
theorem lvpost {base : Nat} {L : List Int} {e : Ending} {w' : World} (h : LvPost base L e w') (h1 : 1 ≤ L.length) : ∃ g o cap', e = .returned (.slice (some ⟨g, o, none⟩) L.length cap') ∧ RdSl rdInt w'.cell? 1 (some ⟨g, o, none⟩) L := by
  obtain ⟨A', c', h2, h3, _⟩ := h
  obtain ⟨b, o, rfl, _⟩ := h3.at_ (k := 0) (by omega)
  exact ⟨b, o, c', h2, h3.mono rdInt_mono (fromB_le _ _)⟩
attribute [-go_sem] Builtin.append_
set_option maxRecDepth 100000 in
set_option maxHeartbeats 4000000 in
theorem walkFnLeavesOf (A : Option Addr) (c : Nat) (xs : List Nat) (w : World) (hx : RdSl rdByte w.cell? 1 A xs) (_ : xs.length ≤ maxLen) (hc : xs.length ≤ c) :
    Calls Try.prog 3 #[.slice A xs.length c] w fun r w' => r = .returned (.bool true) ∧ Fr w w' := by
  have HX := hid hx
  clear hx
  by_cases hlen : (1048576 : Int) < xs.length
  · have e0 : decide ((1048576 : Int) < (xs.length : Int)) = true := by simp; omega
    go_enter Try.func3, Try.ntmps3
    go_wp2
    go_ret
    exact ⟨rfl, Fr.refl _⟩
  · have e0 : decide ((1048576 : Int) < (xs.length : Int)) = false := by simp; omega
    have hl : xs.length ≤ 1048576 := by omega
    clear hlen
    go_enter Try.func3, Try.ntmps3
    go_wp2_with fail
    refine (drawLeavesOf A c xs _ HX.out hl hc).mono ?_
    rintro r w1 ⟨A0, c0, rs, A1, c1, es, t, A4, c4, d, rfl, h1, h2, h3, l2, l3, lk, lc, b1⟩
    have BG := hid ((Blk.new w1 26 #[.slice A0 rs.length c0, .slice A1 es.length c1]).alloc (.cells #[.int .i64 t.leaf, .slice A4 t.kids.length c4] 29))
    have BT0 := Blk.new (w1.alloc (.cells #[.slice A0 rs.length c0, .slice A1 es.length c1] 26)) 29 #[.int .i64 t.leaf, .slice A4 t.kids.length c4]
    rw [World.size_alloc] at BT0
    have BT := hid BT0
    have F0 : Fr w1 ((w1.alloc (.cells #[.slice A0 rs.length c0, .slice A1 es.length c1] 26)).alloc (.cells #[.int .i64 t.leaf, .slice A4 t.kids.length c4] 29)) := by (repeat (first | with_reducible exact Fr.refl _ | with_reducible assumption | with_reducible refine Fr.alloc ?_ _ | with_reducible refine Fr.drew ?_ | with_reducible refine Fr.drewN ?_ _ | (with_reducible refine Fr.setNew2 ?_ ?_ _; · (simp <;> omega)) | with_reducible refine Fr.trans ?_ (by assumption)))
    have RD := hid (h1.mono rdInt_mono (fromB_le _ _))
    have ED := hid (h2.mono rdEdge_mono (fromB_le _ _))
    have TD := hid (h3.mono (rdJT_mono d) (fromB_le _ _))
    obtain ⟨L, eL⟩ : ∃ L, lvOf d (vgraph rs es) rs.length t = L := ⟨_, rfl⟩
    have EL := hid eL
    have hL5 : L.length ≤ 2000 := by rw [← eL]; exact lvOf_len
    clear h1 h2 h3 BT0 HX eL
    go_wp2_with fail
    refine absW fun W2 hW2 => ?_
    replace BG := hid (show Blk W2 _ _ _ by rw [hW2]; exact BG.out)
    replace BT := hid (show Blk W2 _ _ _ by rw [hW2]; exact BT.out)
    replace F0 : Fr w1 W2 := by rw [hW2]; exact F0
    clear hW2
    refine (implLeavesOf d _ _ rs _ _ es t _ _ _ (RD.out.fr rdInt_mono F0) (ED.out.fr rdEdge_mono F0) (by omega) (by omega) (TD.out.fr (rdJT_mono d) F0) (by omega) lc).mono ?_
    rw [EL.out]
    rintro r w3 ⟨⟨G, gc, rfl, hG, _, _, hgc⟩, b3⟩
    have HG := hid (hG.mono rdInt_mono (fromB_le _ _))
    have F3 := F0.trans b3
    obtain ⟨a0, a1, _⟩ := (BG.out.fr b3).pair
    obtain ⟨t0, t1, _⟩ := (BT.out.fr b3).pair
    clear hG
    go_wp2_with fail
    refine (specLeavesOf d _ _ rs _ _ es t _ _ _ (RD.out.fr rdInt_mono F3) (ED.out.fr rdEdge_mono F3) (by omega) (by omega) (TD.out.fr (rdJT_mono d) F3) (by omega)).mono ?_
    rw [EL.out]
    rintro r w4 ⟨⟨S', sc, rfl, hS, _, _, _⟩, b4⟩
    have HS := hid (hS.mono rdInt_mono (fromB_le _ _))
    clear hS
    go_wp2_with fail
    refine (equalInts G S' gc sc L L _ (HG.out.fr rdInt_mono b4) HS.out (by unfold maxLen; omega) (by unfold maxLen; omega)).mono ?_
    rintro r w5 ⟨rfl, b5⟩
    rw [decide_eq_true (rfl : L = L)]
    have B35 := b4.trans b5
    have F5 := F3.trans B35
    clear a0 a1 t0 t1
    by_cases hL0 : L.length = 0
    · have d0 : ((L.length : Int) == 0) = true := by simp [hL0]
      obtain ⟨a0, a1, _⟩ := (BG.out.fr (b3.trans B35)).pair
      obtain ⟨t0, t1, _⟩ := (BT.out.fr (b3.trans B35)).pair
      clear hL0
      go_wp2_with fail
      refine (specLeavesOf d _ _ rs _ _ es t _ _ _ (RD.out.fr rdInt_mono F5) (ED.out.fr rdEdge_mono F5) (by omega) (by omega) (TD.out.fr (rdJT_mono d) F5) (by omega)).mono ?_
      rw [EL.out]
      rintro r w6 ⟨⟨S2, sc2, rfl, hS2, _, _, _⟩, b6⟩
      have HS2 := hid (hS2.mono rdInt_mono (fromB_le _ _))
      clear hS2
      go_wp2_with fail
      refine (equalInts G S2 gc sc2 L L _ (HG.out.fr rdInt_mono (B35.trans b6)) HS2.out (by unfold maxLen; omega) (by unfold maxLen; omega)).mono ?_
      rintro r w7 ⟨rfl, b7⟩
      rw [decide_eq_true (rfl : L = L)]
      go_wp2
      go_ret
      exact ⟨rfl, b1.trans ((F5.trans b6).trans b7)⟩
    · have d0 : ((L.length : Int) == 0) = false := beq_eq_false_iff_ne.2 (by omega)
      have hok : vgraph rs es = true ∧ jm d rs.length t ≠ 0 := by
        have h := EL.out
        unfold lvOf at h
        split at h
        · rename_i h'; exact h'
        · rw [← h] at hL0; exact absurd rfl hL0
      obtain ⟨v1, v2, _⟩ := vgraph_facts hok.1
      have HV := hid hok.1
      have hj := hid hok.2
      have hLv : lvs d t = L := by have h := EL.out; unfold lvOf at h; rwa [if_pos hok] at h
      have ND := hid (show L.Nodup by rw [← hLv]; exact lvs_nodup (N := (rs.length : Int)) (by omega) d t hok.2)
      have HLV := hid hLv
      clear hok hLv hL0
      go_wp2
      clear d0
      go_loopw [6] (fun u wr => ∃ (k : Nat), k ≤ L.length ∧ u = .int .i64 k ∧ Fr w5 wr) (fun u _ => L.length - (intOf u).toNat)
      case atStart => exact ⟨0, by omega, rfl, Fr.refl _⟩
      case round =>
        obtain ⟨k, hk, rfl, hf⟩ := hrel
        by_cases hlt : k < L.length
        · obtain ⟨gb, go, hA, q0⟩ := HG.out.at_ hlt
          subst hA
          simp only [rdInt, Nat.mul_one, Nat.add_zero] at q0
          replace q0 := (B35.trans hf).cell q0
          have HIS := hid (show ∀ W : World, Fr w3 W → Calls Try.prog 10 #[.slice (some ⟨gb, go, none⟩) k gc, .int .i64 L[k]] W fun e w' => e = .returned (.bool false) ∧ w' = W from fun W hW => by
            have h := isIn (some ⟨gb, go, none⟩) gc (L.take k) L[k] W (rd_takeI (HG.out.fr rdInt_mono hW)) (by rw [List.length_take]; unfold maxLen; omega)
            have hl : (L.take k).length = k := by simp; omega
            rw [hl, not_in_take ND.out hlt] at h
            exact h.mono fun e w' k => ⟨k.1, k.2.symm⟩)
          have g1 : (0 : Int) ≤ (k : Int) := by omega
          have g2 : (k : Int) ≤ (gc : Int) := by omega
          have g3 : (k : Int) < (L.length : Int) := by omega
          have B3k := B35.trans hf
          go_wp2_with fail
          go_quiet (first | (go_at_call 10; refine Calls.quiet_of_same (HIS.out _ ?_); ((repeat (first | with_reducible exact Fr.refl _ | with_reducible assumption | with_reducible refine Fr.alloc ?_ _ | with_reducible refine Fr.drew ?_ | with_reducible refine Fr.drewN ?_ _ | (with_reducible refine Fr.setNew2 ?_ ?_ _; · (simp <;> omega)) | with_reducible refine Fr.trans ?_ (by assumption))))))
          go_wp2
          go_roundw
          case rel => exact ⟨k + 1, by omega, by go_num, by (repeat (first | with_reducible exact Fr.refl _ | with_reducible assumption | with_reducible refine Fr.alloc ?_ _ | with_reducible refine Fr.drew ?_ | with_reducible refine Fr.drewN ?_ _ | (with_reducible refine Fr.setNew2 ?_ ?_ _; · (simp <;> omega)) | with_reducible refine Fr.trans ?_ (by assumption)))⟩
          case measure => simp [intOf]; omega
        · have F6 := F5.trans hf
          obtain ⟨a0, a1, _⟩ := (BG.out.fr ((b3.trans B35).trans hf)).pair
          obtain ⟨t0, t1, _⟩ := (BT.out.fr ((b3.trans B35).trans hf)).pair
          rcases lv_kids hj.out with h0 | ⟨hk2, hk0, m, rfl⟩
          · have hLx : L = [t.leaf] := by rw [← HLV.out]; exact lvs_leaf h0
            have HLX := hid hLx
            rw [h0] at t1
            clear hLx h0
            go_wp2_with fail
            refine (equalInts G (some ⟨wr.heap.size, 0, none⟩) gc 1 L [t.leaf] _ (HG.out.fr rdInt_mono ((B35.trans hf).trans ((Fr.refl _).alloc _))) ((lit_ints (xs := [t.leaf]) (lo := 0) (by omega)).mono rdInt_mono (fromB_le _ _)) (by unfold maxLen; omega) (by simp [maxLen])).mono ?_
            rintro r w7 ⟨rfl, b7⟩
            rw [decide_eq_true HLX.out]
            go_wp2
            go_ret
            exact ⟨rfl, b1.trans ((F6.trans ((Fr.refl _).alloc _)).trans b7)⟩
          · obtain ⟨kb, ko, hA, rK0⟩ := TD.out.at_ (k := 0) (by omega)
            obtain ⟨kb', ko', hA', rK1⟩ := TD.out.at_ (k := 1) (by omega)
            subst hA
            injection hA' with hA'
            injection hA' with q1 q2 _
            subst q1 q2
            obtain ⟨d0, K0, kc0, dK0, x0', z0, lc0⟩ := rK0
            obtain ⟨d1, K1, kc1, dK1, x1', z1, lc1⟩ := rK1
            clear z0 z1
            simp only [Nat.zero_mul, Nat.add_zero, Nat.one_mul] at d0 dK0 d1 dK1
            have hjj := hj.out
            rw [jm_two hk2 hk0] at hjj
            obtain ⟨j0, j1, y2, y3⟩ := mk2_yes hjj
            clear y2 y3
            have hLe : lvs m (t.kids[0]'(by omega)) ++ lvs m (t.kids[1]'(by omega)) = L := by rw [← lvs_two hk2]; exact HLV.out
            obtain ⟨x0, ex0⟩ : ∃ x, t.kids[0] = x := ⟨_, rfl⟩
            obtain ⟨x1, ex1⟩ : ∃ x, t.kids[1] = x := ⟨_, rfl⟩
            rw [ex0] at d0 dK0 x0' lc0 j0 hLe
            rw [ex1] at d1 dK1 x1' lc1 j1 hLe
            have n0 := lvs_len5 (N := (rs.length : Int)) (by omega) j0
            have n1 := lvs_len5 (N := (rs.length : Int)) (by omega) j1
            obtain ⟨P0, eP0⟩ : ∃ P, lvs m x0 = P := ⟨_, rfl⟩
            obtain ⟨P1, eP1⟩ : ∃ P, lvs m x1 = P := ⟨_, rfl⟩
            rw [eP0] at n0 hLe
            rw [eP1] at n1 hLe
            have kl0 : x0.kids.length ≤ 1048576 := by rcases lv_kids j0 with h | ⟨h, _⟩ <;> omega
            have kl1 : x1.kids.length ≤ 1048576 := by rcases lv_kids j1 with h | ⟨h, _⟩ <;> omega
            have C0 := hid (show ∀ W : World, Fr w1 W → Calls Try.prog 7 #[.agg #[.slice A0 rs.length c0, .slice A1 es.length c1], .agg #[.int .i64 x0.leaf, .slice K0 x0.kids.length kc0]] W fun r w' => LvPost W.heap.size P0 r w' ∧ Fr W w' from fun W hW => by
              have h := implLeavesOf m A0 c0 rs A1 c1 es x0 K0 kc0 W (RD.out.fr rdInt_mono hW) (ED.out.fr rdEdge_mono hW) (by omega) (by omega) (x0'.fr (rdJT_mono m) hW) kl0 lc0
              have e : lvOf m (vgraph rs es) rs.length x0 = P0 := by unfold lvOf; rw [if_pos ⟨HV.out, j0⟩]; exact eP0
              rwa [e] at h)
            have C1 := hid (show ∀ W : World, Fr w1 W → Calls Try.prog 7 #[.agg #[.slice A0 rs.length c0, .slice A1 es.length c1], .agg #[.int .i64 x1.leaf, .slice K1 x1.kids.length kc1]] W fun r w' => LvPost W.heap.size P1 r w' ∧ Fr W w' from fun W hW => by
              have h := implLeavesOf m A0 c0 rs A1 c1 es x1 K1 kc1 W (RD.out.fr rdInt_mono hW) (ED.out.fr rdEdge_mono hW) (by omega) (by omega) (x1'.fr (rdJT_mono m) hW) kl1 lc1
              have e : lvOf m (vgraph rs es) rs.length x1 = P1 := by unfold lvOf; rw [if_pos ⟨HV.out, j1⟩]; exact eP1
              rwa [e] at h)
            have HLE := hid hLe
            rw [hk2] at t1
            replace d0 := F6.cell d0
            replace dK0 := F6.cell dK0
            replace d1 := F6.cell d1
            replace dK1 := F6.cell dK1
            have G6 := hid (HG.out.fr rdInt_mono (B35.trans hf))
            have eK : ((2 : Int) == 0) = false := by decide
            clear hLe hjj j0 j1 ex0 ex1 eP0 eP1 x0' x1' lc0 lc1 HLV hj hk2 EL HG HS ND
            go_wp2_with fail
            have keepL : ∀ W' : World, Fr wr W' → (Fr wr W' ∧ W'.cell? ⟨w1.heap.size, 0, none⟩ = some (.slice A0 rs.length c0) ∧ W'.cell? ⟨w1.heap.size, 1, none⟩ = some (.slice A1 es.length c1) ∧ W'.cell? ⟨w1.heap.size + 1, 1, none⟩ = some (.slice (some ⟨kb, ko, none⟩) 2 c4) ∧ W'.cell? ⟨kb, ko, none⟩ = some (.int .i64 x0.leaf) ∧ W'.cell? ⟨kb, ko + 1, none⟩ = some (.slice K0 x0.kids.length kc0) ∧ W'.cell? ⟨kb, ko + 2, none⟩ = some (.int .i64 x1.leaf) ∧ W'.cell? ⟨kb, ko + 2 + 1, none⟩ = some (.slice K1 x1.kids.length kc1)) := fun W' F => ⟨F, F.cell a0, F.cell a1, F.cell t1, F.cell d0, F.cell dK0, F.cell d1, F.cell dK1⟩
            go_region_held3 (fun W' => Fr wr W' ∧ W'.cell? ⟨w1.heap.size, 0, none⟩ = some (.slice A0 rs.length c0) ∧ W'.cell? ⟨w1.heap.size, 1, none⟩ = some (.slice A1 es.length c1) ∧ W'.cell? ⟨w1.heap.size + 1, 1, none⟩ = some (.slice (some ⟨kb, ko, none⟩) 2 c4) ∧ W'.cell? ⟨kb, ko, none⟩ = some (.int .i64 x0.leaf) ∧ W'.cell? ⟨kb, ko + 1, none⟩ = some (.slice K0 x0.kids.length kc0) ∧ W'.cell? ⟨kb, ko + 2, none⟩ = some (.int .i64 x1.leaf) ∧ W'.cell? ⟨kb, ko + 2 + 1, none⟩ = some (.slice K1 x1.kids.length kc1)) ((refine keepL _ ?_; (repeat (first | with_reducible exact Fr.refl _ | with_reducible assumption | with_reducible refine Fr.alloc ?_ _ | with_reducible refine Fr.drew ?_ | with_reducible refine Fr.drewN ?_ _ | (with_reducible refine Fr.setNew2 ?_ ?_ _; · (simp <;> omega)) | with_reducible refine Fr.trans ?_ (by assumption))); done))
              (first
                | (go_at_call 7; (with_reducible refine (C0.out _ ?_).mono ?_); (· exact F6.trans (by (repeat (first | with_reducible exact Fr.refl _ | with_reducible assumption | with_reducible refine Fr.alloc ?_ _ | with_reducible refine Fr.drew ?_ | with_reducible refine Fr.drewN ?_ _ | (with_reducible refine Fr.setNew2 ?_ ?_ _; · (simp <;> omega)) | with_reducible refine Fr.trans ?_ (by assumption))))); rintro r wa ⟨hp, bwa⟩; obtain ⟨ga, oa, ca, rfl, hGA⟩ := lvpost hp n0.1; have Fwa : Fr wr wa := Fr.trans (by (repeat (first | with_reducible exact Fr.refl _ | with_reducible assumption | with_reducible refine Fr.alloc ?_ _ | with_reducible refine Fr.drew ?_ | with_reducible refine Fr.drewN ?_ _ | (with_reducible refine Fr.setNew2 ?_ ?_ _; · (simp <;> omega)) | with_reducible refine Fr.trans ?_ (by assumption)))) bwa; have HGA := hid hGA; clear hGA hp; have hswa := Fwa.size; (first | (have hOA : wa.ownsRow wr.heap.size 3 1 (.slice (some ⟨wr.heap.size, 0, none⟩) 0 0) 0 [] := own_fr (own_fr (own_empty (w := wr) (Nat.le_refl _)) (Fr.refl _).drew) bwa) | (have hOA : wa.ownsRow wr.heap.size 3 1 (.slice (some ⟨wr.heap.size, 0, none⟩) 0 0) 0 [] := own_fr (own_empty (w := wr.drew) (base := wr.heap.size) (Nat.le_refl _)) bwa) | skip))
                | (go_at_call 7; (with_reducible refine (C1.out _ ?_).mono ?_); (· exact F6.trans (by (repeat (first | with_reducible exact Fr.refl _ | with_reducible assumption | with_reducible refine Fr.alloc ?_ _ | with_reducible refine Fr.drew ?_ | with_reducible refine Fr.drewN ?_ _ | (with_reducible refine Fr.setNew2 ?_ ?_ _; · (simp <;> omega)) | with_reducible refine Fr.trans ?_ (by assumption))))); rintro r wb ⟨hp, bwb⟩; obtain ⟨gb', ob, cb, rfl, hGB⟩ := lvpost hp n1.1; have Fwb : Fr wr wb := Fr.trans (by (repeat (first | with_reducible exact Fr.refl _ | with_reducible assumption | with_reducible refine Fr.alloc ?_ _ | with_reducible refine Fr.drew ?_ | with_reducible refine Fr.drewN ?_ _ | (with_reducible refine Fr.setNew2 ?_ ?_ _; · (simp <;> omega)) | with_reducible refine Fr.trans ?_ (by assumption)))) bwb; have HGB := hid hGB; clear hGB hp; have hswb := Fwb.size)
                | ((with_reducible refine upon_appI wr.heap.size _ 0 [] ?own (by omega) ?base ga oa ca P0 ?rd (by omega) ?_); (case own => first | exact hOA | exact own_empty (by first | omega | (simp; omega))); (case base => first | omega | (simp; omega)); (case rd => exact HGA.out.fr rdInt_mono (by (repeat (first | with_reducible exact Fr.refl _ | with_reducible assumption | with_reducible refine Fr.alloc ?_ _ | with_reducible refine Fr.drew ?_ | with_reducible refine Fr.drewN ?_ _ | (with_reducible refine Fr.setNew2 ?_ ?_ _; · (simp <;> omega)) | with_reducible refine Fr.trans ?_ (by assumption))))); intro v5 w5 hO5 hg5; have F5' : Fr wr w5 := Below.grown (show Fr wr _ by (repeat (first | with_reducible exact Fr.refl _ | with_reducible assumption | with_reducible refine Fr.alloc ?_ _ | with_reducible refine Fr.drew ?_ | with_reducible refine Fr.drewN ?_ _ | (with_reducible refine Fr.setNew2 ?_ ?_ _; · (simp <;> omega)) | with_reducible refine Fr.trans ?_ (by assumption)))) hg5 (Fr.size (show Fr wr _ by (repeat (first | with_reducible exact Fr.refl _ | with_reducible assumption | with_reducible refine Fr.alloc ?_ _ | with_reducible refine Fr.drew ?_ | with_reducible refine Fr.drewN ?_ _ | (with_reducible refine Fr.setNew2 ?_ ?_ _; · (simp <;> omega)) | with_reducible refine Fr.trans ?_ (by assumption))))) (fun k hk => by first | exact (hOA.lt k hk).1 | (simp [Value.ownBlock] at hk; omega)); rw [Nat.zero_add, List.nil_append] at hO5; have HO5 := hid hO5; have hs5 := F5'.size; clear hO5 hg5)
                | ((with_reducible refine upon_appI wr.heap.size _ P0.length (P0.map iv) ?own2 ?nn2 ?base2 gb' ob cb P1 ?rd2 ?mm2 ?_); (case own2 => exact own_fr HO5.out (by (repeat (first | with_reducible exact Fr.refl _ | with_reducible assumption | with_reducible refine Fr.alloc ?_ _ | with_reducible refine Fr.drew ?_ | with_reducible refine Fr.drewN ?_ _ | (with_reducible refine Fr.setNew2 ?_ ?_ _; · (simp <;> omega)) | with_reducible refine Fr.trans ?_ (by assumption))))); (case nn2 => omega); (case mm2 => omega); (case base2 => first | omega | (simp; omega)); (case rd2 => exact HGB.out.fr rdInt_mono (by (repeat (first | with_reducible exact Fr.refl _ | with_reducible assumption | with_reducible refine Fr.alloc ?_ _ | with_reducible refine Fr.drew ?_ | with_reducible refine Fr.drewN ?_ _ | (with_reducible refine Fr.setNew2 ?_ ?_ _; · (simp <;> omega)) | with_reducible refine Fr.trans ?_ (by assumption))))); intro v6 w6 hO6 hg6; have F6' : Fr wr w6 := Below.grown (show Fr wr _ by (repeat (first | with_reducible exact Fr.refl _ | with_reducible assumption | with_reducible refine Fr.alloc ?_ _ | with_reducible refine Fr.drew ?_ | with_reducible refine Fr.drewN ?_ _ | (with_reducible refine Fr.setNew2 ?_ ?_ _; · (simp <;> omega)) | with_reducible refine Fr.trans ?_ (by assumption)))) hg6 (Fr.size (show Fr wr _ by (repeat (first | with_reducible exact Fr.refl _ | with_reducible assumption | with_reducible refine Fr.alloc ?_ _ | with_reducible refine Fr.drew ?_ | with_reducible refine Fr.drewN ?_ _ | (with_reducible refine Fr.setNew2 ?_ ?_ _; · (simp <;> omega)) | with_reducible refine Fr.trans ?_ (by assumption))))) (fun k hk => (HO5.out.lt k hk).1); obtain ⟨zA, zc, rfl⟩ := own_form hO6; have HO6 := hid hO6; clear hO6 hg6)
                | (go_at_call 8; (with_reducible refine (eqFin (P0 := P0) (P1 := P1) HO6.out ?en ?eg HLE.out hL5).mono ?_); (case en => rfl); (case eg => exact G6.out.fr rdInt_mono (by (repeat (first | with_reducible exact Fr.refl _ | with_reducible assumption | with_reducible refine Fr.alloc ?_ _ | with_reducible refine Fr.drew ?_ | with_reducible refine Fr.drewN ?_ _ | (with_reducible refine Fr.setNew2 ?_ ?_ _; · (simp <;> omega)) | with_reducible refine Fr.trans ?_ (by assumption))))); rintro r wc ⟨rfl, bwc⟩; have Fwc : Fr wr wc := Fr.trans (by (repeat (first | with_reducible exact Fr.refl _ | with_reducible assumption | with_reducible refine Fr.alloc ?_ _ | with_reducible refine Fr.drew ?_ | with_reducible refine Fr.drewN ?_ _ | (with_reducible refine Fr.setNew2 ?_ ?_ _; · (simp <;> omega)) | with_reducible refine Fr.trans ?_ (by assumption)))) bwc)
                | fail)
            all_goals go_wp2
            all_goals go_ret
            all_goals exact ⟨rfl, b1.trans (F6.trans (by (repeat (first | with_reducible exact Fr.refl _ | with_reducible assumption | with_reducible refine Fr.alloc ?_ _ | with_reducible refine Fr.drew ?_ | with_reducible refine Fr.drewN ?_ _ | (with_reducible refine Fr.setNew2 ?_ ?_ _; · (simp <;> omega)) | with_reducible refine Fr.trans ?_ (by assumption)))))⟩
end Go.Proofs.Ytgjbmigplomekaa
