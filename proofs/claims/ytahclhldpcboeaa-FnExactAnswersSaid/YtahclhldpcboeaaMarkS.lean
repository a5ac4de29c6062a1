/- Walks of the laws' comparison of lists of ints, and of marks on them. -/
import Derived.Test.YtahclhldpcboeaaAnsI
import Derived.Test.YtahclhldpcboeaaAnsS
import Derived.Test.YtahclhldpcboeaaInts
import Derived.Test.YtahclhldpcboeaaMark
namespace Go.Proofs.Ytahclhldpcboeaa
open Go Go.RowKit

set_option maxRecDepth 100000 in
set_option maxHeartbeats 2000000 in
theorem eqSS (A B : Option Addr) (c d : Nat) (L M : List (List Int)) (w : World) (hx : RdSl rdIL w.cell? 1 A L) (hy : RdSl rdIL w.cell? 1 B M) (hl : L.length ≤ 1000000) (hl2 : M.length ≤ 1000000) (hr : ∀ x ∈ L, x.length ≤ 1000) (hr2 : ∀ x ∈ M, x.length ≤ 1000) :
    Calls Try.prog 27 #[.slice A L.length c, .slice B M.length d] w fun e w' => e = .returned (.bool (decide (L = M))) ∧ Fr w w' := by
  have HX := hid hx
  have HY := hid hy
  have HR := hid hr
  have HR2 := hid hr2
  clear hx hy hr hr2
  by_cases hlen : L.length = M.length
  · obtain ⟨r, er⟩ : ∃ r, decide (L = M) = r := ⟨_, rfl⟩
    have ER := hid er
    rw [er]
    have e0 : ((L.length : Int) != (M.length : Int)) = false := by rw [hlen]; simp
    have HL := hid hlen
    clear er hlen
    go_enter Try.func27, Try.ntmps27
    go_wp2
    go_loopw [5] (fun t wr => ∃ k : Nat, k ≤ L.length ∧ t = .int .i64 k ∧ Hid (Fr w wr) ∧ Hid (∀ i (h1 : i < L.length) (h2 : i < M.length), i < k → L[i] = M[i])) (fun t _ => L.length - (intOf t).toNat)
    case atStart => exact ⟨0, by omega, rfl, hid (Fr.refl _), hid (fun i h1 h2 h => by omega)⟩
    case round =>
      clear e0
      obtain ⟨k, hk, rfl, hF, E⟩ := hrel
      by_cases hlt : k < L.length
      · have hlt2 : k < M.length := by have := HL.out; omega
        obtain ⟨xb, xo, hA, A1, a1, c0, rA⟩ := HX.out.at_ hlt
        replace c0 := hF.out.cell c0
        simp only [Nat.mul_one, Nat.add_zero] at c0
        subst hA
        obtain ⟨yb, yo, hB, B1, b1, d0, rB⟩ := HY.out.at_ hlt2
        replace d0 := hF.out.cell d0
        simp only [Nat.mul_one, Nat.add_zero] at d0
        subst hB
        have la := HR.out _ (List.getElem_mem hlt)
        have lb := HR2.out _ (List.getElem_mem hlt2)
        obtain ⟨x, ex⟩ : ∃ x, L[k] = x := ⟨_, rfl⟩
        obtain ⟨y, ey⟩ : ∃ y, M[k] = y := ⟨_, rfl⟩
        rw [ex] at c0 rA la
        rw [ey] at d0 rB lb
        have RA := hid (rA.fr rdInt_mono hF.out)
        have RB := hid (rB.fr rdInt_mono hF.out)
        have hkm : (k : Int) < (M.length : Int) := by omega
        clear rA rB
        by_cases hxy : x = y
        · have hd : decide (x = y) = true := decide_eq_true hxy
          have E2 := hid (show ∀ i (h1 : i < L.length) (h2 : i < M.length), i < k + 1 → L[i] = M[i] from fun i h1 h2 h => by
            by_cases e : i = k
            · subst e; rw [ex, ey, hxy]
            · exact E.out i h1 h2 (by omega))
          clear hxy ex ey E
          go_wp2_with fail
          (refine wp_region_quietC (fun w' => Fr _ w') (by kernel_rfl) (by kernel_rfl) (Fr.refl _).drew ?_; (repeat go_big_quiet_step (first | exact fun _ => rfl | exact fun _ => ⟨rfl, rfl⟩ | (intro hw'; replace c0 := hw'.cell c0; replace d0 := hw'.cell d0; go_simp; first | done | exact rfl | exact ⟨rfl, rfl⟩) | (intro hw'; go_at_call 16; refine (eqInts A1 B1 a1 b1 x y _ (RA.out.fr rdInt_mono hw') (RB.out.fr rdInt_mono hw') (by unfold maxLen; omega) (by unfold maxLen; omega)).mono ?_; rintro e w1 ⟨rfl, hb⟩; rw [hd]; exact ⟨rfl, hw'.trans hb⟩))); refine wpQuiet_nil ?_; intro wq hq)
          have F2 := hid (hF.out.trans hq)
          clear hF c0 d0 hq RA RB
          go_wp2
          go_roundw
          case rel => exact ⟨k + 1, by omega, by go_num, F2, E2⟩
          case measure => simp [intOf]; omega
        · have hd : decide (x = y) = false := decide_eq_false hxy
          have er : r = false := by
            rw [← ER.out]
            exact decide_eq_false fun e => hxy (by subst e; rw [← ex, ← ey])
          subst er
          clear hxy ex ey E ER
          go_wp2_with fail
          (refine wp_region_quietC (fun w' => Fr _ w') (by kernel_rfl) (by kernel_rfl) (Fr.refl _).drew ?_; (repeat go_big_quiet_step (first | exact fun _ => rfl | exact fun _ => ⟨rfl, rfl⟩ | (intro hw'; replace c0 := hw'.cell c0; replace d0 := hw'.cell d0; go_simp; first | done | exact rfl | exact ⟨rfl, rfl⟩) | (intro hw'; go_at_call 16; refine (eqInts A1 B1 a1 b1 x y _ (RA.out.fr rdInt_mono hw') (RB.out.fr rdInt_mono hw') (by unfold maxLen; omega) (by unfold maxLen; omega)).mono ?_; rintro e w1 ⟨rfl, hb⟩; rw [hd]; exact ⟨rfl, hw'.trans hb⟩))); refine wpQuiet_nil ?_; intro wq hq)
          go_wp2
          go_ret
          exact ⟨rfl, hF.out.trans hq⟩
      · obtain rfl : k = L.length := by omega
        have er : r = true := by
          rw [← ER.out]
          exact decide_eq_true (List.ext_getElem HL.out fun i h1 h2 => E.out i h1 h2 h1)
        subst er
        go_wp2
        go_ret
        exact ⟨rfl, hF.out⟩
  · have e0 : ((L.length : Int) != (M.length : Int)) = true := by simp; omega
    have er : decide (L = M) = false := decide_eq_false fun e => hlen (by rw [e])
    rw [er]
    go_enter Try.func27, Try.ntmps27
    go_wp2
    go_ret
    exact ⟨rfl, Fr.refl _⟩
/-- Lists of ints, each in a block of its own, that may be written: blocks and lengths. -/
def MkS (w : World) (A : Option Addr) (D : List (Nat × Nat)) : Prop := (∀ r ∈ D, Mk w (some ⟨r.1, 0, none⟩) r.2) ∧ (D.map (·.1)).Nodup ∧ (D ≠ [] → ∃ g cs, A = some ⟨g, 0, none⟩ ∧ Blk w g 22 cs ∧ (∀ i (h : i < D.length), cs[i]? = some (.slice (some ⟨D[i].1, 0, none⟩) D[i].2 D[i].2)) ∧ ∀ r ∈ D, r.1 ≠ g)
def totD (D : List (Nat × Nat)) : Nat := (D.map (·.2)).sum
theorem totD_take {D : List (Nat × Nat)} {i : Nat} (h : i < D.length) : totD (D.take (i + 1)) = totD (D.take i) + D[i].2 := by
  unfold totD
  rw [List.take_succ_eq_append_getElem h, List.map_append, List.sum_append]
  simp
theorem totD_le {D : List (Nat × Nat)} {b : Nat} (h : ∀ r ∈ D, r.2 ≤ b) : totD D ≤ D.length * b := by
  induction D with
  | nil => simp [totD]
  | cons x r ih =>
    have h1 := h x (by simp)
    have h2 := ih fun y hy => h y (by simp [hy])
    unfold totD at h2 ⊢
    rw [List.map_cons, List.sum_cons, List.length_cons, Nat.succ_mul]
    omega
/-- The marks from k on stand in them. -/
def HeldS (w : World) (A : Option Addr) (D : List (Nat × Nat)) (k : Nat) : Prop := MkS w A D ∧ ∀ i (h : i < D.length), RdSl rdInt w.cell? 1 (some ⟨D[i].1, 0, none⟩) (marks (k + totD (D.take i)) D[i].2)
def InD (D : List (Nat × Nat)) (j : Nat) : Prop := ∃ r ∈ D, r.1 = j
theorem mk_ch {S : Nat → Prop} {w w' : World} {b n : Nat} (h : Mk w (some ⟨b, 0, none⟩) n) (hc : Ch S w w') (hb : ¬ S b) : Mk w' (some ⟨b, 0, none⟩) n := fun hn => by
  obtain ⟨g, t, cs, e, hB, hs⟩ := h hn
  cases e
  exact ⟨_, t, cs, rfl, hB.ch hc hb, hs⟩
set_option maxRecDepth 100000 in
set_option maxHeartbeats 2000000 in
theorem heldSS (A : Option Addr) (D : List (Nat × Nat)) (c k : Nat) (w : World) (hD : D.length ≤ 2000) (hr : ∀ r ∈ D, r.2 ≤ 1000) (hk : k ≤ 1000000) (hH : HeldS w A D k) :
    Calls Try.prog 29 #[.slice A D.length c, .int .i64 k] w fun e w' => e = .returned (.int .i64 ((k + totD D : Nat) : Int)) ∧ w' = w := by
  have HH := hid hH
  have HR := hid hr
  have HT := hid (fun i => totD_le (D := D.take i) (b := 1000) fun r hr' => hr r (List.mem_of_mem_take hr'))
  clear hH hr
  go_enter Try.func29, Try.ntmps29
  go_wp2
  go_loopw [1, 5] (fun s t wr => ∃ i : Nat, i ≤ D.length ∧ t = .int .i64 i ∧ s = .int .i64 ((k + totD (D.take i) : Nat) : Int) ∧ w = wr) (fun _ t _ => D.length - (intOf t).toNat)
  case atStart => exact ⟨0, by omega, rfl, by simp [totD], rfl⟩
  case round =>
    obtain ⟨i, hi, rfl, rfl, rfl⟩ := hrel
    have ht1 := HT.out i
    rw [List.length_take] at ht1
    obtain ⟨K, eK⟩ : ∃ K, k + totD (D.take i) = K := ⟨_, rfl⟩
    have hK : K ≤ 3000000 := by have := Nat.min_le_right i D.length; omega
    by_cases hlt : i < D.length
    · obtain ⟨⟨_, _, m3⟩, hrd⟩ := HH.out
      obtain ⟨g, cs, hA, hB, hcs, _⟩ := m3 (by intro e; rw [e] at hlt; simp at hlt)
      have hrow := hrd i hlt
      have c0 : w.cell? ⟨g, i, none⟩ = some (.slice (some ⟨D[i].1, 0, none⟩) D[i].2 D[i].2) := by rw [hB.cell]; exact hcs i hlt
      have hb9 := HR.out _ (List.getElem_mem hlt)
      have htk := totD_take hlt
      rw [eK] at hrow ⊢
      obtain ⟨b, eb⟩ : ∃ b, D[i].1 = b := ⟨_, rfl⟩
      obtain ⟨n, en⟩ : ∃ n, D[i].2 = n := ⟨_, rfl⟩
      rw [eb, en] at hrow c0
      rw [en] at htk hb9
      have HROW := hid hrow
      have HN := hid (show k + totD (D.take (i + 1)) = K + n by omega)
      subst hA
      clear hrow hrd hcs m3 hB eb en htk eK ht1
      go_wp2_with fail
      refine (heldInts (some ⟨b, 0, none⟩) n n K _ (by omega) (by omega) HROW.out).mono ?_
      rintro e w1 ⟨rfl, rfl⟩
      have e0 : decide (((K + n : Nat) : Int) < 0) = false := decide_eq_false (by omega)
      obtain ⟨K2, eK2⟩ : ∃ K2, K + n = K2 := ⟨_, rfl⟩
      rw [eK2] at HN e0 ⊢
      clear eK2
      go_wp2
      go_roundw
      case rel => exact ⟨i + 1, by omega, by go_num, by rw [HN.out], trivial⟩
      case measure => simp [intOf]; omega
    · obtain rfl : i = D.length := by omega
      have e2 : k + totD D = K := by rw [← eK, List.take_length]
      have E2 := hid e2
      rw [eK]
      clear eK e2 ht1
      go_wp2
      go_ret
      exact ⟨by rw [E2.out]; rfl, rfl⟩
set_option maxRecDepth 100000 in
set_option maxHeartbeats 2000000 in
theorem markSS (A : Option Addr) (D : List (Nat × Nat)) (c k : Nat) (w : World) (hD : D.length ≤ 2000) (hr : ∀ r ∈ D, r.2 ≤ 1000) (hk : k ≤ 1000000) (hM : MkS w A D) :
    Calls Try.prog 28 #[.slice A D.length c, .int .i64 k] w fun e w' => e = .returned (.int .i64 ((k + totD D : Nat) : Int)) ∧ Ch (InD D) w w' ∧ HeldS w' A D k := by
  have HM := hid hM
  have HR := hid hr
  have HT := hid (fun i => totD_le (D := D.take i) (b := 1000) fun r hr' => hr r (List.mem_of_mem_take hr'))
  clear hM hr
  go_enter Try.func28, Try.ntmps28
  go_wp2
  go_loopw [1, 5] (fun s t wr => ∃ i : Nat, i ≤ D.length ∧ t = .int .i64 i ∧ s = .int .i64 ((k + totD (D.take i) : Nat) : Int) ∧ Hid (Ch (InD D) w wr ∧ MkS wr A D ∧ ∀ j (h : j < D.length), j < i → RdSl rdInt wr.cell? 1 (some ⟨D[j].1, 0, none⟩) (marks (k + totD (D.take j)) D[j].2))) (fun _ t _ => D.length - (intOf t).toNat)
  case atStart => exact ⟨0, by omega, rfl, by simp [totD], hid ⟨Ch.refl _, HM.out, fun j h hj => by omega⟩⟩
  case round =>
    clear HM
    obtain ⟨i, hi, rfl, rfl, hH⟩ := hrel
    have ht1 := HT.out i
    rw [List.length_take] at ht1
    obtain ⟨K, eK⟩ : ∃ K, k + totD (D.take i) = K := ⟨_, rfl⟩
    have hK : K ≤ 3000000 := by have := Nat.min_le_right i D.length; omega
    by_cases hlt : i < D.length
    · obtain ⟨hC, ⟨m1, m2, m3⟩, hrd⟩ := hH.out
      obtain ⟨g, cs, hA, hB, hcs, hgd⟩ := m3 (by intro e; rw [e] at hlt; simp at hlt)
      have c0 : wr.cell? ⟨g, i, none⟩ = some (.slice (some ⟨D[i].1, 0, none⟩) D[i].2 D[i].2) := by rw [hB.cell]; exact hcs i hlt
      have hb9 := HR.out _ (List.getElem_mem hlt)
      have htk := totD_take hlt
      have hmk := m1 _ (List.getElem_mem hlt)
      have NX := hid (show ∀ w2, Ch (AtB (some ⟨D[i].1, 0, none⟩)) wr w2 → RdSl rdInt w2.cell? 1 (some ⟨D[i].1, 0, none⟩) (marks K D[i].2) → Mk w2 (some ⟨D[i].1, 0, none⟩) D[i].2 → Ch (InD D) w w2 ∧ MkS w2 A D ∧ ∀ j (h : j < D.length), j < i + 1 → RdSl rdInt w2.cell? 1 (some ⟨D[j].1, 0, none⟩) (marks (k + totD (D.take j)) D[j].2) from fun w2 h2 hR2 hM2 => by
        have nb : ∀ j (h : j < D.length), j ≠ i → ¬ AtB (some ⟨D[i].1, 0, none⟩) D[j].1 := fun j h hji ⟨ad, e1, e2⟩ => by
          cases e1
          have hnd := List.pairwise_iff_getElem.1 m2
          have e3 : D[i].1 = D[j].1 := e2
          rcases Nat.lt_or_gt_of_ne hji with h1 | h1
          · have := hnd j i (by rw [List.length_map]; exact h) (by rw [List.length_map]; exact hlt) h1
            rw [List.getElem_map, List.getElem_map] at this
            exact this e3.symm
          · have := hnd i j (by rw [List.length_map]; exact hlt) (by rw [List.length_map]; exact h) h1
            rw [List.getElem_map, List.getElem_map] at this
            exact this e3
        have hsub : Ch (InD D) wr w2 := ⟨h2.os, h2.tape, h2.output, h2.size, fun j hj hne => h2.block j hj fun ⟨ad, e1, e2⟩ => by
          cases e1
          exact hne ⟨_, List.getElem_mem hlt, e2⟩⟩
        have hgb : ¬ AtB (some ⟨D[i].1, 0, none⟩) g := fun ⟨ad, e1, e2⟩ => by
          cases e1
          exact hgd _ (List.getElem_mem hlt) e2
        refine ⟨hC.trans hsub, ⟨fun r hr => ?_, m2, fun _ => ⟨g, cs, hA, hB.ch h2 hgb, hcs, hgd⟩⟩, fun j h hj => ?_⟩
        · obtain ⟨j, hj, rfl⟩ := List.getElem_of_mem hr
          by_cases e : j = i
          · subst e; exact hM2
          · exact mk_ch (m1 _ hr) h2 (nb j hj e)
        · by_cases e : j = i
          · subst e; rw [eK]; exact hR2
          · intro hne
            obtain ⟨b, o, e1, hc⟩ := hrd j h (by omega) hne
            cases e1
            exact ⟨_, 0, rfl, fun q hq => h2.cell (by exact nb j h e) (hc q hq)⟩)
      have HN := hid (show k + totD (D.take (i + 1)) = K + D[i].2 by omega)
      rw [eK]
      obtain ⟨b, eb⟩ : ∃ b, D[i].1 = b := ⟨_, rfl⟩
      obtain ⟨n, en⟩ : ∃ n, D[i].2 = n := ⟨_, rfl⟩
      rw [eb, en] at c0 hmk NX
      rw [en] at hb9 HN
      have HMK := hid hmk
      subst hA
      clear hC m1 m2 m3 hrd hB hcs hgd hmk htk eb en eK ht1 hH
      go_wp2_with fail
      refine (markInts (some ⟨b, 0, none⟩) n n K _ (by omega) (by omega) HMK.out).mono ?_
      rintro e w1 ⟨rfl, h2, hR2, hM2⟩
      have HNX := hid (NX.out w1 h2 hR2 hM2)
      obtain ⟨K2, eK2⟩ : ∃ K2, K + n = K2 := ⟨_, rfl⟩
      rw [eK2] at HN ⊢
      clear eK2 h2 hR2 hM2 NX
      go_wp2
      go_roundw
      case rel => exact ⟨i + 1, by omega, by go_num, by rw [HN.out], HNX⟩
      case measure => simp [intOf]; omega
    · obtain rfl : i = D.length := by omega
      have e2 : k + totD D = K := by rw [← eK, List.take_length]
      have E2 := hid e2
      rw [eK]
      clear eK e2 ht1
      go_wp2
      go_ret
      exact ⟨by rw [E2.out]; rfl, hH.out.1, hH.out.2.1, fun j h => hH.out.2.2 j h h⟩
/-! In the words of the exact laws. -/
def AtS (A : Option Addr) (D : List (Nat × Nat)) (k : Nat) : Prop := (D ≠ [] ∧ AtB A k) ∨ InD D k
def MkN (w : World) (A : Option Addr) (n : Nat) (D : List (Nat × Nat)) : Prop := D.length = n ∧ (∀ r ∈ D, r.2 ≤ 1000) ∧ MkS w A D
theorem MkN.from_ {S : Nat → Prop} {w w1 w2 : World} {A : Option Addr} {n : Nat} {D : List (Nat × Nat)} (h : MkN w A n D) (hf : Fr w w1) (hc : Ch S w1 w2) (hS : ∀ k, AtS A D k → S k → False) : MkN w2 A n D := by
  obtain ⟨h1, h2, m1, m2, m3⟩ := h
  refine ⟨h1, h2, fun r hr => mk_ch (mk_ch (m1 r hr) (S := fun _ => False) hf.ch (fun h => h)) hc fun hs => hS _ (.inr ⟨r, hr, rfl⟩) hs, m2, fun hne => ?_⟩
  obtain ⟨g, cs, hA, hB, hcs, hgd⟩ := m3 hne
  exact ⟨g, cs, hA, (hB.fr hf).ch hc fun hs => hS g (.inl ⟨hne, _, hA, rfl⟩) hs, hcs, hgd⟩
theorem MkN.fr {w w1 : World} {A : Option Addr} {n : Nat} {D : List (Nat × Nat)} (h : MkN w A n D) (hf : Fr w w1) : MkN w1 A n D := h.from_ hf (Ch.refl (S := fun _ => False) _) fun _ _ hs => hs
def HeldN (w : World) (A : Option Addr) (n : Nat) (D : List (Nat × Nat)) (k : Nat) : Prop := D.length = n ∧ (∀ r ∈ D, r.2 ≤ 1000) ∧ HeldS w A D k
theorem HeldN.fr {w w1 : World} {A : Option Addr} {n k : Nat} {D : List (Nat × Nat)} (h : HeldN w A n D k) (_ : RdMono rdIL) (hf : Fr w w1) : HeldN w1 A n D k := by
  obtain ⟨h1, h2, h3, h4⟩ := h
  exact ⟨h1, h2, (MkN.fr (n := n) ⟨h1, h2, h3⟩ hf).2.2, fun i hi => (h4 i hi).fr rdInt_mono hf⟩
theorem markN (A : Option Addr) (n c k : Nat) (D : List (Nat × Nat)) (w : World) (hn : n ≤ 2000) (hk : k ≤ 1000000) (h : MkN w A n D) :
    Calls Try.prog 28 #[.slice A n c, .int .i64 k] w fun e w' => e = .returned (.int .i64 ((k + totD D : Nat) : Int)) ∧ Ch (AtS A D) w w' ∧ HeldN w' A n D k ∧ True := by
  obtain ⟨rfl, h2, h3⟩ := h
  refine (markSS A D c k w hn h2 hk h3).mono ?_
  rintro e w' ⟨he, hC, hH⟩
  exact ⟨he, ⟨hC.os, hC.tape, hC.output, hC.size, fun j hj hne => hC.block j hj fun h => hne (.inr h)⟩, ⟨rfl, h2, hH⟩, trivial⟩
theorem heldN (A : Option Addr) (n c k : Nat) (D : List (Nat × Nat)) (w : World) (hn : n ≤ 2000) (hk : k ≤ 1000000) (h : HeldN w A n D k) :
    Calls Try.prog 29 #[.slice A n c, .int .i64 k] w fun e w' => e = .returned (.int .i64 ((k + totD D : Nat) : Int)) ∧ w = w' := by
  obtain ⟨rfl, h2, h3⟩ := h
  refine (heldSS A D c k w hn h2 hk h3).mono ?_
  rintro e w' ⟨he, hw⟩
  exact ⟨he, hw.symm⟩
def SsPost (base : Nat) (L : List (List Int)) (r : Ending) (w' : World) : Prop := ∃ A' cap' D, r = .returned (.slice A' L.length cap') ∧ RdSl rdIL (fromB w' base) 1 A' L ∧ MkN w' A' L.length D ∧ ∀ k, AtS A' D k → base ≤ k
theorem ssPost_out {base : Nat} {L : List (List Int)} {r : Ending} {w' : World} (h : SsPost base L r w') : ∃ A' cap' D, r = .returned (.slice A' L.length cap') ∧ RdSl rdIL (fromB w' base) 1 A' L ∧ MkN w' A' L.length D ∧ ∀ k, AtS A' D k → base ≤ k := h
theorem ilPost_out {L : List (List Int)} {r : Ending} {w' : World} (h : ILPost L r w') : ∃ A' cap', r = .returned (.slice A' L.length cap') ∧ RdSl rdIL (fromB w' 0) 1 A' L := by
  obtain ⟨A, cap, h1, h2, _⟩ := h
  exact ⟨A, cap, h1, h2.mono rdIL_mono fun p v hv => by unfold fromB; rw [if_pos (Nat.zero_le _)]; exact hv⟩
theorem ansO_row {q : Int} {hd : List Int} {bd : List Atom} {fs : List Fact} {x : List Int} (h : x ∈ ansO q hd bd fs) : x.length ≤ 1000 := by
  unfold ansO at h
  split at h
  · rename_i hv
    rw [Bool.and_eq_true] at hv
    have hp := vrule_parts hv.1
    unfold ans at h
    rw [mem_srtX] at h
    obtain ⟨m, _, rfl⟩ := List.mem_map.1 h
    unfold hdV
    rw [List.length_map]
    omega
  · cases h
theorem ansO_len {q : Int} {hd : List Int} {bd : List Atom} {fs : List Fact} : (ansO q hd bd fs).length ≤ 2000 := by
  unfold ansO
  split
  · exact ans_len q hd bd fs
  · simp
theorem AnPost.ss {base : Nat} {L : List (List Int)} {r : Ending} {w' : World} (h : AnPost base L r w') (hL : ∀ x ∈ L, x.length ≤ 1000) : SsPost base L r w' := by
  obtain ⟨ds, A, cap, h1, h2, h3, h4⟩ := h
  have hlen : ds.length = L.length := by rw [← h2, List.length_map]
  refine ⟨A, cap, ds.map fun r => (r.1, r.2.length), by rw [← hlen]; exact h1, fun hne => ?_, ⟨by rw [List.length_map]; exact hlen, fun r hr => ?_, fun r hr => ?_, ?_, fun hne => ?_⟩, fun k hk => ?_⟩
  · obtain ⟨g, cs, hA, hg, hB, hR⟩ := h4 (by intro e; subst e; exact hne (by rw [← h2]; rfl))
    refine ⟨g, 0, hA, fun i hi => ?_⟩
    have hi' : i < ds.length := by omega
    have ei : L[i] = ds[i].2 := by
      have : (ds.map (·.2))[i]'(by rw [List.length_map]; exact hi') = L[i] := by congr 1
      rw [← this, List.getElem_map]
    obtain ⟨q1, q2⟩ := h3.blk _ (List.getElem_mem hi')
    rw [ei]
    refine ⟨some ⟨ds[i].1, 0, none⟩, ds[i].2.length, ?_, fun _ => ⟨_, 0, rfl, fun j hj => ?_⟩⟩
    · show fromB w' base ⟨g, 0 + i * 1 + 0, none⟩ = _
      unfold fromB
      rw [if_pos hg, hB.cell]
      have := hR i hi'
      simpa [rowV] using this
    · show fromB w' base ⟨ds[i].1, 0 + j * 1 + 0, none⟩ = _
      unfold fromB
      rw [if_pos q1, q2.cell]
      simp [hj, iv]
  · obtain ⟨x, hx, rfl⟩ := List.mem_map.1 hr
    exact hL _ (by rw [← h2]; exact List.mem_map_of_mem hx)
  · obtain ⟨x, hx, rfl⟩ := List.mem_map.1 hr
    exact fun _ => ⟨x.1, _, _, rfl, (h3.blk x hx).2, by simp⟩
  · rw [List.map_map]; exact h3.nd
  · obtain ⟨g, cs, hA, hg, hB, hR⟩ := h4 (by intro e; subst e; exact hne rfl)
    refine ⟨g, cs, hA, hB, fun i hi => ?_, fun r hr => ?_⟩
    · simp only [List.length_map] at hi
      rw [List.getElem_map]
      exact hR i hi
    · obtain ⟨x, hx, rfl⟩ := List.mem_map.1 hr
      exact blk_type (h3.blk x hx).2 hB (by decide)
  · rcases hk with ⟨hne, ad, e1, e2⟩ | ⟨r, hr, e⟩
    · obtain ⟨g, cs, hA, hg, _⟩ := h4 (by intro e; subst e; exact hne rfl)
      rw [hA] at e1
      cases e1
      rw [← e2]; exact hg
    · obtain ⟨x, hx, rfl⟩ := List.mem_map.1 hr
      rw [← e]; exact (h3.blk x hx).1
theorem implAnswersN (q : Int) (A0 : Option Addr) (c0 : Nat) (hd : List Int) (A1 : Option Addr) (c1 : Nat) (bd : List Atom) (F : Option Addr) (fc : Nat) (fs : List Fact) (w : World) (hx0 : RdSl rdInt w.cell? 1 A0 hd) (hx1 : RdSl rdAtom w.cell? 3 A1 bd) (hxf : RdSl rdFact w.cell? 3 F fs) (hl0 : hd.length ≤ 1048576) (hl1 : bd.length ≤ 1048576) (hl2 : fs.length ≤ 1048576) :
    Calls Try.prog 26 #[.agg #[.int .i64 q, .slice A0 hd.length c0, .slice A1 bd.length c1], .slice F fs.length fc] w fun r w' => SsPost w.heap.size (ansO q hd bd fs) r w' ∧ Fr w w' :=
  (implAnswers q A0 c0 hd A1 c1 bd F fc fs w hx0 hx1 hxf hl0 hl1 hl2).mono fun _ _ ⟨h, k⟩ => ⟨h.ss fun _ hx => ansO_row hx, k⟩
def szF (left : Int) (n : Nat) : Int := if left < n then -1 else left - n
theorem szF_ways {n : Nat} {left : Int} (h : 0 ≤ left) (h' : left ≤ 1048576) : szF left n = -1 ∨ (0 ≤ szF left n ∧ szF left n ≤ 1048576 ∧ n ≤ 1048576) := by
  unfold szF
  split
  · exact .inl rfl
  · right; omega
theorem szFactsN (A : Option Addr) (n cap : Nat) (left : Int) (w : World) (hn : n ≤ maxLen) (h0 : 0 ≤ left) (h1 : left ≤ 1048576) :
    Calls Try.prog 23 #[.slice A n cap, .int .i64 left] w fun e w' => e = .returned (.int .i64 (szF left n)) ∧ Fr w w' :=
  (szFactS A n cap left w hn h0 h1).mono fun _ _ ⟨he, hw⟩ => ⟨he, by rw [hw]; exact Fr.refl _⟩
end Go.Proofs.Ytahclhldpcboeaa
