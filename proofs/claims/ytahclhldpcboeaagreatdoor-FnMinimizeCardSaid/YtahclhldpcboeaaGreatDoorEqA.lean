/- Walks of the laws' comparison of answers, and of the search for one. -/
import Derived.Test.YtahclhldpcboeaaGreatDoorAnsI
import Derived.Test.YtahclhldpcboeaaGreatDoorAnsS
import Derived.Test.YtahclhldpcboeaaGreatDoorInts
namespace Go.Proofs.YtahclhldpcboeaaGreatDoor
open Go Go.RowKit

set_option maxRecDepth 100000 in
set_option maxHeartbeats 2000000 in
theorem equalAns (A B : Option Addr) (c d : Nat) (L M : List (List Int)) (w : World) (hx : RdSl rdIL w.cell? 1 A L) (hy : RdSl rdIL w.cell? 1 B M) (hl : L.length ≤ 1000000) (hl2 : M.length ≤ 1000000) (hr : ∀ x ∈ L, x.length ≤ 1000) (hr2 : ∀ x ∈ M, x.length ≤ 1000) :
    Calls Tryz.prog 16 #[.slice A L.length c, .slice B M.length d] w fun e w' => e = .returned (.bool (decide (L = M))) ∧ Fr w w' := by
  have HX := hid hx
  have HY := hid hy
  have HR := hid hr
  have HR2 := hid hr2
  clear hx hy hr hr2
  by_cases hlen : L.length = M.length
  · obtain ⟨r, er⟩ : ∃ r, decide (L = M) = r := ⟨_, rfl⟩
    have ER := hid er
    rw [er]
    have e0 : ((L.length : Int) != (M.length : Int)) = false := by rw [hlen]; simp
    have HL := hid hlen
    clear er hlen
    go_enter Tryz.func16, Tryz.ntmps16
    go_wp2
    go_loopw [5] (fun t wr => ∃ k : Nat, k ≤ L.length ∧ t = .int .i64 k ∧ Hid (Fr w wr) ∧ Hid (∀ i (h1 : i < L.length) (h2 : i < M.length), i < k → L[i] = M[i])) (fun t _ => L.length - (intOf t).toNat)
    case atStart => exact ⟨0, by omega, rfl, hid (Fr.refl _), hid (fun i h1 h2 h => by omega)⟩
    case round =>
      clear e0
      obtain ⟨k, hk, rfl, hF, E⟩ := hrel
      by_cases hlt : k < L.length
      · have hlt2 : k < M.length := by have := HL.out; omega
        obtain ⟨xb, xo, hA, A1, a1, c0, rA⟩ := HX.out.at_ hlt
        replace c0 := hF.out.cell c0
        simp only [Nat.mul_one, Nat.add_zero] at c0
        subst hA
        obtain ⟨yb, yo, hB, B1, b1, d0, rB⟩ := HY.out.at_ hlt2
        replace d0 := hF.out.cell d0
        simp only [Nat.mul_one, Nat.add_zero] at d0
        subst hB
        have la := HR.out _ (List.getElem_mem hlt)
        have lb := HR2.out _ (List.getElem_mem hlt2)
        obtain ⟨x, ex⟩ : ∃ x, L[k] = x := ⟨_, rfl⟩
        obtain ⟨y, ey⟩ : ∃ y, M[k] = y := ⟨_, rfl⟩
        rw [ex] at c0 rA la
        rw [ey] at d0 rB lb
        have RA := hid (rA.fr rdInt_mono hF.out)
        have RB := hid (rB.fr rdInt_mono hF.out)
        have hkm : (k : Int) < (M.length : Int) := by omega
        clear rA rB
        by_cases hxy : x = y
        · have hd : decide (x = y) = true := decide_eq_true hxy
          have E2 := hid (show ∀ i (h1 : i < L.length) (h2 : i < M.length), i < k + 1 → L[i] = M[i] from fun i h1 h2 h => by
            by_cases e : i = k
            · subst e; rw [ex, ey, hxy]
            · exact E.out i h1 h2 (by omega))
          clear hxy ex ey E
          go_wp2_with fail
          (refine wp_region_quietC (fun w' => Fr _ w') (by kernel_rfl) (by kernel_rfl) (Fr.refl _).drew ?_; (repeat go_big_quiet_step (first | exact fun _ => rfl | exact fun _ => ⟨rfl, rfl⟩ | (intro hw'; replace c0 := hw'.cell c0; replace d0 := hw'.cell d0; go_simp; first | done | exact rfl | exact ⟨rfl, rfl⟩) | (intro hw'; go_at_call 35; refine (equalInts A1 B1 a1 b1 x y _ (RA.out.fr rdInt_mono hw') (RB.out.fr rdInt_mono hw') (by unfold maxLen; omega) (by unfold maxLen; omega)).mono ?_; rintro e w1 ⟨rfl, hb⟩; rw [hd]; exact ⟨rfl, hw'.trans hb⟩))); refine wpQuiet_nil ?_; intro wq hq)
          have F2 := hid (hF.out.trans hq)
          clear hF c0 d0 hq RA RB
          go_wp2
          go_roundw
          case rel => exact ⟨k + 1, by omega, by go_num, F2, E2⟩
          case measure => simp [intOf]; omega
        · have hd : decide (x = y) = false := decide_eq_false hxy
          have er : r = false := by
            rw [← ER.out]
            exact decide_eq_false fun e => hxy (by subst e; rw [← ex, ← ey])
          subst er
          clear hxy ex ey E ER
          go_wp2_with fail
          (refine wp_region_quietC (fun w' => Fr _ w') (by kernel_rfl) (by kernel_rfl) (Fr.refl _).drew ?_; (repeat go_big_quiet_step (first | exact fun _ => rfl | exact fun _ => ⟨rfl, rfl⟩ | (intro hw'; replace c0 := hw'.cell c0; replace d0 := hw'.cell d0; go_simp; first | done | exact rfl | exact ⟨rfl, rfl⟩) | (intro hw'; go_at_call 35; refine (equalInts A1 B1 a1 b1 x y _ (RA.out.fr rdInt_mono hw') (RB.out.fr rdInt_mono hw') (by unfold maxLen; omega) (by unfold maxLen; omega)).mono ?_; rintro e w1 ⟨rfl, hb⟩; rw [hd]; exact ⟨rfl, hw'.trans hb⟩))); refine wpQuiet_nil ?_; intro wq hq)
          go_wp2
          go_ret
          exact ⟨rfl, hF.out.trans hq⟩
      · obtain rfl : k = L.length := by omega
        have er : r = true := by
          rw [← ER.out]
          exact decide_eq_true (List.ext_getElem HL.out fun i h1 h2 => E.out i h1 h2 h1)
        subst er
        go_wp2
        go_ret
        exact ⟨rfl, hF.out⟩
  · have e0 : ((L.length : Int) != (M.length : Int)) = true := by simp; omega
    have er : decide (L = M) = false := decide_eq_false fun e => hlen (by rw [e])
    rw [er]
    go_enter Tryz.func16, Tryz.ntmps16
    go_wp2
    go_ret
    exact ⟨rfl, Fr.refl _⟩
set_option maxRecDepth 100000 in
set_option maxHeartbeats 2000000 in
theorem hasAns (A B : Option Addr) (c d : Nat) (L : List (List Int)) (z : List Int) (w : World) (hx : RdSl rdIL w.cell? 1 A L) (hy : RdSl rdInt w.cell? 1 B z) (hl : L.length ≤ 1000000) (hr : ∀ x ∈ L, x.length ≤ 1000) (hz : z.length ≤ 1000) :
    Calls Tryz.prog 11 #[.slice A L.length c, .slice B z.length d] w fun e w' => e = .returned (.bool (decide (z ∈ L))) ∧ Fr w w' := by
  have HX := hid hx
  have HY := hid hy
  have HR := hid hr
  clear hx hy hr
  obtain ⟨r, er⟩ : ∃ r, decide (z ∈ L) = r := ⟨_, rfl⟩
  have ER := hid er
  rw [er]
  clear er
  go_enter Tryz.func11, Tryz.ntmps11
  go_wp2
  go_loopw [5] (fun t wr => ∃ k : Nat, k ≤ L.length ∧ t = .int .i64 k ∧ Hid (Fr w wr) ∧ Hid (∀ i (h1 : i < L.length), i < k → L[i] ≠ z)) (fun t _ => L.length - (intOf t).toNat)
  case atStart => exact ⟨0, by omega, rfl, hid (Fr.refl _), hid (fun i h1 h => by omega)⟩
  case round =>
    obtain ⟨k, hk, rfl, hF, E⟩ := hrel
    by_cases hlt : k < L.length
    · obtain ⟨xb, xo, hA, A1, a1, c0, rA⟩ := HX.out.at_ hlt
      replace c0 := hF.out.cell c0
      simp only [Nat.mul_one, Nat.add_zero] at c0
      subst hA
      have la := HR.out _ (List.getElem_mem hlt)
      have hmem := List.getElem_mem hlt
      obtain ⟨x, ex⟩ : ∃ x, L[k] = x := ⟨_, rfl⟩
      rw [ex] at c0 rA la hmem
      have RA := hid (rA.fr rdInt_mono hF.out)
      have RB := hid (HY.out.fr rdInt_mono hF.out)
      clear rA
      by_cases hxy : x = z
      · have hd : decide (x = z) = true := decide_eq_true hxy
        have er : r = true := by
          rw [← ER.out]
          exact decide_eq_true (by rw [← hxy]; exact hmem)
        subst er
        clear hxy ex E ER hmem
        go_wp2_with fail
        refine (equalInts A1 B a1 d x z _ RA.out RB.out (by unfold maxLen; omega) (by unfold maxLen; omega)).mono ?_
        rintro e w1 ⟨rfl, hq⟩
        rw [hd]
        go_wp2
        go_ret
        exact ⟨rfl, hF.out.trans hq⟩
      · have hd : decide (x = z) = false := decide_eq_false hxy
        have E2 := hid (show ∀ i (h1 : i < L.length), i < k + 1 → L[i] ≠ z from fun i h1 h => by
          by_cases e : i = k
          · subst e; rw [ex]; exact hxy
          · exact E.out i h1 (by omega))
        clear hxy ex E hmem
        go_wp2_with fail
        refine (equalInts A1 B a1 d x z _ RA.out RB.out (by unfold maxLen; omega) (by unfold maxLen; omega)).mono ?_
        rintro e w1 ⟨rfl, hq⟩
        rw [hd]
        have F2 := hid (hF.out.trans hq)
        clear hF c0 hq RA RB
        go_wp2
        go_roundw
        case rel => exact ⟨k + 1, by omega, by go_num, F2, E2⟩
        case measure => simp [intOf]; omega
    · obtain rfl : k = L.length := by omega
      have er : r = false := by
        rw [← ER.out]
        exact decide_eq_false fun h => by
          obtain ⟨i, hi, e⟩ := List.getElem_of_mem h
          exact E.out i hi hi e
      subst er
      go_wp2
      go_ret
      exact ⟨rfl, hF.out⟩
theorem ansO_row {q : Int} {hd : List Int} {bd : List Atom} {fs : List Fact} {x : List Int} (h : x ∈ ansO q hd bd fs) : x.length ≤ 1000 := by
  unfold ansO at h
  split at h
  · rename_i hv
    rw [Bool.and_eq_true] at hv
    have hp := vrule_parts hv.1
    unfold ans at h
    rw [mem_srtX] at h
    obtain ⟨m, _, rfl⟩ := List.mem_map.1 h
    unfold hdV
    rw [List.length_map]
    omega
  · cases h
theorem ansO_len {q : Int} {hd : List Int} {bd : List Atom} {fs : List Fact} : (ansO q hd bd fs).length ≤ 2000 := by
  unfold ansO
  split
  · exact ans_len q hd bd fs
  · simp
theorem AnPost.il {base : Nat} {L : List (List Int)} {r : Ending} {w' : World} (h : AnPost base L r w') : ∃ A cap, r = .returned (.slice A L.length cap) ∧ RdSl rdIL w'.cell? 1 A L := by
  obtain ⟨ds, A, cap, h1, h2, h3, h4⟩ := h
  have hlen : ds.length = L.length := by rw [← h2, List.length_map]
  refine ⟨A, cap, by rw [← hlen]; exact h1, fun hne => ?_⟩
  obtain ⟨g, cs, hA, hg, hB, hR⟩ := h4 (by intro e; subst e; exact hne (by rw [← h2]; rfl))
  refine ⟨g, 0, hA, fun i hi => ?_⟩
  have hi' : i < ds.length := by omega
  have ei : L[i] = ds[i].2 := by
    have : (ds.map (·.2))[i]'(by rw [List.length_map]; exact hi') = L[i] := by congr 1
    rw [← this, List.getElem_map]
  obtain ⟨q1, q2⟩ := h3.blk _ (List.getElem_mem hi')
  rw [ei]
  refine ⟨some ⟨ds[i].1, 0, none⟩, ds[i].2.length, ?_, fun _ => ⟨_, 0, rfl, fun j hj => ?_⟩⟩
  · show w'.cell? ⟨g, 0 + i * 1 + 0, none⟩ = _
    rw [hB.cell]
    have := hR i hi'
    simpa [rowV] using this
  · show w'.cell? ⟨ds[i].1, 0 + j * 1 + 0, none⟩ = _
    rw [q2.cell]
    simp [hj, iv]
/-- A list of lists of ints that is handed back. -/
def ILOut (L : List (List Int)) (w : World) (r : Ending) (w' : World) : Prop := ∃ A cap, r = .returned (.slice A L.length cap) ∧ RdSl rdIL w'.cell? 1 A L ∧ Fr w w'
theorem implAnsL (q : Int) (A0 : Option Addr) (c0 : Nat) (hd : List Int) (A1 : Option Addr) (c1 : Nat) (bd : List Atom) (F : Option Addr) (fc : Nat) (fs : List Fact) (w : World) (hx0 : RdSl rdInt w.cell? 1 A0 hd) (hx1 : RdSl rdAtom w.cell? 3 A1 bd) (hxf : RdSl rdFact w.cell? 3 F fs) (hl0 : hd.length ≤ 1048576) (hl1 : bd.length ≤ 1048576) (hl2 : fs.length ≤ 1048576) :
    Calls Tryz.prog 10 #[.agg #[.int .i64 q, .slice A0 hd.length c0, .slice A1 bd.length c1], .slice F fs.length fc] w (ILOut (ansO q hd bd fs) w) :=
  (implAnswers q A0 c0 hd A1 c1 bd F fc fs w hx0 hx1 hxf hl0 hl1 hl2).mono fun _ _ ⟨h, k⟩ => by
    obtain ⟨A, cap, e1, e2⟩ := h.il
    exact ⟨A, cap, e1, e2, k⟩
theorem specAnsL (q : Int) (A0 : Option Addr) (c0 : Nat) (hd : List Int) (A1 : Option Addr) (c1 : Nat) (bd : List Atom) (F : Option Addr) (fc : Nat) (fs : List Fact) (w : World) (hx0 : RdSl rdInt w.cell? 1 A0 hd) (hx1 : RdSl rdAtom w.cell? 3 A1 bd) (hxf : RdSl rdFact w.cell? 3 F fs) (hl0 : hd.length ≤ 1048576) (hl1 : bd.length ≤ 1048576) (hl2 : fs.length ≤ 1048576) :
    Calls Tryz.prog 17 #[.agg #[.int .i64 q, .slice A0 hd.length c0, .slice A1 bd.length c1], .slice F fs.length fc] w (ILOut (ansO q hd bd fs) w) :=
  (specAnswers q A0 c0 hd A1 c1 bd F fc fs w hx0 hx1 hxf hl0 hl1 hl2).mono fun _ _ ⟨⟨A, cap, e1, e2, _⟩, k⟩ => ⟨A, cap, e1, e2, k⟩
end Go.Proofs.YtahclhldpcboeaaGreatDoor
