/- The walk of the law on implications with generated arguments. -/
import Derived.Test.YtabbcepdinplfaaDepM
import Derived.Deep.RegionWith
namespace Go.Proofs.Ytabbcepdinplfaa
open Go Go.RowKit
set_option maxHeartbeats 4000000 in
theorem walkFnImplies (A : Option Addr) (c : Nat) (xs : List Nat) (w : World) (hx : RdSl rdByte w.cell? 1 A xs) (hl : xs.length ≤ maxLen) (hc : xs.length ≤ c) :
    Calls Try.prog 13 #[.slice A xs.length c] w fun e w' => e = .returned (.bool true) ∧ Fr w w' := by
  have H := hid hx
  clear hx
  unfold maxLen at hl
  by_cases hs : xs.length ≤ 1048576
  · have e0 : decide ((1048576 : Int) < (xs.length : Int)) = false := by simp; omega
    go_enter Try.func13, Try.ntmps13
    go_wp2_with fail
    refine (drawImplies _ _ _ _ H.out hs hc).mono ?_
    rintro e w1 ⟨A2, c2, ds, wd, x, y, rfl, hds, d1, -, -, -, -, hy1, -, b1⟩
    have D := hid d1
    clear d1
    obtain ⟨b, hb0⟩ : ∃ b, impD ds wd ⟨x, y⟩ = b := ⟨_, rfl⟩
    obtain ⟨n, hn0⟩ : ∃ n, cloD ds wd x = n := ⟨_, rfl⟩
    have n1 : (b != b) = false := by simp
    have n2 : (b == b) = true := by simp
    have B1 := hid b1
    have c0 : (w1.alloc (.cells #[.int .i64 x, .int .i64 y] 56)).cell? ⟨w1.heap.size, 0, none⟩ = some (.int .i64 x) := ((Blk.new w1 56 #[.int .i64 x, .int .i64 y]).two).1
    have c1 : (w1.alloc (.cells #[.int .i64 x, .int .i64 y] 56)).cell? ⟨w1.heap.size, 1, none⟩ = some (.int .i64 y) := ((Blk.new w1 56 #[.int .i64 x, .int .i64 y]).two).2.1
    have F1 : Fr w1 (w1.alloc (.cells #[.int .i64 x, .int .i64 y] 56)) := (Fr.refl _).alloc _
    clear b1 H
    by_cases h0 : 0 ≤ n
    · by_cases hy : y = -1
      · subst hy
        obtain ⟨N, rfl⟩ : ∃ N : Nat, n = (N : Int) := ⟨n.toNat, by omega⟩
        have hB := hid hb0
        have hN := hid hn0
        have n3 : decide ((N : Int) < 0) = false := by simp
        clear hb0 hn0 h0 hy1
        go_wp2_with fail
        refine (implImplies _ _ _ _ _ _ _ (D.out.fr rdDep_mono F1) (by omega)).mono ?_
        rintro e w4 ⟨rfl, b4⟩
        rw [hB.out]
        replace c0 := b4.cell c0
        replace c1 := b4.cell c1
        have F4 := F1.trans b4
        clear F1 b4
        go_wp2_with fail
        first
          | (go_region_with (first
              | (go_at_call 35; refine (specImplies _ _ _ _ _ _ _ (D.out.fr rdDep_mono ?_) (by omega)).mono ?_; ((repeat (first | with_reducible exact Fr.refl _ | with_reducible assumption | with_reducible refine Fr.alloc ?_ _ | with_reducible refine Fr.drew ?_ | with_reducible refine Fr.drewN ?_ _ | (with_reducible refine Fr.setNew2 ?_ ?_ _; · (simp <;> omega)) | with_reducible refine Fr.trans ?_ (by assumption)))); rintro e w3 ⟨rfl, hb3⟩; rw [hB.out]; have k0 : w3.cell? ⟨w1.heap.size, 0, none⟩ = some (.int .i64 x) := Fr.cell hb3 c0; have k1 : w3.cell? ⟨w1.heap.size, 1, none⟩ = some (.int .i64 (-1)) := Fr.cell hb3 c1; have F3 : Fr w1 w3 := Fr.trans (Fr.drew F4) hb3)
              | (go_at_call 34; refine (implClosureOf _ _ _ _ _ _ (D.out.fr rdDep_mono ?_) (by omega)).mono ?_; ((repeat (first | with_reducible exact Fr.refl _ | with_reducible assumption | with_reducible refine Fr.alloc ?_ _ | with_reducible refine Fr.drew ?_ | with_reducible refine Fr.drewN ?_ _ | (with_reducible refine Fr.setNew2 ?_ ?_ _; · (simp <;> omega)) | with_reducible refine Fr.trans ?_ (by assumption)))); rintro e w2 ⟨rfl, hb2⟩; rw [hN.out]; have l0 : w2.cell? ⟨w1.heap.size, 0, none⟩ = some (.int .i64 x) := Fr.cell hb2 k0; have l1 : w2.cell? ⟨w1.heap.size, 1, none⟩ = some (.int .i64 (-1)) := Fr.cell hb2 k1; have F5 : Fr w1 w2 := Fr.trans F3 hb2)))
          | fail
        all_goals go_wp2_with fail
        all_goals
          refine (specImplies _ _ _ _ _ _ _ (D.out.fr rdDep_mono (by assumption)) (by omega)).mono ?_
          rintro e w9 ⟨rfl, b9⟩
          rw [hB.out]
          go_wp2
          go_ret
          refine ⟨ret_bool (by simp), B1.out.trans (Fr.trans ?_ b9)⟩
          assumption
      · obtain ⟨Y, rfl⟩ : ∃ Y : Nat, y = (Y : Int) := ⟨y.toNat, by omega⟩
        rw [← hn0] at h0
        have hv := clo_yes h0
        obtain ⟨w1', w2'⟩ := wd_of (vwd_of hv.1)
        by_cases hY : (Y : Int) < 2 ^ wd.toNat
        · obtain ⟨N, Y', q1, q2, q3, q4, q5⟩ := imp_law h0 (by omega) hY
          obtain rfl : Y = Y' := by omega
          rw [hb0] at q5
          rw [q1] at hn0
          subst hn0
          have hB := hid hb0
          have hN := hid q1
          have hw := wrap_pow' w1' w2'
          have e4 : decide (IntKind.i64.wrap (2 ^ wd.toNat) ≤ (Y : Int)) = false := by rw [hw]; simp; omega
          have i1 := i64_and N Y q3 q4
          have n3 : decide ((N : Int) < 0) = false := by simp
          have n4 : decide ((Y : Int) < 0) = false := by simp
          have HQ := hid q5
          have HV := hid hv.1
          have e5 : (((N &&& Y : Nat) : Int) == (Y : Int)) = b := by rw [q5, Bool.eq_iff_iff, beq_iff_eq, beq_iff_eq]; exact Int.natCast_inj
          have H0 := hid h0
          have HW := hid hw
          clear hb0 h0 hy1 hy hv hw q1 q2 q5 hY
          go_wp2_with fail
          refine (implImplies _ _ _ _ _ _ _ (D.out.fr rdDep_mono F1) (by omega)).mono ?_
          rintro e w4 ⟨rfl, b4⟩
          rw [hB.out]
          replace c0 := b4.cell c0
          replace c1 := b4.cell c1
          have F4 := F1.trans b4
          clear F1 b4
          go_wp2_with fail
          first
            | (go_region_with (first
                | (go_at_call 35; refine (specImplies _ _ _ _ _ _ _ (D.out.fr rdDep_mono ?_) (by omega)).mono ?_; ((repeat (first | with_reducible exact Fr.refl _ | with_reducible assumption | with_reducible refine Fr.alloc ?_ _ | with_reducible refine Fr.drew ?_ | with_reducible refine Fr.drewN ?_ _ | (with_reducible refine Fr.setNew2 ?_ ?_ _; · (simp <;> omega)) | with_reducible refine Fr.trans ?_ (by assumption)))); rintro e w3 ⟨rfl, hb3⟩; rw [hB.out]; have k0 : w3.cell? ⟨w1.heap.size, 0, none⟩ = some (.int .i64 x) := Fr.cell hb3 c0; have k1 : w3.cell? ⟨w1.heap.size, 1, none⟩ = some (.int .i64 Y) := Fr.cell hb3 c1; have F3 : Fr w1 w3 := Fr.trans (Fr.drew F4) hb3)
                | (go_at_call 34; refine (implClosureOf _ _ _ _ _ _ (D.out.fr rdDep_mono ?_) (by omega)).mono ?_; ((repeat (first | with_reducible exact Fr.refl _ | with_reducible assumption | with_reducible refine Fr.alloc ?_ _ | with_reducible refine Fr.drew ?_ | with_reducible refine Fr.drewN ?_ _ | (with_reducible refine Fr.setNew2 ?_ ?_ _; · (simp <;> omega)) | with_reducible refine Fr.trans ?_ (by assumption)))); rintro e w2 ⟨rfl, hb2⟩; rw [hN.out]; have l0 : w2.cell? ⟨w1.heap.size, 0, none⟩ = some (.int .i64 x) := Fr.cell hb2 k0; have l1 : w2.cell? ⟨w1.heap.size, 1, none⟩ = some (.int .i64 Y) := Fr.cell hb2 k1; have F5 : Fr w1 w2 := Fr.trans F3 hb2)))
            | fail
          have c0' : w2.cell? ⟨w1.heap.size, 0, none⟩ = some (.int .i64 x) := by assumption
          have c1' : w2.cell? ⟨w1.heap.size, 1, none⟩ = some (.int .i64 Y) := by assumption
          have FX : Fr w1 w2 := by assumption
          clear F4 c0 c1
          have HC := hid (And.intro c0' c1')
          clear c0' c1'
          go_wp2
          go_loopw [7] (fun i wr => ∃ k : Nat, i = .int .i64 k ∧ k ≤ ds.length ∧ Fr w2 wr) (fun i _ => ds.length - (intOf i).toNat)
          case atStart => exact ⟨0, rfl, by omega, Fr.refl _⟩
          case round =>
            obtain ⟨k, rfl, hk, hb5⟩ := hrel
            by_cases hlt : k < ds.length
            · obtain ⟨bb, o, rfl, d0, d1⟩ := D.out.dep hlt
              replace d0 := (FX.trans hb5).cell d0
              replace d1 := (FX.trans hb5).cell d1
              have hg : impD ds wd ⟨ds[k].fr, ds[k].to⟩ = true := imp_given HV.out (List.getElem_mem hlt)
              have HG := hid hg
              clear hg
              go_wp2_with fail
              refine (implImplies _ _ _ _ _ _ _ (D.out.fr rdDep_mono (FX.trans hb5)) (by omega)).mono ?_
              rintro e w5 ⟨rfl, b5⟩
              rw [HG.out]
              go_wp2
              go_roundw
              case rel => exact ⟨k + 1, by go_num, by omega, hb5.trans b5⟩
              case measure => simp [intOf]; omega
            · have c0 := hb5.cell HC.out.1
              have c1 := hb5.cell HC.out.2
              have F4 := FX.trans hb5
              go_wp2_with fail
              first
                | (go_region_with (go_at_call 34; refine (implClosureOf _ _ _ _ _ _ (D.out.fr rdDep_mono ?_) (by omega)).mono ?_; ((repeat (first | with_reducible exact Fr.refl _ | with_reducible assumption | with_reducible refine Fr.alloc ?_ _ | with_reducible refine Fr.drew ?_ | with_reducible refine Fr.drewN ?_ _ | (with_reducible refine Fr.setNew2 ?_ ?_ _; · (simp <;> omega)) | with_reducible refine Fr.trans ?_ (by assumption)))); rintro e w2 ⟨rfl, hb2⟩; rw [hN.out]; have l0 : w2.cell? ⟨w1.heap.size, 0, none⟩ = some (.int .i64 x) := Fr.cell hb2 c0; have l1 : w2.cell? ⟨w1.heap.size, 1, none⟩ = some (.int .i64 Y) := Fr.cell hb2 c1; have F5 : Fr w1 w2 := Fr.trans (Fr.drew F4) hb2))
                | fail
              all_goals
                go_wp2
                go_ret
                refine ⟨ret_bool (by simp), B1.out.trans ?_⟩
                assumption
        · have hB := hid hb0
          obtain ⟨N, rfl⟩ : ∃ N : Nat, n = (N : Int) := ⟨n.toNat, by omega⟩
          have hN := hid hn0
          have hw := wrap_pow' w1' w2'
          have e4 : decide (IntKind.i64.wrap (2 ^ wd.toNat) ≤ (Y : Int)) = true := by rw [hw]; simp; omega
          have H0 := hid h0
          have n3 : decide ((N : Int) < 0) = false := by simp
          have n4 : decide ((Y : Int) < 0) = false := by simp
          clear hb0 hn0 h0 hy1 hy hv hw hY
          go_wp2_with fail
          refine (implImplies _ _ _ _ _ _ _ (D.out.fr rdDep_mono F1) (by omega)).mono ?_
          rintro e w4 ⟨rfl, b4⟩
          rw [hB.out]
          replace c0 := b4.cell c0
          replace c1 := b4.cell c1
          have F4 := F1.trans b4
          clear F1 b4
          go_wp2_with fail
          first
            | (go_region_with (first
                | (go_at_call 35; refine (specImplies _ _ _ _ _ _ _ (D.out.fr rdDep_mono ?_) (by omega)).mono ?_; ((repeat (first | with_reducible exact Fr.refl _ | with_reducible assumption | with_reducible refine Fr.alloc ?_ _ | with_reducible refine Fr.drew ?_ | with_reducible refine Fr.drewN ?_ _ | (with_reducible refine Fr.setNew2 ?_ ?_ _; · (simp <;> omega)) | with_reducible refine Fr.trans ?_ (by assumption)))); rintro e w3 ⟨rfl, hb3⟩; rw [hB.out]; have k0 : w3.cell? ⟨w1.heap.size, 0, none⟩ = some (.int .i64 x) := Fr.cell hb3 c0; have k1 : w3.cell? ⟨w1.heap.size, 1, none⟩ = some (.int .i64 Y) := Fr.cell hb3 c1; have F3 : Fr w1 w3 := Fr.trans (Fr.drew F4) hb3)
                | (go_at_call 34; refine (implClosureOf _ _ _ _ _ _ (D.out.fr rdDep_mono ?_) (by omega)).mono ?_; ((repeat (first | with_reducible exact Fr.refl _ | with_reducible assumption | with_reducible refine Fr.alloc ?_ _ | with_reducible refine Fr.drew ?_ | with_reducible refine Fr.drewN ?_ _ | (with_reducible refine Fr.setNew2 ?_ ?_ _; · (simp <;> omega)) | with_reducible refine Fr.trans ?_ (by assumption)))); rintro e w2 ⟨rfl, hb2⟩; rw [hN.out]; have l0 : w2.cell? ⟨w1.heap.size, 0, none⟩ = some (.int .i64 x) := Fr.cell hb2 k0; have l1 : w2.cell? ⟨w1.heap.size, 1, none⟩ = some (.int .i64 Y) := Fr.cell hb2 k1; have F5 : Fr w1 w2 := Fr.trans F3 hb2)))
            | fail
          all_goals go_wp2_with fail
          all_goals
            refine (specImplies _ _ _ _ _ _ _ (D.out.fr rdDep_mono (by assumption)) (by omega)).mono ?_
            rintro e w9 ⟨rfl, b9⟩
            rw [hB.out]
            go_wp2
            go_ret
            refine ⟨ret_bool (by simp), B1.out.trans (Fr.trans ?_ b9)⟩
            assumption
    · have h1 : n = -1 := by
        rw [← hn0] at h0 ⊢
        unfold cloD at h0 ⊢
        split
        · rename_i h
          rw [if_pos h] at h0
          omega
        · rfl
      have hB := hid hb0
      have hN := hid hn0
      rw [h1] at hN
      clear hb0 hn0 hy1
      go_wp2_with fail
      refine (implImplies _ _ _ _ _ _ _ (D.out.fr rdDep_mono F1) (by omega)).mono ?_
      rintro e w4 ⟨rfl, b4⟩
      rw [hB.out]
      replace c0 := b4.cell c0
      replace c1 := b4.cell c1
      have F4 := F1.trans b4
      clear F1 b4
      go_wp2_with fail
      first
        | (go_region_with (first
            | (go_at_call 35; refine (specImplies _ _ _ _ _ _ _ (D.out.fr rdDep_mono ?_) (by omega)).mono ?_; ((repeat (first | with_reducible exact Fr.refl _ | with_reducible assumption | with_reducible refine Fr.alloc ?_ _ | with_reducible refine Fr.drew ?_ | with_reducible refine Fr.drewN ?_ _ | (with_reducible refine Fr.setNew2 ?_ ?_ _; · (simp <;> omega)) | with_reducible refine Fr.trans ?_ (by assumption)))); rintro e w3 ⟨rfl, hb3⟩; rw [hB.out]; have k0 : w3.cell? ⟨w1.heap.size, 0, none⟩ = some (.int .i64 x) := Fr.cell hb3 c0; have k1 : w3.cell? ⟨w1.heap.size, 1, none⟩ = some (.int .i64 y) := Fr.cell hb3 c1; have F3 : Fr w1 w3 := Fr.trans (Fr.drew F4) hb3)
            | (go_at_call 34; refine (implClosureOf _ _ _ _ _ _ (D.out.fr rdDep_mono ?_) (by omega)).mono ?_; ((repeat (first | with_reducible exact Fr.refl _ | with_reducible assumption | with_reducible refine Fr.alloc ?_ _ | with_reducible refine Fr.drew ?_ | with_reducible refine Fr.drewN ?_ _ | (with_reducible refine Fr.setNew2 ?_ ?_ _; · (simp <;> omega)) | with_reducible refine Fr.trans ?_ (by assumption)))); rintro e w2 ⟨rfl, hb2⟩; rw [hN.out]; have l0 : w2.cell? ⟨w1.heap.size, 0, none⟩ = some (.int .i64 x) := Fr.cell hb2 k0; have l1 : w2.cell? ⟨w1.heap.size, 1, none⟩ = some (.int .i64 y) := Fr.cell hb2 k1; have F5 : Fr w1 w2 := Fr.trans F3 hb2)))
        | fail
      all_goals go_wp2_with fail
      all_goals
        refine (specImplies _ _ _ _ _ _ _ (D.out.fr rdDep_mono (by assumption)) (by omega)).mono ?_
        rintro e w9 ⟨rfl, b9⟩
        rw [hB.out]
        go_wp2
        go_ret
        refine ⟨ret_bool (by simp), B1.out.trans (Fr.trans ?_ b9)⟩
        assumption
  · have e0 : decide ((1048576 : Int) < (xs.length : Int)) = true := by simp; omega
    go_enter Try.func13, Try.ntmps13
    go_wp2
    go_ret
    exact ⟨rfl, Fr.refl _⟩
end Go.Proofs.Ytabbcepdinplfaa
