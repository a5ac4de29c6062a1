/- Walks of the generators of graphs: randomGraph. -/
import Derived.Test.YtgjbmigplomekaaGrfG
namespace Go.Proofs.Ytgjbmigplomekaa
open Go Go.RowKit
attribute [-go_sem] Builtin.append_
set_option maxRecDepth 100000 in
set_option maxHeartbeats 4000000 in
theorem randomGraph (r p : Nat) (w : World) (hr : Rdr w r p) (hp : p ≤ 1000000) :
    Calls Try.prog 72 #[.pointer (some ⟨r, 0, none⟩)] w (GOut w r p 40) := by
  have hlt := hr.lt
  have BG0 := Blk.new (w.alloc (.cells #[.slice none 0 0, .slice none 0 0] 26)) 26 #[.slice none 0 0, .slice none 0 0]
  rw [World.size_alloc] at BG0
  go_enter Try.func72, Try.ntmps72
  go_wp2_with fail
  refine (pick _ r p _ ((hr.alloc _).alloc _) (by omega) (by omega)).mono ?_
  rintro e w1 ⟨v, rfl, hv, hr1, hc1⟩
  have hv5 : v < 5 := by omega
  have hc1' : Ch (· = r) w w1 := (((Ch.refl w).alloc _).alloc _).trans hc1
  have S1 := hid (show GSt w r (w.heap.size + 1) (p + 1) w1 [] [] from ⟨_, _, Blk.ch (S := (· = r)) BG0 hc1 (by omega), own_nil, own_nil, hr1, hc1', Blk.ch (S := (· = r)) ((Blk.new w 26 #[.slice none 0 0, .slice none 0 0]).alloc (.cells #[.slice none 0 0, .slice none 0 0] 26)) hc1 (by omega)⟩)
  clear hv hr1 hc1 BG0
  go_wp2
  go_loopw [5] (fun t wr => ∃ (rs : List Int), rs.length ≤ 1 + v ∧ t = .int .i64 rs.length ∧ Hid (GSt w r (w.heap.size + 1) (p + 1 + rs.length) wr rs [])) (fun t _ => 1 + v - (intOf t).toNat)
  case atStart => exact ⟨[], by simp, rfl, S1⟩
  case round =>
    obtain ⟨rs, hk, rfl, hS⟩ := hrel
    by_cases hkv : rs.length < 1 + v
    · obtain ⟨VR, VE, hB, hR, hE, hrd, hC, hQ⟩ := hS.out
      obtain ⟨c0, c1, f0, f1⟩ := hB.two
      have hsr := hC.size
      have n1 := own_ne hR hB (by decide)
      have hb0 : w.heap.size + 1 < wr.heap.size := hB.lt
      have HE := hid hE
      have HR := hid hR
      have HQ := hid hQ
      clear hE hR hQ
      go_wp2_with fail
      first | (go_region_with (first
        | (go_at_call 74; refine (one _ _ [1, 2, 10, 50, 100, 1000, 7] r (p + 1 + rs.length) _ (by (repeat (first | with_reducible assumption | with_reducible refine Rdr.alloc ?_ _ | with_reducible refine Rdr.drew ?_ | (with_reducible refine Rdr.set2 ?_ ?_ _; · (simp <;> omega))))) (by omega) (RdSl.mono rdInt_mono (lit_ints (by omega)) ((Fr.refl _).drew.mle_from _)) (by decide) (by decide)).mono ?_; rintro e w4 ⟨y, _, rfl, hr4, hc4⟩; have F4 : Ch (· = r) wr w4 := Ch.trans (show Ch (· = r) wr _ from Fr.ch (by (repeat (first | with_reducible exact Fr.refl _ | with_reducible assumption | with_reducible refine Fr.alloc ?_ _ | with_reducible refine Fr.drew ?_ | with_reducible refine Fr.drewN ?_ _ | (with_reducible refine Fr.setNew2 ?_ ?_ _; · (simp <;> omega)) | with_reducible refine Fr.trans ?_ (by assumption))))) hc4; have B4 := hB.ch F4 (by omega); obtain ⟨a0, a1, b0, b1⟩ := B4.two; have HR4 := hid (gown_ch (own_fr HR.out (show Fr wr _ by (repeat (first | with_reducible exact Fr.refl _ | with_reducible assumption | with_reducible refine Fr.alloc ?_ _ | with_reducible refine Fr.drew ?_ | with_reducible refine Fr.drewN ?_ _ | (with_reducible refine Fr.setNew2 ?_ ?_ _; · (simp <;> omega)) | with_reducible refine Fr.trans ?_ (by assumption))))) hc4 hlt); have HE4 := hid (gown_ch (own_fr HE.out (show Fr wr _ by (repeat (first | with_reducible exact Fr.refl _ | with_reducible assumption | with_reducible refine Fr.alloc ?_ _ | with_reducible refine Fr.drew ?_ | with_reducible refine Fr.drewN ?_ _ | (with_reducible refine Fr.setNew2 ?_ ?_ _; · (simp <;> omega)) | with_reducible refine Fr.trans ?_ (by assumption))))) hc4 hlt); have hs4 := F4.size; have hb4 : w.heap.size + 1 < w4.heap.size := B4.lt)
        | (refine upon_appG 23 3 (.int .i64 0) 1 8 Try.underlying23 (by kernel_rfl) rfl (by decide) (by decide) w.heap.size VR rs.length (rs.map iv) (own_fr HR4.out (by (repeat (first | with_reducible exact Fr.refl _ | with_reducible assumption | with_reducible refine Fr.alloc ?_ _ | with_reducible refine Fr.drew ?_ | with_reducible refine Fr.drewN ?_ _ | (with_reducible refine Fr.setNew2 ?_ ?_ _; · (simp <;> omega)) | with_reducible refine Fr.trans ?_ (by assumption))))) (by omega) (by simp; omega) w4.heap.size 1 1 [iv y] rfl (by omega) (blk_new (by simp)) rfl ?_; intro v5 w5 hO5 hg5 _; obtain ⟨vA, vc, rfl⟩ := own_form hO5; have B5 := blk_grown (B4.alloc (.cells #[.int .i64 y] 3)) hg5 n1; obtain ⟨g0, g1, q0, q1⟩ := B5.two)
        | fail)) | fail
      all_goals have hCw := hC.trans F4
      all_goals have S5 := GSt.row (rs' := rs ++ [y]) (vA := vA) (vc := vc) B4 HR4.out HE4.out hr4 hCw (HQ.out.ch F4 (by omega)) hlt (by omega) (by rw [List.length_append, List.map_append]; exact hO5) hg5
      all_goals rw [List.length_append] at S5
      all_goals have S6 := hid (S5.fr (Fr.refl _).drew)
      all_goals replace S5 := hid S5
      all_goals clear a0 a1 b0 b1 g0 g1 q0 q1 hO5 B4 B5 HR4 HE4
      all_goals go_wp2
      all_goals go_roundw
      all_goals first
        | exact ⟨rs ++ [y], by simp; omega, by simp, by rw [List.length_append]; exact S5⟩
        | exact ⟨rs ++ [y], by simp; omega, by simp, by rw [List.length_append]; exact S6⟩
        | (simp [intOf]; done)
        | (simp [intOf]; omega)
    · have hrl : rs.length = 1 + v := by omega
      have HRL := hid hrl
      clear S1 hkv hk
      go_wp2_with fail
      refine (pick _ r (p + 1 + rs.length) _ hS.out.rdr (by omega) (by omega)).mono ?_
      rintro e w2 ⟨m, rfl, hm, hr2, hc2⟩
      have hm5 : m ≤ 5 := by omega
      have S2 := hid (show ∃ q, q + 3 * m ≤ p + 30 ∧ GSt w r (w.heap.size + 1) q w2 rs [] from ⟨_, by omega, hS.out.ch hc2 hr2 hlt (by omega)⟩)
      clear hm hr2 hc2 hS hrl
      go_wp2
      go_loopw [6] (fun t wr => ∃ (k : Nat) (es : List Edge), es.length + k ≤ 5 ∧ t = .int .i64 k ∧ Hid (∃ q, q + 3 * k ≤ p + 30 ∧ GSt w r (w.heap.size + 1) q wr rs es)) (fun t _ => (intOf t).toNat)
      case atStart => exact ⟨m, [], by simpa using hm5, rfl, S2⟩
      case round =>
        clear S2
        obtain ⟨k, es, hk5, rfl, hS⟩ := hrel
        by_cases hgo : 0 < k ∧ 0 < v
        · obtain ⟨hk0, hv0⟩ := hgo
          have d0 : decide ((0 : Int) < (k : Int)) = true := decide_eq_true (by omega)
          have d1 : decide ((1 : Int) < 1 + (v : Int)) = true := decide_eq_true (by omega)
          obtain ⟨q, hq, hG⟩ := hS.out
          obtain ⟨VR, VE, hB, hR, hE, hrd, hC, hQ⟩ := hG
          have hsr := hC.size
          have HB := hid hB
          have HE := hid hE
          have HR := hid hR
          have HQ := hid hQ
          clear hB hE hR hQ hS
          go_wp2_with fail
          refine (pick _ r q _ hrd (by omega) (by omega)).mono ?_
          rintro e w3 ⟨b, rfl, hb, hr3, hc3⟩
          have hB3 := HB.out.ch hc3 (by omega)
          have HR3 := hid (gown_ch HR.out hc3 hlt)
          have HE3 := hid (gown_ch HE.out hc3 hlt)
          have HQ3 := hid (HQ.out.ch hc3 (by omega))
          have hC3 := hC.trans hc3
          obtain ⟨c0, c1, f0, f1⟩ := hB3.two
          have n1 := own_ne HE3.out hB3 (by decide)
          have hb0 : w.heap.size + 1 < w3.heap.size := hB3.lt
          have hb5 : b < 5 := by omega
          have hL3 : r + 1 ≤ w3.heap.size := by omega
          have hRR := hid (show ∀ k, (fun k => k = r) k → k < r + 1 from fun k hk => by have : k = r := hk; omega)
          have hL := hid (show ∀ W : World, r + 1 ≤ W.heap.size → RdSl rdInt (fromB (W.alloc (.cells #[.int .i64 1, .int .i64 2, .int .i64 10, .int .i64 100, .int .i64 3] 3)) (r + 1)) 1 (some ⟨W.heap.size, 0, none⟩) [1, 2, 10, 100, 3] from fun W h => lit_ints (xs := [1, 2, 10, 100, 3]) h)
          clear hb hrd
          go_wp2_with fail
          go_region_with (first
            | (go_at_call 73; refine (pick _ r (q + 1) _ (by (repeat (first | with_reducible assumption | with_reducible refine Rdr.alloc ?_ _ | with_reducible refine Rdr.drew ?_ | (with_reducible refine Rdr.set2 ?_ ?_ _; · (simp <;> omega))))) (by omega) (by omega)).mono ?_; rintro e w4 ⟨y, rfl, _, hr4, hc4⟩; (first | (with_reducible have hlit := ((hL.out w3 hL3).mono rdInt_mono ((Fr.refl _).drew.mle_from (r + 1))).mono rdInt_mono (hc4.mle_from (lo := r + 1) hRR.out)) | skip); have F4 : Ch (· = r) w3 w4 := Ch.trans (show Ch (· = r) w3 _ from Fr.ch (by (repeat (first | with_reducible exact Fr.refl _ | with_reducible assumption | with_reducible refine Fr.alloc ?_ _ | with_reducible refine Fr.drew ?_ | with_reducible refine Fr.drewN ?_ _ | (with_reducible refine Fr.setNew2 ?_ ?_ _; · (simp <;> omega)) | with_reducible refine Fr.trans ?_ (by assumption))))) hc4; have B4 := hB3.ch F4 (by omega); obtain ⟨a0, a1, b0, b1⟩ := B4.two; have HR4 := hid (gown_ch (own_fr HR3.out (show Fr w3 _ by (repeat (first | with_reducible exact Fr.refl _ | with_reducible assumption | with_reducible refine Fr.alloc ?_ _ | with_reducible refine Fr.drew ?_ | with_reducible refine Fr.drewN ?_ _ | (with_reducible refine Fr.setNew2 ?_ ?_ _; · (simp <;> omega)) | with_reducible refine Fr.trans ?_ (by assumption))))) hc4 hlt); have HE4 := hid (gown_ch (own_fr HE3.out (show Fr w3 _ by (repeat (first | with_reducible exact Fr.refl _ | with_reducible assumption | with_reducible refine Fr.alloc ?_ _ | with_reducible refine Fr.drew ?_ | with_reducible refine Fr.drewN ?_ _ | (with_reducible refine Fr.setNew2 ?_ ?_ _; · (simp <;> omega)) | with_reducible refine Fr.trans ?_ (by assumption))))) hc4 hlt); have hs4 := F4.size; have hb4 : w.heap.size + 1 < w4.heap.size := B4.lt)
            | (go_at_call 74; refine (one _ _ [1, 2, 10, 100, 3] r (q + 1 + 1) _ (by (repeat (first | with_reducible assumption | with_reducible refine Rdr.alloc ?_ _ | with_reducible refine Rdr.drew ?_ | (with_reducible refine Rdr.set2 ?_ ?_ _; · (simp <;> omega))))) (by omega) ?lit (by decide) (by decide)).mono ?_; (case lit => first | (with_reducible exact hlit) | (with_reducible refine hL.out _ ?_; omega)); rintro e w6 ⟨z, _, rfl, hr6, hc6⟩; have F6 : Ch (· = r) w3 w6 := Ch.trans F4 (Ch.trans (show Ch (· = r) w4 _ from Fr.ch (by (repeat (first | with_reducible exact Fr.refl _ | with_reducible assumption | with_reducible refine Fr.alloc ?_ _ | with_reducible refine Fr.drew ?_ | with_reducible refine Fr.drewN ?_ _ | (with_reducible refine Fr.setNew2 ?_ ?_ _; · (simp <;> omega)) | with_reducible refine Fr.trans ?_ (by assumption))))) hc6); have B6 := hB3.ch F6 (by omega); obtain ⟨g0, g1, q0, q1⟩ := B6.two; have HR6 := hid (gown_ch (own_fr HR4.out (show Fr w4 _ by (repeat (first | with_reducible exact Fr.refl _ | with_reducible assumption | with_reducible refine Fr.alloc ?_ _ | with_reducible refine Fr.drew ?_ | with_reducible refine Fr.drewN ?_ _ | (with_reducible refine Fr.setNew2 ?_ ?_ _; · (simp <;> omega)) | with_reducible refine Fr.trans ?_ (by assumption))))) hc6 hlt); have HE6 := hid (gown_ch (own_fr HE4.out (show Fr w4 _ by (repeat (first | with_reducible exact Fr.refl _ | with_reducible assumption | with_reducible refine Fr.alloc ?_ _ | with_reducible refine Fr.drew ?_ | with_reducible refine Fr.drewN ?_ _ | (with_reducible refine Fr.setNew2 ?_ ?_ _; · (simp <;> omega)) | with_reducible refine Fr.trans ?_ (by assumption))))) hc6 hlt); have hs6 := F6.size; have hb6 : w.heap.size + 1 < w6.heap.size := B6.lt)
            | (refine upon_appG 24 99 (.agg #[.int .i64 0, .int .i64 0, .int .i64 0]) 3 24 Try.underlying24 (by kernel_rfl) rfl (by decide) (by decide) w.heap.size VE es.length (es.flatMap cellsEd) (own_fr HE6.out (by (repeat (first | with_reducible exact Fr.refl _ | with_reducible assumption | with_reducible refine Fr.alloc ?_ _ | with_reducible refine Fr.drew ?_ | with_reducible refine Fr.drewN ?_ _ | (with_reducible refine Fr.setNew2 ?_ ?_ _; · (simp <;> omega)) | with_reducible refine Fr.trans ?_ (by assumption))))) (by omega) (by simp; omega) w6.heap.size 1 1 [iv y, iv (1 + b), iv z] rfl (by omega) (blk_new (by simp)) rfl ?_; intro v7 w7 hO7 hg7 _; obtain ⟨vA, vc, rfl⟩ := own_form hO7; have B7 := blk_grown (B6.alloc (.cells #[.int .i64 y, .int .i64 (1 + b), .int .i64 z] 99)) hg7 n1; obtain ⟨j0, j1, l0, l1⟩ := B7.two)
            | fail)
          all_goals have hCw := hC3.trans F6
          all_goals have S7 := GSt.edge (es' := es ++ [⟨y, 1 + b, z⟩]) (vA := vA) (vc := vc) B6 HR6.out HE6.out hr6 hCw (HQ3.out.ch F6 (by omega)) hlt (by omega) (by rw [List.length_append, List.flatMap_append]; exact hO7) hg7
          all_goals rw [List.length_append] at S7
          all_goals replace S7 := hid S7
          all_goals clear hO7 hg7 a0 a1 b0 b1 g0 g1 q0 q1 j0 j1 l0 l1 B4 B6 B7 HR4 HE4 HR6 HE6
          all_goals go_wp2
          all_goals go_roundw
          all_goals first
            | exact ⟨k - 1, es ++ [⟨y, 1 + b, z⟩], by simp; omega, by congr 1; omega, hid ⟨q + 3, by omega, S7.out⟩⟩
            | (simp [intOf]; done)
            | (simp [intOf]; omega)
        · have hgo' : k = 0 ∨ (0 < k ∧ v = 0) := by omega
          obtain ⟨q, hq, VR, VE, hB, hR, hE, hrd, hC, hQ⟩ := hS.out
          obtain ⟨A0, c0, rfl⟩ := own_form hR
          obtain ⟨A1, c1, rfl⟩ := own_form hE
          have RES := hid (show GOut w r p 40 (.returned (.agg #[.slice A0 rs.length c0, .slice A1 es.length c1])) ((wr.setCell ⟨w.heap.size, 0, none⟩ (.slice A0 rs.length c0)).setCell ⟨w.heap.size, 1, none⟩ (.slice A1 es.length c1)) from ⟨_, _, rs, es, rfl, by rw [HRL.out]; omega, by rw [HRL.out]; omega, by omega, own_set (own_set hR (own_ne hR hQ (by decide))) (own_ne hR hQ (by decide)), own_set (own_set hE (own_ne hE hQ (by decide))) (own_ne hE hQ (by decide)), q, by omega, (hrd.set (by show r < w.heap.size; omega) _).set (by show r < w.heap.size; omega) _, (hC.setNew (Nat.le_refl _) _).setNew (Nat.le_refl _) _⟩)
          obtain ⟨a0, a1, _⟩ := hB.two
          obtain ⟨b0, b1, f0, f1⟩ := hQ.two
          obtain ⟨r0, r1, _⟩ := ((hQ.set_ 0 (.slice A0 rs.length c0)).set_ 1 (.slice A1 es.length c1)).two
          clear hS hR hE hB hQ hgo
          rcases hgo' with hk0 | ⟨hk0, hv0⟩
          · have d0 : decide ((0 : Int) < (k : Int)) = false := decide_eq_false (by omega)
            have d0' : decide (0 < k) = false := decide_eq_false (by omega)
            clear hk0
            go_wp2
            refine bodyPost_ret (v := .agg #[.slice A0 rs.length c0, .slice A1 es.length c1]) ?_ rfl RES.out
            simp [results, Try.results72, go_sem, r0, r1]
          · have d0 : decide ((0 : Int) < (k : Int)) = true := decide_eq_true (by omega)
            have d0' : decide (0 < k) = true := decide_eq_true (by omega)
            have d1 : decide ((1 : Int) < 1 + (v : Int)) = false := decide_eq_false (by omega)
            clear hk0
            go_wp2
            refine bodyPost_ret (v := .agg #[.slice A0 rs.length c0, .slice A1 es.length c1]) ?_ rfl RES.out
            simp [results, Try.results72, go_sem, r0, r1]
end Go.Proofs.Ytgjbmigplomekaa
