/- Walks of the generators of graphs: anyGraph. -/
import Derived.Test.YtgjbmigplomekaaGrfH
namespace Go.Proofs.Ytgjbmigplomekaa
open Go Go.RowKit

/-- A graph that has been drawn, changed or not. -/
def GAny (w0 : World) (r p : Nat) (e : Ending) (w : World) : Prop :=
  ∃ VR VE, ∃ rs : List Int, ∃ es : List Edge, e = .returned (.agg #[VR, VE]) ∧ 1 ≤ rs.length ∧ rs.length ≤ 10 ∧ es.length ≤ 6 ∧ w.ownsRow w0.heap.size 3 1 VR rs.length (rs.map iv) ∧ w.ownsRow w0.heap.size 99 3 VE es.length (es.flatMap cellsEd) ∧ Drawn 60 r p w0 w
theorem gout {w0 w : World} {r p K : Nat} {e : Ending} (h : GOut w0 r p K e w) : ∃ VR VE, ∃ rs : List Int, ∃ es : List Edge, e = .returned (.agg #[VR, VE]) ∧ 1 ≤ rs.length ∧ rs.length ≤ 5 ∧ es.length ≤ 5 ∧ w.ownsRow w0.heap.size 3 1 VR rs.length (rs.map iv) ∧ w.ownsRow w0.heap.size 99 3 VE es.length (es.flatMap cellsEd) ∧ Drawn K r p w0 w := h
/-- The end: the graph is copied into the result's block. -/
theorem gst_end {w0 w : World} {r gb p q : Nat} {rs : List Int} {es : List Edge} (h : GSt w0 r gb q w rs es) (hq : q ≤ p + 60) (hlt : r < w0.heap.size) (hgb : w0.heap.size < gb) (h1 : 1 ≤ rs.length) (h2 : rs.length ≤ 10) (h3 : es.length ≤ 6) :
    ∃ A0 c0 A1 c1, Blk w gb 26 #[.slice A0 rs.length c0, .slice A1 es.length c1] ∧ Blk w w0.heap.size 26 #[.slice none 0 0, .slice none 0 0] ∧
      Blk ((w.setCell ⟨w0.heap.size, 0, none⟩ (.slice A0 rs.length c0)).setCell ⟨w0.heap.size, 1, none⟩ (.slice A1 es.length c1)) w0.heap.size 26 #[.slice A0 rs.length c0, .slice A1 es.length c1] ∧
      GAny w0 r p (.returned (.agg #[.slice A0 rs.length c0, .slice A1 es.length c1])) ((w.setCell ⟨w0.heap.size, 0, none⟩ (.slice A0 rs.length c0)).setCell ⟨w0.heap.size, 1, none⟩ (.slice A1 es.length c1)) := by
  obtain ⟨VR, VE, hB, hR, hE, hr, hC, hQ⟩ := h
  obtain ⟨A0, c0, rfl⟩ := own_form hR
  obtain ⟨A1, c1, rfl⟩ := own_form hE
  refine ⟨A0, c0, A1, c1, hB, hQ, (hQ.set_ 0 _).set_ 1 _, _, _, rs, es, rfl, h1, h2, h3, ?_, ?_, q, by omega, (hr.set (by show r < w0.heap.size; omega) _).set (by show r < w0.heap.size; omega) _, (hC.setNew (Nat.le_refl _) _).setNew (Nat.le_refl _) _⟩
  · exact own_set (own_set hR (own_ne hR hQ (by decide))) (own_ne hR hQ (by decide))
  · exact own_set (own_set hE (own_ne hE hQ (by decide))) (own_ne hE hQ (by decide))
theorem gst_fin {w0 w : World} {r gb p q m n : Nat} {rs : List Int} {es : List Edge} {A0 A1 : Option Addr} {c0 c1 : Nat} (h : GSt w0 r gb q w rs es) (hB : Blk w gb 26 #[.slice A0 m c0, .slice A1 n c1]) (hm : rs.length = m) (hn : es.length = n) (hq : q ≤ p + 60) (hlt : r < w0.heap.size) (hgb : w0.heap.size < gb) (h1 : 1 ≤ rs.length) (h2 : rs.length ≤ 10) (h3 : es.length ≤ 6) :
    Blk ((w.setCell ⟨w0.heap.size, 0, none⟩ (.slice A0 m c0)).setCell ⟨w0.heap.size, 1, none⟩ (.slice A1 n c1)) w0.heap.size 26 #[.slice A0 m c0, .slice A1 n c1] ∧
      GAny w0 r p (.returned (.agg #[.slice A0 m c0, .slice A1 n c1])) ((w.setCell ⟨w0.heap.size, 0, none⟩ (.slice A0 m c0)).setCell ⟨w0.heap.size, 1, none⟩ (.slice A1 n c1)) := by
  obtain ⟨B0, d0, B1, d1, k1, _, k3, k4⟩ := gst_end (p := p) h hq hlt hgb h1 h2 h3
  unfold Blk at k1 hB
  rw [hB] at k1
  injection k1 with k1
  injection k1 with k1 _ _
  injection k1 with k1
  injection k1 with e0 k1
  injection k1 with e1 _
  rw [← e0, ← e1] at k3 k4
  exact ⟨k3, k4⟩
/-- The first cell of a row of one's own written anew. -/
theorem own_set0 {w : World} {base n g c : Nat} {xs : List Int} {y : Int} (h : w.ownsRow base 3 1 (.slice (some ⟨g, 0, none⟩) n c) n (xs.map iv)) (h0 : 0 < n) : (w.setCell ⟨g, 0, none⟩ (.int .i64 y)).ownsRow base 3 1 (.slice (some ⟨g, 0, none⟩) n c) n ((xs.set 0 y).map iv) := by
  obtain ⟨hl, h | ⟨g', cap, cur, hv, hg, hh, hnc, hm, hs, ht⟩⟩ := h
  · omega
  · injection hv with hA _ hc
    injection hA with hA
    injection hA with hA _ _
    subst hA hc
    refine ⟨by simpa using hl, .inr ⟨g, c, cur.setIfInBounds 0 (.int .i64 y), rfl, hg, Blk.set_ (show Blk w g 3 cur from hh) 0 _, hnc, hm, by simpa using hs, ?_⟩⟩
    rw [List.map_set, ← ht, Array.toList_setIfInBounds, List.take_set]
theorem GSt.zero {w0 w4 : World} {r gb p g c : Nat} {VE : Value} {rs : List Int} {es : List Edge} {y : Int} (hB : Blk w4 gb 26 #[.slice (some ⟨g, 0, none⟩) rs.length c, VE]) (hR : w4.ownsRow w0.heap.size 3 1 (.slice (some ⟨g, 0, none⟩) rs.length c) rs.length (rs.map iv)) (hE : w4.ownsRow w0.heap.size 99 3 VE es.length (es.flatMap cellsEd))
    (hr : Rdr w4 r p) (hC : Ch (· = r) w0 w4) (hQ : Blk w4 w0.heap.size 26 #[.slice none 0 0, .slice none 0 0]) (hlt : r < w0.heap.size) (h0 : 0 < rs.length) :
    GSt w0 r gb p (w4.setCell ⟨g, 0, none⟩ (.int .i64 y)) (rs.set 0 y) es := by
  have hg := (hR.lt g rfl).1
  have n1 : gb ≠ g := fun e => own_ne hR hB (by decide) (by rw [e]; rfl)
  have n2 : w0.heap.size ≠ g := fun e => own_ne hR hQ (by decide) (by rw [e]; rfl)
  have n3 : some g ≠ VE.ownBlock := by
    rcases own_ne2 hR hE (by decide) with h | h
    · rw [h]; simp
    · exact fun e => h e.symm
  exact ⟨_, VE, hB.far (by show gb ≠ g; exact n1) _, by rw [List.length_set]; exact own_set0 hR h0, own_set hE n3, hr.set (by show r < g; omega) _, hC.setNew (by show w0.heap.size ≤ g; omega) _, hQ.far (by show w0.heap.size ≠ g; exact n2) _⟩
attribute [-go_sem] Builtin.append_
set_option maxRecDepth 100000 in
set_option maxHeartbeats 4000000 in
theorem anyGraph (r p : Nat) (w : World) (hr : Rdr w r p) (hp : p ≤ 900000) :
    Calls Try.prog 55 #[.pointer (some ⟨r, 0, none⟩)] w (GAny w r p) := by
  have hlt := hr.lt
  have BQ := hid (Blk.new w 26 #[.slice none 0 0, .slice none 0 0])
  go_enter Try.func55, Try.ntmps55
  go_wp2_with fail
  refine (randomGraph r p _ (hr.alloc _) (by omega)).mono ?_
  intro e w1 h
  obtain ⟨VR, VE, rs, es, rfl, l1, l2, l3, hR, hE, q, hq, hr1, hc1⟩ := gout h
  rw [World.size_alloc] at hR hE
  obtain ⟨A0, c0, rfl⟩ := own_form hR
  obtain ⟨A1, c1, rfl⟩ := own_form hE
  have hC1 : Ch (· = r) w w1 := ((Ch.refl w).alloc _).trans hc1
  have hs1 := (BQ.out.ch hc1 (by omega)).lt
  have S1 := hid (show GSt w r w1.heap.size q (w1.alloc (.cells #[.slice A0 rs.length c0, .slice A1 es.length c1] 26)) rs es from ⟨_, _, Blk.new w1 26 _, own_base (own_fr hR ((Fr.refl _).alloc _)) (by omega), own_base (own_fr hE ((Fr.refl _).alloc _)) (by omega), hr1.alloc _, hC1.alloc _, (BQ.out.ch hc1 (by omega)).alloc _⟩)
  clear h hR hE hc1 hC1 BQ
  go_wp2_with fail
  refine absW fun W2 hW2 => ?_
  rw [← hW2] at S1
  clear hW2
  refine (pick _ r q _ S1.out.rdr (by omega) (by omega)).mono ?_
  rintro e w2 ⟨v, rfl, _, hr2, hc2⟩
  have S2 := hid (S1.out.ch hc2 hr2 hlt (by omega))
  clear S1 hr2 hc2 hr1
  cases e0 : ((v : Int) == 0)
  · cases e1 : ((v : Int) == 1)
    · cases e2 : ((v : Int) == 2)
      · obtain ⟨B0, d0, B1, d1, hB, hQ, hQ2, hres⟩ := gst_end (p := p) S2.out (by omega) hlt (by omega) l1 (by omega) (by omega)
        have HR := hid hres
        clear hres
        obtain ⟨a0, a1, _⟩ := hB.two
        obtain ⟨b0, b1, f0, f1⟩ := hQ.two
        obtain ⟨r0, r1, _⟩ := hQ2.two
        go_wp2
        refine bodyPost_ret (v := .agg #[.slice B0 rs.length d0, .slice B1 es.length d1]) ?_ rfl HR.out
        simp [results, Try.results55, go_sem, r0, r1]
      · obtain ⟨VR, VE, hB, hR, hE, hrd, hC, hQ⟩ := S2.out
        obtain ⟨A2, c2, rfl⟩ := own_form hR
        obtain ⟨A3, c3, rfl⟩ := own_form hE
        obtain ⟨c0', c1', f0', f1'⟩ := hB.two
        have n2 := own_ne hR hQ (by decide)
        have n1 := own_ne hR hB (by decide)
        have hb0 := hB.lt
        have HE := hid hE
        have HR := hid hR
        have HQ := hid hQ
        have HB := hid hB
        have F5 : Fr w2 (w2.alloc (.cells #[.int .i64 5, .int .i64 5, .int .i64 5, .int .i64 5, .int .i64 5] 3)) := (Fr.refl _).alloc _
        have lit5 : ∀ (j : Nat) u, ([iv 5, iv 5, iv 5, iv 5, iv 5])[j]? = some u → (w2.alloc (.cells #[.int .i64 5, .int .i64 5, .int .i64 5, .int .i64 5, .int .i64 5] 3)).cell? ⟨w2.heap.size, 0 + j, none⟩ = some u := fun j u hu => by
          rw [Nat.zero_add, (Blk.new w2 3 #[.int .i64 5, .int .i64 5, .int .i64 5, .int .i64 5, .int .i64 5]).cell]; simpa [iv] using hu
        have hCs := hC.size
        obtain ⟨R, hRm, hRl⟩ : ∃ R : List Int, R.map iv = rs.map iv ++ [iv 5, iv 5, iv 5, iv 5, iv 5] ∧ R.length = rs.length + 5 := ⟨rs ++ [5, 5, 5, 5, 5], by simp, by simp⟩
        have HRM := hid hRm
        have HRL := hid hRl
        clear hB hE hR hQ hRm hRl
        go_wp2_with (at_builtin; refine wp_appW rfl _ _ 23 rfl w.heap.size 3 (.int .i64 0) 1 8 Try.underlying23 (by kernel_rfl) rfl (by decide) (by decide) _ rs.length (rs.map iv) rfl (own_fr HR.out F5) (by omega) (by simp; omega) w2.heap.size 0 5 5 [iv 5, iv 5, iv 5, iv 5, iv 5] rfl rfl lit5 (by omega) rfl ?_; intro v5 w5 hO5 hg5 _; obtain ⟨vA, vc, rfl⟩ := own_form hO5; have B5 := blk_grown (HB.out.fr F5) hg5 n1; obtain ⟨g0, g1, q0, q1⟩ := B5.two; have hb5 := B5.lt; have Q5 := blk_grown (HQ.out.fr F5) hg5 n2; obtain ⟨j0, j1, k0, k1⟩ := Q5.two; have hq5 := Q5.lt; have S5 := GSt.row (rs' := R) (vA := vA) (vc := vc) HB.out HR.out HE.out hrd hC HQ.out hlt (by omega) (by rw [HRL.out, HRM.out]; exact hO5) hg5; rw [HRL.out] at S5; have FIN := hid (gst_fin (p := p) S5 (B5.set_ 0 _) HRL.out rfl (by omega) hlt (by omega) (by rw [HRL.out]; omega) (by rw [HRL.out]; omega) (by omega)); clear S5 hO5 hg5)
        obtain ⟨r0, r1, _⟩ := FIN.out.1.two
        refine bodyPost_ret (v := .agg #[.slice vA (rs.length + 5) vc, .slice A3 es.length c3]) ?_ rfl FIN.out.2
        simp [results, Try.results55, go_sem, r0, r1]
    · obtain ⟨VR, VE, hB, hR, hE, hrd, hC, hQ⟩ := S2.out
      obtain ⟨A2, c2, rfl⟩ := own_form hR
      obtain ⟨A3, c3, rfl⟩ := own_form hE
      obtain ⟨c0', c1', f0', f1'⟩ := hB.two
      have n1 := own_ne hE hB (by decide)
      have n2 := own_ne hE hQ (by decide)
      have hb0 := hB.lt
      have hCs := hC.size
      have HE := hid hE
      have HR := hid hR
      have HQ := hid hQ
      have HB := hid hB
      clear hB hE hR hQ
      go_wp2_with fail
      go_region_with (first
        | (go_at_call 74; refine (one _ _ [0, (rs.length : Int)] r (q + 1) _ (by (repeat (first | with_reducible assumption | with_reducible refine Rdr.alloc ?_ _ | with_reducible refine Rdr.drew ?_ | (with_reducible refine Rdr.set2 ?_ ?_ _; · (simp <;> omega))))) (by omega) ?lit (by simp) (by simp)).mono ?_; (case lit => exact RdSl.mono rdInt_mono (lit_ints (xs := [0, (rs.length : Int)]) (by omega)) ((Fr.refl _).drew.mle_from _)); rintro e w4 ⟨y, _, rfl, hr4, hc4⟩; have F4 : Ch (· = r) w2 w4 := Ch.trans (show Ch (· = r) w2 _ from Fr.ch (by (repeat (first | with_reducible exact Fr.refl _ | with_reducible assumption | with_reducible refine Fr.alloc ?_ _ | with_reducible refine Fr.drew ?_ | with_reducible refine Fr.drewN ?_ _ | (with_reducible refine Fr.setNew2 ?_ ?_ _; · (simp <;> omega)) | with_reducible refine Fr.trans ?_ (by assumption))))) hc4; have B4 := HB.out.ch F4 (by omega); obtain ⟨a0, a1, b0, b1⟩ := B4.two; have HR4 := hid (gown_ch (own_fr HR.out (show Fr w2 _ by (repeat (first | with_reducible exact Fr.refl _ | with_reducible assumption | with_reducible refine Fr.alloc ?_ _ | with_reducible refine Fr.drew ?_ | with_reducible refine Fr.drewN ?_ _ | (with_reducible refine Fr.setNew2 ?_ ?_ _; · (simp <;> omega)) | with_reducible refine Fr.trans ?_ (by assumption))))) hc4 hlt); have HE4 := hid (gown_ch (own_fr HE.out (show Fr w2 _ by (repeat (first | with_reducible exact Fr.refl _ | with_reducible assumption | with_reducible refine Fr.alloc ?_ _ | with_reducible refine Fr.drew ?_ | with_reducible refine Fr.drewN ?_ _ | (with_reducible refine Fr.setNew2 ?_ ?_ _; · (simp <;> omega)) | with_reducible refine Fr.trans ?_ (by assumption))))) hc4 hlt); have hs4 := F4.size; have hb4 := B4.lt; have Q4 := hid (HQ.out.ch F4 (by omega)))
        | (refine upon_appG 24 99 (.agg #[.int .i64 0, .int .i64 0, .int .i64 0]) 3 24 Try.underlying24 (by kernel_rfl) rfl (by decide) (by decide) w.heap.size _ es.length (es.flatMap cellsEd) (own_fr HE4.out (by (repeat (first | with_reducible exact Fr.refl _ | with_reducible assumption | with_reducible refine Fr.alloc ?_ _ | with_reducible refine Fr.drew ?_ | with_reducible refine Fr.drewN ?_ _ | (with_reducible refine Fr.setNew2 ?_ ?_ _; · (simp <;> omega)) | with_reducible refine Fr.trans ?_ (by assumption))))) (by omega) (by simp; omega) w4.heap.size 1 1 [iv 0, iv y, iv 1] rfl (by omega) (blk_new (by simp)) rfl ?_; intro v7 w7 hO7 hg7 _; obtain ⟨vA, vc, rfl⟩ := own_form hO7; have B7 := blk_grown (B4.alloc (.cells #[.int .i64 0, .int .i64 y, .int .i64 1] 99)) hg7 n1; obtain ⟨j0, j1, l0, l1'⟩ := B7.two)
        | fail)
      all_goals obtain ⟨E, hEm, hEl⟩ : ∃ E : List Edge, E.flatMap cellsEd = es.flatMap cellsEd ++ [iv 0, iv y, iv 1] ∧ E.length = es.length + 1 := ⟨es ++ [⟨0, y, 1⟩], by simp [cellsEd], by simp⟩
      all_goals have S7 := GSt.edge (es' := E) (vA := vA) (vc := vc) B4 HR4.out HE4.out hr4 (hC.trans F4) Q4.out hlt (by omega) (by rw [hEl, hEm]; exact hO7) hg7
      all_goals rw [hEl] at S7
      all_goals have FIN := hid (gst_fin (p := p) S7 (B7.set_ 1 _) rfl hEl (by omega) hlt (by omega) l1 (by omega) (by rw [hEl]; omega))
      all_goals obtain ⟨h0', h1', h2', h3'⟩ := (blk_grown (Q4.out.alloc _) hg7 n2).two
      all_goals have hq7 := (blk_grown (Q4.out.alloc _) hg7 n2).lt
      all_goals obtain ⟨r0, r1, _⟩ := FIN.out.1.two
      all_goals clear S7 hO7 hg7 a0 a1 b0 b1 HR4 HE4 B4 hEm hEl S2
      all_goals go_wp2
      all_goals refine bodyPost_ret (v := .agg #[.slice A2 rs.length c2, .slice vA (es.length + 1) vc]) ?_ rfl FIN.out.2
      all_goals simp [results, Try.results55, go_sem, r0, r1]
  · obtain ⟨VR, VE, hB, hR, hE, hrd, hC, hQ⟩ := S2.out
    obtain ⟨g, c2, cs, rfl, hBg, hcs⟩ : ∃ g c cs, VR = .slice (some ⟨g, 0, none⟩) rs.length c ∧ Blk w2 g 3 cs ∧ rs.length ≤ cs.size := by
      rcases hR.2 with ⟨_, h⟩ | ⟨g', cap', cur, hv, _, hh, hnc, _, hs, _⟩
      · omega
      · exact ⟨g', cap', cur, hv, hh, by omega⟩
    obtain ⟨A3, c3, rfl⟩ := own_form hE
    obtain ⟨c0', c1', f0', f1'⟩ := hB.two
    have hb0 := hB.lt
    have hCs := hC.size
    have hgr := (hR.lt g rfl).1
    have n1 : w1.heap.size ≠ g := fun e => own_ne hR hB (by decide) (by rw [e]; rfl)
    have HE := hid hE
    have HR := hid hR
    have HQ := hid hQ
    have HB := hid hB
    have HG := hid hBg
    clear hB hE hR hQ hBg
    go_wp2_with fail
    go_region_with (first
      | (go_at_call 74; refine (one _ _ [0, 1001] r (q + 1) _ (by (repeat (first | with_reducible assumption | with_reducible refine Rdr.alloc ?_ _ | with_reducible refine Rdr.drew ?_ | (with_reducible refine Rdr.set2 ?_ ?_ _; · (simp <;> omega))))) (by omega) ?lit (by decide) (by decide)).mono ?_; (case lit => exact RdSl.mono rdInt_mono (lit_ints (xs := [0, 1001]) (by omega)) ((Fr.refl _).drew.mle_from _)); rintro e w4 ⟨y, _, rfl, hr4, hc4⟩; have F4 : Ch (· = r) w2 w4 := Ch.trans (show Ch (· = r) w2 _ from Fr.ch (by (repeat (first | with_reducible exact Fr.refl _ | with_reducible assumption | with_reducible refine Fr.alloc ?_ _ | with_reducible refine Fr.drew ?_ | with_reducible refine Fr.drewN ?_ _ | (with_reducible refine Fr.setNew2 ?_ ?_ _; · (simp <;> omega)) | with_reducible refine Fr.trans ?_ (by assumption))))) hc4; have B4 := HB.out.ch F4 (by omega); obtain ⟨a0, a1, b0, b1⟩ := B4.two; have HR4 := hid (gown_ch (own_fr HR.out (show Fr w2 _ by (repeat (first | with_reducible exact Fr.refl _ | with_reducible assumption | with_reducible refine Fr.alloc ?_ _ | with_reducible refine Fr.drew ?_ | with_reducible refine Fr.drewN ?_ _ | (with_reducible refine Fr.setNew2 ?_ ?_ _; · (simp <;> omega)) | with_reducible refine Fr.trans ?_ (by assumption))))) hc4 hlt); have HE4 := hid (gown_ch (own_fr HE.out (show Fr w2 _ by (repeat (first | with_reducible exact Fr.refl _ | with_reducible assumption | with_reducible refine Fr.alloc ?_ _ | with_reducible refine Fr.drew ?_ | with_reducible refine Fr.drewN ?_ _ | (with_reducible refine Fr.setNew2 ?_ ?_ _; · (simp <;> omega)) | with_reducible refine Fr.trans ?_ (by assumption))))) hc4 hlt); have hs4 := F4.size; have hb4 := B4.lt; have Q4 := hid (HQ.out.ch F4 (by omega)); have G4 := HG.out.ch F4 (by omega); obtain ⟨u0, v0⟩ := G4.cell_some (i := 0) (by omega); have v1 := G4.frozen 0)
      | fail)
    all_goals have S7 := GSt.zero (y := y) B4 HR4.out HE4.out hr4 (hC.trans F4) Q4.out hlt l1
    all_goals have FIN := hid (gst_fin (p := p) S7 (B4.far (by exact n1) _) (by rw [List.length_set]) rfl (by omega) hlt (by omega) (by rw [List.length_set]; omega) (by rw [List.length_set]; omega) (by omega))
    all_goals obtain ⟨h0', h1', h2', h3'⟩ := Q4.out.two
    all_goals have hq7 := Q4.out.lt
    all_goals have n2 : w.heap.size ≠ g := fun e => own_ne HR4.out Q4.out (by decide) (by rw [e]; rfl)
    all_goals obtain ⟨r0, r1, _⟩ := FIN.out.1.two
    all_goals clear S7 HR4 HE4 S2
    all_goals go_wp2
    all_goals refine bodyPost_ret (v := .agg #[.slice (some ⟨g, 0, none⟩) rs.length c2, .slice A3 es.length c3]) ?_ rfl FIN.out.2
    all_goals simp [results, Try.results55, go_sem, r0, r1]
end Go.Proofs.Ytgjbmigplomekaa
