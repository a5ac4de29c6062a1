/- Walks of the generators of LeavesOf's arguments. -/
import Derived.Test.YtgjbmigplomekaaGrfI
import Derived.Test.YtgjbmigplomekaaTreI
namespace Go.Proofs.Ytgjbmigplomekaa
open Go Go.RowKit

/-- A graph and a tree that have been drawn. -/
def TCOut (w0 : World) (e : Ending) (w : World) : Prop :=
  ∃ A0 c0, ∃ rs : List Int, ∃ A1 c1, ∃ es : List Edge, ∃ (t : JT) (A : Option Addr) (c d : Nat), e = .returned (.tuple #[.agg #[.slice A0 rs.length c0, .slice A1 es.length c1], .agg #[.int .i64 t.leaf, .slice A t.kids.length c]]) ∧
    RdSl rdInt (fromB w w0.heap.size) 1 A0 rs ∧ RdSl rdEdge (fromB w w0.heap.size) 3 A1 es ∧ RdSl (rdJT d) (fromB w w0.heap.size) 2 A t.kids ∧ rs.length ≤ 10 ∧ es.length ≤ 6 ∧ t.kids.length ≤ 2 ∧ t.kids.length ≤ c ∧ Fr w0 w
theorem gany {w0 w : World} {r p : Nat} {e : Ending} (h : GAny w0 r p e w) : ∃ VR VE, ∃ rs : List Int, ∃ es : List Edge, e = .returned (.agg #[VR, VE]) ∧ 1 ≤ rs.length ∧ rs.length ≤ 10 ∧ es.length ≤ 6 ∧ w.ownsRow w0.heap.size 3 1 VR rs.length (rs.map iv) ∧ w.ownsRow w0.heap.size 99 3 VE es.length (es.flatMap cellsEd) ∧ Drawn 60 r p w0 w := h
theorem aout {w0 w : World} {r p : Nat} {e : Ending} (h : AOut r p w0 e w) : ∃ (d : Nat) (t : JT) (A : Option Addr) (c : Nat), e = .returned (.agg #[.int .i64 t.leaf, .slice A t.kids.length c]) ∧ RdSl (rdJT d) (fromB w w0.heap.size) 2 A t.kids ∧ t.kids.length ≤ 2 ∧ t.kids.length ≤ c ∧ Drawn 60 r p w0 w := h
theorem mle_set {a : Mv} {W : World} {lo : Nat} {p : Addr} {u : Value} (hp : p.block < lo) (h : Mle a (fromB W lo)) : Mle a (fromB (W.setCell p u) lo) := h.trans fun q v e => by
  unfold fromB at e ⊢
  split at e
  · rename_i hl
    rw [if_pos hl, World.cell?_setCell_far _ _ _ _ (by omega)]; exact e
  · cases e
theorem mle_drew {a : Mv} {W : World} {lo : Nat} (h : Mle a (fromB W lo)) : Mle a (fromB W.drew lo) := h.trans ((Fr.refl W).drew.mle_from lo)
/-- What has been drawn stands while the results are laid in the blocks below lo. -/
theorem tc_fin {w w4 W' : World} {lo d c0 c1 c : Nat} {A0 A1 A : Option Addr} {rs : List Int} {es : List Edge} {t : JT} (hr : RdSl rdInt (fromB w4 lo) 1 A0 rs) (he : RdSl rdEdge (fromB w4 lo) 3 A1 es) (ht : RdSl (rdJT d) (fromB w4 lo) 2 A t.kids) (l2 : rs.length ≤ 10) (l3 : es.length ≤ 6) (lk : t.kids.length ≤ 2) (lc : t.kids.length ≤ c) (hf : Fr w W') (hm : Mle (fromB w4 lo) (fromB W' lo)) (hlo : w.heap.size ≤ lo) :
    TCOut w (.returned (.tuple #[.agg #[.slice A0 rs.length c0, .slice A1 es.length c1], .agg #[.int .i64 t.leaf, .slice A t.kids.length c]])) W' :=
  ⟨A0, c0, rs, A1, c1, es, t, A, c, d, rfl, (hr.mono rdInt_mono hm).mono rdInt_mono (fromB_lo hlo), (he.mono rdEdge_mono hm).mono rdEdge_mono (fromB_lo hlo), (ht.mono (rdJT_mono d) hm).mono (rdJT_mono d) (fromB_lo hlo), l2, l3, lk, lc, hf⟩
set_option maxRecDepth 100000 in
set_option maxHeartbeats 4000000 in
theorem drawTreeCost (A : Option Addr) (cap : Nat) (xs : List Nat) (w : World) (hx : RdSl rdByte w.cell? 1 A xs) (hl : xs.length ≤ 1048576) (hc : xs.length ≤ cap) :
    Calls Try.prog 31 #[.slice A xs.length cap] w (TCOut w) := by
  have HX := hid hx
  clear hx
  have BG := hid ((Blk.new w 26 #[.slice none 0 0, .slice none 0 0]).alloc (.cells #[.int .i64 0, .slice none 0 0] 29))
  have BT0 := Blk.new (w.alloc (.cells #[.slice none 0 0, .slice none 0 0] 26)) 29 #[.int .i64 0, .slice none 0 0]
  rw [World.size_alloc] at BT0
  have BT := hid BT0
  clear BT0
  have F0 : Fr w ((w.alloc (.cells #[.slice none 0 0, .slice none 0 0] 26)).alloc (.cells #[.int .i64 0, .slice none 0 0] 29)) := by (repeat (first | with_reducible exact Fr.refl _ | with_reducible assumption | with_reducible refine Fr.alloc ?_ _ | with_reducible refine Fr.drew ?_ | with_reducible refine Fr.drewN ?_ _ | (with_reducible refine Fr.setNew2 ?_ ?_ _; · (simp <;> omega)) | with_reducible refine Fr.trans ?_ (by assumption)))
  go_enter Try.func31, Try.ntmps31
  go_wp2_with fail
  refine (newReader A cap xs _ (HX.out.fr rdByte_mono F0) hl hc).mono ?_
  rintro e w1 ⟨r, rfl, hrs, hr1, b1⟩
  rw [World.size_alloc, World.size_alloc] at hrs
  have F1 := F0.trans b1
  have BG1 := BG.out.fr b1
  have BT1 := BT.out.fr b1
  go_wp2_with fail
  refine (anyGraph r 0 _ hr1 (by omega)).mono ?_
  intro e w2 h
  obtain ⟨VR, VE, rs, es, rfl, l1, l2, l3, hR, hE, p2, hp2, hr2, hc2⟩ := gany h
  obtain ⟨A0, c0, rfl⟩ := own_form hR
  obtain ⟨A1, c1, rfl⟩ := own_form hE
  have F2 : Fr w w2 := hc2.fr (fun k hk => by have : k = r := hk; omega) F1
  have BG2 := BG1.ch hc2 (by omega)
  have BT2 := BT1.ch hc2 (by omega)
  have hlt := hr1.lt
  have K3 : Fr w2 (w2.alloc (.cells #[.slice A0 rs.length c0, .slice A1 es.length c1] 26)) := (Fr.refl _).alloc _
  have B5 := Blk.new w2 26 #[.slice A0 rs.length c0, .slice A1 es.length c1]
  obtain ⟨W3, hW3⟩ : ∃ W3, w2.alloc (.cells #[.slice A0 rs.length c0, .slice A1 es.length c1] 26) = W3 := ⟨_, rfl⟩
  rw [hW3] at K3 B5
  have hs23 := K3.size
  have hs12 := hc2.size
  have HR := hid (own_fr hR K3)
  have HE := hid (own_fr hE K3)
  have HG := hid (BG2.fr K3)
  have HT := hid (BT2.fr K3)
  have H5 := hid B5
  have hr3 := hr2.fr K3
  have F3 := F2.trans K3
  have NR : some w.heap.size ≠ (Value.slice A0 rs.length c0).ownBlock := fun e => by have := (hR.lt _ e.symm).1; omega
  have NE : some w.heap.size ≠ (Value.slice A1 es.length c1).ownBlock := fun e => by have := (hE.lt _ e.symm).1; omega
  have hw1 := F1.size
  clear hR hE BG2 BT2 B5 hr2 hc2 h BG BT BG1 BT1 hr1 b1
  obtain ⟨a0, a1, f0, f1⟩ := HG.out.two
  obtain ⟨b0, b1, g0, g1⟩ := HT.out.two
  obtain ⟨c0', c1', _⟩ := H5.out.two
  have hg3 := HG.out.lt
  have ht3 := HT.out.lt
  have h53 := H5.out.lt
  go_wp2_with fail
  try rw [hW3]
  go_region_with (first
    | (go_at_call 56; refine (anyTree r p2 rs.length _ (by (repeat (first | with_reducible assumption | with_reducible refine Rdr.alloc ?_ _ | with_reducible refine Rdr.drew ?_ | (with_reducible refine Rdr.set2 ?_ ?_ _; · (simp <;> omega))))) (by omega) l1 l2).mono ?_; intro e w4 h4; obtain ⟨d, t, A4, c4, rfl, hx4, lk, lc, p4, _, _, hc4⟩ := aout h4; have HX4 := hid (hx4.mono (rdJT_mono d) (fromB_lo (lo' := w.heap.size + 1 + 1) (by first | (simp; omega) | (simp [World.setCell]; omega)))); clear hx4 h4;
        (first
          | (have hCW : Ch (· = r) W3 w4 := Ch.trans (show Ch (· = r) W3 _ from Fr.ch (by ((repeat (first | with_reducible exact Fr.refl _ | with_reducible assumption | with_reducible refine Fr.alloc ?_ _ | with_reducible refine Fr.drew ?_ | with_reducible refine Fr.drewN ?_ _ | (with_reducible refine Fr.setNew2 ?_ ?_ _; · (simp <;> omega)) | with_reducible refine Fr.trans ?_ (by assumption)))); done)) hc4; have G4 := HG.out.ch hCW (by omega); have T4 := HT.out.ch hCW (by omega); have C4 := H5.out.ch hCW (by omega); have HR4 := hid (gown_ch HR.out hCW hlt); have HE4 := hid (gown_ch HE.out hCW hlt); have F4 : Fr w w4 := hCW.fr (fun k hk => by have : k = r := hk; omega) F3)
          | (have G4 := Blk.ch (S := (· = r)) (((HG.out.set_ 0 (.slice A0 rs.length c0)).set_ 1 (.slice A1 es.length c1)).drew) hc4 (by omega); have T4 := Blk.ch (S := (· = r)) ((((HT.out.far (p := ⟨w.heap.size, 0, none⟩) (by simp) (.slice A0 rs.length c0)).far (p := ⟨w.heap.size, 1, none⟩) (by simp) (.slice A1 es.length c1))).drew) hc4 (by omega); have C4 := Blk.ch (S := (· = r)) ((((H5.out.far (p := ⟨w.heap.size, 0, none⟩) (by simp; omega) (.slice A0 rs.length c0)).far (p := ⟨w.heap.size, 1, none⟩) (by simp; omega) (.slice A1 es.length c1))).drew) hc4 (by omega); have HR4 := hid (gown_ch (own_fr (own_set (o := 1) (u := .slice A1 es.length c1) (own_set (o := 0) (u := .slice A0 rs.length c0) HR.out NR) NR) (Fr.refl _).drew) hc4 hlt); have HE4 := hid (gown_ch (own_fr (own_set (o := 1) (u := .slice A1 es.length c1) (own_set (o := 0) (u := .slice A0 rs.length c0) HE.out NE) NE) (Fr.refl _).drew) hc4 hlt); have F4 : Fr w w4 := hc4.fr (fun k hk => by have : k = r := hk; omega) ((F3.setNew (p := ⟨w.heap.size, 0, none⟩) (Nat.le_refl _) (.slice A0 rs.length c0)).setNew (p := ⟨w.heap.size, 1, none⟩) (Nat.le_refl _) (.slice A1 es.length c1)).drew));
        obtain ⟨m0, m1, m2, m3⟩ := G4.two; obtain ⟨n0, n1, n2, n3⟩ := T4.two; obtain ⟨o0, o1, _⟩ := C4.two; have hg4 := G4.lt; have ht4 := T4.lt; have hc4' := C4.lt)
    | fail)
  all_goals have RD := (own_int HR4.out rfl).mono rdInt_mono (fromB_lo (lo' := w.heap.size + 1 + 1) (by omega))
  all_goals have ED := (own_edge HE4.out rfl).mono rdEdge_mono (fromB_lo (lo' := w.heap.size + 1 + 1) (by omega))
  all_goals replace RD := hid RD
  all_goals replace ED := hid ED
  all_goals go_wp2
  all_goals refine bodyPost_ret (v := .tuple #[.agg #[.slice A0 rs.length c0, .slice A1 es.length c1], .agg #[.int .i64 t.leaf, .slice A4 t.kids.length c4]]) ?_ rfl (tc_fin (lo := w.heap.size + 1 + 1) (d := d) RD.out ED.out HX4.out l2 l3 lk lc (by (repeat (first | with_reducible exact Fr.refl _ | with_reducible assumption | with_reducible refine Fr.alloc ?_ _ | with_reducible refine Fr.drew ?_ | with_reducible refine Fr.drewN ?_ _ | (with_reducible refine Fr.setNew2 ?_ ?_ _; · (simp <;> omega)) | with_reducible refine Fr.trans ?_ (by assumption)))) (by (repeat (first | with_reducible exact Mle.refl _ | with_reducible refine mle_drew ?_ | (with_reducible refine mle_set ?_ ?_; · (simp <;> omega))))) (by omega))
  all_goals first
    | (obtain ⟨r0, r1, _⟩ := ((((G4.set_ 0 (.slice A0 rs.length c0)).set_ 1 (.slice A1 es.length c1)).far (p := ⟨w.heap.size + 1, 0, none⟩) (by simp) (.int .i64 t.leaf)).far (p := ⟨w.heap.size + 1, 1, none⟩) (by simp) (.slice A4 t.kids.length c4)).two; obtain ⟨s0, s1, _⟩ := ((((T4.far (p := ⟨w.heap.size, 0, none⟩) (by simp) (.slice A0 rs.length c0)).far (p := ⟨w.heap.size, 1, none⟩) (by simp) (.slice A1 es.length c1)).set_ 0 (.int .i64 t.leaf)).set_ 1 (.slice A4 t.kids.length c4)).two; simp [results, Try.results31, go_sem, r0, r1, s0, s1]; done)
    | (obtain ⟨r0, r1, _⟩ := ((G4.far (p := ⟨w.heap.size + 1, 0, none⟩) (by simp) (.int .i64 t.leaf)).far (p := ⟨w.heap.size + 1, 1, none⟩) (by simp) (.slice A4 t.kids.length c4)).two; obtain ⟨s0, s1, _⟩ := ((T4.set_ 0 (.int .i64 t.leaf)).set_ 1 (.slice A4 t.kids.length c4)).two; simp [results, Try.results31, go_sem, r0, r1, s0, s1]; done)
    | (obtain ⟨r0, r1, _⟩ := ((((G4.far (p := ⟨w.heap.size + 1, 0, none⟩) (by simp) (.int .i64 t.leaf)).far (p := ⟨w.heap.size + 1, 1, none⟩) (by simp) (.slice A4 t.kids.length c4)).set_ 0 (.slice A0 rs.length c0)).set_ 1 (.slice A1 es.length c1)).two; obtain ⟨s0, s1, _⟩ := ((((T4.set_ 0 (.int .i64 t.leaf)).set_ 1 (.slice A4 t.kids.length c4)).far (p := ⟨w.heap.size, 0, none⟩) (by simp) (.slice A0 rs.length c0)).far (p := ⟨w.heap.size, 1, none⟩) (by simp) (.slice A1 es.length c1)).two; simp [results, Try.results31, go_sem, r0, r1, s0, s1]; done)
    | fail
set_option maxHeartbeats 1000000 in
theorem drawLeavesOf (A : Option Addr) (cap : Nat) (xs : List Nat) (w : World) (hx : RdSl rdByte w.cell? 1 A xs) (hl : xs.length ≤ 1048576) (hc : xs.length ≤ cap) :
    Calls Try.prog 6 #[.slice A xs.length cap] w (TCOut w) := by
  have HX := hid hx
  clear hx
  have BG := (Blk.new w 26 #[.slice none 0 0, .slice none 0 0]).alloc (.cells #[.int .i64 0, .slice none 0 0] 29)
  have BT := Blk.new (w.alloc (.cells #[.slice none 0 0, .slice none 0 0] 26)) 29 #[.int .i64 0, .slice none 0 0]
  rw [World.size_alloc] at BT
  have F0 : Fr w ((w.alloc (.cells #[.slice none 0 0, .slice none 0 0] 26)).alloc (.cells #[.int .i64 0, .slice none 0 0] 29)) := by (repeat (first | with_reducible exact Fr.refl _ | with_reducible assumption | with_reducible refine Fr.alloc ?_ _ | with_reducible refine Fr.drew ?_ | with_reducible refine Fr.drewN ?_ _ | (with_reducible refine Fr.setNew2 ?_ ?_ _; · (simp <;> omega)) | with_reducible refine Fr.trans ?_ (by assumption)))
  go_enter Try.func6, Try.ntmps6
  go_wp2_with fail
  refine (drawTreeCost A cap xs _ (HX.out.fr rdByte_mono F0) hl hc).mono ?_
  rintro e w1 ⟨A0, c0, rs, A1, c1, es, t, A4, c4, d, rfl, h1, h2, h3, l2, l3, lk, lc, b1⟩
  have RD := hid h1
  have ED := hid h2
  have TD := hid h3
  have G4 := BG.fr b1
  have T4 := BT.fr b1
  have F4 := F0.trans b1
  obtain ⟨m0, m1, m2, m3⟩ := G4.two
  obtain ⟨n0, n1, n2, n3⟩ := T4.two
  clear h1 h2 h3 BG BT F0 b1
  rw [World.size_alloc, World.size_alloc] at RD ED TD
  go_wp2
  refine bodyPost_ret (v := .tuple #[.agg #[.slice A0 rs.length c0, .slice A1 es.length c1], .agg #[.int .i64 t.leaf, .slice A4 t.kids.length c4]]) ?_ rfl (tc_fin (lo := w.heap.size + 1 + 1) (d := d) RD.out ED.out TD.out l2 l3 lk lc (by (repeat (first | with_reducible exact Fr.refl _ | with_reducible assumption | with_reducible refine Fr.alloc ?_ _ | with_reducible refine Fr.drew ?_ | with_reducible refine Fr.drewN ?_ _ | (with_reducible refine Fr.setNew2 ?_ ?_ _; · (simp <;> omega)) | with_reducible refine Fr.trans ?_ (by assumption)))) (by (repeat (first | with_reducible exact Mle.refl _ | with_reducible refine mle_drew ?_ | (with_reducible refine mle_set ?_ ?_; · (simp <;> omega))))) (by omega))
  obtain ⟨r0, r1, _⟩ := ((((G4.set_ 0 (.slice A0 rs.length c0)).set_ 1 (.slice A1 es.length c1)).far (p := ⟨w.heap.size + 1, 0, none⟩) (by simp) (.int .i64 t.leaf)).far (p := ⟨w.heap.size + 1, 1, none⟩) (by simp) (.slice A4 t.kids.length c4)).two
  obtain ⟨s0, s1, _⟩ := ((((T4.far (p := ⟨w.heap.size, 0, none⟩) (by simp) (.slice A0 rs.length c0)).far (p := ⟨w.heap.size, 1, none⟩) (by simp) (.slice A1 es.length c1)).set_ 0 (.int .i64 t.leaf)).set_ 1 (.slice A4 t.kids.length c4)).two
  simp [results, Try.results6, go_sem, r0, r1, s0, s1]
end Go.Proofs.Ytgjbmigplomekaa
