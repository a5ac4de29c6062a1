/- Containment is sound and complete, in plain Lean; the walk of the generator of two queries and facts. -/
import Derived.Test.YtahclhldpcboeaaGreatDoorFctG
import Derived.Test.YtahclhldpcboeaaGreatDoorRedS
import Derived.Test.YtahclhldpcboeaaGreatDoorHmgS
namespace Go.Proofs.YtahclhldpcboeaaGreatDoor
open Go Go.RowKit

/-- Containment is sound. -/
theorem cont_sound {qa qb : Int} {ha hb : List Int} {ba bb : List Atom} {fs : List Fact} (h : (fndO qb hb bb qa ha ba).isSome = true) (h4 : qa ≤ 4 ∨ qa = 7) (h5 : qb ≤ 4 ∨ qb = 7) (hvf : vfacts fs = true) (hs : vfacts fs = true → SmF fs) : ∀ x ∈ ansO qa ha ba fs, x ∈ ansO qb hb bb fs := by
  obtain ⟨M, hM⟩ := Option.isSome_iff_exists.1 h
  have hc := chk_fnd hM
  have hv : vrule qb hb bb = true ∧ vrule qa ha ba = true := by
    have h := hc
    unfold chkHom at h
    simp only [Bool.and_eq_true] at h
    exact h.1.1
  obtain ⟨n1, n2, n3⟩ := ans_small h4 hv.2 hvf hs
  obtain ⟨_, _, n4⟩ := ans_small h5 hv.1 hvf hs
  rw [ansO_yes hv.2 hvf, ansO_yes hv.1 hvf]
  exact ans_hom hc n1 n2 n3 n4
/-- Containment is complete. -/
theorem cont_complete {qa qb : Int} {ha hb : List Int} {ba bb : List Atom} (hva : vrule qa ha ba = true) (hvb : vrule qb hb bb = true) (h4 : qa ≤ 4 ∨ qa = 7) (h5 : qb ≤ 4 ∨ qb = 7) (h : (fndO qb hb bb qa ha ba).isSome = false) : ha ∈ ansO qa ha ba (frz ba) ∧ ¬ ha ∈ ansO qb hb bb (frz ba) := by
  have k1 := (vrule_parts hva).2.1
  have k2 := (vrule_parts hvb).2.1
  rw [ansO_yes hva (vfacts_frz hva), ansO_yes hvb (vfacts_frz hva)]
  refine ⟨ans_frozen hva (by omega), fun hx => ?_⟩
  obtain ⟨M, m1, m2, m3⟩ := ans_frz_hom hva hvb (by omega) (by omega) hx
  rw [fndO_some hvb hva m1 m2 m3] at h
  cases h
/-- Two queries and facts, drawn anew. -/
def CDrawn (w0 : World) (e : Ending) (w : World) : Prop := ∃ (qa : Int) (ha : List Int) (ba : List Atom) (qb : Int) (hb : List Int) (bb : List Atom) (fs : List Fact) (A0 : Option Addr) (a0 : Nat) (A1 : Option Addr) (a1 : Nat) (B0 : Option Addr) (b0 : Nat) (B1 : Option Addr) (b1 g cap : Nat),
  e = .returned (.tuple #[.agg #[.int .i64 qa, .slice A0 ha.length a0, .slice A1 ba.length a1], .agg #[.int .i64 qb, .slice B0 hb.length b0, .slice B1 bb.length b1], .slice (some ⟨g, 0, none⟩) fs.length cap]) ∧
  QIn w A0 A1 a0 a1 ha ba ∧ QIn w B0 B1 b0 b1 hb bb ∧ FOwn w0.heap.size w g cap fs ∧
  (ha.length ≤ 3 ∧ ba.length ≤ 4 ∧ hb.length ≤ 3 ∧ bb.length ≤ 4 ∧ 0 ≤ qa ∧ (qa ≤ 4 ∨ qa = 7) ∧ 0 ≤ qb ∧ (qb ≤ 4 ∨ qb = 7)) ∧ (fs.length ≤ 9 ∧ (vfacts fs = true → SmF fs)) ∧ Fr w0 w
set_option maxRecDepth 100000 in
set_option maxHeartbeats 4000000 in
theorem drawContainment (A : Option Addr) (cap : Nat) (xs : List Nat) (w : World) (hx : RdSl rdByte w.cell? 1 A xs) (hl : xs.length ≤ 1048576) (hc : xs.length ≤ cap) :
    Calls Tryz.prog 6 #[.slice A xs.length cap] w (CDrawn w) := by
  have HX := hid hx
  have BQ := (Blk.new w 26 #[.int .i64 0, .slice none 0 0, .slice none 0 0]).alloc (.cells #[.int .i64 0, .slice none 0 0, .slice none 0 0] 26)
  have BR := blk_new1 w (.cells #[.int .i64 0, .slice none 0 0, .slice none 0 0] 26) 26 #[.int .i64 0, .slice none 0 0, .slice none 0 0]
  have F0 : Fr w ((w.alloc (.cells #[.int .i64 0, .slice none 0 0, .slice none 0 0] 26)).alloc (.cells #[.int .i64 0, .slice none 0 0, .slice none 0 0] 26)) := by (repeat (first | with_reducible exact Fr.refl _ | with_reducible assumption | with_reducible refine Fr.alloc ?_ _ | with_reducible refine Fr.drew ?_ | with_reducible refine Fr.drewN ?_ _ | (with_reducible refine Fr.setNew2 ?_ ?_ _; · (simp <;> omega)) | with_reducible refine Fr.trans ?_ (by assumption)))
  clear hx
  go_enter Tryz.func6, Tryz.ntmps6
  go_wp2_with fail
  refine absW fun W0 hW0 => ?_
  rw [← hW0] at BQ BR F0
  clear hW0
  have hs0 := BR.lt
  refine (newReader A cap xs _ (HX.out.fr rdByte_mono F0) hl hc).mono ?_
  rintro e w1 ⟨r, rfl, hr, hrd, hF1⟩
  have F1 := F0.trans hF1
  replace BQ := BQ.fr hF1
  replace BR := BR.fr hF1
  have hw1 := F1.size
  have hrl := hrd.lt
  clear hF1
  go_wp2_with fail
  refine (twoRules r 0 _ hrd (by omega)).mono ?_
  rintro e w2 ⟨qa, ha, ba, qb, hb, bb, A0, a0, A1, a1, B0, b0, B1, b1, rfl, ⟨k3, k4⟩, ⟨k5, k6⟩, hbd, q', hq', hr2, hC⟩
  replace BQ := BQ.ch hC (by omega)
  replace BR := BR.ch hC (by omega)
  have F2 : Fr w w2 := hC.fr (fun j hj => by have : j = r := hj; omega) F1
  have hsz := hC.size
  have BG := (Blk.new w2 26 #[.int .i64 qa, .slice A0 ha.length a0, .slice A1 ba.length a1]).alloc (.cells #[.int .i64 qb, .slice B0 hb.length b0, .slice B1 bb.length b1] 26)
  have BH := blk_new1 w2 (.cells #[.int .i64 qa, .slice A0 ha.length a0, .slice A1 ba.length a1] 26) 26 #[.int .i64 qb, .slice B0 hb.length b0, .slice B1 bb.length b1]
  have G2 : Fr w2 ((w2.alloc (.cells #[.int .i64 qa, .slice A0 ha.length a0, .slice A1 ba.length a1] 26)).alloc (.cells #[.int .i64 qb, .slice B0 hb.length b0, .slice B1 bb.length b1] 26)) := by (repeat (first | with_reducible exact Fr.refl _ | with_reducible assumption | with_reducible refine Fr.alloc ?_ _ | with_reducible refine Fr.drew ?_ | with_reducible refine Fr.drewN ?_ _ | (with_reducible refine Fr.setNew2 ?_ ?_ _; · (simp <;> omega)) | with_reducible refine Fr.trans ?_ (by assumption)))
  have KR := hid (own_fr k3 G2)
  have KE := hid (own_fr k4 G2)
  have KS := hid (own_fr k5 G2)
  have KF := hid (own_fr k6 G2)
  have HBQ := hid (BQ.fr G2)
  have HBR := hid (BR.fr G2)
  have F3 := hid (F2.trans G2)
  have R3 := hid (hr2.fr G2)
  have HBD := hid hbd
  have hgl := BG.lt
  have hhl := BH.lt
  clear k3 k4 k5 k6 BQ BR F1 F2 G2 hr2 hC hrd hbd
  go_wp2_with fail
  obtain ⟨g, hg⟩ : ∃ g, w2.heap.size = g := ⟨_, rfl⟩
  rw [hg] at hsz
  simp only [hg] at BG BH hgl hhl ⊢
  obtain ⟨W3, hW3⟩ : ∃ W3, (w2.alloc (.cells #[.int .i64 qa, .slice A0 ha.length a0, .slice A1 ba.length a1] 26)).alloc (.cells #[.int .i64 qb, .slice B0 hb.length b0, .slice B1 bb.length b1] 26) = W3 := ⟨_, rfl⟩
  rw [hW3] at KR KE KS KF HBQ HBR F3 R3 BG BH hgl hhl ⊢
  clear hW3 hg
  have hr3 := R3.out
  obtain ⟨c0, c1, c2, _⟩ := BG.three
  obtain ⟨d0, d1, d2, _⟩ := BH.three
  have HG := hid BG
  have HH := hid BH
  have hgr : ¬ (g = r) := by omega
  have hhr : ¬ (g + 1 = r) := by omega
  clear BG BH
  have keepQ : ∀ W, Ch (· = r) W3 W → (W.cell? ⟨g, 0, none⟩ = some (.int .i64 qa) ∧ W.cell? ⟨g, 1, none⟩ = some (.slice A0 ha.length a0) ∧ W.cell? ⟨g, 2, none⟩ = some (.slice A1 ba.length a1)) ∧ (W.cell? ⟨g + 1, 0, none⟩ = some (.int .i64 qb) ∧ W.cell? ⟨g + 1, 1, none⟩ = some (.slice B0 hb.length b0) ∧ W.cell? ⟨g + 1, 2, none⟩ = some (.slice B1 bb.length b1)) := fun W h => ⟨⟨h.cell hgr c0, h.cell hgr c1, h.cell hgr c2⟩, h.cell hhr d0, h.cell hhr d1, h.cell hhr d2⟩
  refine wp_region_T (fun W => (W.cell? ⟨g, 0, none⟩ = some (.int .i64 qa) ∧ W.cell? ⟨g, 1, none⟩ = some (.slice A0 ha.length a0) ∧ W.cell? ⟨g, 2, none⟩ = some (.slice A1 ba.length a1)) ∧ (W.cell? ⟨g + 1, 0, none⟩ = some (.int .i64 qb) ∧ W.cell? ⟨g + 1, 1, none⟩ = some (.slice B0 hb.length b0) ∧ W.cell? ⟨g + 1, 2, none⟩ = some (.slice B1 bb.length b1))) 6 (by kernel_rfl) ?_
  have HS := keepQ _ (Ch.refl W3).drew
  ((refine wpAnyT_take 0 (v := ?_) rfl (by kernel_rfl) (fun _ _ _ h => h) (Or.inl ⟨by rfl, ?_⟩) (by assumption) ?_; rotate_left; (focus (intro W hSw; (try dsimp only at hSw); go_simp; (try with_reducible rfl); done)); (try simp only [Act.put, List.setIfInBounds_toArray, List.set_cons_zero, List.set_cons_succ])); (refine wpAnyT_take 1 (v := ?_) rfl (by kernel_rfl) (fun _ _ _ h => h) (Or.inl ⟨by rfl, ?_⟩) (by assumption) ?_; rotate_left; (focus (intro W hSw; (try dsimp only at hSw); go_simp; (try with_reducible rfl); done)); (try simp only [Act.put, List.setIfInBounds_toArray, List.set_cons_zero, List.set_cons_succ])); (refine wpAnyT_take 2 (v := ?_) rfl (by kernel_rfl) (fun _ _ _ h => h) (Or.inl ⟨by rfl, ?_⟩) (by assumption) ?_; rotate_left; (focus (intro W hSw; (try dsimp only at hSw); go_simp; (try with_reducible rfl); done)); (try simp only [Act.put, List.setIfInBounds_toArray, List.set_cons_zero, List.set_cons_succ])))
  ((refine wpAnyT_one 3 rfl (by kernel_rfl) (fun K hK => ?_); go_simp))
  go_at_call 24
  refine (anyFacts r q' _ (by (repeat (first | with_reducible assumption | with_reducible refine Rdr.alloc ?_ _ | with_reducible refine Rdr.drew ?_ | (with_reducible refine Rdr.set2 ?_ ?_ _; · (simp <;> omega))))) (by omega)).mono ?_
  rintro e w4 ⟨b, cap, fs, rfl, O4, l9, hsm, _, _, _, hc4⟩
  have F4 : Ch (· = r) W3 w4 := Ch.trans (show Ch (· = r) W3 _ from Fr.ch (by (repeat (first | with_reducible exact Fr.refl _ | with_reducible assumption | with_reducible refine Fr.alloc ?_ _ | with_reducible refine Fr.drew ?_ | with_reducible refine Fr.drewN ?_ _ | (with_reducible refine Fr.setNew2 ?_ ?_ _; · (simp <;> omega)) | with_reducible refine Fr.trans ?_ (by assumption))))) hc4
  have HS := keepQ _ F4
  have hs3 : w1.heap.size ≤ W3.heap.size := by omega
  have R4 := gown_ch KR.out F4 (by omega)
  have E4 := gown_ch KE.out F4 (by omega)
  have S4 := gown_ch KS.out F4 (by omega)
  have T4 := gown_ch KF.out F4 (by omega)
  have Q4 := HBQ.out.ch F4 (by omega)
  have P4 := HBR.out.ch F4 (by omega)
  have G4 := HG.out.ch F4 hgr
  have H4 := HH.out.ch F4 hhr
  have O4' := own_base (base' := w.heap.size) (show w4.ownsRow W3.heap.size 54 3 (.slice (some ⟨b, 0, none⟩) fs.length cap) fs.length (fs.flatMap cellsF) from O4) (by omega)
  have N3 := own_ne O4' Q4 (by decide)
  have N4 := own_ne O4' P4 (by decide)
  obtain ⟨e0, e1, e2, f0, f1, f2⟩ := Q4.three
  obtain ⟨i0, i1, i2, j0, j1, j2⟩ := P4.three
  have hql := Q4.lt
  have hpl := P4.lt
  have o3 : ¬ (w.heap.size = w.heap.size + 1) := by omega
  have o4 : ¬ (w.heap.size + 1 = w.heap.size) := by omega
  obtain ⟨z1, z2, z3, z4⟩ := two_put (q1 := qa) (q2 := qb) R4 E4 S4 T4 Q4 P4
  have n1 : ∀ (o : Nat), g ≠ (⟨w.heap.size, o, none⟩ : Addr).block := fun o => by show g ≠ w.heap.size; omega
  have n2 : ∀ (o : Nat), g ≠ (⟨w.heap.size + 1, o, none⟩ : Addr).block := fun o => by show g ≠ w.heap.size + 1; omega
  have n3 : ∀ (o : Nat), g + 1 ≠ (⟨w.heap.size, o, none⟩ : Addr).block := fun o => by show g + 1 ≠ w.heap.size; omega
  have n4 : ∀ (o : Nat), g + 1 ≠ (⟨w.heap.size + 1, o, none⟩ : Addr).block := fun o => by show g + 1 ≠ w.heap.size + 1; omega
  have G5 := ((G4.far (n1 0) (.int .i64 qa)).far (n1 1) (.slice A0 ha.length a0)).far (n1 2) (.slice A1 ba.length a1)
  have H5 := ((H4.far (n3 0) (.int .i64 qa)).far (n3 1) (.slice A0 ha.length a0)).far (n3 2) (.slice A1 ba.length a1)
  have G6 := ((G5.far (n2 0) (.int .i64 qb)).far (n2 1) (.slice B0 hb.length b0)).far (n2 2) (.slice B1 bb.length b1)
  have H6 := ((H5.far (n4 0) (.int .i64 qb)).far (n4 1) (.slice B0 hb.length b0)).far (n4 2) (.slice B1 bb.length b1)
  have FIN := hid (show CDrawn w (.returned (.tuple #[.agg #[.int .i64 qa, .slice A0 ha.length a0, .slice A1 ba.length a1], .agg #[.int .i64 qb, .slice B0 hb.length b0, .slice B1 bb.length b1], .slice (some ⟨b, 0, none⟩) fs.length cap])) ((((((w4.setCell ⟨w.heap.size, 0, none⟩ (.int .i64 qa)).setCell ⟨w.heap.size, 1, none⟩ (.slice A0 ha.length a0)).setCell ⟨w.heap.size, 2, none⟩ (.slice A1 ba.length a1)).setCell ⟨w.heap.size + 1, 0, none⟩ (.int .i64 qb)).setCell ⟨w.heap.size + 1, 1, none⟩ (.slice B0 hb.length b0)).setCell ⟨w.heap.size + 1, 2, none⟩ (.slice B1 bb.length b1)) from
    ⟨qa, ha, ba, qb, hb, bb, fs, A0, a0, A1, a1, B0, b0, B1, b1, b, cap, rfl, z3, z4, own_set (own_set (own_set (own_set (own_set (own_set O4' N3) N3) N3) N4) N4) N4, HBD.out, ⟨l9, hsm⟩,
      ((((((F4.fr (fun j hj => by have : j = r := hj; omega) F3.out).setNew (Nat.le_refl _) _).setNew (Nat.le_refl _) _).setNew (Nat.le_refl _) _).setNew (Nat.le_succ _) _).setNew (Nat.le_succ _) _).setNew (Nat.le_succ _) _⟩)
  have HS5 := hid (And.intro (And.intro G5.three.1 (And.intro G5.three.2.1 G5.three.2.2.1)) (And.intro H5.three.1 (And.intro H5.three.2.1 H5.three.2.2.1)))
  have HS6 := hid (And.intro (And.intro G6.three.1 (And.intro G6.three.2.1 G6.three.2.2.1)) (And.intro H6.three.1 (And.intro H6.three.2.1 H6.three.2.2.1)))
  have Z1 := hid z1
  have Z2 := hid z2
  clear z1 z2 z3 z4 G4 H4 G5 H5 G6 H6 O4 O4' N3 N4 R4 E4 S4 T4 Q4 P4 KR KE KS KF HBQ HBR HG HH F3 R3 hc4 F4 n1 n2 n3 n4
  ((try dsimp only); refine hK.out _ _ (fun _ => HS) (fun _ => ?_); clear hK K; (try simp only [Act.put, List.setIfInBounds_toArray, List.set_cons_zero, List.set_cons_succ]))
  ((refine wpAnyT_one 4 rfl (by kernel_rfl) (fun K hK => ?_); go_simp))
  have HS := HS5.out
  ((try dsimp only); refine hK.out _ _ (fun _ => HS) (fun _ => ?_); clear hK K; (try simp only [Act.put, List.setIfInBounds_toArray, List.set_cons_zero, List.set_cons_succ]))
  ((refine wpAnyT_one 5 rfl (by kernel_rfl) (fun K hK => ?_); go_simp))
  have HS := HS6.out
  ((try dsimp only); refine hK.out _ _ (fun _ => HS) (fun _ => ?_); clear hK K; (try simp only [Act.put, List.setIfInBounds_toArray, List.set_cons_zero, List.set_cons_succ]))
  ((refine wpAnyT_one 6 rfl (by kernel_rfl) (fun K hK => ?_); go_simp))
  ((try dsimp only); refine hK.out _ _ (fun h => absurd rfl h) (fun _ => ?_); clear hK K; (try simp only [Act.put, List.setIfInBounds_toArray, List.set_cons_zero, List.set_cons_succ]); refine wpAnyT_done (by kernel_rfl) ?_ _)
  clear HS HS5 HS6 keepQ
  go_wp2
  have z1 := Z1.out
  have z2 := Z2.out
  generalize ((((((w4.setCell ⟨w.heap.size, 0, none⟩ (.int .i64 qa)).setCell ⟨w.heap.size, 1, none⟩ (.slice A0 ha.length a0)).setCell ⟨w.heap.size, 2, none⟩ (.slice A1 ba.length a1)).setCell ⟨w.heap.size + 1, 0, none⟩ (.int .i64 qb)).setCell ⟨w.heap.size + 1, 1, none⟩ (.slice B0 hb.length b0)).setCell ⟨w.heap.size + 1, 2, none⟩ (.slice B1 bb.length b1)) = w9 at FIN z1 z2 ⊢
  obtain ⟨u0, u1, u2, _⟩ := z1.three
  obtain ⟨v0, v1, v2, _⟩ := z2.three
  exact bodyPost_ret (v := .tuple #[.agg #[.int .i64 qa, .slice A0 ha.length a0, .slice A1 ba.length a1], .agg #[.int .i64 qb, .slice B0 hb.length b0, .slice B1 bb.length b1], .slice (some ⟨b, 0, none⟩) fs.length cap]) (by simp [results, Tryz.results6, go_sem, u0, u1, u2, v0, v1, v2]) rfl FIN.out
end Go.Proofs.YtahclhldpcboeaaGreatDoor
