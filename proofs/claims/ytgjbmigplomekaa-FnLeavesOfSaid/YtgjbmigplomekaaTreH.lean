/- Walks of the generators of join trees: randomTree. -/
import Derived.Test.YtgjbmigplomekaaTreG
namespace Go.Proofs.Ytgjbmigplomekaa
open Go Go.RowKit

theorem jt_lift {m : Mv} {a b : Nat} (h : a ≤ b) {A : Option Addr} {xs : List JT} (hx : RdSl (rdJT a) m 2 A xs) : RdSl (rdJT b) m 2 A xs := fun hne => by
  obtain ⟨g, o, hA, hc⟩ := hx hne
  exact ⟨g, o, hA, fun i hi => rdJT_le h (hc i hi)⟩
/-- A tree that has been drawn. -/
def TOut (d K r p : Nat) (w0 : World) (e : Ending) (w : World) : Prop := ∃ (t : JT) (A : Option Addr) (c : Nat), e = .returned (.agg #[.int .i64 t.leaf, .slice A t.kids.length c]) ∧ RdSl (rdJT d) (fromB w w0.heap.size) 2 A t.kids ∧ t.kids.length ≤ 2 ∧ t.kids.length ≤ c ∧ Drawn K r p w0 w
theorem tout {d K r p : Nat} {w0 w : World} {e : Ending} (h : TOut d K r p w0 e w) : ∃ (t : JT) (A : Option Addr) (c : Nat), e = .returned (.agg #[.int .i64 t.leaf, .slice A t.kids.length c]) ∧ RdSl (rdJT d) (fromB w w0.heap.size) 2 A t.kids ∧ t.kids.length ≤ 2 ∧ t.kids.length ≤ c ∧ Drawn K r p w0 w := h
def RTree (n : Nat) : Prop := ∀ (g o cap r p : Nat) (xs : List Int) (w : World), xs.length = n → 1 ≤ n → n ≤ 10 → n ≤ cap → Rdr w r p → p + 2 * n ≤ 2000000 → RdSl rdInt (fromB w (r + 1)) 1 (some ⟨g, o, none⟩) xs →
    Calls Try.prog 76 #[.pointer (some ⟨r, 0, none⟩), .slice (some ⟨g, o, none⟩) n cap] w (TOut n (n - 1) r p w)
theorem rd_takeI {m : Mv} {g o k : Nat} {xs : List Int} (h : RdSl rdInt m 1 (some ⟨g, o, none⟩) xs) : RdSl rdInt m 1 (some ⟨g, o, none⟩) (xs.take k) := fun hne => by
  obtain ⟨b, q, hA, hc⟩ := h (fun e => hne (by rw [e]; simp))
  refine ⟨b, q, hA, fun i hi => ?_⟩
  simp only [List.length_take] at hi
  rw [List.getElem_take]
  exact hc i (by omega)
theorem rd_dropI {m : Mv} {g o k : Nat} {xs : List Int} (h : RdSl rdInt m 1 (some ⟨g, o, none⟩) xs) : RdSl rdInt m 1 (some ⟨g, o + k, none⟩) (xs.drop k) := fun hne => by
  obtain ⟨b, q, hA, hc⟩ := h (fun e => hne (by rw [e]; simp))
  injection hA with hA
  injection hA with h1 h2 _
  subst h1 h2
  refine ⟨g, o + k, rfl, fun i hi => ?_⟩
  simp only [List.length_drop] at hi
  rw [List.getElem_drop]
  have := hc (k + i) (by omega)
  simp only [rdInt, Nat.mul_one, Nat.add_zero] at this ⊢
  rw [show o + k + i = o + (k + i) by omega]; exact this
/-- Two trees in a new block. -/
theorem kids_two {w : World} {lo d : Nat} {t0 t1 : JT} {A0 A1 : Option Addr} {c0 c1 : Nat} (hl : lo ≤ w.heap.size) (h0 : RdSl (rdJT d) (fromB w lo) 2 A0 t0.kids) (h1 : RdSl (rdJT d) (fromB w lo) 2 A1 t1.kids) (l0 : t0.kids.length ≤ 2) (l1 : t1.kids.length ≤ 2) (k0 : t0.kids.length ≤ c0) (k1 : t1.kids.length ≤ c1) :
    RdSl (rdJT (d + 1)) (fromB (w.alloc (.cells #[.int .i64 t0.leaf, .slice A0 t0.kids.length c0, .int .i64 t1.leaf, .slice A1 t1.kids.length c1] 29)) lo) 2 (some ⟨w.heap.size, 0, none⟩) [t0, t1] := fun _ => by
  refine ⟨w.heap.size, 0, rfl, fun i hi => ?_⟩
  have hB := Blk.new w 29 #[.int .i64 t0.leaf, .slice A0 t0.kids.length c0, .int .i64 t1.leaf, .slice A1 t1.kids.length c1]
  have hF := (Fr.refl w).alloc (.cells #[.int .i64 t0.leaf, .slice A0 t0.kids.length c0, .int .i64 t1.leaf, .slice A1 t1.kids.length c1] 29)
  have cell : ∀ j, fromB (w.alloc (.cells #[.int .i64 t0.leaf, .slice A0 t0.kids.length c0, .int .i64 t1.leaf, .slice A1 t1.kids.length c1] 29)) lo ⟨w.heap.size, j, none⟩ = #[Value.int .i64 t0.leaf, .slice A0 t0.kids.length c0, .int .i64 t1.leaf, .slice A1 t1.kids.length c1][j]? := fun j => by
    show (if lo ≤ w.heap.size then _ else none) = _
    rw [if_pos hl, hB.cell]
  have hM := hF.mle_from lo
  simp only [List.length_cons, List.length_nil] at hi
  rcases (by omega : i = 0 ∨ i = 1) with rfl | rfl
  · exact ⟨cell 0, A0, c0, cell 1, h0.mono (rdJT_mono d) hM, by unfold maxLen; show t0.kids.length ≤ _; omega, k0⟩
  · exact ⟨cell 2, A1, c1, cell 3, h1.mono (rdJT_mono d) hM, by unfold maxLen; show t1.kids.length ≤ _; omega, k1⟩
theorem rt_end {w wa wb : World} {r d k k' b0 b1 : Nat} {t0 t1 : JT} {A0 A1 : Option Addr} {c0 c1 : Nat} {u u' : Value} (x0 : RdSl (rdJT k) (fromB wa b0) 2 A0 t0.kids) (x1 : RdSl (rdJT k') (fromB wb b1) 2 A1 t1.kids) (hb0 : w.heap.size + 1 ≤ b0) (hb1 : w.heap.size + 1 ≤ b1) (hg : Ch (· = r) wa wb) (hlt : r < w.heap.size) (hbb : w.heap.size < wb.heap.size)
    (hk : k ≤ d) (hk' : k' ≤ d) (l0 : t0.kids.length ≤ 2) (l1 : t1.kids.length ≤ 2) (k0 : t0.kids.length ≤ c0) (k1 : t1.kids.length ≤ c1) :
    RdSl (rdJT (d + 1)) (fromB (((wb.setCell ⟨w.heap.size, 0, none⟩ u).setCell ⟨w.heap.size, 1, none⟩ u').alloc (.cells #[.int .i64 t0.leaf, .slice A0 t0.kids.length c0, .int .i64 t1.leaf, .slice A1 t1.kids.length c1] 29)) w.heap.size) 2 (some ⟨wb.heap.size, 0, none⟩) [t0, t1] := by
  have hC : Ch (· = w.heap.size) wb ((wb.setCell ⟨w.heap.size, 0, none⟩ u).setCell ⟨w.heap.size, 1, none⟩ u') := Ch.set (S := (· = w.heap.size)) (Ch.set (S := (· = w.heap.size)) (Ch.refl wb) (.inl rfl) _) (.inl rfl) _
  have hM := hC.mle_from (lo := w.heap.size + 1) (fun k hk => by have : k = w.heap.size := hk; omega)
  have hs : ((wb.setCell ⟨w.heap.size, 0, none⟩ u).setCell ⟨w.heap.size, 1, none⟩ u').heap.size = wb.heap.size := by simp [World.setCell]
  have y0 := ((jt_lift hk x0).mono (rdJT_mono d) (fromB_lo hb0)).mono (rdJT_mono d) (hg.mle_from (lo := w.heap.size + 1) (fun k hk => by have : k = r := hk; omega))
  have y1 := (jt_lift hk' x1).mono (rdJT_mono d) (fromB_lo hb1)
  have := kids_two (by rw [hs]; omega) (y0.mono (rdJT_mono d) hM) (y1.mono (rdJT_mono d) hM) l0 l1 k0 k1
  rw [hs] at this
  exact this.mono (rdJT_mono (d + 1)) (fromB_lo (by omega))
set_option maxRecDepth 100000 in
set_option maxHeartbeats 4000000 in
theorem randomTree (n : Nat) : RTree n := by
  induction n using Nat.strongRecOn with
  | _ n ih =>
    intro g o cap r p xs w hxl h1 h10 hcap hr hp hx
    have HX := hid hx
    have IH := hid ih
    have HXL := hid hxl
    have hlt := hr.lt
    have BT := hid (Blk.new w 29 #[.int .i64 0, .slice none 0 0])
    clear hx ih
    by_cases hone : n = 1
    · subst hone
      obtain ⟨b, q, hA, c0⟩ := HX.out.at_ (k := 0) (by omega)
      injection hA with hA
      injection hA with q1 q2 _
      subst q1 q2
      simp only [rdInt, Nat.zero_mul, Nat.add_zero] at c0
      replace c0 := fromB_le _ _ _ _ c0
      obtain ⟨x0, ex⟩ : ∃ x, xs[0] = x := ⟨_, rfl⟩
      rw [ex] at c0
      clear ex hxl
      have c1 := ((Fr.refl w).alloc (.cells #[.int .i64 0, .slice none 0 0] 29)).cell c0
      have BB := Blk.new w 29 #[.int .i64 x0, .slice none 0 0]
      obtain ⟨r0, r1, _⟩ := BB.two
      go_enter Try.func76, Try.ntmps76
      go_wp2
      refine bodyPost_ret (v := .agg #[.int .i64 x0, .slice none 0 0]) ?_ rfl ⟨.mk x0 [], none, 0, rfl, RdSl.nil, by simp [JT.kids], by simp [JT.kids], p, by omega, hr.alloc _, (Ch.refl w).alloc _⟩
      simp [results, Try.results76, go_sem, r0, r1]
    · have hd1 : ((n : Int) == 1) = false := beq_eq_false_iff_ne.2 (by omega)
      clear hxl
      go_enter Try.func76, Try.ntmps76
      go_wp2_with fail
      refine (pick _ r p _ (hr.alloc _) (by omega) (by omega)).mono ?_
      rintro e w2 ⟨v, rfl, hv, hr2, hc2⟩
      have hvn : v < n - 1 := by omega
      have BT2 := BT.out.ch hc2 (by omega)
      have hC2 : Ch (· = r) w w2 := ((Ch.refl w).alloc _).trans hc2
      have hs2 := hC2.size
      have hb2 := BT2.lt
      have X2 := hid (HX.out.mono rdInt_mono (hC2.mle_from (lo := r + 1) (fun k hk => by omega)))
      have hk1 : 1 ≤ 1 + v := by omega
      have hkn : 1 + v < n := by omega
      have hkc : 1 + v < cap := by omega
      have C0 := hid (show ∀ W : World, Fr w2 W → Calls Try.prog 76 #[.pointer (some ⟨r, 0, none⟩), .slice (some ⟨g, o, none⟩) (1 + v) cap] W (TOut (1 + v) (1 + v - 1) r (p + 1) W) from fun W hW => IH.out (1 + v) hkn g o cap r (p + 1) (xs.take (1 + v)) W (by rw [List.length_take, HXL.out]; omega) (by omega) (by omega) (by omega) (hr2.fr hW) (by omega) (rd_takeI (X2.out.mono rdInt_mono (hW.mle_from _))))
      have C1 := hid (show ∀ (W : World) (p' : Nat), Ch (· = r) w2 W → Rdr W r p' → p' ≤ p + 1 + (1 + v) → Calls Try.prog 76 #[.pointer (some ⟨r, 0, none⟩), .slice (some ⟨g, o + (1 + v), none⟩) (n - (1 + v)) (cap - (1 + v))] W (TOut (n - (1 + v)) (n - (1 + v) - 1) r p' W) from fun W p' hW hrW hp' => IH.out (n - (1 + v)) (by omega) g (o + (1 + v)) (cap - (1 + v)) r p' (xs.drop (1 + v)) W (by rw [List.length_drop, HXL.out]) (by omega) (by omega) (by omega) hrW (by omega) (rd_dropI (X2.out.mono rdInt_mono (hW.mle_from (lo := r + 1) (fun k hk => by omega)))))
      clear hv hc2 hr hvn IH HX X2 BT
      obtain ⟨b0, b1, f0, f1⟩ := BT2.two
      go_wp2_with fail
      go_region_with (first
        | (go_at_call 76; (with_reducible refine (C0.out _ ?_).mono ?_); (· (repeat (first | with_reducible exact Fr.refl _ | with_reducible assumption | with_reducible refine Fr.alloc ?_ _ | with_reducible refine Fr.drew ?_ | with_reducible refine Fr.drewN ?_ _ | (with_reducible refine Fr.setNew2 ?_ ?_ _; · (simp <;> omega)) | with_reducible refine Fr.trans ?_ (by assumption)))); intro e wa ha; obtain ⟨t0, A0, c0, rfl, x0, l0, k0, p3, hp3, hr3, hc3⟩ := tout ha; have H3 := hid (show Ch (· = r) w2 wa from Ch.trans (Fr.ch (by (repeat (first | with_reducible exact Fr.refl _ | with_reducible assumption | with_reducible refine Fr.alloc ?_ _ | with_reducible refine Fr.drew ?_ | with_reducible refine Fr.drewN ?_ _ | (with_reducible refine Fr.setNew2 ?_ ?_ _; · (simp <;> omega)) | with_reducible refine Fr.trans ?_ (by assumption))))) hc3); have X0 := hid x0; have BT3 := BT2.ch H3.out (by omega); obtain ⟨b0', b1', f0', f1'⟩ := BT3.two; have hb3 := BT3.lt; have hs3 := H3.out.size; clear x0)
        | (go_at_call 76; (with_reducible refine (C1.out _ p3 ?_ ?_ ?_).mono ?_); (· exact H3.out.trans (Fr.ch (by (repeat (first | with_reducible exact Fr.refl _ | with_reducible assumption | with_reducible refine Fr.alloc ?_ _ | with_reducible refine Fr.drew ?_ | with_reducible refine Fr.drewN ?_ _ | (with_reducible refine Fr.setNew2 ?_ ?_ _; · (simp <;> omega)) | with_reducible refine Fr.trans ?_ (by assumption)))))); (· exact hr3.fr (by (repeat (first | with_reducible exact Fr.refl _ | with_reducible assumption | with_reducible refine Fr.alloc ?_ _ | with_reducible refine Fr.drew ?_ | with_reducible refine Fr.drewN ?_ _ | (with_reducible refine Fr.setNew2 ?_ ?_ _; · (simp <;> omega)) | with_reducible refine Fr.trans ?_ (by assumption))))); (· omega); intro e wb hb; obtain ⟨t1, A1, c1, rfl, x1, l1, k1, p4, hp4, hr4, hc4⟩ := tout hb; have H4 := hid (show Ch (· = r) w2 wb from H3.out.trans (Ch.trans (Fr.ch (by (repeat (first | with_reducible exact Fr.refl _ | with_reducible assumption | with_reducible refine Fr.alloc ?_ _ | with_reducible refine Fr.drew ?_ | with_reducible refine Fr.drewN ?_ _ | (with_reducible refine Fr.setNew2 ?_ ?_ _; · (simp <;> omega)) | with_reducible refine Fr.trans ?_ (by assumption))))) hc4)); have X1 := hid x1; have BT4 := BT2.ch H4.out (by omega); obtain ⟨b0'', b1'', f0'', f1''⟩ := BT4.two; have hb4 := BT4.lt; have hs4 := H4.out.size; have G4 := hid (show Ch (· = r) wa wb from Ch.trans (Fr.ch (by (repeat (first | with_reducible exact Fr.refl _ | with_reducible assumption | with_reducible refine Fr.alloc ?_ _ | with_reducible refine Fr.drew ?_ | with_reducible refine Fr.drewN ?_ _ | (with_reducible refine Fr.setNew2 ?_ ?_ _; · (simp <;> omega)) | with_reducible refine Fr.trans ?_ (by assumption))))) hc4); clear x1)
        | fail)
      all_goals have BB := ((BT4.set_ 0 (.int .i64 0)).set_ 1 (.slice (some ⟨wb.heap.size, 0, none⟩) 2 2)).alloc (.cells #[.int .i64 t0.leaf, .slice A0 t0.kids.length c0, .int .i64 t1.leaf, .slice A1 t1.kids.length c1] 29)
      all_goals have XX := hid (rt_end (d := n - 1) (u := .int .i64 0) (u' := .slice (some ⟨wb.heap.size, 0, none⟩) 2 2) X0.out X1.out (by first | exact hb2 | (show w.heap.size + 1 ≤ w2.heap.size; omega)) (by first | exact hb3 | (show w.heap.size + 1 ≤ wa.heap.size; omega)) G4.out hlt hb4 (by omega) (by omega) l0 l1 k0 k1)
      all_goals have RR := hid (show Rdr (((wb.setCell ⟨w.heap.size, 0, none⟩ (.int .i64 0)).setCell ⟨w.heap.size, 1, none⟩ (.slice (some ⟨wb.heap.size, 0, none⟩) 2 2)).alloc (.cells #[.int .i64 t0.leaf, .slice A0 t0.kids.length c0, .int .i64 t1.leaf, .slice A1 t1.kids.length c1] 29)) r p4 from ((hr4.set (by show r < w.heap.size; omega) _).set (by show r < w.heap.size; omega) _).alloc _)
      all_goals have CC := hid (show Ch (· = r) w (((wb.setCell ⟨w.heap.size, 0, none⟩ (.int .i64 0)).setCell ⟨w.heap.size, 1, none⟩ (.slice (some ⟨wb.heap.size, 0, none⟩) 2 2)).alloc (.cells #[.int .i64 t0.leaf, .slice A0 t0.kids.length c0, .int .i64 t1.leaf, .slice A1 t1.kids.length c1] 29)) from (((hC2.trans H4.out).setNew (Nat.le_refl _) _).setNew (Nat.le_refl _) _).alloc _)
      all_goals rw [show n - 1 + 1 = n by omega] at XX
      all_goals obtain ⟨r0, r1, _⟩ := BB.two
      all_goals clear b0 b1 f0 f1 b0' b1' f0' f1' b0'' b1'' f0'' f1''
      all_goals go_wp2
      all_goals refine bodyPost_ret (v := .agg #[.int .i64 0, .slice (some ⟨wb.heap.size, 0, none⟩) 2 2]) ?_ rfl ⟨.mk 0 [t0, t1], some ⟨wb.heap.size, 0, none⟩, 2, rfl, ?_, by simp [JT.kids], by simp [JT.kids], p4, by omega, ?_, ?_⟩
      all_goals first
        | (simp [results, Try.results76, go_sem, r0, r1]; done)
        | exact XX.out
        | exact RR.out
        | exact CC.out
        | exact XX.out.mono (rdJT_mono n) ((Fr.refl _).drew.mle_from _)
        | exact RR.out.drew
        | exact CC.out.drew
end Go.Proofs.Ytgjbmigplomekaa
