/- Walks of the generators of join trees: anyTree. -/
import Derived.Test.YtgjbmigplomekaaTreH
namespace Go.Proofs.Ytgjbmigplomekaa
open Go Go.RowKit

theorem rd_set0 {w : World} {g lo : Nat} {t : TypeId} {cs : Array Value} {xs : List Int} {y : Int} (h : RdSl rdInt (fromB w lo) 1 (some ⟨g, 0, none⟩) xs) (hB : Blk w g t cs) (hs : 0 < cs.size) (hg : lo ≤ g) : RdSl rdInt (fromB (w.setCell ⟨g, 0, none⟩ (.int .i64 y)) lo) 1 (some ⟨g, 0, none⟩) (xs.set 0 y) := fun hne => by
  have hne' : xs ≠ [] := fun e => hne (by rw [e]; rfl)
  obtain ⟨b, o, hA, hc⟩ := h hne'
  injection hA with hA
  injection hA with h1 h2 _
  subst h1 h2
  refine ⟨g, 0, rfl, fun i hi => ?_⟩
  simp only [List.length_set] at hi
  have hi' := hc i hi
  have B2 := hB.set_ 0 (.int .i64 y)
  simp only [rdInt, fromB, if_pos hg, Nat.zero_add, Nat.add_zero, Nat.mul_one, hB.cell] at hi'
  simp only [rdInt, fromB, if_pos hg, Nat.zero_add, Nat.add_zero, Nat.mul_one, B2.cell, Array.getElem?_setIfInBounds]
  rw [List.getElem_set]
  by_cases e : 0 = i
  · subst e; rw [if_pos rfl, if_pos hs, if_pos rfl]
  · rw [if_neg e, if_neg e]; exact hi'
def AOut (r p : Nat) (w0 : World) (e : Ending) (w : World) : Prop := ∃ d, TOut d 60 r p w0 e w
theorem tout_store {d K r p q : Nat} {w0 w1 w : World} {e : Ending} (h : TOut d K r q w1 e w) (hc : Ch (· = r) w0 w1) (hq : q + K ≤ p + 60) (hlt : r < w0.heap.size) (hs : w0.heap.size + 1 ≤ w1.heap.size) (hB : Blk w1 w0.heap.size 29 #[.int .i64 0, .slice none 0 0]) :
    ∃ (t : JT) (A : Option Addr) (c : Nat), e = .returned (.agg #[.int .i64 t.leaf, .slice A t.kids.length c]) ∧ Blk w w0.heap.size 29 #[.int .i64 0, .slice none 0 0] ∧ Blk ((w.setCell ⟨w0.heap.size, 0, none⟩ (.int .i64 t.leaf)).setCell ⟨w0.heap.size, 1, none⟩ (.slice A t.kids.length c)) w0.heap.size 29 #[.int .i64 t.leaf, .slice A t.kids.length c] ∧
      AOut r p w0 (.returned (.agg #[.int .i64 t.leaf, .slice A t.kids.length c])) ((w.setCell ⟨w0.heap.size, 0, none⟩ (.int .i64 t.leaf)).setCell ⟨w0.heap.size, 1, none⟩ (.slice A t.kids.length c)) := by
  obtain ⟨t, A, c, he, hx, l2, lc, q', hq', hr, hc'⟩ := h
  have hB' := hB.ch hc' (by omega)
  refine ⟨t, A, c, he, hB', (hB'.set_ 0 (.int .i64 t.leaf)).set_ 1 (.slice A t.kids.length c), d, t, A, c, rfl, ?_, l2, lc, q', by omega, (hr.set (by show r < w0.heap.size; omega) _).set (by show r < w0.heap.size; omega) _, ((hc.trans hc').setNew (Nat.le_refl _) _).setNew (Nat.le_refl _) _⟩
  have hC : Ch (· = w0.heap.size) w ((w.setCell ⟨w0.heap.size, 0, none⟩ (.int .i64 t.leaf)).setCell ⟨w0.heap.size, 1, none⟩ (.slice A t.kids.length c)) := Ch.set (S := (· = w0.heap.size)) (Ch.set (S := (· = w0.heap.size)) (Ch.refl w) (.inl rfl) _) (.inl rfl) _
  exact ((hx.mono (rdJT_mono d) (fromB_lo (lo' := w0.heap.size + 1) hs)).mono (rdJT_mono d) (hC.mle_from (lo := w0.heap.size + 1) (fun k hk => by have : k = w0.heap.size := hk; omega))).mono (rdJT_mono d) (fromB_lo (by omega))
set_option maxRecDepth 100000 in
set_option maxHeartbeats 4000000 in
theorem anyTree (r p n : Nat) (w : World) (hr : Rdr w r p) (hp : p ≤ 1000000) (h1 : 1 ≤ n) (h10 : n ≤ 10) :
    Calls Try.prog 56 #[.pointer (some ⟨r, 0, none⟩), .int .i64 n] w (AOut r p w) := by
  have hlt := hr.lt
  have BT := hid (Blk.new w 29 #[.int .i64 0, .slice none 0 0])
  go_enter Try.func56, Try.ntmps56
  go_wp2_with fail
  refine (shuffled r p n _ (hr.alloc _) hp h10).mono ?_
  rintro e w1 ⟨g, cap, xs, rfl, hxl, hcap, hO, p1, hp1, hr1, hc1⟩
  rw [World.size_alloc] at hO
  have BT1 := BT.out.ch hc1 (by omega)
  have hC1 : Ch (· = r) w w1 := ((Ch.refl w).alloc _).trans hc1
  have hg := (hO.lt g rfl).1
  have HO := hid hO
  have HXL := hid hxl
  clear hc1 hO hxl BT
  go_wp2_with fail
  refine (pick _ r p1 _ hr1 (by omega) (by omega)).mono ?_
  rintro e w2 ⟨v, rfl, hv, hr2, hc2⟩
  have BT2 := BT1.ch hc2 (by omega)
  have hC2 := hC1.trans hc2
  have hs2 := BT2.lt
  have HO2 := hid (gown_ch HO.out hc2 (by omega))
  have X2 := hid (show RdSl rdInt (fromB w2 (r + 1)) 1 (some ⟨g, 0, none⟩) xs from (own_int HO2.out HXL.out.symm).mono rdInt_mono (fromB_lo (by omega)))
  clear hv hr1 hc2 hC1 BT1 HO
  obtain ⟨b0, b1, f0, f1⟩ := BT2.two
  cases e0 : ((v : Int) == 0)
  · cases e1 : ((v : Int) == 1)
    · cases e2 : ((v : Int) == 2)
      · go_wp2_with fail
        refine (randomTree n g 0 cap r (p1 + 1) xs _ HXL.out h1 h10 hcap hr2 (by omega) X2.out).mono ?_
        intro e w3 h3
        obtain ⟨t, A, c, rfl, BB, BD, hres⟩ := tout_store (p := p) h3 hC2 (by omega) hlt hs2 BT2
        have HR := hid hres
        clear h3 b0 b1 f0 f1 hres
        obtain ⟨b0, b1, f0, f1⟩ := BB.two
        obtain ⟨r0, r1, _⟩ := BD.two
        go_wp2
        refine bodyPost_ret (v := .agg #[.int .i64 t.leaf, .slice A t.kids.length c]) ?_ rfl HR.out
        simp [results, Try.results56, go_sem, r0, r1]
      · go_wp2_with fail
        refine (pick _ r (p1 + 1) _ hr2 (by omega) (by omega)).mono ?_
        rintro e w3 ⟨k, rfl, hk, hr3, hc3⟩
        have hkn : k < n := by omega
        have BT3 := BT2.ch hc3 (by omega)
        have hC3 := hC2.trans hc3
        have hs3 := BT3.lt
        have X3 := hid (rd_takeI (k := 1 + k) (X2.out.mono rdInt_mono (hc3.mle_from (lo := r + 1) (fun k hk => by omega))))
        have hkc : 1 + k ≤ cap := by omega
        clear b0 b1 f0 f1 hk hr2 hc3
        go_wp2_with fail
        refine (randomTree (1 + k) g 0 cap r (p1 + 1 + 1) (xs.take (1 + k)) _ (by rw [List.length_take, HXL.out]; omega) (by omega) (by omega) hkc hr3 (by omega) X3.out).mono ?_
        intro e w4 h4
        obtain ⟨t, A, c, rfl, BB, BD, hres⟩ := tout_store (p := p) h4 hC3 (by omega) hlt hs3 BT3
        have HR := hid hres
        clear h4 hres
        obtain ⟨b0, b1, f0, f1⟩ := BB.two
        obtain ⟨r0, r1, _⟩ := BD.two
        go_wp2
        refine bodyPost_ret (v := .agg #[.int .i64 t.leaf, .slice A t.kids.length c]) ?_ rfl HR.out
        simp [results, Try.results56, go_sem, r0, r1]
    · have B9 := Blk.new ((w2.setCell ⟨w.heap.size, 0, none⟩ (.int .i64 0)).setCell ⟨w.heap.size, 1, none⟩ (.slice (some ⟨w2.heap.size, 0, none⟩) 1 1)) 29 #[.int .i64 0, .slice none 0 0]
      rw [show ((w2.setCell ⟨w.heap.size, 0, none⟩ (.int .i64 0)).setCell ⟨w.heap.size, 1, none⟩ (.slice (some ⟨w2.heap.size, 0, none⟩) 1 1)).heap.size = w2.heap.size by simp [World.setCell]] at B9
      have BB := ((BT2.set_ 0 (.int .i64 0)).set_ 1 (.slice (some ⟨w2.heap.size, 0, none⟩) 1 1)).alloc (.cells #[.int .i64 0, .slice none 0 0] 29)
      obtain ⟨r0, r1, _⟩ := BB.two
      have HR := hid (show AOut r p w (.returned (.agg #[.int .i64 0, .slice (some ⟨w2.heap.size, 0, none⟩) 1 1])) (((w2.setCell ⟨w.heap.size, 0, none⟩ (.int .i64 0)).setCell ⟨w.heap.size, 1, none⟩ (.slice (some ⟨w2.heap.size, 0, none⟩) 1 1)).alloc (.cells #[.int .i64 0, .slice none 0 0] 29)) from by
        refine ⟨1, .mk 0 [.mk 0 []], some ⟨w2.heap.size, 0, none⟩, 1, rfl, fun _ => ⟨w2.heap.size, 0, rfl, fun i hi => ?_⟩, by simp [JT.kids], by simp [JT.kids], p1 + 1, by omega, ((hr2.set (by show r < w.heap.size; omega) _).set (by show r < w.heap.size; omega) _).alloc _, ((hC2.setNew (Nat.le_refl _) _).setNew (Nat.le_refl _) _).alloc _⟩
        have hi0 : i = 0 := by simp [JT.kids] at hi; exact hi
        subst hi0
        have cell : ∀ j, fromB (((w2.setCell ⟨w.heap.size, 0, none⟩ (.int .i64 0)).setCell ⟨w.heap.size, 1, none⟩ (.slice (some ⟨w2.heap.size, 0, none⟩) 1 1)).alloc (.cells #[.int .i64 0, .slice none 0 0] 29)) w.heap.size ⟨w2.heap.size, j, none⟩ = #[Value.int .i64 0, .slice none 0 0][j]? := fun j => by
          show (if w.heap.size ≤ w2.heap.size then _ else none) = _
          rw [if_pos (by omega), B9.cell]
        exact ⟨cell 0, none, 0, cell 1, RdSl.nil, by simp [JT.kids], by simp [JT.kids]⟩)
      go_wp2
      refine bodyPost_ret (v := .agg #[.int .i64 0, .slice (some ⟨w2.heap.size, 0, none⟩) 1 1]) ?_ rfl HR.out
      simp [results, Try.results56, go_sem, r0, r1]
  · go_wp2_with fail
    refine (one _ _ [-1, n, 0] r (p1 + 1) _ (hr2.alloc _) (by omega) (lit_ints (by omega)) (by simp) (by simp)).mono ?_
    rintro e w3 ⟨y, _, rfl, hr3, hc3⟩
    have hc3' : Ch (· = r) w2 w3 := ((Ch.refl w2).alloc _).trans hc3
    have BT3 := BT2.ch hc3' (by omega)
    have hC3 := hC2.trans hc3'
    have HO3 := hid (gown_ch HO2.out hc3' (by omega))
    obtain ⟨cs, hBg, hcs⟩ : ∃ cs, Blk w3 g 3 cs ∧ n ≤ cs.size := by
      rcases HO3.out.2 with ⟨h, _⟩ | ⟨g', cap', cur, hv, _, hh, hnc, _, hs, _⟩
      · cases h
      · injection hv with hA _ _
        injection hA with hA
        injection hA with hA _ _
        subst hA
        exact ⟨cur, hh, by omega⟩
    obtain ⟨u0, c0⟩ := hBg.cell_some (i := 0) (by omega)
    have g0 := hBg.frozen 0
    have X4 := hid (rd_set0 (y := y) (X2.out.mono rdInt_mono (hc3'.mle_from (lo := r + 1) (fun k hk => by omega))) hBg (by omega) (by omega))
    have BT4 := BT3.far (p := ⟨g, 0, none⟩) (by show w.heap.size ≠ g; omega) (.int .i64 y)
    have hr4 := hr3.set (q := ⟨g, 0, none⟩) (by show r < g; omega) (.int .i64 y)
    have hC4 := hC3.setNew (p := ⟨g, 0, none⟩) (by show w.heap.size ≤ g; omega) (.int .i64 y)
    have hs4 := BT4.lt
    clear b0 b1 f0 f1 hr2 hc3 hc3' hBg hcs X2
    go_wp2_with fail
    refine (randomTree n g 0 cap r (p1 + 1 + 1) (xs.set 0 y) _ (by rw [List.length_set]; exact HXL.out) h1 h10 hcap hr4 (by omega) X4.out).mono ?_
    intro e w4 h4
    obtain ⟨t, A, c, rfl, BB, BD, hres⟩ := tout_store (p := p) h4 hC4 (by omega) hlt hs4 BT4
    have HR := hid hres
    clear h4 hres c0 g0
    obtain ⟨b0, b1, f0, f1⟩ := BB.two
    obtain ⟨r0, r1, _⟩ := BD.two
    go_wp2
    refine bodyPost_ret (v := .agg #[.int .i64 t.leaf, .slice A t.kids.length c]) ?_ rfl HR.out
    simp [results, Try.results56, go_sem, r0, r1]
end Go.Proofs.Ytgjbmigplomekaa
