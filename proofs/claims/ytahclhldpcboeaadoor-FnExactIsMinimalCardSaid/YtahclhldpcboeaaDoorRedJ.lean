/- Walk of the program's without. -/
import Derived.Test.YtahclhldpcboeaaDoorRedI
import Derived.Deep.RegionHeld3
namespace Go.Proofs.YtahclhldpcboeaaDoor
open Go Go.RowKit

/-- A query of the call's own. -/
def RulOut (base : Nat) (q : Int) (hd : List Int) (bd : List Atom) (r : Ending) (w' : World) : Prop := ∃ A c B d, r = .returned (.agg #[.int .i64 q, .slice A hd.length c, .slice B bd.length d]) ∧
  w'.ownsRow base 3 1 (.slice A hd.length c) hd.length (hd.map iv) ∧ w'.ownsRow base 64 3 (.slice B bd.length d) bd.length (bd.flatMap cellsA)
theorem Ch.setAt {g i : Nat} {a w : World} (h : Ch (· = g) a w) (u : Value) (_ : Unit) : Ch (· = g) a (w.setCell ⟨g, i, none⟩ u) := h.set (.inl rfl) u
theorem own_capM {w : World} {base e sz n cap : Nat} {A : Option Addr} {xs : List Value} (h : w.ownsRow base e sz (.slice A n cap) n xs) : n ≤ cap ∧ cap ≤ maxLen := by
  rcases h.2 with ⟨h1, h2⟩ | ⟨g, c, cur, hv, _, _, h1, h2, _⟩
  · cases h1; exact ⟨by omega, Nat.zero_le _⟩
  · cases hv; exact ⟨h1, h2⟩
set_option maxRecDepth 100000 in
set_option maxHeartbeats 4000000 in
theorem withoutW (b : Nat) (q : Int) (A0 A1 : Option Addr) (c0 c1 : Nat) (hd : List Int) (bd : List Atom) (k : Nat) (w : World) (h0 : w.cell? ⟨b, 0, none⟩ = some (.int .i64 q)) (h1 : w.cell? ⟨b, 1, none⟩ = some (.slice A0 hd.length c0)) (h2 : w.cell? ⟨b, 2, none⟩ = some (.slice A1 bd.length c1))
    (hx0 : RdSl rdInt w.cell? 1 A0 hd) (hx1 : RdSl rdAtom w.cell? 3 A1 bd) (hl0 : hd.length ≤ 1000) (hl1 : bd.length ≤ 1000) (hk : k < bd.length) (hc : bd.length ≤ c1) (hc2 : c1 ≤ maxLen) :
    Calls Tryd.prog 51 #[.pointer (some ⟨b, 0, none⟩), .int .i64 k] w fun r w' => RulOut w.heap.size q hd (lessA bd k) r w' ∧ Fr w w' := by
  have hbl := cell_lt h0
  simp only at hbl
  obtain ⟨ab, ao, hA, _⟩ := hx1 (by intro e; rw [e] at hk; simp at hk)
  subst hA
  have hml : c1 ≤ 9223372036854775807 := hc2
  have HX0 := hid hx0
  have T1 := hid (show RdSl rdAtom w.cell? 3 (some ⟨ab, ao, none⟩) (bd.take k) from rd_take hx1)
  have T2 := hid (show RdSl rdAtom w.cell? 3 (some ⟨ab, ao + (k + 1) * 3, none⟩) (bd.drop (k + 1)) from rd_drop hx1)
  have l1 : (bd.take k).length = k := by simp; omega
  have l2 : (bd.drop (k + 1)).length = bd.length - (k + 1) := by simp
  obtain ⟨P1, eP1⟩ : ∃ P, bd.take k = P := ⟨_, rfl⟩
  obtain ⟨P2, eP2⟩ : ∃ P, bd.drop (k + 1) = P := ⟨_, rfl⟩
  have HL : lessA bd k = P1 ++ P2 := by unfold lessA; rw [eP1, eP2]
  rw [HL]
  rw [eP1] at T1 l1
  rw [eP2] at T2 l2
  obtain ⟨n, hn⟩ : ∃ n, bd.length = n := ⟨_, rfl⟩
  rw [hn] at h2 hl1 hk hc l2
  clear hx0 hx1 eP1 eP2 HL hn hc2
  have BN := Blk.new w 30 #[.int .i64 0, .slice none 0 0, .slice none 0 0]
  have FN := (Fr.refl w).alloc (.cells #[.int .i64 0, .slice none 0 0, .slice none 0 0] 30)
  go_enter Tryd.func51, Tryd.ntmps51
  go_wp2_with fail
  generalize w.alloc (.cells #[.int .i64 0, .slice none 0 0, .slice none 0 0] 30) = w1 at BN FN ⊢
  replace h0 := FN.cell h0
  replace h1 := FN.cell h1
  replace h2 := FN.cell h2
  have g1 : decide ((c1 : Int) < (k : Int) + 1) = false := by simp; omega
  (refine wp_region_quiet_tail (fun w' => Fr _ w') 13 (by kernel_rfl) (by kernel_rfl) (Fr.refl _).drew ?_; simp only [List.take_succ_cons, List.take_zero, List.drop_succ_cons, List.drop_zero]; (repeat go_big_quiet_step (first | exact fun _ => rfl | exact fun _ => ⟨rfl, rfl⟩ | (intro hw'; replace h2 := hw'.cell h2; go_simp; first | done | exact rfl | exact ⟨rfl, rfl⟩) )); refine wpQuiet_nil ?_; intro wq hq)
  have FQ := FN.trans hq
  obtain ⟨o2, eo, T3⟩ : ∃ o2, (if c1 = k + 1 then some ⟨ab, ao, none⟩ else some ⟨ab, ao + (k + 1) * 3, none⟩ : Option Addr) = some ⟨ab, o2, none⟩ ∧ Hid (RdSl rdAtom w.cell? 3 (some ⟨ab, o2, none⟩) P2) := by
    by_cases h : c1 = k + 1
    · rw [if_pos h]
      refine ⟨ao, rfl, hid ?_⟩
      have : P2 = [] := List.eq_nil_of_length_eq_zero (by omega)
      rw [this]; exact RdSl.nil
    · rw [if_neg h]
      exact ⟨_, rfl, T2⟩
  rw [eo]
  replace h0 := hq.cell h0
  replace h1 := hq.cell h1
  replace BN := BN.fr hq
  have BP : Blk (wq.alloc (.cells #[.slice (some ⟨ab, ao, none⟩) P1.length c1, .slice (some ⟨ab, o2, none⟩) P2.length (c1 - (k + 1))] 28)) wq.heap.size 28 #[.slice (some ⟨ab, ao, none⟩) P1.length c1, .slice (some ⟨ab, o2, none⟩) P2.length (c1 - (k + 1))] := Blk.new _ _ _
  have FP := FQ.alloc (.cells #[.slice (some ⟨ab, ao, none⟩) P1.length c1, .slice (some ⟨ab, o2, none⟩) P2.length (c1 - (k + 1))] 28)
  have CC := concatW wq.heap.size 2 ab ao ab o2 c1 (c1 - (k + 1)) P1 P2 _ BP (T1.out.fr rdAtom_mono FP) (T3.out.fr rdAtom_mono FP) (by omega) (by omega)
  rw [l1, l2] at CC FP
  have HCC := hid CC
  clear CC BP T1 T2 T3 eo h2 g1
  go_wp2_with fail
  refine HCC.out.mono ?_
  rintro r w3 ⟨v3, rfl, hO3, hF3⟩
  obtain ⟨A3, k3, rfl⟩ := own_form hO3
  have F3 : Fr wq w3 := ((Fr.refl wq).alloc _).trans hF3
  have FW3 := FQ.trans F3
  have HO3 := hid (own_base hO3 (show w.heap.size ≤ _ from FP.size))
  replace h0 := F3.cell h0
  replace h1 := F3.cell h1
  replace BN := BN.fr F3
  have C0 := hid (fun W (h : Fr w3 W) => copiedIntsO A0 c0 hd W (HX0.out.fr rdInt_mono (FW3.trans h)) (by omega))
  obtain ⟨N0, eN0⟩ : ∃ N, (P1 ++ P2).length = N := ⟨_, rfl⟩
  rw [eN0] at HO3
  clear HCC hO3 hF3 F3 FP
  have hw3 := FW3.size
  obtain ⟨z0, z1, z2, zf0, zf1, zf2⟩ := BN.three
  go_wp2_with fail
  have hbw : ¬ (b = w.heap.size) := by omega
  have keepL : ∀ W' : World, Ch (· = w.heap.size) w3 W' → (Ch (· = w.heap.size) w3 W' ∧ W'.cell? ⟨b, 0, none⟩ = some (.int .i64 q) ∧ W'.cell? ⟨b, 1, none⟩ = some (.slice A0 hd.length c0)) := fun W' F => ⟨F, F.cell hbw h0, F.cell hbw h1⟩
  go_region_held3 (fun W' => Ch (· = w.heap.size) w3 W' ∧ W'.cell? ⟨b, 0, none⟩ = some (.int .i64 q) ∧ W'.cell? ⟨b, 1, none⟩ = some (.slice A0 hd.length c0)) ((refine keepL _ ?_; (repeat (first | with_reducible exact Ch.refl _ | with_reducible assumption | with_reducible refine Ch.alloc ?_ _ | with_reducible refine Ch.drew ?_ | with_reducible refine Ch.setAt ?_ _ () | with_reducible refine Ch.trans ?_ (by assumption))); done))
    (first
      | (go_at_call 49; (with_reducible refine (C0.out _ ?_).mono ?_); (· (repeat (first | with_reducible exact Fr.refl _ | with_reducible assumption | with_reducible refine Fr.alloc ?_ _ | with_reducible refine Fr.drew ?_ | with_reducible refine Fr.drewN ?_ _ | (with_reducible refine Fr.setNew2 ?_ ?_ _; · (simp <;> omega)) | with_reducible refine Fr.trans ?_ (by assumption)))); rintro r4 w4 ⟨B4, k4, rfl, hO4, hF4⟩; have F4 : Fr w3 w4 := Fr.trans (by (repeat (first | with_reducible exact Fr.refl _ | with_reducible assumption | with_reducible refine Fr.alloc ?_ _ | with_reducible refine Fr.drew ?_ | with_reducible refine Fr.drewN ?_ _ | (with_reducible refine Fr.setNew2 ?_ ?_ _; · (simp <;> omega)) | with_reducible refine Fr.trans ?_ (by assumption)))) hF4; have HO4 := hid (own_base hO4 (show w.heap.size ≤ _ from Nat.le_trans hw3 (Fr.size (w := w3) (by (repeat (first | with_reducible exact Fr.refl _ | with_reducible assumption | with_reducible refine Fr.alloc ?_ _ | with_reducible refine Fr.drew ?_ | with_reducible refine Fr.drewN ?_ _ | (with_reducible refine Fr.setNew2 ?_ ?_ _; · (simp <;> omega)) | with_reducible refine Fr.trans ?_ (by assumption))))))); clear hO4; have C4 : Ch (· = w.heap.size) w3 w4 := F4.ch; have B5 := BN.fr F4; obtain ⟨z0', z1', z2', zf0', zf1', zf2'⟩ := B5.three; have TT : Ch (· = w.heap.size) w3 (((w4.setCell ⟨w.heap.size, 0, none⟩ (.int .i64 q)).setCell ⟨w.heap.size, 1, none⟩ (.slice B4 hd.length k4)).setCell ⟨w.heap.size, 2, none⟩ (.slice A3 N0 k3)) := Ch.setAt (Ch.setAt (Ch.setAt C4 _ ()) _ ()) _ ())
      | fail)
  have BF := ((B5.set_ 0 (.int .i64 q)).set_ 1 (.slice B4 hd.length k4)).set_ 2 (.slice A3 N0 k3)
  have O4 := mrow_set (o := 2) (u := .slice A3 N0 k3) (mrow_set (o := 1) (u := .slice B4 hd.length k4) (mrow_set (o := 0) (u := .int .i64 q) HO4.out (mrow_ne HO4.out B5 (by decide))) (mrow_ne HO4.out B5 (by decide))) (mrow_ne HO4.out B5 (by decide))
  have HO3' := own_fr HO3.out F4
  have O3 := mrow_set (o := 2) (u := .slice A3 N0 k3) (mrow_set (o := 1) (u := .slice B4 hd.length k4) (mrow_set (o := 0) (u := .int .i64 q) HO3' (mrow_ne HO3' B5 (by decide))) (mrow_ne HO3' B5 (by decide))) (mrow_ne HO3' B5 (by decide))
  have FE : Fr w _ := TT.fr (fun j hj => by have : j = w.heap.size := hj; omega) FW3
  have RES := hid (And.intro (show RulOut w.heap.size q hd (P1 ++ P2) (.returned (.agg #[.int .i64 q, .slice B4 hd.length k4, .slice A3 N0 k3])) _ from ⟨B4, k4, A3, k3, by rw [eN0], O4, by rw [eN0]; exact O3⟩) FE)
  obtain ⟨y0, y1, y2, _⟩ := BF.three
  clear O3 O4 HO3' TT C4 BF B5 BN FE keepL C0 h0 h1
  generalize (((w4.setCell ⟨w.heap.size, 0, none⟩ (.int .i64 q)).setCell ⟨w.heap.size, 1, none⟩ (.slice B4 hd.length k4)).setCell ⟨w.heap.size, 2, none⟩ (.slice A3 N0 k3)) = w9 at RES y0 y1 y2 ⊢
  go_wp2
  refine bodyPost_ret (v := .agg #[.int .i64 q, .slice B4 hd.length k4, .slice A3 N0 k3]) (by simp [results, Tryd.results51, go_sem, y0, y1, y2]) rfl ?_
  exact RES.out
end Go.Proofs.YtahclhldpcboeaaDoor
