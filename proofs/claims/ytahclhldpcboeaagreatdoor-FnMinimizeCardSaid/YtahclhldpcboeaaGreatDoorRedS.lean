/- Walks of the reference's functions on queries: copyRule, without. -/
import Derived.Test.YtahclhldpcboeaaGreatDoorAppS
import Derived.Test.YtahclhldpcboeaaGreatDoorMapI
namespace Go.Proofs.YtahclhldpcboeaaGreatDoor
open Go Go.RowKit
attribute [-go_sem] Builtin.append_
set_option maxRecDepth 100000 in
set_option maxHeartbeats 4000000 in
theorem copyRuleW (q : Int) (A0 A1 : Option Addr) (c0 c1 : Nat) (hd : List Int) (bd : List Atom) (w : World) (hx0 : RdSl rdInt w.cell? 1 A0 hd) (hx1 : RdSl rdAtom w.cell? 3 A1 bd) (hl0 : hd.length ≤ 1048576) (hl1 : bd.length ≤ 1048576) (hn0 : A0 = none → c0 = 0) (hn1 : A1 = none → c1 = 0) :
    Calls Tryz.prog 45 #[.agg #[.int .i64 q, .slice A0 hd.length c0, .slice A1 bd.length c1]] w fun r w' => RulOut w.heap.size q hd bd r w' ∧ Fr w w' := by
  have S0 := hid (src_int hx0 hn0)
  have S1 := hid (src_atom hx1 hn1)
  clear hx0 hx1 hn0 hn1
  have B0' := (Blk.new w 26 #[.int .i64 q, .slice A0 hd.length c0, .slice A1 bd.length c1]).alloc (.cells #[.int .i64 0, .slice none 0 0, .slice none 0 0] 26)
  have B1' := Blk.new (w.alloc (.cells #[.int .i64 q, .slice A0 hd.length c0, .slice A1 bd.length c1] 26)) 26 #[.int .i64 0, .slice none 0 0, .slice none 0 0]
  rw [World.size_alloc] at B1'
  have F1 : Fr w ((w.alloc (.cells #[.int .i64 q, .slice A0 hd.length c0, .slice A1 bd.length c1] 26)).alloc (.cells #[.int .i64 0, .slice none 0 0, .slice none 0 0] 26)) := by (repeat (first | with_reducible exact Fr.refl _ | with_reducible assumption | with_reducible refine Fr.alloc ?_ _ | with_reducible refine Fr.drew ?_ | with_reducible refine Fr.drewN ?_ _ | (with_reducible refine Fr.setNew2 ?_ ?_ _; · (simp <;> omega)) | with_reducible refine Fr.trans ?_ (by assumption)))
  go_enter Tryz.func45, Tryz.ntmps45
  go_wp2_with fail
  generalize (w.alloc (.cells #[.int .i64 q, .slice A0 hd.length c0, .slice A1 bd.length c1] 26)).alloc (.cells #[.int .i64 0, .slice none 0 0, .slice none 0 0] 26) = w1 at B0' B1' F1 ⊢
  obtain ⟨b0, b1, b2, _⟩ := B0'.three
  have hw1 := F1.size
  have hbw : ¬ (w.heap.size = w.heap.size + 1) := by omega
  have hlt1 := B1'.lt
  have keepL : ∀ W' : World, Ch (· = w.heap.size + 1) w1 W' → (Ch (· = w.heap.size + 1) w1 W' ∧ W'.cell? ⟨w.heap.size, 0, none⟩ = some (.int .i64 q) ∧ W'.cell? ⟨w.heap.size, 1, none⟩ = some (.slice A0 hd.length c0) ∧ W'.cell? ⟨w.heap.size, 2, none⟩ = some (.slice A1 bd.length c1)) := fun W' F => ⟨F, F.cell hbw b0, F.cell hbw b1, F.cell hbw b2⟩
  go_region_held3 (fun W' => Ch (· = w.heap.size + 1) w1 W' ∧ W'.cell? ⟨w.heap.size, 0, none⟩ = some (.int .i64 q) ∧ W'.cell? ⟨w.heap.size, 1, none⟩ = some (.slice A0 hd.length c0) ∧ W'.cell? ⟨w.heap.size, 2, none⟩ = some (.slice A1 bd.length c1)) ((refine keepL _ ?_; (repeat (first | with_reducible exact Ch.refl _ | with_reducible assumption | with_reducible refine Ch.alloc ?_ _ | with_reducible refine Ch.drew ?_ | with_reducible refine Ch.setAt ?_ _ () | with_reducible refine Ch.trans ?_ (by assumption))); done))
    (first
      | ((with_reducible refine upon_srcF 23 3 (.int .i64 0) 1 8 Tryz.underlying23 (by kernel_rfl) rfl (by decide) (by decide) w1 _ 0 [] ?fr ?own (by omega) A0 hd.length c0 (hd.map iv) (by simp) hl0 ?src (iv_all hd) ?_); (case fr => (repeat (first | with_reducible exact Fr.refl _ | with_reducible assumption | with_reducible refine Fr.alloc ?_ _ | with_reducible refine Fr.drew ?_ | with_reducible refine Fr.drewN ?_ _ | (with_reducible refine Fr.setNew2 ?_ ?_ _; · (simp <;> omega)) | with_reducible refine Fr.trans ?_ (by assumption)))); (case own => first | exact own_nilB (Blk.new w1 3 #[]).drew (Nat.le_refl _) | exact own_nilB (Blk.new w1 3 #[]) (Nat.le_refl _) | exact own_nilB ((Blk.new w1 3 #[]).alloc (.cells #[] 63)).drew (Nat.le_refl _) | exact own_nilB ((Blk.new w1 3 #[]).alloc (.cells #[] 63)) (Nat.le_refl _) | exact own_nilB (blk_new1 w1 (.cells #[] 63) 3 #[]).drew (Nat.le_succ _) | exact own_nilB (blk_new1 w1 (.cells #[] 63) 3 #[]) (Nat.le_succ _) | fail); (case src => exact S0.out.fr (F1.trans (by (repeat (first | with_reducible exact Fr.refl _ | with_reducible assumption | with_reducible refine Fr.alloc ?_ _ | with_reducible refine Fr.drew ?_ | with_reducible refine Fr.drewN ?_ _ | (with_reducible refine Fr.setNew2 ?_ ?_ _; · (simp <;> omega)) | with_reducible refine Fr.trans ?_ (by assumption)))))); intro v5 w5 hO5 F5 KB; rw [Nat.zero_add, List.nil_append] at hO5; obtain ⟨A5, k5, rfl⟩ := own_form hO5; (first | have XA := KB w1.heap.size 63 #[] (by decide) ((Blk.new w1 63 #[]).alloc (.cells #[] 3)).drew | have XA := KB w1.heap.size 63 #[] (by decide) ((Blk.new w1 63 #[]).alloc (.cells #[] 3)) | have XA := KB (w1.heap.size + 1) 63 #[] (by decide) (blk_new1 w1 (.cells #[] 3) 63 #[]).drew | have XA := KB (w1.heap.size + 1) 63 #[] (by decide) (blk_new1 w1 (.cells #[] 3) 63 #[]) | skip); have C5 : Ch (· = w.heap.size + 1) w1 w5 := F5.ch; have HO5 := hid hO5; have hs5 := F5.size; clear hO5 KB)
      | ((with_reducible refine upon_srcF 24 63 (.agg #[.int .i64 0, .int .i64 0, .int .i64 0]) 3 24 Tryz.underlying24 (by kernel_rfl) rfl (by decide) (by decide) w1 _ 0 [] ?fr ?own (by omega) A1 bd.length c1 (bd.flatMap cellsA) (cellsA_len bd) hl1 ?src (cellsA_one bd) ?_); (case fr => (repeat (first | with_reducible exact Fr.refl _ | with_reducible assumption | with_reducible refine Fr.alloc ?_ _ | with_reducible refine Fr.drew ?_ | with_reducible refine Fr.drewN ?_ _ | (with_reducible refine Fr.setNew2 ?_ ?_ _; · (simp <;> omega)) | with_reducible refine Fr.trans ?_ (by assumption)))); (case own => first | exact own_nilB XA (Nat.le_refl _) | exact own_nilB XA (Nat.le_succ _) | exact own_nilB XA.drew (Nat.le_refl _) | exact own_nilB XA.drew (Nat.le_succ _) | exact own_nilB (Blk.new w5 63 #[]) hs5 | exact own_nilB (Blk.new w5 63 #[]).drew hs5 | fail); (case src => exact S1.out.fr (F1.trans (by (repeat (first | with_reducible exact Fr.refl _ | with_reducible assumption | with_reducible refine Fr.alloc ?_ _ | with_reducible refine Fr.drew ?_ | with_reducible refine Fr.drewN ?_ _ | (with_reducible refine Fr.setNew2 ?_ ?_ _; · (simp <;> omega)) | with_reducible refine Fr.trans ?_ (by assumption)))))); intro v6 w6 hO6 F6 KB; rw [Nat.zero_add, List.nil_append] at hO6; obtain ⟨A6, k6, rfl⟩ := own_form hO6; have C6 : Ch (· = w.heap.size + 1) w1 w6 := F6.ch; have HO6 := hid hO6; have HO56 := hid (own_keep (own_fr HO5.out (show Fr w5 _ by (repeat (first | with_reducible exact Fr.refl _ | with_reducible assumption | with_reducible refine Fr.alloc ?_ _ | with_reducible refine Fr.drew ?_ | with_reducible refine Fr.drewN ?_ _ | (with_reducible refine Fr.setNew2 ?_ ?_ _; · (simp <;> omega)) | with_reducible refine Fr.trans ?_ (by assumption))))) (fun g cs hB => KB g 3 cs (by decide) hB)); clear hO6 KB; have B6 := B1'.fr F6; obtain ⟨z0', z1', z2', zf0', zf1', zf2'⟩ := B6.three; have TT : Ch (· = w.heap.size + 1) w1 (((w6.setCell ⟨w.heap.size + 1, 0, none⟩ (.int .i64 q)).setCell ⟨w.heap.size + 1, 1, none⟩ (.slice A5 hd.length k5)).setCell ⟨w.heap.size + 1, 2, none⟩ (.slice A6 bd.length k6)) := Ch.setAt (Ch.setAt (Ch.setAt C6 _ ()) _ ()) _ ())
      | fail)
  all_goals have BF := ((B6.set_ 0 (.int .i64 q)).set_ 1 (.slice A5 hd.length k5)).set_ 2 (.slice A6 bd.length k6)
  all_goals have O5 := mrow_set (o := 2) (u := .slice A6 bd.length k6) (mrow_set (o := 1) (u := .slice A5 hd.length k5) (mrow_set (o := 0) (u := .int .i64 q) HO56.out (mrow_ne HO56.out B6 (by decide))) (mrow_ne HO56.out B6 (by decide))) (mrow_ne HO56.out B6 (by decide))
  all_goals have O6 := mrow_set (o := 2) (u := .slice A6 bd.length k6) (mrow_set (o := 1) (u := .slice A5 hd.length k5) (mrow_set (o := 0) (u := .int .i64 q) HO6.out (mrow_ne HO6.out B6 (by decide))) (mrow_ne HO6.out B6 (by decide))) (mrow_ne HO6.out B6 (by decide))
  all_goals have FE : Fr w _ := TT.fr (fun j hj => by have : j = w.heap.size + 1 := hj; omega) F1
  all_goals have RES := hid (And.intro (show RulOut w.heap.size q hd bd (.returned (.agg #[.int .i64 q, .slice A5 hd.length k5, .slice A6 bd.length k6])) _ from ⟨A5, k5, A6, k6, rfl, own_base O5 hw1, own_base O6 hw1⟩) FE)
  all_goals obtain ⟨y0, y1, y2, _⟩ := BF.three
  all_goals clear O5 O6 TT C5 C6 BF B6 FE keepL
  all_goals generalize (((w6.setCell ⟨w.heap.size + 1, 0, none⟩ (.int .i64 q)).setCell ⟨w.heap.size + 1, 1, none⟩ (.slice A5 hd.length k5)).setCell ⟨w.heap.size + 1, 2, none⟩ (.slice A6 bd.length k6)) = w9 at RES y0 y1 y2 ⊢
  all_goals go_wp2
  all_goals refine bodyPost_ret (v := .agg #[.int .i64 q, .slice A5 hd.length k5, .slice A6 bd.length k6]) (by simp [results, Tryz.results45, go_sem, y0, y1, y2]) rfl ?_
  all_goals exact RES.out
/- Walk of the reference's without. -/
attribute [-go_sem] Builtin.append_
/-- The result variable's block is written, the query stands. -/
theorem withoutEnd {w W : World} {q : Int} {hd : List Int} {L : List Atom} {A3 A6 : Option Addr} {k3 k6 N b1 b2 : Nat} {news : List Value}
    (h4 : W.ownsRow b1 3 1 (.slice A3 hd.length k3) hd.length (hd.map iv)) (h6 : W.ownsRow b2 63 3 (.slice A6 N k6) N news)
    (hB : Blk W (w.heap.size + 1) 26 #[.int .i64 0, .slice none 0 0, .slice none 0 0]) (hF : Fr w W) (_ : True) (hL : L.length = N ∧ L.flatMap cellsA = news) (hb1 : w.heap.size ≤ b1) (hb2 : w.heap.size ≤ b2) :
    RulOut w.heap.size q hd L (.returned (.agg #[.int .i64 q, .slice A3 hd.length k3, .slice A6 N k6])) (((W.setCell ⟨w.heap.size + 1, 0, none⟩ (.int .i64 q)).setCell ⟨w.heap.size + 1, 1, none⟩ (.slice A3 hd.length k3)).setCell ⟨w.heap.size + 1, 2, none⟩ (.slice A6 N k6)) ∧
      Fr w (((W.setCell ⟨w.heap.size + 1, 0, none⟩ (.int .i64 q)).setCell ⟨w.heap.size + 1, 1, none⟩ (.slice A3 hd.length k3)).setCell ⟨w.heap.size + 1, 2, none⟩ (.slice A6 N k6)) := by
  have e4 := mrow_ne h4 hB (by decide)
  have e6 := mrow_ne h6 hB (by decide)
  refine ⟨⟨A3, k3, A6, k6, by rw [hL.1], own_base (mrow_set (mrow_set (mrow_set h4 e4) e4) e4) hb1, by rw [hL.1, hL.2]; exact own_base (mrow_set (mrow_set (mrow_set h6 e6) e6) e6) hb2⟩, ?_⟩
  exact ((hF.setNew (Nat.le_succ _) _).setNew (Nat.le_succ _) _).setNew (Nat.le_succ _) _
set_option maxRecDepth 100000 in
set_option maxHeartbeats 4000000 in
theorem withoutS (q : Int) (A0 A1 : Option Addr) (c0 c1 : Nat) (hd : List Int) (bd : List Atom) (k : Nat) (w : World) (hx0 : RdSl rdInt w.cell? 1 A0 hd) (hx1 : RdSl rdAtom w.cell? 3 A1 bd) (hl0 : hd.length ≤ 1000) (hl1 : bd.length ≤ 1000) (hk : k < bd.length) (hn0 : A0 = none → c0 = 0) (hc : bd.length ≤ c1) (hc2 : c1 ≤ maxLen) :
    Calls Tryz.prog 47 #[.agg #[.int .i64 q, .slice A0 hd.length c0, .slice A1 bd.length c1], .int .i64 k] w fun r w' => RulOut w.heap.size q hd (lessA bd k) r w' ∧ Fr w w' := by
  obtain ⟨ab, ao, hA, _⟩ := hx1 (by intro e; rw [e] at hk; simp at hk)
  subst hA
  have hml : c1 ≤ 9223372036854775807 := hc2
  have CR := hid (fun W (h : Fr w W) => copyRuleW q A0 (some ⟨ab, ao, none⟩) c0 c1 hd bd W (hx0.fr rdInt_mono h) (hx1.fr rdAtom_mono h) (by omega) (by omega) hn0 (fun h => by cases h))
  have T1 : RdSl rdAtom w.cell? 3 (some ⟨ab, ao, none⟩) (bd.take k) := rd_take hx1
  have T2 : RdSl rdAtom w.cell? 3 (some ⟨ab, ao + (k + 1) * 3, none⟩) (bd.drop (k + 1)) := rd_drop hx1
  have l1 : (bd.take k).length = k := by simp; omega
  have l2 : (bd.drop (k + 1)).length = bd.length - (k + 1) := by simp
  have S1 := src_atom (c := c1) T1 (fun h => by cases h)
  have S2 : Src w.cell? (if c1 = k + 1 then some ⟨ab, ao, none⟩ else some ⟨ab, ao + (k + 1) * 3, none⟩) (bd.drop (k + 1)).length (c1 - (k + 1)) ((bd.drop (k + 1)).flatMap cellsA) := by
    by_cases h : c1 = k + 1
    · rw [if_pos h]
      have : bd.drop (k + 1) = [] := List.eq_nil_of_length_eq_zero (by omega)
      rw [this]
      exact .inr ⟨_, rfl, fun j u hu => by simp at hu⟩
    · rw [if_neg h]
      exact src_atom T2 (fun h => by cases h)
  obtain ⟨P1, eP1⟩ : ∃ P, bd.take k = P := ⟨_, rfl⟩
  obtain ⟨P2, eP2⟩ : ∃ P, bd.drop (k + 1) = P := ⟨_, rfl⟩
  have HL : lessA bd k = P1 ++ P2 := by unfold lessA; rw [eP1, eP2]
  rw [HL]
  rw [eP1] at S1 l1
  rw [eP2] at S2 l2
  have hf1 := cellsA_len P1
  have hf2 := cellsA_len P2
  rw [l1] at S1 hf1
  rw [l2] at S2 hf2
  have HS1 := hid S1
  have HS2 := hid S2
  have HFL := hid (show (P1 ++ P2).flatMap cellsA = P1.flatMap cellsA ++ P2.flatMap cellsA from List.flatMap_append ..)
  have HLN := hid (show (P1 ++ P2).length = k + (bd.length - (k + 1)) by rw [List.length_append, l1, l2])
  obtain ⟨n, hn⟩ : ∃ n, bd.length = n := ⟨_, rfl⟩
  rw [hn] at hl1 hk hc hf2 HS2 CR HLN ⊢
  have EL1 := hid l1
  clear hx0 hx1 eP1 eP2 HL hc2 hn0 T1 T2 S1 S2 l1 l2
  have B0' := (Blk.new w 26 #[.int .i64 q, .slice A0 hd.length c0, .slice (some ⟨ab, ao, none⟩) n c1]).alloc (.cells #[.int .i64 0, .slice none 0 0, .slice none 0 0] 26)
  have B1' := Blk.new (w.alloc (.cells #[.int .i64 q, .slice A0 hd.length c0, .slice (some ⟨ab, ao, none⟩) n c1] 26)) 26 #[.int .i64 0, .slice none 0 0, .slice none 0 0]
  rw [World.size_alloc] at B1'
  have F1 : Fr w ((w.alloc (.cells #[.int .i64 q, .slice A0 hd.length c0, .slice (some ⟨ab, ao, none⟩) n c1] 26)).alloc (.cells #[.int .i64 0, .slice none 0 0, .slice none 0 0] 26)) := by (repeat (first | with_reducible exact Fr.refl _ | with_reducible assumption | with_reducible refine Fr.alloc ?_ _ | with_reducible refine Fr.drew ?_ | with_reducible refine Fr.drewN ?_ _ | (with_reducible refine Fr.setNew2 ?_ ?_ _; · (simp <;> omega)) | with_reducible refine Fr.trans ?_ (by assumption)))
  go_enter Tryz.func47, Tryz.ntmps47
  go_wp2_with fail
  generalize (w.alloc (.cells #[.int .i64 q, .slice A0 hd.length c0, .slice (some ⟨ab, ao, none⟩) n c1] 26)).alloc (.cells #[.int .i64 0, .slice none 0 0, .slice none 0 0] 26) = w1 at B0' B1' F1 ⊢
  refine (CR.out w1 F1).mono ?_
  rintro r w2 ⟨⟨A3, k3, B3, j3, rfl, hO3, hO3'⟩, hF2⟩
  have HO3 := hid hO3
  rw [hn]
  clear hO3 hO3' CR
  have BO := Blk.new w2 26 #[.int .i64 q, .slice A3 hd.length k3, .slice B3 n j3]
  have F3 : Fr w2 (w2.alloc (.cells #[.int .i64 q, .slice A3 hd.length k3, .slice B3 n j3] 26)) := by (repeat (first | with_reducible exact Fr.refl _ | with_reducible assumption | with_reducible refine Fr.alloc ?_ _ | with_reducible refine Fr.drew ?_ | with_reducible refine Fr.drewN ?_ _ | (with_reducible refine Fr.setNew2 ?_ ?_ _; · (simp <;> omega)) | with_reducible refine Fr.trans ?_ (by assumption)))
  go_wp2_with fail
  have hb1w := (show w.heap.size + 1 < w2.heap.size by have := B1'.lt; have := hF2.size; omega)
  have F13 := hF2.trans F3
  have FW3 := F1.trans F13
  replace B0' := B0'.fr F13
  replace B1' := B1'.fr F13
  have hg2 := B1'.lt
  have HO4 := hid (own_fr HO3.out F3)
  have hw1 := F1.size
  generalize w2.alloc (.cells #[.int .i64 q, .slice A3 hd.length k3, .slice B3 n j3] 26) = w3 at BO F3 B0' B1' HO4 F13 FW3 hg2 ⊢
  obtain ⟨b0, b1, b2, _⟩ := B0'.three
  have hbw : ¬ (w.heap.size = w2.heap.size) := by omega
  have hw13 := F13.size
  have q1 : (0 : Int) ≤ (k : Int) := by omega
  have q2 : (k : Int) ≤ (c1 : Int) := by omega
  have q3 : (0 : Int) ≤ (k : Int) + 1 := by omega
  have q4 : (k : Int) + 1 ≤ (n : Int) := by omega
  have q5 : (n : Int) ≤ (c1 : Int) := by omega
  have q6 : IntKind.i64.wrap ((k : Int) + 1) = (k : Int) + 1 := by rw [IntKind.wrap_i64]; omega
  have hne1 : ¬ (w.heap.size + 1 = w2.heap.size) := by omega
  have hne2 : ¬ (w2.heap.size = w.heap.size + 1) := by omega
  by_cases hck : c1 = k + 1
  · obtain rfl : n = k + 1 := by omega
    subst hck
    have hP2 : P2 = [] := List.eq_nil_of_length_eq_zero (by have := cellsA_len P2; omega)
    subst hP2
    have q7 : (k : Int) ≤ (k : Int) + 1 := by omega
    have HS3 := hid (show Src w.cell? (some ⟨ab, ao, none⟩) 0 0 [] from .inr ⟨_, rfl, fun j u hu => by simp at hu⟩)
    have HLEN : (P1 ++ []).length = k ∧ (P1 ++ []).flatMap cellsA = P1.flatMap cellsA := ⟨by rw [List.append_nil]; exact EL1.out, by rw [List.append_nil]⟩
    clear HS2 hf2 HFL HLN
    have keepL : ∀ W' : World, Ch (· = w2.heap.size) w3 W' → (Ch (· = w2.heap.size) w3 W' ∧ W'.cell? ⟨w.heap.size, 2, none⟩ = some (.slice (some ⟨ab, ao, none⟩) (k + 1) (k + 1))) := fun W' F => ⟨F, F.cell hbw b2⟩
    go_region_held3 (fun W' => Ch (· = w2.heap.size) w3 W' ∧ W'.cell? ⟨w.heap.size, 2, none⟩ = some (.slice (some ⟨ab, ao, none⟩) (k + 1) (k + 1))) ((refine keepL _ ?_; (repeat (first | with_reducible exact Ch.refl _ | with_reducible assumption | with_reducible refine Ch.alloc ?_ _ | with_reducible refine Ch.drew ?_ | with_reducible refine Ch.setAt ?_ _ () | with_reducible refine Ch.trans ?_ (by assumption))); done))
      (first
        | ((with_reducible refine upon_srcF 24 63 (.agg #[.int .i64 0, .int .i64 0, .int .i64 0]) 3 24 Tryz.underlying24 (by kernel_rfl) rfl (by decide) (by decide) w3 (.slice (some ⟨w3.heap.size, 0, none⟩) 0 0) 0 [] ?fr ?own (by omega) (some ⟨ab, ao, none⟩) k (k + 1) (P1.flatMap cellsA) hf1 (by omega) ?src (cellsA_one P1) ?_); (case fr => (repeat (first | with_reducible exact Fr.refl _ | with_reducible assumption | with_reducible refine Fr.alloc ?_ _ | with_reducible refine Fr.drew ?_ | with_reducible refine Fr.drewN ?_ _ | (with_reducible refine Fr.setNew2 ?_ ?_ _; · (simp <;> omega)) | with_reducible refine Fr.trans ?_ (by assumption)))); (case own => first | exact own_nilB (Blk.new w3 63 #[]).drew (Nat.le_refl _) | exact own_nilB (Blk.new w3 63 #[]) (Nat.le_refl _) | fail); (case src => exact HS1.out.fr (FW3.trans (by (repeat (first | with_reducible exact Fr.refl _ | with_reducible assumption | with_reducible refine Fr.alloc ?_ _ | with_reducible refine Fr.drew ?_ | with_reducible refine Fr.drewN ?_ _ | (with_reducible refine Fr.setNew2 ?_ ?_ _; · (simp <;> omega)) | with_reducible refine Fr.trans ?_ (by assumption)))))); intro v5 w5 hO5 F5 KB; rw [Nat.zero_add, List.nil_append] at hO5; obtain ⟨A5, k5, rfl⟩ := own_form hO5; have C5 : Ch (· = w2.heap.size) w3 w5 := F5.ch; have HO5 := hid hO5; have HO45 := hid (own_keep (own_fr HO4.out (show Fr w3 _ by (repeat (first | with_reducible exact Fr.refl _ | with_reducible assumption | with_reducible refine Fr.alloc ?_ _ | with_reducible refine Fr.drew ?_ | with_reducible refine Fr.drewN ?_ _ | (with_reducible refine Fr.setNew2 ?_ ?_ _; · (simp <;> omega)) | with_reducible refine Fr.trans ?_ (by assumption))))) (fun g cs hB => KB g 3 cs (by decide) hB)); clear hO5 KB)
        | ((with_reducible refine upon_srcF 24 63 (.agg #[.int .i64 0, .int .i64 0, .int .i64 0]) 3 24 Tryz.underlying24 (by kernel_rfl) rfl (by decide) (by decide) w3 (.slice A5 k k5) k (P1.flatMap cellsA) ?fr ?own (by omega) (some ⟨ab, ao, none⟩) 0 0 [] rfl (by omega) ?src rfl ?_); (case fr => (repeat (first | with_reducible exact Fr.refl _ | with_reducible assumption | with_reducible refine Fr.alloc ?_ _ | with_reducible refine Fr.drew ?_ | with_reducible refine Fr.drewN ?_ _ | (with_reducible refine Fr.setNew2 ?_ ?_ _; · (simp <;> omega)) | with_reducible refine Fr.trans ?_ (by assumption)))); (case own => first | exact HO5.out | exact own_fr HO5.out (Fr.refl _).drew | fail); (case src => exact HS3.out.fr (FW3.trans (by (repeat (first | with_reducible exact Fr.refl _ | with_reducible assumption | with_reducible refine Fr.alloc ?_ _ | with_reducible refine Fr.drew ?_ | with_reducible refine Fr.drewN ?_ _ | (with_reducible refine Fr.setNew2 ?_ ?_ _; · (simp <;> omega)) | with_reducible refine Fr.trans ?_ (by assumption)))))); intro v6 w6 hO6 F6 KB; rw [Nat.add_zero, List.append_nil] at hO6; obtain ⟨A6, k6, rfl⟩ := own_form hO6; have C6 : Ch (· = w2.heap.size) w3 w6 := F6.ch; have HO6 := hid hO6; have HO46 := hid (own_keep (own_fr HO45.out (show Fr w5 _ by (repeat (first | with_reducible exact Fr.refl _ | with_reducible assumption | with_reducible refine Fr.alloc ?_ _ | with_reducible refine Fr.drew ?_ | with_reducible refine Fr.drewN ?_ _ | (with_reducible refine Fr.setNew2 ?_ ?_ _; · (simp <;> omega)) | with_reducible refine Fr.trans ?_ (by assumption))))) (fun g cs hB => KB g 3 cs (by decide) hB)); clear hO6 KB; have B6 := BO.fr F6; obtain ⟨z0', z1', z2', zf0', zf1', zf2'⟩ := B6.three; have BRR := B1'.fr F6; obtain ⟨x0, x1, x2, xf0, xf1, xf2⟩ := BRR.three; have TT : Ch (· = w2.heap.size) w3 (w6.setCell ⟨w2.heap.size, 2, none⟩ (.slice A6 k k6)) := Ch.setAt C6 _ ())
        | fail)
    all_goals have BF := B6.set_ 2 (.slice A6 k k6)
    all_goals have O4 := mrow_set (o := 2) (u := .slice A6 k k6) HO46.out (mrow_ne HO46.out B6 (by decide))
    all_goals have O6 := mrow_set (o := 2) (u := .slice A6 k k6) HO6.out (mrow_ne HO6.out B6 (by decide))
    all_goals have FE : Fr w _ := TT.fr (fun j hj => by have : j = w2.heap.size := hj; omega) FW3
    all_goals have BR := BRR.far (p := ⟨w2.heap.size, 2, none⟩) (by show w.heap.size + 1 ≠ w2.heap.size; omega) (.slice A6 k k6)
    all_goals have HFIN := hid (withoutEnd (q := q) O4 O6 BR FE trivial HLEN (by omega) (by omega))
    all_goals have BE := ((BR.set_ 0 (.int .i64 q)).set_ 1 (.slice A3 hd.length k3)).set_ 2 (.slice A6 k k6)
    all_goals obtain ⟨y0, y1, y2, _⟩ := BF.three
    all_goals clear O4 O6 TT C5 C6 B6 BRR FE keepL HO4 HO46 HO45 HO5 HO6 z0' z1' z2' zf0' zf1' zf2' b0 b1 b2
    all_goals go_wp2
    all_goals (obtain ⟨u0, u1, u2, _⟩ := BE.three; clear BF BE BR y0 y1 y2 x0 x1 x2 xf0 xf1 xf2)
    all_goals generalize (((w6.setCell ⟨w2.heap.size, 2, none⟩ (.slice A6 k k6)).setCell ⟨w.heap.size + 1, 0, none⟩ (.int .i64 q)).setCell ⟨w.heap.size + 1, 1, none⟩ (.slice A3 hd.length k3)).setCell ⟨w.heap.size + 1, 2, none⟩ (.slice A6 k k6) = w9 at HFIN u0 u1 u2 ⊢
    all_goals refine bodyPost_ret (v := .agg #[.int .i64 q, .slice A3 hd.length k3, .slice A6 k k6]) (by simp [results, Tryz.results47, go_sem, u0, u1, u2]) rfl ?_
    all_goals exact HFIN.out
  · rw [if_neg hck] at HS2
    have HLEN : (P1 ++ P2).length = k + (n - (k + 1)) ∧ (P1 ++ P2).flatMap cellsA = P1.flatMap cellsA ++ P2.flatMap cellsA := ⟨HLN.out, HFL.out⟩
    clear HFL HLN
    have keepL : ∀ W' : World, Ch (· = w2.heap.size) w3 W' → (Ch (· = w2.heap.size) w3 W' ∧ W'.cell? ⟨w.heap.size, 2, none⟩ = some (.slice (some ⟨ab, ao, none⟩) n c1)) := fun W' F => ⟨F, F.cell hbw b2⟩
    go_region_held3 (fun W' => Ch (· = w2.heap.size) w3 W' ∧ W'.cell? ⟨w.heap.size, 2, none⟩ = some (.slice (some ⟨ab, ao, none⟩) n c1)) ((refine keepL _ ?_; (repeat (first | with_reducible exact Ch.refl _ | with_reducible assumption | with_reducible refine Ch.alloc ?_ _ | with_reducible refine Ch.drew ?_ | with_reducible refine Ch.setAt ?_ _ () | with_reducible refine Ch.trans ?_ (by assumption))); done))
      (first
        | ((with_reducible refine upon_srcF 24 63 (.agg #[.int .i64 0, .int .i64 0, .int .i64 0]) 3 24 Tryz.underlying24 (by kernel_rfl) rfl (by decide) (by decide) w3 (.slice (some ⟨w3.heap.size, 0, none⟩) 0 0) 0 [] ?fr ?own (by omega) (some ⟨ab, ao, none⟩) k c1 (P1.flatMap cellsA) hf1 (by omega) ?src (cellsA_one P1) ?_); (case fr => (repeat (first | with_reducible exact Fr.refl _ | with_reducible assumption | with_reducible refine Fr.alloc ?_ _ | with_reducible refine Fr.drew ?_ | with_reducible refine Fr.drewN ?_ _ | (with_reducible refine Fr.setNew2 ?_ ?_ _; · (simp <;> omega)) | with_reducible refine Fr.trans ?_ (by assumption)))); (case own => first | exact own_nilB (Blk.new w3 63 #[]).drew (Nat.le_refl _) | exact own_nilB (Blk.new w3 63 #[]) (Nat.le_refl _) | fail); (case src => exact HS1.out.fr (FW3.trans (by (repeat (first | with_reducible exact Fr.refl _ | with_reducible assumption | with_reducible refine Fr.alloc ?_ _ | with_reducible refine Fr.drew ?_ | with_reducible refine Fr.drewN ?_ _ | (with_reducible refine Fr.setNew2 ?_ ?_ _; · (simp <;> omega)) | with_reducible refine Fr.trans ?_ (by assumption)))))); intro v5 w5 hO5 F5 KB; rw [Nat.zero_add, List.nil_append] at hO5; obtain ⟨A5, k5, rfl⟩ := own_form hO5; have C5 : Ch (· = w2.heap.size) w3 w5 := F5.ch; have HO5 := hid hO5; have HO45 := hid (own_keep (own_fr HO4.out (show Fr w3 _ by (repeat (first | with_reducible exact Fr.refl _ | with_reducible assumption | with_reducible refine Fr.alloc ?_ _ | with_reducible refine Fr.drew ?_ | with_reducible refine Fr.drewN ?_ _ | (with_reducible refine Fr.setNew2 ?_ ?_ _; · (simp <;> omega)) | with_reducible refine Fr.trans ?_ (by assumption))))) (fun g cs hB => KB g 3 cs (by decide) hB)); clear hO5 KB)
        | ((with_reducible refine upon_srcF 24 63 (.agg #[.int .i64 0, .int .i64 0, .int .i64 0]) 3 24 Tryz.underlying24 (by kernel_rfl) rfl (by decide) (by decide) w3 (.slice A5 k k5) k (P1.flatMap cellsA) ?fr ?own (by omega) (some ⟨ab, ao + (k + 1) * 3, none⟩) (n - (k + 1)) (c1 - (k + 1)) (P2.flatMap cellsA) hf2 (by omega) ?src (cellsA_one P2) ?_); (case fr => (repeat (first | with_reducible exact Fr.refl _ | with_reducible assumption | with_reducible refine Fr.alloc ?_ _ | with_reducible refine Fr.drew ?_ | with_reducible refine Fr.drewN ?_ _ | (with_reducible refine Fr.setNew2 ?_ ?_ _; · (simp <;> omega)) | with_reducible refine Fr.trans ?_ (by assumption)))); (case own => first | exact HO5.out | exact own_fr HO5.out (Fr.refl _).drew | fail); (case src => exact HS2.out.fr (FW3.trans (by (repeat (first | with_reducible exact Fr.refl _ | with_reducible assumption | with_reducible refine Fr.alloc ?_ _ | with_reducible refine Fr.drew ?_ | with_reducible refine Fr.drewN ?_ _ | (with_reducible refine Fr.setNew2 ?_ ?_ _; · (simp <;> omega)) | with_reducible refine Fr.trans ?_ (by assumption)))))); intro v6 w6 hO6 F6 KB; skip; obtain ⟨A6, k6, rfl⟩ := own_form hO6; have C6 : Ch (· = w2.heap.size) w3 w6 := F6.ch; have HO6 := hid hO6; have HO46 := hid (own_keep (own_fr HO45.out (show Fr w5 _ by (repeat (first | with_reducible exact Fr.refl _ | with_reducible assumption | with_reducible refine Fr.alloc ?_ _ | with_reducible refine Fr.drew ?_ | with_reducible refine Fr.drewN ?_ _ | (with_reducible refine Fr.setNew2 ?_ ?_ _; · (simp <;> omega)) | with_reducible refine Fr.trans ?_ (by assumption))))) (fun g cs hB => KB g 3 cs (by decide) hB)); clear hO6 KB; have B6 := BO.fr F6; obtain ⟨z0', z1', z2', zf0', zf1', zf2'⟩ := B6.three; have BRR := B1'.fr F6; obtain ⟨x0, x1, x2, xf0, xf1, xf2⟩ := BRR.three; have TT : Ch (· = w2.heap.size) w3 (w6.setCell ⟨w2.heap.size, 2, none⟩ (.slice A6 (k + (n - (k + 1))) k6)) := Ch.setAt C6 _ ())
        | fail)
    all_goals have BF := B6.set_ 2 (.slice A6 (k + (n - (k + 1))) k6)
    all_goals have O4 := mrow_set (o := 2) (u := .slice A6 (k + (n - (k + 1))) k6) HO46.out (mrow_ne HO46.out B6 (by decide))
    all_goals have O6 := mrow_set (o := 2) (u := .slice A6 (k + (n - (k + 1))) k6) HO6.out (mrow_ne HO6.out B6 (by decide))
    all_goals have FE : Fr w _ := TT.fr (fun j hj => by have : j = w2.heap.size := hj; omega) FW3
    all_goals have BR := BRR.far (p := ⟨w2.heap.size, 2, none⟩) (by show w.heap.size + 1 ≠ w2.heap.size; omega) (.slice A6 (k + (n - (k + 1))) k6)
    all_goals have HFIN := hid (withoutEnd (q := q) O4 O6 BR FE trivial HLEN (by omega) (by omega))
    all_goals have BE := ((BR.set_ 0 (.int .i64 q)).set_ 1 (.slice A3 hd.length k3)).set_ 2 (.slice A6 (k + (n - (k + 1))) k6)
    all_goals obtain ⟨y0, y1, y2, _⟩ := BF.three
    all_goals clear O4 O6 TT C5 C6 B6 BRR FE keepL HO4 HO46 HO45 HO5 HO6 z0' z1' z2' zf0' zf1' zf2' b0 b1 b2
    all_goals go_wp2
    all_goals (obtain ⟨u0, u1, u2, _⟩ := BE.three; clear BF BE BR y0 y1 y2 x0 x1 x2 xf0 xf1 xf2)
    all_goals generalize (((w6.setCell ⟨w2.heap.size, 2, none⟩ (.slice A6 (k + (n - (k + 1))) k6)).setCell ⟨w.heap.size + 1, 0, none⟩ (.int .i64 q)).setCell ⟨w.heap.size + 1, 1, none⟩ (.slice A3 hd.length k3)).setCell ⟨w.heap.size + 1, 2, none⟩ (.slice A6 (k + (n - (k + 1))) k6) = w9 at HFIN u0 u1 u2 ⊢
    all_goals refine bodyPost_ret (v := .agg #[.int .i64 q, .slice A3 hd.length k3, .slice A6 (k + (n - (k + 1))) k6]) (by simp [results, Tryz.results47, go_sem, u0, u1, u2]) rfl ?_
    all_goals exact HFIN.out
/- Walks of the generators of conjunctive queries: two queries. -/
/-- Two queries while they are drawn: their blocks, their rows; the results' blocks as they were made. -/
def T2 (w0 w : World) (r p g h : Nat) (qa : Int) (ha : List Int) (ba : List Atom) (qb : Int) (hb : List Int) (bb : List Atom) : Prop :=
  ∃ VA0 VA1 VB0 VB1, Blk w g 26 #[.int .i64 qa, VA0, VA1] ∧ Blk w h 26 #[.int .i64 qb, VB0, VB1] ∧ (w.ownsRow w0.heap.size 3 1 VA0 ha.length (ha.map iv) ∧ w.ownsRow w0.heap.size 63 3 VA1 ba.length (ba.flatMap cellsA)) ∧
    (w.ownsRow w0.heap.size 3 1 VB0 hb.length (hb.map iv) ∧ w.ownsRow w0.heap.size 63 3 VB1 bb.length (bb.flatMap cellsA)) ∧ Rdr w r p ∧ Ch (· = r) w0 w ∧ Blk w w0.heap.size 26 #[.int .i64 0, .slice none 0 0, .slice none 0 0] ∧ Blk w (w0.heap.size + 1) 26 #[.int .i64 0, .slice none 0 0, .slice none 0 0]
section
variable {w0 w w' : World} {r p p' g h : Nat} {qa qb : Int} {ha hb : List Int} {ba bb : List Atom}
theorem T2.ch (k : T2 w0 w r p g h qa ha ba qb hb bb) (hc : Ch (· = r) w w') (hr : Rdr w' r p') (hlt : r < w0.heap.size) (hg : w0.heap.size ≤ g) (hh : w0.heap.size ≤ h) : T2 w0 w' r p' g h qa ha ba qb hb bb := by
  obtain ⟨VA0, VA1, VB0, VB1, k1, k2, ⟨k3, k4⟩, ⟨k5, k6⟩, k7, k8, k9, k10⟩ := k
  exact ⟨VA0, VA1, VB0, VB1, k1.ch hc (by omega), k2.ch hc (by omega), ⟨gown_ch k3 hc hlt, gown_ch k4 hc hlt⟩, ⟨gown_ch k5 hc hlt, gown_ch k6 hc hlt⟩, hr, k8.trans hc, k9.ch hc (by omega), k10.ch hc (by omega)⟩
theorem T2.rdr (k : T2 w0 w r p g h qa ha ba qb hb bb) : Rdr w r p := by
  obtain ⟨_, _, _, _, _, _, _, _, k7, _⟩ := k
  exact k7
/-- A row of one's own that is cut is one. -/
theorem own_cut {base c n m : Nat} {A : Option Addr} {xs : List Atom} (hO : w.ownsRow base 63 3 (.slice A n c) n (xs.flatMap cellsA)) (hn : n = xs.length) (hm : m < n) : w.ownsRow base 63 3 (.slice A m c) m ((xs.take m).flatMap cellsA) := by
  have hl : (xs.take m).length = m := by simp; omega
  have hl3 := cellsA_len (xs.take m)
  rw [hl] at hl3
  rcases hO.2 with ⟨h1, h2⟩ | ⟨g', cap, cur, hv, hg, hh, hnc, hcm, hs, ht⟩
  · cases h1; omega
  · injection hv with hA _ hc
    subst hA hc
    refine ⟨hl3, .inr ⟨g', c, cur, rfl, hg, hh, by omega, hcm, hs, ?_⟩⟩
    have e1 : cur.toList.take (m * 3) = (cur.toList.take (n * 3)).take (m * 3) := by rw [List.take_take]; congr 1; omega
    rw [e1, ht]
    conv => lhs; rw [← List.take_append_drop m xs, List.flatMap_append]
    rw [List.take_append_of_le_length (by omega), List.take_of_length_le (by omega)]
end
/-- Two queries that have been drawn. -/
def TwoOut (w0 : World) (r p : Nat) (e : Ending) (w : World) : Prop := ∃ (qa : Int) (ha : List Int) (ba : List Atom) (qb : Int) (hb : List Int) (bb : List Atom) (A0 : Option Addr) (a0 : Nat) (A1 : Option Addr) (a1 : Nat) (B0 : Option Addr) (b0 : Nat) (B1 : Option Addr) (b1 : Nat),
  e = .returned (.tuple #[.agg #[.int .i64 qa, .slice A0 ha.length a0, .slice A1 ba.length a1], .agg #[.int .i64 qb, .slice B0 hb.length b0, .slice B1 bb.length b1]]) ∧
  (w.ownsRow w0.heap.size 3 1 (.slice A0 ha.length a0) ha.length (ha.map iv) ∧ w.ownsRow w0.heap.size 63 3 (.slice A1 ba.length a1) ba.length (ba.flatMap cellsA)) ∧
  (w.ownsRow w0.heap.size 3 1 (.slice B0 hb.length b0) hb.length (hb.map iv) ∧ w.ownsRow w0.heap.size 63 3 (.slice B1 bb.length b1) bb.length (bb.flatMap cellsA)) ∧
  (ha.length ≤ 3 ∧ ba.length ≤ 4 ∧ hb.length ≤ 3 ∧ bb.length ≤ 4 ∧ 0 ≤ qa ∧ (qa ≤ 4 ∨ qa = 7) ∧ 0 ≤ qb ∧ (qb ≤ 4 ∨ qb = 7)) ∧ Drawn 90 r p w0 w
/-- The end: two queries stored into the results' blocks. -/
theorem two_end {w0 w : World} {r p : Nat} {q1 q2 : Int} {h1 h2 : List Int} {b1 b2 : List Atom} {A0 A1 B0 B1 : Option Addr} {a0 a1 c0 c1 : Nat} (k3 : w.ownsRow w0.heap.size 3 1 (.slice A0 h1.length a0) h1.length (h1.map iv)) (k4 : w.ownsRow w0.heap.size 63 3 (.slice A1 b1.length a1) b1.length (b1.flatMap cellsA))
    (k5 : w.ownsRow w0.heap.size 3 1 (.slice B0 h2.length c0) h2.length (h2.map iv)) (k6 : w.ownsRow w0.heap.size 63 3 (.slice B1 b2.length c1) b2.length (b2.flatMap cellsA)) (k7 : Rdr w r p) (k8 : Ch (· = r) w0 w) (k9 : Blk w w0.heap.size 26 #[.int .i64 0, .slice none 0 0, .slice none 0 0]) (k10 : Blk w (w0.heap.size + 1) 26 #[.int .i64 0, .slice none 0 0, .slice none 0 0]) (hlt : r < w0.heap.size)
    (hb : h1.length ≤ 3 ∧ b1.length ≤ 4 ∧ h2.length ≤ 3 ∧ b2.length ≤ 4 ∧ 0 ≤ q1 ∧ (q1 ≤ 4 ∨ q1 = 7) ∧ 0 ≤ q2 ∧ (q2 ≤ 4 ∨ q2 = 7)) {p0 : Nat} (hp : p ≤ p0 + 90) :
    Blk ((((((w.setCell ⟨w0.heap.size, 0, none⟩ (.int .i64 q1)).setCell ⟨w0.heap.size, 1, none⟩ (.slice A0 h1.length a0)).setCell ⟨w0.heap.size, 2, none⟩ (.slice A1 b1.length a1)).setCell ⟨w0.heap.size + 1, 0, none⟩ (.int .i64 q2)).setCell ⟨w0.heap.size + 1, 1, none⟩ (.slice B0 h2.length c0)).setCell ⟨w0.heap.size + 1, 2, none⟩ (.slice B1 b2.length c1)) w0.heap.size 26 #[.int .i64 q1, .slice A0 h1.length a0, .slice A1 b1.length a1] ∧
    Blk ((((((w.setCell ⟨w0.heap.size, 0, none⟩ (.int .i64 q1)).setCell ⟨w0.heap.size, 1, none⟩ (.slice A0 h1.length a0)).setCell ⟨w0.heap.size, 2, none⟩ (.slice A1 b1.length a1)).setCell ⟨w0.heap.size + 1, 0, none⟩ (.int .i64 q2)).setCell ⟨w0.heap.size + 1, 1, none⟩ (.slice B0 h2.length c0)).setCell ⟨w0.heap.size + 1, 2, none⟩ (.slice B1 b2.length c1)) (w0.heap.size + 1) 26 #[.int .i64 q2, .slice B0 h2.length c0, .slice B1 b2.length c1] ∧
    TwoOut w0 r p0 (.returned (.tuple #[.agg #[.int .i64 q1, .slice A0 h1.length a0, .slice A1 b1.length a1], .agg #[.int .i64 q2, .slice B0 h2.length c0, .slice B1 b2.length c1]])) ((((((w.setCell ⟨w0.heap.size, 0, none⟩ (.int .i64 q1)).setCell ⟨w0.heap.size, 1, none⟩ (.slice A0 h1.length a0)).setCell ⟨w0.heap.size, 2, none⟩ (.slice A1 b1.length a1)).setCell ⟨w0.heap.size + 1, 0, none⟩ (.int .i64 q2)).setCell ⟨w0.heap.size + 1, 1, none⟩ (.slice B0 h2.length c0)).setCell ⟨w0.heap.size + 1, 2, none⟩ (.slice B1 b2.length c1)) := by
  have e3 := own_ne k3 k9 (by decide)
  have e4 := own_ne k4 k9 (by decide)
  have e5 := own_ne k5 k9 (by decide)
  have e6 := own_ne k6 k9 (by decide)
  have f3 := own_ne k3 k10 (by decide)
  have f4 := own_ne k4 k10 (by decide)
  have f5 := own_ne k5 k10 (by decide)
  have f6 := own_ne k6 k10 (by decide)
  have n1 : ∀ (o : Nat), w0.heap.size ≠ (⟨w0.heap.size + 1, o, none⟩ : Addr).block := fun o => by show w0.heap.size ≠ w0.heap.size + 1; omega
  have n2 : ∀ (o : Nat), w0.heap.size + 1 ≠ (⟨w0.heap.size, o, none⟩ : Addr).block := fun o => by show w0.heap.size + 1 ≠ w0.heap.size; omega
  have m1 : ∀ (o : Nat), r < (⟨w0.heap.size, o, none⟩ : Addr).block := fun o => by show r < w0.heap.size; omega
  have m2 : ∀ (o : Nat), r < (⟨w0.heap.size + 1, o, none⟩ : Addr).block := fun o => by show r < w0.heap.size + 1; omega
  refine ⟨((((((k9.set_ 0 _).set_ 1 _).set_ 2 _).far (n1 _) _).far (n1 _) _).far (n1 _) _), (((((k10.far (n2 _) _).far (n2 _) _).far (n2 _) _).set_ 0 _).set_ 1 _).set_ 2 _, q1, h1, b1, q2, h2, b2, A0, a0, A1, a1, B0, c0, B1, c1, rfl,
    ⟨own_set (own_set (own_set (own_set (own_set (own_set k3 e3) e3) e3) f3) f3) f3, own_set (own_set (own_set (own_set (own_set (own_set k4 e4) e4) e4) f4) f4) f4⟩,
    ⟨own_set (own_set (own_set (own_set (own_set (own_set k5 e5) e5) e5) f5) f5) f5, own_set (own_set (own_set (own_set (own_set (own_set k6 e6) e6) e6) f6) f6) f6⟩, hb, p, hp,
    (((((k7.set (m1 _) _).set (m1 _) _).set (m1 _) _).set (m2 _) _).set (m2 _) _).set (m2 _) _,
    (((((k8.setNew (Nat.le_refl _) _).setNew (Nat.le_refl _) _).setNew (Nat.le_refl _) _).setNew (Nat.le_succ _) _).setNew (Nat.le_succ _) _).setNew (Nat.le_succ _) _⟩
theorem own_nilcap {w : World} {base e sz n c : Nat} {A : Option Addr} {xs : List Value} (h : w.ownsRow base e sz (.slice A n c) n xs) : A = none → c = 0 := fun hA => by
  subst hA
  rcases h.2 with ⟨h1, _⟩ | ⟨g, cap, cur, hv, _⟩
  · cases h1; rfl
  · cases hv
/-- The second query is another one. -/
theorem T2.setB {w0 w : World} {r p g h : Nat} {qa qb q : Int} {ha hb hd : List Int} {ba bb bd : List Atom} {C0 C1 : Option Addr} {c0 c1 : Nat} (k : T2 w0 w r p g h qa ha ba qb hb bb) (hR : w.ownsRow w0.heap.size 3 1 (.slice C0 hd.length c0) hd.length (hd.map iv)) (hE : w.ownsRow w0.heap.size 63 3 (.slice C1 bd.length c1) bd.length (bd.flatMap cellsA)) (hlt : r < w0.heap.size) (hgh : g < h) (hg : w0.heap.size + 1 < g) :
    T2 w0 (((w.setCell ⟨h, 0, none⟩ (.int .i64 q)).setCell ⟨h, 1, none⟩ (.slice C0 hd.length c0)).setCell ⟨h, 2, none⟩ (.slice C1 bd.length c1)) r p g h qa ha ba q hd bd := by
  obtain ⟨VA0, VA1, VB0, VB1, k1, k2, ⟨k3, k4⟩, _, k7, k8, k9, k10⟩ := k
  have e3 := own_ne k3 k2 (by decide)
  have e4 := own_ne k4 k2 (by decide)
  have e5 := own_ne hR k2 (by decide)
  have e6 := own_ne hE k2 (by decide)
  have n1 : ∀ (o : Nat), g ≠ (⟨h, o, none⟩ : Addr).block := fun o => by show g ≠ h; omega
  have n2 : ∀ (o : Nat), w0.heap.size ≠ (⟨h, o, none⟩ : Addr).block := fun o => by show w0.heap.size ≠ h; omega
  have n3 : ∀ (o : Nat), w0.heap.size + 1 ≠ (⟨h, o, none⟩ : Addr).block := fun o => by show w0.heap.size + 1 ≠ h; omega
  have m1 : ∀ (o : Nat), r < (⟨h, o, none⟩ : Addr).block := fun o => by show r < h; omega
  have m2 : ∀ (o : Nat), w0.heap.size ≤ (⟨h, o, none⟩ : Addr).block := fun o => by show w0.heap.size ≤ h; omega
  exact ⟨VA0, VA1, _, _, ((k1.far (n1 _) _).far (n1 _) _).far (n1 _) _, ((k2.set_ 0 _).set_ 1 _).set_ 2 _, ⟨own_set (own_set (own_set k3 e3) e3) e3, own_set (own_set (own_set k4 e4) e4) e4⟩, ⟨own_set (own_set (own_set hR e5) e5) e5, own_set (own_set (own_set hE e6) e6) e6⟩,
    ((k7.set (m1 _) _).set (m1 _) _).set (m1 _) _, ((k8.setNew (m2 _) _).setNew (m2 _) _).setNew (m2 _) _, ((k9.far (n2 _) _).far (n2 _) _).far (n2 _) _, ((k10.far (n3 _) _).far (n3 _) _).far (n3 _) _⟩
/-- Its body is cut. -/
theorem T2.cut {w0 w : World} {r p g h m : Nat} {qa qb : Int} {ha hb : List Int} {ba bb : List Atom} {C1 : Option Addr} {c1 : Nat} (k : T2 w0 w r p g h qa ha ba qb hb bb) (hc : w.cell? ⟨h, 2, none⟩ = some (.slice C1 bb.length c1)) (hm : m < bb.length) (hlt : r < w0.heap.size) (hgh : g < h) (hg : w0.heap.size + 1 < g) :
    T2 w0 (w.setCell ⟨h, 2, none⟩ (.slice C1 m c1)) r p g h qa ha ba qb hb (bb.take m) := by
  obtain ⟨VA0, VA1, VB0, VB1, k1, k2, ⟨k3, k4⟩, ⟨k5, k6⟩, k7, k8, k9, k10⟩ := k
  have e0 : VB1 = .slice C1 bb.length c1 := by
    have h2 : w.cell? ⟨h, 2, none⟩ = some VB1 := k2.cell 2
    rw [h2] at hc
    exact Option.some.inj hc
  subst e0
  have e3 := own_ne k3 k2 (by decide)
  have e4 := own_ne k4 k2 (by decide)
  have e5 := own_ne k5 k2 (by decide)
  have k6' := own_cut k6 rfl hm
  have e6 := own_ne k6' k2 (by decide)
  have hl : (bb.take m).length = m := by simp; omega
  exact ⟨VA0, VA1, _, _, k1.far (by show g ≠ h; omega) _, k2.set_ 2 _, ⟨own_set k3 e3, own_set k4 e4⟩, ⟨own_set k5 e5, by rw [hl]; exact own_set k6' e6⟩, k7.set (by show r < h; omega) _, k8.setNew (by show w0.heap.size ≤ h; omega) _, k9.far (by show w0.heap.size ≠ h; omega) _, k10.far (by show w0.heap.size + 1 ≠ h; omega) _⟩
set_option maxRecDepth 100000 in
set_option maxHeartbeats 4000000 in
theorem twoRules (r p : Nat) (w : World) (hr : Rdr w r p) (hp : p ≤ 800000) :
    Calls Tryz.prog 23 #[.pointer (some ⟨r, 0, none⟩)] w (TwoOut w r p) := by
  have hlt := hr.lt
  have BQ := (Blk.new w 26 #[.int .i64 0, .slice none 0 0, .slice none 0 0]).alloc (.cells #[.int .i64 0, .slice none 0 0, .slice none 0 0] 26)
  have BR := blk_new1 w (.cells #[.int .i64 0, .slice none 0 0, .slice none 0 0] 26) 26 #[.int .i64 0, .slice none 0 0, .slice none 0 0]
  have F0 : Fr w ((w.alloc (.cells #[.int .i64 0, .slice none 0 0, .slice none 0 0] 26)).alloc (.cells #[.int .i64 0, .slice none 0 0, .slice none 0 0] 26)) := by (repeat (first | with_reducible exact Fr.refl _ | with_reducible assumption | with_reducible refine Fr.alloc ?_ _ | with_reducible refine Fr.drew ?_ | with_reducible refine Fr.drewN ?_ _ | (with_reducible refine Fr.setNew2 ?_ ?_ _; · (simp <;> omega)) | with_reducible refine Fr.trans ?_ (by assumption)))
  go_enter Tryz.func23, Tryz.ntmps23
  go_wp2_with fail
  refine absW fun W0 hW0 => ?_
  rw [← hW0] at BQ BR F0
  clear hW0
  have hs0 := BR.lt
  refine (anyRule r p _ (hr.fr F0) (by omega)).mono ?_
  rintro e w1 ⟨qa, ha, ba, ⟨A0, a0, A1, a1, rfl, hR, hE⟩, hqa0, hqa4, hla, hlba, p1, hp1, hr1, hc1⟩
  have BQ1 := hid ((BQ.ch hc1 (by omega)).alloc (.cells #[.int .i64 qa, .slice A0 ha.length a0, .slice A1 ba.length a1] 26))
  have BR1 := hid ((BR.ch hc1 (by omega)).alloc (.cells #[.int .i64 qa, .slice A0 ha.length a0, .slice A1 ba.length a1] 26))
  have BA1 := hid (Blk.new w1 26 #[.int .i64 qa, .slice A0 ha.length a0, .slice A1 ba.length a1])
  have hs1 := hc1.size
  have RA1 := hid (own_base (own_fr hR ((Fr.refl _).alloc (.cells #[.int .i64 qa, .slice A0 ha.length a0, .slice A1 ba.length a1] 26))) (show w.heap.size ≤ W0.heap.size by omega))
  have EA1 := hid (own_base (own_fr hE ((Fr.refl _).alloc (.cells #[.int .i64 qa, .slice A0 ha.length a0, .slice A1 ba.length a1] 26))) (show w.heap.size ≤ W0.heap.size by omega))
  have C1 : Ch (· = r) w (w1.alloc (.cells #[.int .i64 qa, .slice A0 ha.length a0, .slice A1 ba.length a1] 26)) := (F0.ch.trans hc1).alloc _
  have hr1' := hr1.alloc (.cells #[.int .i64 qa, .slice A0 ha.length a0, .slice A1 ba.length a1] 26)
  obtain ⟨g4, eg4⟩ : ∃ g, w1.heap.size = g := ⟨_, rfl⟩
  clear hR hE hc1 hr1 BQ BR
  go_wp2_with fail
  refine absW fun W1 hW1 => ?_
  rw [← hW1] at BQ1 BR1 BA1 RA1 EA1 C1 hr1'
  rw [eg4] at BA1 hs1
  have hg4 := BA1.out.lt
  clear hW1
  refine (anyRule r p1 _ hr1' (by omega)).mono ?_
  rintro e w2 ⟨qb, hb, bb, ⟨B0, b0, B1, b1, rfl, hR, hE⟩, hqb0, hqb4, hlb, hlbb, p2, hp2, hr2, hc2⟩
  have S2 := hid (show T2 w (w2.alloc (.cells #[.int .i64 qb, .slice B0 hb.length b0, .slice B1 bb.length b1] 26)) r p2 g4 w2.heap.size qa ha ba qb hb bb from
    ⟨_, _, _, _, (BA1.out.ch hc2 (by omega)).alloc _, Blk.new _ _ _, ⟨own_fr (gown_ch RA1.out hc2 hlt) ((Fr.refl _).alloc _), own_fr (gown_ch EA1.out hc2 hlt) ((Fr.refl _).alloc _)⟩, ⟨own_base (own_fr hR ((Fr.refl _).alloc _)) C1.size, own_base (own_fr hE ((Fr.refl _).alloc _)) C1.size⟩, hr2.alloc _, (C1.trans hc2).alloc _, (BQ1.out.ch hc2 (by omega)).alloc _, (BR1.out.ch hc2 (by omega)).alloc _⟩)
  have hs2 := hc2.size
  obtain ⟨g5, eg5⟩ : ∃ g, w2.heap.size = g := ⟨_, rfl⟩
  rw [eg5] at hs2
  clear hR hE hc2 hr2 hr1' BQ1 BR1 BA1 RA1 EA1 C1 eg4
  go_wp2_with fail
  refine absW fun W2 hW2 => ?_
  rw [← hW2, eg5] at S2
  clear hW2 eg5
  refine (pick _ r _ _ S2.out.rdr (by omega) (by omega)).mono ?_
  rintro e w3 ⟨v, rfl, _, hr3, hc3⟩
  have S3 := hid (S2.out.ch hc3 hr3 hlt (by omega) (by omega))
  clear S2 hr3 hc3
  by_cases hgo : v = 0 ∧ 1 < ba.length
  · obtain ⟨rfl, hba1⟩ := hgo
    obtain ⟨m, hm⟩ : ∃ m, ba.length = m + 1 := ⟨ba.length - 1, by omega⟩
    have hba : decide (1 < ba.length) = true := decide_eq_true (by omega)
    have hba' : decide ((1 : Int) < (ba.length : Int)) = true := decide_eq_true (by omega)
    obtain ⟨VA0, VA1, VB0, VB1, k1, k2, ⟨k3, k4⟩, ⟨k5, k6⟩, k7, k8, k9, k10⟩ := S3.out
    obtain ⟨E0, e0, rfl⟩ := own_form k3
    obtain ⟨E1, e1, rfl⟩ := own_form k4
    obtain ⟨x0, x1, x2, _⟩ := k1.three
    obtain ⟨y0, y1, y2, yf0, yf1, yf2⟩ := k2.three
    have hws := k8.size
    have CR := hid (copyRuleW qa E0 E1 e0 e1 ha ba w3 ((own_int k3 rfl).mono rdInt_mono (fromB_le _ _)) ((own_A k4 rfl).mono rdAtom_mono (fromB_le _ _)) (by omega) (by omega) (own_nilcap k3) (own_nilcap k4))
    clear k3 k4 k5 k6 k7 k8 k9 k10 k1
    have HM := hid hm
    clear hm
    go_wp2_with fail
    refine CR.out.mono ?_
    rintro e w4 ⟨⟨C0, c0, C1, c1, rfl, hR, hE⟩, hF⟩
    obtain ⟨ab, hab⟩ : ∃ ab : Nat, C1 = some ⟨ab, 0, none⟩ := by
      rcases hE.2 with ⟨_, h⟩ | ⟨g, cap, cur, hv, _⟩
      · omega
      · injection hv with hA _ _; exact ⟨g, hA⟩
    subst hab
    have hcap := (own_capM hE).1
    have S4 := S3.out.ch hF.ch (S3.out.rdr.fr hF) hlt (by omega) (by omega)
    have SB := hid (S4.setB (q := qa) (own_base hR hws) (own_base hE hws) hlt (by omega) (by omega))
    obtain ⟨z0, z1, z2, zf0, zf1, zf2⟩ := (k2.fr hF).three
    have hg5w := (k2.fr hF).lt
    have K2 := k2.fr hF
    clear hR hE S4 k2 CR S3 y0 y1 y2 yf0 yf1 yf2 x0 x1 x2 hF
    go_wp2_with fail
    have hc7 : (((w4.setCell ⟨g5, 0, none⟩ (.int .i64 qa)).setCell ⟨g5, 1, none⟩ (.slice C0 ha.length c0)).setCell ⟨g5, 2, none⟩ (.slice (some ⟨ab, 0, none⟩) ba.length c1)).cell? ⟨g5, 2, none⟩ = some (.slice (some ⟨ab, 0, none⟩) ba.length c1) := (((K2.set_ 0 _).set_ 1 _).set_ 2 _).cell 2
    clear K2
    generalize ((w4.setCell ⟨g5, 0, none⟩ (.int .i64 qa)).setCell ⟨g5, 1, none⟩ (.slice C0 ha.length c0)).setCell ⟨g5, 2, none⟩ (.slice (some ⟨ab, 0, none⟩) ba.length c1) = w7 at SB hc7 ⊢
    have hcut : w7.cell? ⟨g5, 2, none⟩ = some (.slice (some ⟨ab, 0, none⟩) ba.length c1) := hc7
    have S7 := SB.out.cut (m := ba.length - 1) hcut (by omega) hlt (by omega) (by omega)
    obtain ⟨bb', hbb'⟩ : ∃ bb', ba.take (ba.length - 1) = bb' := ⟨_, rfl⟩
    rw [hbb'] at S7
    have hl' : bb'.length ≤ 4 := by rw [← hbb']; simp; omega
    have S8 := hid S7
    clear S7 hcut SB hbb' hc7
    generalize w7.setCell ⟨g5, 2, none⟩ (.slice (some ⟨ab, 0, none⟩) (ba.length - 1) c1) = w8 at S8 ⊢
    refine (pick _ r _ _ S8.out.rdr (by omega) (by omega)).mono ?_
    rintro e w5 ⟨u, rfl, _, hr5, hc5⟩
    have S5 := hid (S8.out.ch hc5 hr5 hlt (by omega) (by omega))
    clear hr5 hc5 S8
    cases e9 : ((u : Int) == 0)
    · go_wp2_with fail
      have S6 := hid (S5.out.ch (Ch.refl w5).drew S5.out.rdr.drew hlt (by omega) (by omega))
      obtain ⟨VA0, VA1, VB0, VB1, k1, k2, ⟨k3, k4⟩, ⟨k5, k6⟩, k7, k8, k9, k10⟩ := S6.out
      obtain ⟨E0, e0, rfl⟩ := own_form k3
      obtain ⟨E1, e1, rfl⟩ := own_form k4
      obtain ⟨G0, c0, rfl⟩ := own_form k5
      obtain ⟨G1, c1, rfl⟩ := own_form k6
      refine wp_region_T (fun W => (W.cell? ⟨g4, 0, none⟩ = some (.int .i64 qa) ∧ W.cell? ⟨g4, 1, none⟩ = some (.slice E0 ha.length e0) ∧ W.cell? ⟨g4, 2, none⟩ = some (.slice E1 ba.length e1)) ∧ (W.cell? ⟨g5, 0, none⟩ = some (.int .i64 qa) ∧ W.cell? ⟨g5, 1, none⟩ = some (.slice G0 ha.length c0) ∧ W.cell? ⟨g5, 2, none⟩ = some (.slice G1 bb'.length c1))) 3 (by kernel_rfl) ?_
      clear S6
      generalize w5.drew = w6 at k1 k2 k3 k4 k5 k6 k7 k8 k9 k10 ⊢
      have keepQ : ∀ W, Blk W g4 26 #[.int .i64 qa, .slice E0 ha.length e0, .slice E1 ba.length e1] → Blk W g5 26 #[.int .i64 qa, .slice G0 ha.length c0, .slice G1 bb'.length c1] → _ := fun W x y => And.intro (And.intro (x.cell 0) (And.intro (x.cell 1) (x.cell 2))) (And.intro (y.cell 0) (And.intro (y.cell 1) (y.cell 2)))
      have HS : (w6.cell? ⟨g4, 0, none⟩ = some (.int .i64 qa) ∧ w6.cell? ⟨g4, 1, none⟩ = some (.slice E0 ha.length e0) ∧ w6.cell? ⟨g4, 2, none⟩ = some (.slice E1 ba.length e1)) ∧ (w6.cell? ⟨g5, 0, none⟩ = some (.int .i64 qa) ∧ w6.cell? ⟨g5, 1, none⟩ = some (.slice G0 ha.length c0) ∧ w6.cell? ⟨g5, 2, none⟩ = some (.slice G1 bb'.length c1)) := keepQ _ k1 k2
      obtain ⟨d0, d1, d2, f0, f1, f2⟩ := k9.three
      obtain ⟨d0', d1', d2', f0', f1', f2'⟩ := k10.three
      have o1 : ¬ (g4 = w.heap.size) := by omega
      have o2 : ¬ (g5 = w.heap.size) := by omega
      have o3 : ¬ (w.heap.size = w.heap.size + 1) := by omega
      have o4 : ¬ (w.heap.size + 1 = w.heap.size) := by omega
      have KE := hid (two_end (p0 := p) (q1 := qa) (q2 := qa) k3 k4 k5 k6 k7 k8 k9 k10 hlt (by omega) (by omega))
      ((refine wpAnyT_take 0 (v := ?_) rfl (by kernel_rfl) (fun _ _ _ h => h) (Or.inl ⟨by rfl, ?_⟩) (by assumption) ?_; rotate_left; (focus (intro W hSw; (try dsimp only at hSw); go_simp; (try with_reducible rfl); done)); (try simp only [Act.put, List.setIfInBounds_toArray, List.set_cons_zero, List.set_cons_succ])); (refine wpAnyT_take 1 (v := ?_) rfl (by kernel_rfl) (fun _ _ _ h => h) (Or.inl ⟨by rfl, ?_⟩) (by assumption) ?_; rotate_left; (focus (intro W hSw; (try dsimp only at hSw); go_simp; (try with_reducible rfl); done)); (try simp only [Act.put, List.setIfInBounds_toArray, List.set_cons_zero, List.set_cons_succ])))
      ((refine wpAnyT_one 2 rfl (by kernel_rfl) (fun K hK => ?_); go_simp))
      have HS := keepQ (((w6.setCell ⟨w.heap.size, 0, none⟩ (.int .i64 qa)).setCell ⟨w.heap.size, 1, none⟩ (.slice E0 ha.length e0)).setCell ⟨w.heap.size, 2, none⟩ (.slice E1 ba.length e1)) (((k1.far (by exact o1) _).far (by exact o1) _).far (by exact o1) _) (((k2.far (by exact o2) _).far (by exact o2) _).far (by exact o2) _)
      ((try dsimp only); refine hK.out _ _ (fun _ => HS) (fun _ => ?_); clear hK K; (try simp only [Act.put, List.setIfInBounds_toArray, List.set_cons_zero, List.set_cons_succ]))
      clear k1 k2 k3 k4 k5 k6 k7 k8 k9 k10 S5 HS keepQ
      ((refine wpAnyT_one 3 rfl (by kernel_rfl) (fun K hK => ?_); go_simp))
      ((try dsimp only); refine hK.out _ _ (fun h => absurd rfl h) (fun _ => ?_); clear hK K; (try simp only [Act.put, List.setIfInBounds_toArray, List.set_cons_zero, List.set_cons_succ]); refine wpAnyT_done (by kernel_rfl) ?_ _)
      go_wp2
      obtain ⟨z1, z2, z3⟩ := KE.out
      generalize ((((((w6.setCell ⟨w.heap.size, 0, none⟩ (.int .i64 qa)).setCell ⟨w.heap.size, 1, none⟩ (.slice E0 ha.length e0)).setCell ⟨w.heap.size, 2, none⟩ (.slice E1 ba.length e1)).setCell ⟨w.heap.size + 1, 0, none⟩ (.int .i64 qa)).setCell ⟨w.heap.size + 1, 1, none⟩ (.slice G0 ha.length c0)).setCell ⟨w.heap.size + 1, 2, none⟩ (.slice G1 bb'.length c1)) = w9 at z1 z2 z3 ⊢
      obtain ⟨u0, u1, u2, _⟩ := z1.three
      obtain ⟨v0, v1, v2, _⟩ := z2.three
      exact bodyPost_ret (v := .tuple #[.agg #[.int .i64 qa, .slice E0 ha.length e0, .slice E1 ba.length e1], .agg #[.int .i64 qa, .slice G0 ha.length c0, .slice G1 bb'.length c1]]) (by simp [results, Tryz.results23, go_sem, u0, u1, u2, v0, v1, v2]) rfl z3
    · go_wp2_with fail
      have S6 := hid (S5.out.ch (Ch.refl w5).drew S5.out.rdr.drew hlt (by omega) (by omega))
      obtain ⟨VA0, VA1, VB0, VB1, k1, k2, ⟨k3, k4⟩, ⟨k5, k6⟩, k7, k8, k9, k10⟩ := S6.out
      obtain ⟨E0, e0, rfl⟩ := own_form k3
      obtain ⟨E1, e1, rfl⟩ := own_form k4
      obtain ⟨G0, c0, rfl⟩ := own_form k5
      obtain ⟨G1, c1, rfl⟩ := own_form k6
      refine wp_region_T (fun W => (W.cell? ⟨g4, 0, none⟩ = some (.int .i64 qa) ∧ W.cell? ⟨g4, 1, none⟩ = some (.slice E0 ha.length e0) ∧ W.cell? ⟨g4, 2, none⟩ = some (.slice E1 ba.length e1)) ∧ (W.cell? ⟨g5, 0, none⟩ = some (.int .i64 qa) ∧ W.cell? ⟨g5, 1, none⟩ = some (.slice G0 ha.length c0) ∧ W.cell? ⟨g5, 2, none⟩ = some (.slice G1 bb'.length c1))) 3 (by kernel_rfl) ?_
      clear S6
      generalize w5.drew = w6 at k1 k2 k3 k4 k5 k6 k7 k8 k9 k10 ⊢
      have keepQ : ∀ W, Blk W g4 26 #[.int .i64 qa, .slice E0 ha.length e0, .slice E1 ba.length e1] → Blk W g5 26 #[.int .i64 qa, .slice G0 ha.length c0, .slice G1 bb'.length c1] → _ := fun W x y => And.intro (And.intro (x.cell 0) (And.intro (x.cell 1) (x.cell 2))) (And.intro (y.cell 0) (And.intro (y.cell 1) (y.cell 2)))
      have HS : (w6.cell? ⟨g4, 0, none⟩ = some (.int .i64 qa) ∧ w6.cell? ⟨g4, 1, none⟩ = some (.slice E0 ha.length e0) ∧ w6.cell? ⟨g4, 2, none⟩ = some (.slice E1 ba.length e1)) ∧ (w6.cell? ⟨g5, 0, none⟩ = some (.int .i64 qa) ∧ w6.cell? ⟨g5, 1, none⟩ = some (.slice G0 ha.length c0) ∧ w6.cell? ⟨g5, 2, none⟩ = some (.slice G1 bb'.length c1)) := keepQ _ k1 k2
      obtain ⟨d0, d1, d2, f0, f1, f2⟩ := k9.three
      obtain ⟨d0', d1', d2', f0', f1', f2'⟩ := k10.three
      have o1 : ¬ (g4 = w.heap.size) := by omega
      have o2 : ¬ (g5 = w.heap.size) := by omega
      have o3 : ¬ (w.heap.size = w.heap.size + 1) := by omega
      have o4 : ¬ (w.heap.size + 1 = w.heap.size) := by omega
      have KE := hid (two_end (p0 := p) (q1 := qa) (q2 := qa) k5 k6 k3 k4 k7 k8 k9 k10 hlt (by omega) (by omega))
      ((refine wpAnyT_take 0 (v := ?_) rfl (by kernel_rfl) (fun _ _ _ h => h) (Or.inl ⟨by rfl, ?_⟩) (by assumption) ?_; rotate_left; (focus (intro W hSw; (try dsimp only at hSw); go_simp; (try with_reducible rfl); done)); (try simp only [Act.put, List.setIfInBounds_toArray, List.set_cons_zero, List.set_cons_succ])); (refine wpAnyT_take 1 (v := ?_) rfl (by kernel_rfl) (fun _ _ _ h => h) (Or.inl ⟨by rfl, ?_⟩) (by assumption) ?_; rotate_left; (focus (intro W hSw; (try dsimp only at hSw); go_simp; (try with_reducible rfl); done)); (try simp only [Act.put, List.setIfInBounds_toArray, List.set_cons_zero, List.set_cons_succ])))
      ((refine wpAnyT_one 2 rfl (by kernel_rfl) (fun K hK => ?_); go_simp))
      have HS := keepQ (((w6.setCell ⟨w.heap.size, 0, none⟩ (.int .i64 qa)).setCell ⟨w.heap.size, 1, none⟩ (.slice G0 ha.length c0)).setCell ⟨w.heap.size, 2, none⟩ (.slice G1 bb'.length c1)) (((k1.far (by exact o1) _).far (by exact o1) _).far (by exact o1) _) (((k2.far (by exact o2) _).far (by exact o2) _).far (by exact o2) _)
      ((try dsimp only); refine hK.out _ _ (fun _ => HS) (fun _ => ?_); clear hK K; (try simp only [Act.put, List.setIfInBounds_toArray, List.set_cons_zero, List.set_cons_succ]))
      clear k1 k2 k3 k4 k5 k6 k7 k8 k9 k10 S5 HS keepQ
      ((refine wpAnyT_one 3 rfl (by kernel_rfl) (fun K hK => ?_); go_simp))
      ((try dsimp only); refine hK.out _ _ (fun h => absurd rfl h) (fun _ => ?_); clear hK K; (try simp only [Act.put, List.setIfInBounds_toArray, List.set_cons_zero, List.set_cons_succ]); refine wpAnyT_done (by kernel_rfl) ?_ _)
      go_wp2
      obtain ⟨z1, z2, z3⟩ := KE.out
      generalize ((((((w6.setCell ⟨w.heap.size, 0, none⟩ (.int .i64 qa)).setCell ⟨w.heap.size, 1, none⟩ (.slice G0 ha.length c0)).setCell ⟨w.heap.size, 2, none⟩ (.slice G1 bb'.length c1)).setCell ⟨w.heap.size + 1, 0, none⟩ (.int .i64 qa)).setCell ⟨w.heap.size + 1, 1, none⟩ (.slice E0 ha.length e0)).setCell ⟨w.heap.size + 1, 2, none⟩ (.slice E1 ba.length e1)) = w9 at z1 z2 z3 ⊢
      obtain ⟨u0, u1, u2, _⟩ := z1.three
      obtain ⟨v0, v1, v2, _⟩ := z2.three
      exact bodyPost_ret (v := .tuple #[.agg #[.int .i64 qa, .slice G0 ha.length c0, .slice G1 bb'.length c1], .agg #[.int .i64 qa, .slice E0 ha.length e0, .slice E1 ba.length e1]]) (by simp [results, Tryz.results23, go_sem, u0, u1, u2, v0, v1, v2]) rfl z3
  · by_cases hv0 : v = 0
    · subst hv0
      have hba : decide (1 < ba.length) = false := decide_eq_false (by omega)
      have hba' : decide ((1 : Int) < (ba.length : Int)) = false := decide_eq_false (by omega)
      obtain ⟨E, f, hE2⟩ : ∃ E f, w3.cell? ⟨g4, 2, none⟩ = some (.slice E ba.length f) := by
        obtain ⟨VA0, VA1, VB0, VB1, k1, _, ⟨_, k4⟩, _⟩ := S3.out
        obtain ⟨E1, e1, rfl⟩ := own_form k4
        exact ⟨E1, e1, k1.cell 2⟩
      go_wp2_with fail
      refine (pick _ r _ _ S3.out.rdr (by omega) (by omega)).mono ?_
      rintro e w5 ⟨u, rfl, _, hr5, hc5⟩
      have S5 := hid (S3.out.ch hc5 hr5 hlt (by omega) (by omega))
      clear hr5 hc5 S3
      cases e9 : ((u : Int) == 0)
      · go_wp2_with fail
        have S6 := hid (S5.out.ch (Ch.refl w5).drew S5.out.rdr.drew hlt (by omega) (by omega))
        obtain ⟨VA0, VA1, VB0, VB1, k1, k2, ⟨k3, k4⟩, ⟨k5, k6⟩, k7, k8, k9, k10⟩ := S6.out
        obtain ⟨E0, e0, rfl⟩ := own_form k3
        obtain ⟨E1, e1, rfl⟩ := own_form k4
        obtain ⟨G0, c0, rfl⟩ := own_form k5
        obtain ⟨G1, c1, rfl⟩ := own_form k6
        refine wp_region_T (fun W => (W.cell? ⟨g4, 0, none⟩ = some (.int .i64 qa) ∧ W.cell? ⟨g4, 1, none⟩ = some (.slice E0 ha.length e0) ∧ W.cell? ⟨g4, 2, none⟩ = some (.slice E1 ba.length e1)) ∧ (W.cell? ⟨g5, 0, none⟩ = some (.int .i64 qb) ∧ W.cell? ⟨g5, 1, none⟩ = some (.slice G0 hb.length c0) ∧ W.cell? ⟨g5, 2, none⟩ = some (.slice G1 bb.length c1))) 3 (by kernel_rfl) ?_
        clear S6
        generalize w5.drew = w6 at k1 k2 k3 k4 k5 k6 k7 k8 k9 k10 ⊢
        have keepQ : ∀ W, Blk W g4 26 #[.int .i64 qa, .slice E0 ha.length e0, .slice E1 ba.length e1] → Blk W g5 26 #[.int .i64 qb, .slice G0 hb.length c0, .slice G1 bb.length c1] → _ := fun W x y => And.intro (And.intro (x.cell 0) (And.intro (x.cell 1) (x.cell 2))) (And.intro (y.cell 0) (And.intro (y.cell 1) (y.cell 2)))
        have HS : (w6.cell? ⟨g4, 0, none⟩ = some (.int .i64 qa) ∧ w6.cell? ⟨g4, 1, none⟩ = some (.slice E0 ha.length e0) ∧ w6.cell? ⟨g4, 2, none⟩ = some (.slice E1 ba.length e1)) ∧ (w6.cell? ⟨g5, 0, none⟩ = some (.int .i64 qb) ∧ w6.cell? ⟨g5, 1, none⟩ = some (.slice G0 hb.length c0) ∧ w6.cell? ⟨g5, 2, none⟩ = some (.slice G1 bb.length c1)) := keepQ _ k1 k2
        obtain ⟨d0, d1, d2, f0, f1, f2⟩ := k9.three
        obtain ⟨d0', d1', d2', f0', f1', f2'⟩ := k10.three
        have o1 : ¬ (g4 = w.heap.size) := by omega
        have o2 : ¬ (g5 = w.heap.size) := by omega
        have o3 : ¬ (w.heap.size = w.heap.size + 1) := by omega
        have o4 : ¬ (w.heap.size + 1 = w.heap.size) := by omega
        have KE := hid (two_end (p0 := p) (q1 := qa) (q2 := qb) k3 k4 k5 k6 k7 k8 k9 k10 hlt (by omega) (by omega))
        ((refine wpAnyT_take 0 (v := ?_) rfl (by kernel_rfl) (fun _ _ _ h => h) (Or.inl ⟨by rfl, ?_⟩) (by assumption) ?_; rotate_left; (focus (intro W hSw; (try dsimp only at hSw); go_simp; (try with_reducible rfl); done)); (try simp only [Act.put, List.setIfInBounds_toArray, List.set_cons_zero, List.set_cons_succ])); (refine wpAnyT_take 1 (v := ?_) rfl (by kernel_rfl) (fun _ _ _ h => h) (Or.inl ⟨by rfl, ?_⟩) (by assumption) ?_; rotate_left; (focus (intro W hSw; (try dsimp only at hSw); go_simp; (try with_reducible rfl); done)); (try simp only [Act.put, List.setIfInBounds_toArray, List.set_cons_zero, List.set_cons_succ])))
        ((refine wpAnyT_one 2 rfl (by kernel_rfl) (fun K hK => ?_); go_simp))
        have HS := keepQ (((w6.setCell ⟨w.heap.size, 0, none⟩ (.int .i64 qa)).setCell ⟨w.heap.size, 1, none⟩ (.slice E0 ha.length e0)).setCell ⟨w.heap.size, 2, none⟩ (.slice E1 ba.length e1)) (((k1.far (by exact o1) _).far (by exact o1) _).far (by exact o1) _) (((k2.far (by exact o2) _).far (by exact o2) _).far (by exact o2) _)
        ((try dsimp only); refine hK.out _ _ (fun _ => HS) (fun _ => ?_); clear hK K; (try simp only [Act.put, List.setIfInBounds_toArray, List.set_cons_zero, List.set_cons_succ]))
        clear k1 k2 k3 k4 k5 k6 k7 k8 k9 k10 S5 HS keepQ
        ((refine wpAnyT_one 3 rfl (by kernel_rfl) (fun K hK => ?_); go_simp))
        ((try dsimp only); refine hK.out _ _ (fun h => absurd rfl h) (fun _ => ?_); clear hK K; (try simp only [Act.put, List.setIfInBounds_toArray, List.set_cons_zero, List.set_cons_succ]); refine wpAnyT_done (by kernel_rfl) ?_ _)
        go_wp2
        obtain ⟨z1, z2, z3⟩ := KE.out
        generalize ((((((w6.setCell ⟨w.heap.size, 0, none⟩ (.int .i64 qa)).setCell ⟨w.heap.size, 1, none⟩ (.slice E0 ha.length e0)).setCell ⟨w.heap.size, 2, none⟩ (.slice E1 ba.length e1)).setCell ⟨w.heap.size + 1, 0, none⟩ (.int .i64 qb)).setCell ⟨w.heap.size + 1, 1, none⟩ (.slice G0 hb.length c0)).setCell ⟨w.heap.size + 1, 2, none⟩ (.slice G1 bb.length c1)) = w9 at z1 z2 z3 ⊢
        obtain ⟨u0, u1, u2, _⟩ := z1.three
        obtain ⟨v0, v1, v2, _⟩ := z2.three
        exact bodyPost_ret (v := .tuple #[.agg #[.int .i64 qa, .slice E0 ha.length e0, .slice E1 ba.length e1], .agg #[.int .i64 qb, .slice G0 hb.length c0, .slice G1 bb.length c1]]) (by simp [results, Tryz.results23, go_sem, u0, u1, u2, v0, v1, v2]) rfl z3
      · go_wp2_with fail
        have S6 := hid (S5.out.ch (Ch.refl w5).drew S5.out.rdr.drew hlt (by omega) (by omega))
        obtain ⟨VA0, VA1, VB0, VB1, k1, k2, ⟨k3, k4⟩, ⟨k5, k6⟩, k7, k8, k9, k10⟩ := S6.out
        obtain ⟨E0, e0, rfl⟩ := own_form k3
        obtain ⟨E1, e1, rfl⟩ := own_form k4
        obtain ⟨G0, c0, rfl⟩ := own_form k5
        obtain ⟨G1, c1, rfl⟩ := own_form k6
        refine wp_region_T (fun W => (W.cell? ⟨g4, 0, none⟩ = some (.int .i64 qa) ∧ W.cell? ⟨g4, 1, none⟩ = some (.slice E0 ha.length e0) ∧ W.cell? ⟨g4, 2, none⟩ = some (.slice E1 ba.length e1)) ∧ (W.cell? ⟨g5, 0, none⟩ = some (.int .i64 qb) ∧ W.cell? ⟨g5, 1, none⟩ = some (.slice G0 hb.length c0) ∧ W.cell? ⟨g5, 2, none⟩ = some (.slice G1 bb.length c1))) 3 (by kernel_rfl) ?_
        clear S6
        generalize w5.drew = w6 at k1 k2 k3 k4 k5 k6 k7 k8 k9 k10 ⊢
        have keepQ : ∀ W, Blk W g4 26 #[.int .i64 qa, .slice E0 ha.length e0, .slice E1 ba.length e1] → Blk W g5 26 #[.int .i64 qb, .slice G0 hb.length c0, .slice G1 bb.length c1] → _ := fun W x y => And.intro (And.intro (x.cell 0) (And.intro (x.cell 1) (x.cell 2))) (And.intro (y.cell 0) (And.intro (y.cell 1) (y.cell 2)))
        have HS : (w6.cell? ⟨g4, 0, none⟩ = some (.int .i64 qa) ∧ w6.cell? ⟨g4, 1, none⟩ = some (.slice E0 ha.length e0) ∧ w6.cell? ⟨g4, 2, none⟩ = some (.slice E1 ba.length e1)) ∧ (w6.cell? ⟨g5, 0, none⟩ = some (.int .i64 qb) ∧ w6.cell? ⟨g5, 1, none⟩ = some (.slice G0 hb.length c0) ∧ w6.cell? ⟨g5, 2, none⟩ = some (.slice G1 bb.length c1)) := keepQ _ k1 k2
        obtain ⟨d0, d1, d2, f0, f1, f2⟩ := k9.three
        obtain ⟨d0', d1', d2', f0', f1', f2'⟩ := k10.three
        have o1 : ¬ (g4 = w.heap.size) := by omega
        have o2 : ¬ (g5 = w.heap.size) := by omega
        have o3 : ¬ (w.heap.size = w.heap.size + 1) := by omega
        have o4 : ¬ (w.heap.size + 1 = w.heap.size) := by omega
        have KE := hid (two_end (p0 := p) (q1 := qb) (q2 := qa) k5 k6 k3 k4 k7 k8 k9 k10 hlt (by omega) (by omega))
        ((refine wpAnyT_take 0 (v := ?_) rfl (by kernel_rfl) (fun _ _ _ h => h) (Or.inl ⟨by rfl, ?_⟩) (by assumption) ?_; rotate_left; (focus (intro W hSw; (try dsimp only at hSw); go_simp; (try with_reducible rfl); done)); (try simp only [Act.put, List.setIfInBounds_toArray, List.set_cons_zero, List.set_cons_succ])); (refine wpAnyT_take 1 (v := ?_) rfl (by kernel_rfl) (fun _ _ _ h => h) (Or.inl ⟨by rfl, ?_⟩) (by assumption) ?_; rotate_left; (focus (intro W hSw; (try dsimp only at hSw); go_simp; (try with_reducible rfl); done)); (try simp only [Act.put, List.setIfInBounds_toArray, List.set_cons_zero, List.set_cons_succ])))
        ((refine wpAnyT_one 2 rfl (by kernel_rfl) (fun K hK => ?_); go_simp))
        have HS := keepQ (((w6.setCell ⟨w.heap.size, 0, none⟩ (.int .i64 qb)).setCell ⟨w.heap.size, 1, none⟩ (.slice G0 hb.length c0)).setCell ⟨w.heap.size, 2, none⟩ (.slice G1 bb.length c1)) (((k1.far (by exact o1) _).far (by exact o1) _).far (by exact o1) _) (((k2.far (by exact o2) _).far (by exact o2) _).far (by exact o2) _)
        ((try dsimp only); refine hK.out _ _ (fun _ => HS) (fun _ => ?_); clear hK K; (try simp only [Act.put, List.setIfInBounds_toArray, List.set_cons_zero, List.set_cons_succ]))
        clear k1 k2 k3 k4 k5 k6 k7 k8 k9 k10 S5 HS keepQ
        ((refine wpAnyT_one 3 rfl (by kernel_rfl) (fun K hK => ?_); go_simp))
        ((try dsimp only); refine hK.out _ _ (fun h => absurd rfl h) (fun _ => ?_); clear hK K; (try simp only [Act.put, List.setIfInBounds_toArray, List.set_cons_zero, List.set_cons_succ]); refine wpAnyT_done (by kernel_rfl) ?_ _)
        go_wp2
        obtain ⟨z1, z2, z3⟩ := KE.out
        generalize ((((((w6.setCell ⟨w.heap.size, 0, none⟩ (.int .i64 qb)).setCell ⟨w.heap.size, 1, none⟩ (.slice G0 hb.length c0)).setCell ⟨w.heap.size, 2, none⟩ (.slice G1 bb.length c1)).setCell ⟨w.heap.size + 1, 0, none⟩ (.int .i64 qa)).setCell ⟨w.heap.size + 1, 1, none⟩ (.slice E0 ha.length e0)).setCell ⟨w.heap.size + 1, 2, none⟩ (.slice E1 ba.length e1)) = w9 at z1 z2 z3 ⊢
        obtain ⟨u0, u1, u2, _⟩ := z1.three
        obtain ⟨v0, v1, v2, _⟩ := z2.three
        exact bodyPost_ret (v := .tuple #[.agg #[.int .i64 qb, .slice G0 hb.length c0, .slice G1 bb.length c1], .agg #[.int .i64 qa, .slice E0 ha.length e0, .slice E1 ba.length e1]]) (by simp [results, Tryz.results23, go_sem, u0, u1, u2, v0, v1, v2]) rfl z3
    · have e0 : ((v : Int) == 0) = false := by simp; omega
      go_wp2_with fail
      refine (pick _ r _ _ S3.out.rdr (by omega) (by omega)).mono ?_
      rintro e w5 ⟨u, rfl, _, hr5, hc5⟩
      have S5 := hid (S3.out.ch hc5 hr5 hlt (by omega) (by omega))
      clear hr5 hc5 S3
      cases e9 : ((u : Int) == 0)
      · go_wp2_with fail
        have S6 := hid (S5.out.ch (Ch.refl w5).drew S5.out.rdr.drew hlt (by omega) (by omega))
        obtain ⟨VA0, VA1, VB0, VB1, k1, k2, ⟨k3, k4⟩, ⟨k5, k6⟩, k7, k8, k9, k10⟩ := S6.out
        obtain ⟨E0, e0, rfl⟩ := own_form k3
        obtain ⟨E1, e1, rfl⟩ := own_form k4
        obtain ⟨G0, c0, rfl⟩ := own_form k5
        obtain ⟨G1, c1, rfl⟩ := own_form k6
        refine wp_region_T (fun W => (W.cell? ⟨g4, 0, none⟩ = some (.int .i64 qa) ∧ W.cell? ⟨g4, 1, none⟩ = some (.slice E0 ha.length e0) ∧ W.cell? ⟨g4, 2, none⟩ = some (.slice E1 ba.length e1)) ∧ (W.cell? ⟨g5, 0, none⟩ = some (.int .i64 qb) ∧ W.cell? ⟨g5, 1, none⟩ = some (.slice G0 hb.length c0) ∧ W.cell? ⟨g5, 2, none⟩ = some (.slice G1 bb.length c1))) 3 (by kernel_rfl) ?_
        clear S6
        generalize w5.drew = w6 at k1 k2 k3 k4 k5 k6 k7 k8 k9 k10 ⊢
        have keepQ : ∀ W, Blk W g4 26 #[.int .i64 qa, .slice E0 ha.length e0, .slice E1 ba.length e1] → Blk W g5 26 #[.int .i64 qb, .slice G0 hb.length c0, .slice G1 bb.length c1] → _ := fun W x y => And.intro (And.intro (x.cell 0) (And.intro (x.cell 1) (x.cell 2))) (And.intro (y.cell 0) (And.intro (y.cell 1) (y.cell 2)))
        have HS : (w6.cell? ⟨g4, 0, none⟩ = some (.int .i64 qa) ∧ w6.cell? ⟨g4, 1, none⟩ = some (.slice E0 ha.length e0) ∧ w6.cell? ⟨g4, 2, none⟩ = some (.slice E1 ba.length e1)) ∧ (w6.cell? ⟨g5, 0, none⟩ = some (.int .i64 qb) ∧ w6.cell? ⟨g5, 1, none⟩ = some (.slice G0 hb.length c0) ∧ w6.cell? ⟨g5, 2, none⟩ = some (.slice G1 bb.length c1)) := keepQ _ k1 k2
        obtain ⟨d0, d1, d2, f0, f1, f2⟩ := k9.three
        obtain ⟨d0', d1', d2', f0', f1', f2'⟩ := k10.three
        have o1 : ¬ (g4 = w.heap.size) := by omega
        have o2 : ¬ (g5 = w.heap.size) := by omega
        have o3 : ¬ (w.heap.size = w.heap.size + 1) := by omega
        have o4 : ¬ (w.heap.size + 1 = w.heap.size) := by omega
        have KE := hid (two_end (p0 := p) (q1 := qa) (q2 := qb) k3 k4 k5 k6 k7 k8 k9 k10 hlt (by omega) (by omega))
        ((refine wpAnyT_take 0 (v := ?_) rfl (by kernel_rfl) (fun _ _ _ h => h) (Or.inl ⟨by rfl, ?_⟩) (by assumption) ?_; rotate_left; (focus (intro W hSw; (try dsimp only at hSw); go_simp; (try with_reducible rfl); done)); (try simp only [Act.put, List.setIfInBounds_toArray, List.set_cons_zero, List.set_cons_succ])); (refine wpAnyT_take 1 (v := ?_) rfl (by kernel_rfl) (fun _ _ _ h => h) (Or.inl ⟨by rfl, ?_⟩) (by assumption) ?_; rotate_left; (focus (intro W hSw; (try dsimp only at hSw); go_simp; (try with_reducible rfl); done)); (try simp only [Act.put, List.setIfInBounds_toArray, List.set_cons_zero, List.set_cons_succ])))
        ((refine wpAnyT_one 2 rfl (by kernel_rfl) (fun K hK => ?_); go_simp))
        have HS := keepQ (((w6.setCell ⟨w.heap.size, 0, none⟩ (.int .i64 qa)).setCell ⟨w.heap.size, 1, none⟩ (.slice E0 ha.length e0)).setCell ⟨w.heap.size, 2, none⟩ (.slice E1 ba.length e1)) (((k1.far (by exact o1) _).far (by exact o1) _).far (by exact o1) _) (((k2.far (by exact o2) _).far (by exact o2) _).far (by exact o2) _)
        ((try dsimp only); refine hK.out _ _ (fun _ => HS) (fun _ => ?_); clear hK K; (try simp only [Act.put, List.setIfInBounds_toArray, List.set_cons_zero, List.set_cons_succ]))
        clear k1 k2 k3 k4 k5 k6 k7 k8 k9 k10 S5 HS keepQ
        ((refine wpAnyT_one 3 rfl (by kernel_rfl) (fun K hK => ?_); go_simp))
        ((try dsimp only); refine hK.out _ _ (fun h => absurd rfl h) (fun _ => ?_); clear hK K; (try simp only [Act.put, List.setIfInBounds_toArray, List.set_cons_zero, List.set_cons_succ]); refine wpAnyT_done (by kernel_rfl) ?_ _)
        go_wp2
        obtain ⟨z1, z2, z3⟩ := KE.out
        generalize ((((((w6.setCell ⟨w.heap.size, 0, none⟩ (.int .i64 qa)).setCell ⟨w.heap.size, 1, none⟩ (.slice E0 ha.length e0)).setCell ⟨w.heap.size, 2, none⟩ (.slice E1 ba.length e1)).setCell ⟨w.heap.size + 1, 0, none⟩ (.int .i64 qb)).setCell ⟨w.heap.size + 1, 1, none⟩ (.slice G0 hb.length c0)).setCell ⟨w.heap.size + 1, 2, none⟩ (.slice G1 bb.length c1)) = w9 at z1 z2 z3 ⊢
        obtain ⟨u0, u1, u2, _⟩ := z1.three
        obtain ⟨v0, v1, v2, _⟩ := z2.three
        exact bodyPost_ret (v := .tuple #[.agg #[.int .i64 qa, .slice E0 ha.length e0, .slice E1 ba.length e1], .agg #[.int .i64 qb, .slice G0 hb.length c0, .slice G1 bb.length c1]]) (by simp [results, Tryz.results23, go_sem, u0, u1, u2, v0, v1, v2]) rfl z3
      · go_wp2_with fail
        have S6 := hid (S5.out.ch (Ch.refl w5).drew S5.out.rdr.drew hlt (by omega) (by omega))
        obtain ⟨VA0, VA1, VB0, VB1, k1, k2, ⟨k3, k4⟩, ⟨k5, k6⟩, k7, k8, k9, k10⟩ := S6.out
        obtain ⟨E0, e0, rfl⟩ := own_form k3
        obtain ⟨E1, e1, rfl⟩ := own_form k4
        obtain ⟨G0, c0, rfl⟩ := own_form k5
        obtain ⟨G1, c1, rfl⟩ := own_form k6
        refine wp_region_T (fun W => (W.cell? ⟨g4, 0, none⟩ = some (.int .i64 qa) ∧ W.cell? ⟨g4, 1, none⟩ = some (.slice E0 ha.length e0) ∧ W.cell? ⟨g4, 2, none⟩ = some (.slice E1 ba.length e1)) ∧ (W.cell? ⟨g5, 0, none⟩ = some (.int .i64 qb) ∧ W.cell? ⟨g5, 1, none⟩ = some (.slice G0 hb.length c0) ∧ W.cell? ⟨g5, 2, none⟩ = some (.slice G1 bb.length c1))) 3 (by kernel_rfl) ?_
        clear S6
        generalize w5.drew = w6 at k1 k2 k3 k4 k5 k6 k7 k8 k9 k10 ⊢
        have keepQ : ∀ W, Blk W g4 26 #[.int .i64 qa, .slice E0 ha.length e0, .slice E1 ba.length e1] → Blk W g5 26 #[.int .i64 qb, .slice G0 hb.length c0, .slice G1 bb.length c1] → _ := fun W x y => And.intro (And.intro (x.cell 0) (And.intro (x.cell 1) (x.cell 2))) (And.intro (y.cell 0) (And.intro (y.cell 1) (y.cell 2)))
        have HS : (w6.cell? ⟨g4, 0, none⟩ = some (.int .i64 qa) ∧ w6.cell? ⟨g4, 1, none⟩ = some (.slice E0 ha.length e0) ∧ w6.cell? ⟨g4, 2, none⟩ = some (.slice E1 ba.length e1)) ∧ (w6.cell? ⟨g5, 0, none⟩ = some (.int .i64 qb) ∧ w6.cell? ⟨g5, 1, none⟩ = some (.slice G0 hb.length c0) ∧ w6.cell? ⟨g5, 2, none⟩ = some (.slice G1 bb.length c1)) := keepQ _ k1 k2
        obtain ⟨d0, d1, d2, f0, f1, f2⟩ := k9.three
        obtain ⟨d0', d1', d2', f0', f1', f2'⟩ := k10.three
        have o1 : ¬ (g4 = w.heap.size) := by omega
        have o2 : ¬ (g5 = w.heap.size) := by omega
        have o3 : ¬ (w.heap.size = w.heap.size + 1) := by omega
        have o4 : ¬ (w.heap.size + 1 = w.heap.size) := by omega
        have KE := hid (two_end (p0 := p) (q1 := qb) (q2 := qa) k5 k6 k3 k4 k7 k8 k9 k10 hlt (by omega) (by omega))
        ((refine wpAnyT_take 0 (v := ?_) rfl (by kernel_rfl) (fun _ _ _ h => h) (Or.inl ⟨by rfl, ?_⟩) (by assumption) ?_; rotate_left; (focus (intro W hSw; (try dsimp only at hSw); go_simp; (try with_reducible rfl); done)); (try simp only [Act.put, List.setIfInBounds_toArray, List.set_cons_zero, List.set_cons_succ])); (refine wpAnyT_take 1 (v := ?_) rfl (by kernel_rfl) (fun _ _ _ h => h) (Or.inl ⟨by rfl, ?_⟩) (by assumption) ?_; rotate_left; (focus (intro W hSw; (try dsimp only at hSw); go_simp; (try with_reducible rfl); done)); (try simp only [Act.put, List.setIfInBounds_toArray, List.set_cons_zero, List.set_cons_succ])))
        ((refine wpAnyT_one 2 rfl (by kernel_rfl) (fun K hK => ?_); go_simp))
        have HS := keepQ (((w6.setCell ⟨w.heap.size, 0, none⟩ (.int .i64 qb)).setCell ⟨w.heap.size, 1, none⟩ (.slice G0 hb.length c0)).setCell ⟨w.heap.size, 2, none⟩ (.slice G1 bb.length c1)) (((k1.far (by exact o1) _).far (by exact o1) _).far (by exact o1) _) (((k2.far (by exact o2) _).far (by exact o2) _).far (by exact o2) _)
        ((try dsimp only); refine hK.out _ _ (fun _ => HS) (fun _ => ?_); clear hK K; (try simp only [Act.put, List.setIfInBounds_toArray, List.set_cons_zero, List.set_cons_succ]))
        clear k1 k2 k3 k4 k5 k6 k7 k8 k9 k10 S5 HS keepQ
        ((refine wpAnyT_one 3 rfl (by kernel_rfl) (fun K hK => ?_); go_simp))
        ((try dsimp only); refine hK.out _ _ (fun h => absurd rfl h) (fun _ => ?_); clear hK K; (try simp only [Act.put, List.setIfInBounds_toArray, List.set_cons_zero, List.set_cons_succ]); refine wpAnyT_done (by kernel_rfl) ?_ _)
        go_wp2
        obtain ⟨z1, z2, z3⟩ := KE.out
        generalize ((((((w6.setCell ⟨w.heap.size, 0, none⟩ (.int .i64 qb)).setCell ⟨w.heap.size, 1, none⟩ (.slice G0 hb.length c0)).setCell ⟨w.heap.size, 2, none⟩ (.slice G1 bb.length c1)).setCell ⟨w.heap.size + 1, 0, none⟩ (.int .i64 qa)).setCell ⟨w.heap.size + 1, 1, none⟩ (.slice E0 ha.length e0)).setCell ⟨w.heap.size + 1, 2, none⟩ (.slice E1 ba.length e1)) = w9 at z1 z2 z3 ⊢
        obtain ⟨u0, u1, u2, _⟩ := z1.three
        obtain ⟨v0, v1, v2, _⟩ := z2.three
        exact bodyPost_ret (v := .tuple #[.agg #[.int .i64 qb, .slice G0 hb.length c0, .slice G1 bb.length c1], .agg #[.int .i64 qa, .slice E0 ha.length e0, .slice E1 ba.length e1]]) (by simp [results, Tryz.results23, go_sem, u0, u1, u2, v0, v1, v2]) rfl z3
/-- What is known of a query in memory. -/
structure QIn (w : World) (A0 A1 : Option Addr) (c0 c1 : Nat) (hd : List Int) (bd : List Atom) : Prop where
  r0 : RdSl rdInt w.cell? 1 A0 hd
  r1 : RdSl rdAtom w.cell? 3 A1 bd
  n0 : A0 = none → c0 = 0
  n1 : A1 = none → c1 = 0
  l1 : bd.length ≤ c1
  m1 : c1 ≤ maxLen
theorem QIn.fr {w w' : World} {A0 A1 : Option Addr} {c0 c1 : Nat} {hd : List Int} {bd : List Atom} (h : QIn w A0 A1 c0 c1 hd bd) (hf : Fr w w') : QIn w' A0 A1 c0 c1 hd bd :=
  ⟨h.r0.fr rdInt_mono hf, h.r1.fr rdAtom_mono hf, h.n0, h.n1, h.l1, h.m1⟩
theorem QIn.mk' {w : World} {base : Nat} {A0 A1 : Option Addr} {c0 c1 : Nat} {hd : List Int} {bd : List Atom} (h0 : w.ownsRow base 3 1 (.slice A0 hd.length c0) hd.length (hd.map iv)) (h1 : w.ownsRow base 63 3 (.slice A1 bd.length c1) bd.length (bd.flatMap cellsA)) : QIn w A0 A1 c0 c1 hd bd :=
  ⟨(own_int h0 rfl).mono rdInt_mono (fromB_le _ _), (own_A h1 rfl).mono rdAtom_mono (fromB_le _ _), own_nilcap h0, own_nilcap h1, (own_capM h1).1, (own_capM h1).2⟩
/-- Two queries, drawn anew. -/
def TwoDrawn (w0 : World) (e : Ending) (w : World) : Prop := ∃ (qa : Int) (ha : List Int) (ba : List Atom) (qb : Int) (hb : List Int) (bb : List Atom) (A0 : Option Addr) (a0 : Nat) (A1 : Option Addr) (a1 : Nat) (B0 : Option Addr) (b0 : Nat) (B1 : Option Addr) (b1 : Nat),
  e = .returned (.tuple #[.agg #[.int .i64 qa, .slice A0 ha.length a0, .slice A1 ba.length a1], .agg #[.int .i64 qb, .slice B0 hb.length b0, .slice B1 bb.length b1]]) ∧
  QIn w A0 A1 a0 a1 ha ba ∧ QIn w B0 B1 b0 b1 hb bb ∧ (ha.length ≤ 3 ∧ ba.length ≤ 4 ∧ hb.length ≤ 3 ∧ bb.length ≤ 4 ∧ 0 ≤ qa ∧ (qa ≤ 4 ∨ qa = 7) ∧ 0 ≤ qb ∧ (qb ≤ 4 ∨ qb = 7)) ∧ Fr w0 w
theorem two_put {w : World} {base s : Nat} {q1 q2 : Int} {h1 h2 : List Int} {b1 b2 : List Atom} {A0 A1 B0 B1 : Option Addr} {a0 a1 c0 c1 : Nat} (k3 : w.ownsRow base 3 1 (.slice A0 h1.length a0) h1.length (h1.map iv)) (k4 : w.ownsRow base 63 3 (.slice A1 b1.length a1) b1.length (b1.flatMap cellsA))
    (k5 : w.ownsRow base 3 1 (.slice B0 h2.length c0) h2.length (h2.map iv)) (k6 : w.ownsRow base 63 3 (.slice B1 b2.length c1) b2.length (b2.flatMap cellsA)) (k9 : Blk w s 26 #[.int .i64 0, .slice none 0 0, .slice none 0 0]) (k10 : Blk w (s + 1) 26 #[.int .i64 0, .slice none 0 0, .slice none 0 0]) :
    Blk ((((((w.setCell ⟨s, 0, none⟩ (.int .i64 q1)).setCell ⟨s, 1, none⟩ (.slice A0 h1.length a0)).setCell ⟨s, 2, none⟩ (.slice A1 b1.length a1)).setCell ⟨s + 1, 0, none⟩ (.int .i64 q2)).setCell ⟨s + 1, 1, none⟩ (.slice B0 h2.length c0)).setCell ⟨s + 1, 2, none⟩ (.slice B1 b2.length c1)) s 26 #[.int .i64 q1, .slice A0 h1.length a0, .slice A1 b1.length a1] ∧
    Blk ((((((w.setCell ⟨s, 0, none⟩ (.int .i64 q1)).setCell ⟨s, 1, none⟩ (.slice A0 h1.length a0)).setCell ⟨s, 2, none⟩ (.slice A1 b1.length a1)).setCell ⟨s + 1, 0, none⟩ (.int .i64 q2)).setCell ⟨s + 1, 1, none⟩ (.slice B0 h2.length c0)).setCell ⟨s + 1, 2, none⟩ (.slice B1 b2.length c1)) (s + 1) 26 #[.int .i64 q2, .slice B0 h2.length c0, .slice B1 b2.length c1] ∧
    QIn ((((((w.setCell ⟨s, 0, none⟩ (.int .i64 q1)).setCell ⟨s, 1, none⟩ (.slice A0 h1.length a0)).setCell ⟨s, 2, none⟩ (.slice A1 b1.length a1)).setCell ⟨s + 1, 0, none⟩ (.int .i64 q2)).setCell ⟨s + 1, 1, none⟩ (.slice B0 h2.length c0)).setCell ⟨s + 1, 2, none⟩ (.slice B1 b2.length c1)) A0 A1 a0 a1 h1 b1 ∧ QIn ((((((w.setCell ⟨s, 0, none⟩ (.int .i64 q1)).setCell ⟨s, 1, none⟩ (.slice A0 h1.length a0)).setCell ⟨s, 2, none⟩ (.slice A1 b1.length a1)).setCell ⟨s + 1, 0, none⟩ (.int .i64 q2)).setCell ⟨s + 1, 1, none⟩ (.slice B0 h2.length c0)).setCell ⟨s + 1, 2, none⟩ (.slice B1 b2.length c1)) B0 B1 c0 c1 h2 b2 := by
  have e3 := own_ne k3 k9 (by decide)
  have e4 := own_ne k4 k9 (by decide)
  have e5 := own_ne k5 k9 (by decide)
  have e6 := own_ne k6 k9 (by decide)
  have f3 := own_ne k3 k10 (by decide)
  have f4 := own_ne k4 k10 (by decide)
  have f5 := own_ne k5 k10 (by decide)
  have f6 := own_ne k6 k10 (by decide)
  have n1 : ∀ (o : Nat), s ≠ (⟨s + 1, o, none⟩ : Addr).block := fun o => by show s ≠ s + 1; omega
  have n2 : ∀ (o : Nat), s + 1 ≠ (⟨s, o, none⟩ : Addr).block := fun o => by show s + 1 ≠ s; omega
  exact ⟨((((((k9.set_ 0 _).set_ 1 _).set_ 2 _).far (n1 _) _).far (n1 _) _).far (n1 _) _), (((((k10.far (n2 _) _).far (n2 _) _).far (n2 _) _).set_ 0 _).set_ 1 _).set_ 2 _,
    QIn.mk' (own_set (own_set (own_set (own_set (own_set (own_set k3 e3) e3) e3) f3) f3) f3) (own_set (own_set (own_set (own_set (own_set (own_set k4 e4) e4) e4) f4) f4) f4),
    QIn.mk' (own_set (own_set (own_set (own_set (own_set (own_set k5 e5) e5) e5) f5) f5) f5) (own_set (own_set (own_set (own_set (own_set (own_set k6 e6) e6) e6) f6) f6) f6)⟩
end Go.Proofs.YtahclhldpcboeaaGreatDoor
