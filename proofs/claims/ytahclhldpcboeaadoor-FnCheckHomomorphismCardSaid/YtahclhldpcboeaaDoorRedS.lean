/- Walks of the reference's functions on queries: copyRule, without. -/
import Derived.Test.YtahclhldpcboeaaDoorAppS
import Derived.Test.YtahclhldpcboeaaDoorRedI
namespace Go.Proofs.YtahclhldpcboeaaDoor
open Go Go.RowKit
attribute [-go_sem] Builtin.append_
set_option maxRecDepth 100000 in
set_option maxHeartbeats 4000000 in
theorem copyRuleW (q : Int) (A0 A1 : Option Addr) (c0 c1 : Nat) (hd : List Int) (bd : List Atom) (w : World) (hx0 : RdSl rdInt w.cell? 1 A0 hd) (hx1 : RdSl rdAtom w.cell? 3 A1 bd) (hl0 : hd.length ≤ 1048576) (hl1 : bd.length ≤ 1048576) (hn0 : A0 = none → c0 = 0) (hn1 : A1 = none → c1 = 0) :
    Calls Tryd.prog 47 #[.agg #[.int .i64 q, .slice A0 hd.length c0, .slice A1 bd.length c1]] w fun r w' => RulOut w.heap.size q hd bd r w' ∧ Fr w w' := by
  have S0 := hid (src_int hx0 hn0)
  have S1 := hid (src_atom hx1 hn1)
  clear hx0 hx1 hn0 hn1
  have B0' := (Blk.new w 30 #[.int .i64 q, .slice A0 hd.length c0, .slice A1 bd.length c1]).alloc (.cells #[.int .i64 0, .slice none 0 0, .slice none 0 0] 30)
  have B1' := Blk.new (w.alloc (.cells #[.int .i64 q, .slice A0 hd.length c0, .slice A1 bd.length c1] 30)) 30 #[.int .i64 0, .slice none 0 0, .slice none 0 0]
  rw [World.size_alloc] at B1'
  have F1 : Fr w ((w.alloc (.cells #[.int .i64 q, .slice A0 hd.length c0, .slice A1 bd.length c1] 30)).alloc (.cells #[.int .i64 0, .slice none 0 0, .slice none 0 0] 30)) := by (repeat (first | with_reducible exact Fr.refl _ | with_reducible assumption | with_reducible refine Fr.alloc ?_ _ | with_reducible refine Fr.drew ?_ | with_reducible refine Fr.drewN ?_ _ | (with_reducible refine Fr.setNew2 ?_ ?_ _; · (simp <;> omega)) | with_reducible refine Fr.trans ?_ (by assumption)))
  go_enter Tryd.func47, Tryd.ntmps47
  go_wp2_with fail
  generalize (w.alloc (.cells #[.int .i64 q, .slice A0 hd.length c0, .slice A1 bd.length c1] 30)).alloc (.cells #[.int .i64 0, .slice none 0 0, .slice none 0 0] 30) = w1 at B0' B1' F1 ⊢
  obtain ⟨b0, b1, b2, _⟩ := B0'.three
  have hw1 := F1.size
  have hbw : ¬ (w.heap.size = w.heap.size + 1) := by omega
  have hlt1 := B1'.lt
  have keepL : ∀ W' : World, Ch (· = w.heap.size + 1) w1 W' → (Ch (· = w.heap.size + 1) w1 W' ∧ W'.cell? ⟨w.heap.size, 0, none⟩ = some (.int .i64 q) ∧ W'.cell? ⟨w.heap.size, 1, none⟩ = some (.slice A0 hd.length c0) ∧ W'.cell? ⟨w.heap.size, 2, none⟩ = some (.slice A1 bd.length c1)) := fun W' F => ⟨F, F.cell hbw b0, F.cell hbw b1, F.cell hbw b2⟩
  go_region_held3 (fun W' => Ch (· = w.heap.size + 1) w1 W' ∧ W'.cell? ⟨w.heap.size, 0, none⟩ = some (.int .i64 q) ∧ W'.cell? ⟨w.heap.size, 1, none⟩ = some (.slice A0 hd.length c0) ∧ W'.cell? ⟨w.heap.size, 2, none⟩ = some (.slice A1 bd.length c1)) ((refine keepL _ ?_; (repeat (first | with_reducible exact Ch.refl _ | with_reducible assumption | with_reducible refine Ch.alloc ?_ _ | with_reducible refine Ch.drew ?_ | with_reducible refine Ch.setAt ?_ _ () | with_reducible refine Ch.trans ?_ (by assumption))); done))
    (first
      | ((with_reducible refine upon_srcF 22 3 (.int .i64 0) 1 8 Tryd.underlying22 (by kernel_rfl) rfl (by decide) (by decide) w1 _ 0 [] ?fr ?own (by omega) A0 hd.length c0 (hd.map iv) (by simp) hl0 ?src (iv_all hd) ?_); (case fr => (repeat (first | with_reducible exact Fr.refl _ | with_reducible assumption | with_reducible refine Fr.alloc ?_ _ | with_reducible refine Fr.drew ?_ | with_reducible refine Fr.drewN ?_ _ | (with_reducible refine Fr.setNew2 ?_ ?_ _; · (simp <;> omega)) | with_reducible refine Fr.trans ?_ (by assumption)))); (case own => first | exact own_nilB (Blk.new w1 3 #[]).drew (Nat.le_refl _) | exact own_nilB (Blk.new w1 3 #[]) (Nat.le_refl _) | exact own_nilB ((Blk.new w1 3 #[]).alloc (.cells #[] 64)).drew (Nat.le_refl _) | exact own_nilB ((Blk.new w1 3 #[]).alloc (.cells #[] 64)) (Nat.le_refl _) | exact own_nilB (blk_new1 w1 (.cells #[] 64) 3 #[]).drew (Nat.le_succ _) | exact own_nilB (blk_new1 w1 (.cells #[] 64) 3 #[]) (Nat.le_succ _) | fail); (case src => exact S0.out.fr (F1.trans (by (repeat (first | with_reducible exact Fr.refl _ | with_reducible assumption | with_reducible refine Fr.alloc ?_ _ | with_reducible refine Fr.drew ?_ | with_reducible refine Fr.drewN ?_ _ | (with_reducible refine Fr.setNew2 ?_ ?_ _; · (simp <;> omega)) | with_reducible refine Fr.trans ?_ (by assumption)))))); intro v5 w5 hO5 F5 KB; rw [Nat.zero_add, List.nil_append] at hO5; obtain ⟨A5, k5, rfl⟩ := own_form hO5; (first | have XA := KB w1.heap.size 64 #[] (by decide) ((Blk.new w1 64 #[]).alloc (.cells #[] 3)).drew | have XA := KB w1.heap.size 64 #[] (by decide) ((Blk.new w1 64 #[]).alloc (.cells #[] 3)) | have XA := KB (w1.heap.size + 1) 64 #[] (by decide) (blk_new1 w1 (.cells #[] 3) 64 #[]).drew | have XA := KB (w1.heap.size + 1) 64 #[] (by decide) (blk_new1 w1 (.cells #[] 3) 64 #[]) | skip); have C5 : Ch (· = w.heap.size + 1) w1 w5 := F5.ch; have HO5 := hid hO5; have hs5 := F5.size; clear hO5 KB)
      | ((with_reducible refine upon_srcF 28 64 (.agg #[.int .i64 0, .int .i64 0, .int .i64 0]) 3 24 Tryd.underlying28 (by kernel_rfl) rfl (by decide) (by decide) w1 _ 0 [] ?fr ?own (by omega) A1 bd.length c1 (bd.flatMap cellsA) (cellsA_len bd) hl1 ?src (cellsA_one bd) ?_); (case fr => (repeat (first | with_reducible exact Fr.refl _ | with_reducible assumption | with_reducible refine Fr.alloc ?_ _ | with_reducible refine Fr.drew ?_ | with_reducible refine Fr.drewN ?_ _ | (with_reducible refine Fr.setNew2 ?_ ?_ _; · (simp <;> omega)) | with_reducible refine Fr.trans ?_ (by assumption)))); (case own => first | exact own_nilB XA (Nat.le_refl _) | exact own_nilB XA (Nat.le_succ _) | exact own_nilB XA.drew (Nat.le_refl _) | exact own_nilB XA.drew (Nat.le_succ _) | exact own_nilB (Blk.new w5 64 #[]) hs5 | exact own_nilB (Blk.new w5 64 #[]).drew hs5 | fail); (case src => exact S1.out.fr (F1.trans (by (repeat (first | with_reducible exact Fr.refl _ | with_reducible assumption | with_reducible refine Fr.alloc ?_ _ | with_reducible refine Fr.drew ?_ | with_reducible refine Fr.drewN ?_ _ | (with_reducible refine Fr.setNew2 ?_ ?_ _; · (simp <;> omega)) | with_reducible refine Fr.trans ?_ (by assumption)))))); intro v6 w6 hO6 F6 KB; rw [Nat.zero_add, List.nil_append] at hO6; obtain ⟨A6, k6, rfl⟩ := own_form hO6; have C6 : Ch (· = w.heap.size + 1) w1 w6 := F6.ch; have HO6 := hid hO6; have HO56 := hid (own_keep (own_fr HO5.out (show Fr w5 _ by (repeat (first | with_reducible exact Fr.refl _ | with_reducible assumption | with_reducible refine Fr.alloc ?_ _ | with_reducible refine Fr.drew ?_ | with_reducible refine Fr.drewN ?_ _ | (with_reducible refine Fr.setNew2 ?_ ?_ _; · (simp <;> omega)) | with_reducible refine Fr.trans ?_ (by assumption))))) (fun g cs hB => KB g 3 cs (by decide) hB)); clear hO6 KB; have B6 := B1'.fr F6; obtain ⟨z0', z1', z2', zf0', zf1', zf2'⟩ := B6.three; have TT : Ch (· = w.heap.size + 1) w1 (((w6.setCell ⟨w.heap.size + 1, 0, none⟩ (.int .i64 q)).setCell ⟨w.heap.size + 1, 1, none⟩ (.slice A5 hd.length k5)).setCell ⟨w.heap.size + 1, 2, none⟩ (.slice A6 bd.length k6)) := Ch.setAt (Ch.setAt (Ch.setAt C6 _ ()) _ ()) _ ())
      | fail)
  all_goals have BF := ((B6.set_ 0 (.int .i64 q)).set_ 1 (.slice A5 hd.length k5)).set_ 2 (.slice A6 bd.length k6)
  all_goals have O5 := mrow_set (o := 2) (u := .slice A6 bd.length k6) (mrow_set (o := 1) (u := .slice A5 hd.length k5) (mrow_set (o := 0) (u := .int .i64 q) HO56.out (mrow_ne HO56.out B6 (by decide))) (mrow_ne HO56.out B6 (by decide))) (mrow_ne HO56.out B6 (by decide))
  all_goals have O6 := mrow_set (o := 2) (u := .slice A6 bd.length k6) (mrow_set (o := 1) (u := .slice A5 hd.length k5) (mrow_set (o := 0) (u := .int .i64 q) HO6.out (mrow_ne HO6.out B6 (by decide))) (mrow_ne HO6.out B6 (by decide))) (mrow_ne HO6.out B6 (by decide))
  all_goals have FE : Fr w _ := TT.fr (fun j hj => by have : j = w.heap.size + 1 := hj; omega) F1
  all_goals have RES := hid (And.intro (show RulOut w.heap.size q hd bd (.returned (.agg #[.int .i64 q, .slice A5 hd.length k5, .slice A6 bd.length k6])) _ from ⟨A5, k5, A6, k6, rfl, own_base O5 hw1, own_base O6 hw1⟩) FE)
  all_goals obtain ⟨y0, y1, y2, _⟩ := BF.three
  all_goals clear O5 O6 TT C5 C6 BF B6 FE keepL
  all_goals generalize (((w6.setCell ⟨w.heap.size + 1, 0, none⟩ (.int .i64 q)).setCell ⟨w.heap.size + 1, 1, none⟩ (.slice A5 hd.length k5)).setCell ⟨w.heap.size + 1, 2, none⟩ (.slice A6 bd.length k6)) = w9 at RES y0 y1 y2 ⊢
  all_goals go_wp2
  all_goals refine bodyPost_ret (v := .agg #[.int .i64 q, .slice A5 hd.length k5, .slice A6 bd.length k6]) (by simp [results, Tryd.results47, go_sem, y0, y1, y2]) rfl ?_
  all_goals exact RES.out
/- Walk of the reference's without. -/
attribute [-go_sem] Builtin.append_
/-- The result variable's block is written, the query stands. -/
theorem withoutEnd {w W : World} {q : Int} {hd : List Int} {L : List Atom} {A3 A6 : Option Addr} {k3 k6 N b1 b2 : Nat} {news : List Value}
    (h4 : W.ownsRow b1 3 1 (.slice A3 hd.length k3) hd.length (hd.map iv)) (h6 : W.ownsRow b2 64 3 (.slice A6 N k6) N news)
    (hB : Blk W (w.heap.size + 1) 30 #[.int .i64 0, .slice none 0 0, .slice none 0 0]) (hF : Fr w W) (_ : True) (hL : L.length = N ∧ L.flatMap cellsA = news) (hb1 : w.heap.size ≤ b1) (hb2 : w.heap.size ≤ b2) :
    RulOut w.heap.size q hd L (.returned (.agg #[.int .i64 q, .slice A3 hd.length k3, .slice A6 N k6])) (((W.setCell ⟨w.heap.size + 1, 0, none⟩ (.int .i64 q)).setCell ⟨w.heap.size + 1, 1, none⟩ (.slice A3 hd.length k3)).setCell ⟨w.heap.size + 1, 2, none⟩ (.slice A6 N k6)) ∧
      Fr w (((W.setCell ⟨w.heap.size + 1, 0, none⟩ (.int .i64 q)).setCell ⟨w.heap.size + 1, 1, none⟩ (.slice A3 hd.length k3)).setCell ⟨w.heap.size + 1, 2, none⟩ (.slice A6 N k6)) := by
  have e4 := mrow_ne h4 hB (by decide)
  have e6 := mrow_ne h6 hB (by decide)
  refine ⟨⟨A3, k3, A6, k6, by rw [hL.1], own_base (mrow_set (mrow_set (mrow_set h4 e4) e4) e4) hb1, by rw [hL.1, hL.2]; exact own_base (mrow_set (mrow_set (mrow_set h6 e6) e6) e6) hb2⟩, ?_⟩
  exact ((hF.setNew (Nat.le_succ _) _).setNew (Nat.le_succ _) _).setNew (Nat.le_succ _) _
set_option maxRecDepth 100000 in
set_option maxHeartbeats 4000000 in
theorem withoutS (q : Int) (A0 A1 : Option Addr) (c0 c1 : Nat) (hd : List Int) (bd : List Atom) (k : Nat) (w : World) (hx0 : RdSl rdInt w.cell? 1 A0 hd) (hx1 : RdSl rdAtom w.cell? 3 A1 bd) (hl0 : hd.length ≤ 1000) (hl1 : bd.length ≤ 1000) (hk : k < bd.length) (hn0 : A0 = none → c0 = 0) (hc : bd.length ≤ c1) (hc2 : c1 ≤ maxLen) :
    Calls Tryd.prog 48 #[.agg #[.int .i64 q, .slice A0 hd.length c0, .slice A1 bd.length c1], .int .i64 k] w fun r w' => RulOut w.heap.size q hd (lessA bd k) r w' ∧ Fr w w' := by
  obtain ⟨ab, ao, hA, _⟩ := hx1 (by intro e; rw [e] at hk; simp at hk)
  subst hA
  have hml : c1 ≤ 9223372036854775807 := hc2
  have CR := hid (fun W (h : Fr w W) => copyRuleW q A0 (some ⟨ab, ao, none⟩) c0 c1 hd bd W (hx0.fr rdInt_mono h) (hx1.fr rdAtom_mono h) (by omega) (by omega) hn0 (fun h => by cases h))
  have T1 : RdSl rdAtom w.cell? 3 (some ⟨ab, ao, none⟩) (bd.take k) := rd_take hx1
  have T2 : RdSl rdAtom w.cell? 3 (some ⟨ab, ao + (k + 1) * 3, none⟩) (bd.drop (k + 1)) := rd_drop hx1
  have l1 : (bd.take k).length = k := by simp; omega
  have l2 : (bd.drop (k + 1)).length = bd.length - (k + 1) := by simp
  have S1 := src_atom (c := c1) T1 (fun h => by cases h)
  have S2 : Src w.cell? (if c1 = k + 1 then some ⟨ab, ao, none⟩ else some ⟨ab, ao + (k + 1) * 3, none⟩) (bd.drop (k + 1)).length (c1 - (k + 1)) ((bd.drop (k + 1)).flatMap cellsA) := by
    by_cases h : c1 = k + 1
    · rw [if_pos h]
      have : bd.drop (k + 1) = [] := List.eq_nil_of_length_eq_zero (by omega)
      rw [this]
      exact .inr ⟨_, rfl, fun j u hu => by simp at hu⟩
    · rw [if_neg h]
      exact src_atom T2 (fun h => by cases h)
  obtain ⟨P1, eP1⟩ : ∃ P, bd.take k = P := ⟨_, rfl⟩
  obtain ⟨P2, eP2⟩ : ∃ P, bd.drop (k + 1) = P := ⟨_, rfl⟩
  have HL : lessA bd k = P1 ++ P2 := by unfold lessA; rw [eP1, eP2]
  rw [HL]
  rw [eP1] at S1 l1
  rw [eP2] at S2 l2
  have hf1 := cellsA_len P1
  have hf2 := cellsA_len P2
  rw [l1] at S1 hf1
  rw [l2] at S2 hf2
  have HS1 := hid S1
  have HS2 := hid S2
  have HFL := hid (show (P1 ++ P2).flatMap cellsA = P1.flatMap cellsA ++ P2.flatMap cellsA from List.flatMap_append ..)
  have HLN := hid (show (P1 ++ P2).length = k + (bd.length - (k + 1)) by rw [List.length_append, l1, l2])
  obtain ⟨n, hn⟩ : ∃ n, bd.length = n := ⟨_, rfl⟩
  rw [hn] at hl1 hk hc hf2 HS2 CR HLN ⊢
  have EL1 := hid l1
  clear hx0 hx1 eP1 eP2 HL hc2 hn0 T1 T2 S1 S2 l1 l2
  have B0' := (Blk.new w 30 #[.int .i64 q, .slice A0 hd.length c0, .slice (some ⟨ab, ao, none⟩) n c1]).alloc (.cells #[.int .i64 0, .slice none 0 0, .slice none 0 0] 30)
  have B1' := Blk.new (w.alloc (.cells #[.int .i64 q, .slice A0 hd.length c0, .slice (some ⟨ab, ao, none⟩) n c1] 30)) 30 #[.int .i64 0, .slice none 0 0, .slice none 0 0]
  rw [World.size_alloc] at B1'
  have F1 : Fr w ((w.alloc (.cells #[.int .i64 q, .slice A0 hd.length c0, .slice (some ⟨ab, ao, none⟩) n c1] 30)).alloc (.cells #[.int .i64 0, .slice none 0 0, .slice none 0 0] 30)) := by (repeat (first | with_reducible exact Fr.refl _ | with_reducible assumption | with_reducible refine Fr.alloc ?_ _ | with_reducible refine Fr.drew ?_ | with_reducible refine Fr.drewN ?_ _ | (with_reducible refine Fr.setNew2 ?_ ?_ _; · (simp <;> omega)) | with_reducible refine Fr.trans ?_ (by assumption)))
  go_enter Tryd.func48, Tryd.ntmps48
  go_wp2_with fail
  generalize (w.alloc (.cells #[.int .i64 q, .slice A0 hd.length c0, .slice (some ⟨ab, ao, none⟩) n c1] 30)).alloc (.cells #[.int .i64 0, .slice none 0 0, .slice none 0 0] 30) = w1 at B0' B1' F1 ⊢
  refine (CR.out w1 F1).mono ?_
  rintro r w2 ⟨⟨A3, k3, B3, j3, rfl, hO3, hO3'⟩, hF2⟩
  have HO3 := hid hO3
  rw [hn]
  clear hO3 hO3' CR
  have BO := Blk.new w2 30 #[.int .i64 q, .slice A3 hd.length k3, .slice B3 n j3]
  have F3 : Fr w2 (w2.alloc (.cells #[.int .i64 q, .slice A3 hd.length k3, .slice B3 n j3] 30)) := by (repeat (first | with_reducible exact Fr.refl _ | with_reducible assumption | with_reducible refine Fr.alloc ?_ _ | with_reducible refine Fr.drew ?_ | with_reducible refine Fr.drewN ?_ _ | (with_reducible refine Fr.setNew2 ?_ ?_ _; · (simp <;> omega)) | with_reducible refine Fr.trans ?_ (by assumption)))
  go_wp2_with fail
  have hb1w := (show w.heap.size + 1 < w2.heap.size by have := B1'.lt; have := hF2.size; omega)
  have F13 := hF2.trans F3
  have FW3 := F1.trans F13
  replace B0' := B0'.fr F13
  replace B1' := B1'.fr F13
  have hg2 := B1'.lt
  have HO4 := hid (own_fr HO3.out F3)
  have hw1 := F1.size
  generalize w2.alloc (.cells #[.int .i64 q, .slice A3 hd.length k3, .slice B3 n j3] 30) = w3 at BO F3 B0' B1' HO4 F13 FW3 hg2 ⊢
  obtain ⟨b0, b1, b2, _⟩ := B0'.three
  have hbw : ¬ (w.heap.size = w2.heap.size) := by omega
  have hw13 := F13.size
  have q1 : (0 : Int) ≤ (k : Int) := by omega
  have q2 : (k : Int) ≤ (c1 : Int) := by omega
  have q3 : (0 : Int) ≤ (k : Int) + 1 := by omega
  have q4 : (k : Int) + 1 ≤ (n : Int) := by omega
  have q5 : (n : Int) ≤ (c1 : Int) := by omega
  have q6 : IntKind.i64.wrap ((k : Int) + 1) = (k : Int) + 1 := by rw [IntKind.wrap_i64]; omega
  have hne1 : ¬ (w.heap.size + 1 = w2.heap.size) := by omega
  have hne2 : ¬ (w2.heap.size = w.heap.size + 1) := by omega
  by_cases hck : c1 = k + 1
  · obtain rfl : n = k + 1 := by omega
    subst hck
    have hP2 : P2 = [] := List.eq_nil_of_length_eq_zero (by have := cellsA_len P2; omega)
    subst hP2
    have q7 : (k : Int) ≤ (k : Int) + 1 := by omega
    have HS3 := hid (show Src w.cell? (some ⟨ab, ao, none⟩) 0 0 [] from .inr ⟨_, rfl, fun j u hu => by simp at hu⟩)
    have HLEN : (P1 ++ []).length = k ∧ (P1 ++ []).flatMap cellsA = P1.flatMap cellsA := ⟨by rw [List.append_nil]; exact EL1.out, by rw [List.append_nil]⟩
    clear HS2 hf2 HFL HLN
    have keepL : ∀ W' : World, Ch (· = w2.heap.size) w3 W' → (Ch (· = w2.heap.size) w3 W' ∧ W'.cell? ⟨w.heap.size, 2, none⟩ = some (.slice (some ⟨ab, ao, none⟩) (k + 1) (k + 1))) := fun W' F => ⟨F, F.cell hbw b2⟩
    go_region_held3 (fun W' => Ch (· = w2.heap.size) w3 W' ∧ W'.cell? ⟨w.heap.size, 2, none⟩ = some (.slice (some ⟨ab, ao, none⟩) (k + 1) (k + 1))) ((refine keepL _ ?_; (repeat (first | with_reducible exact Ch.refl _ | with_reducible assumption | with_reducible refine Ch.alloc ?_ _ | with_reducible refine Ch.drew ?_ | with_reducible refine Ch.setAt ?_ _ () | with_reducible refine Ch.trans ?_ (by assumption))); done))
      (first
        | ((with_reducible refine upon_srcF 28 64 (.agg #[.int .i64 0, .int .i64 0, .int .i64 0]) 3 24 Tryd.underlying28 (by kernel_rfl) rfl (by decide) (by decide) w3 (.slice (some ⟨w3.heap.size, 0, none⟩) 0 0) 0 [] ?fr ?own (by omega) (some ⟨ab, ao, none⟩) k (k + 1) (P1.flatMap cellsA) hf1 (by omega) ?src (cellsA_one P1) ?_); (case fr => (repeat (first | with_reducible exact Fr.refl _ | with_reducible assumption | with_reducible refine Fr.alloc ?_ _ | with_reducible refine Fr.drew ?_ | with_reducible refine Fr.drewN ?_ _ | (with_reducible refine Fr.setNew2 ?_ ?_ _; · (simp <;> omega)) | with_reducible refine Fr.trans ?_ (by assumption)))); (case own => first | exact own_nilB (Blk.new w3 64 #[]).drew (Nat.le_refl _) | exact own_nilB (Blk.new w3 64 #[]) (Nat.le_refl _) | fail); (case src => exact HS1.out.fr (FW3.trans (by (repeat (first | with_reducible exact Fr.refl _ | with_reducible assumption | with_reducible refine Fr.alloc ?_ _ | with_reducible refine Fr.drew ?_ | with_reducible refine Fr.drewN ?_ _ | (with_reducible refine Fr.setNew2 ?_ ?_ _; · (simp <;> omega)) | with_reducible refine Fr.trans ?_ (by assumption)))))); intro v5 w5 hO5 F5 KB; rw [Nat.zero_add, List.nil_append] at hO5; obtain ⟨A5, k5, rfl⟩ := own_form hO5; have C5 : Ch (· = w2.heap.size) w3 w5 := F5.ch; have HO5 := hid hO5; have HO45 := hid (own_keep (own_fr HO4.out (show Fr w3 _ by (repeat (first | with_reducible exact Fr.refl _ | with_reducible assumption | with_reducible refine Fr.alloc ?_ _ | with_reducible refine Fr.drew ?_ | with_reducible refine Fr.drewN ?_ _ | (with_reducible refine Fr.setNew2 ?_ ?_ _; · (simp <;> omega)) | with_reducible refine Fr.trans ?_ (by assumption))))) (fun g cs hB => KB g 3 cs (by decide) hB)); clear hO5 KB)
        | ((with_reducible refine upon_srcF 28 64 (.agg #[.int .i64 0, .int .i64 0, .int .i64 0]) 3 24 Tryd.underlying28 (by kernel_rfl) rfl (by decide) (by decide) w3 (.slice A5 k k5) k (P1.flatMap cellsA) ?fr ?own (by omega) (some ⟨ab, ao, none⟩) 0 0 [] rfl (by omega) ?src rfl ?_); (case fr => (repeat (first | with_reducible exact Fr.refl _ | with_reducible assumption | with_reducible refine Fr.alloc ?_ _ | with_reducible refine Fr.drew ?_ | with_reducible refine Fr.drewN ?_ _ | (with_reducible refine Fr.setNew2 ?_ ?_ _; · (simp <;> omega)) | with_reducible refine Fr.trans ?_ (by assumption)))); (case own => first | exact HO5.out | exact own_fr HO5.out (Fr.refl _).drew | fail); (case src => exact HS3.out.fr (FW3.trans (by (repeat (first | with_reducible exact Fr.refl _ | with_reducible assumption | with_reducible refine Fr.alloc ?_ _ | with_reducible refine Fr.drew ?_ | with_reducible refine Fr.drewN ?_ _ | (with_reducible refine Fr.setNew2 ?_ ?_ _; · (simp <;> omega)) | with_reducible refine Fr.trans ?_ (by assumption)))))); intro v6 w6 hO6 F6 KB; rw [Nat.add_zero, List.append_nil] at hO6; obtain ⟨A6, k6, rfl⟩ := own_form hO6; have C6 : Ch (· = w2.heap.size) w3 w6 := F6.ch; have HO6 := hid hO6; have HO46 := hid (own_keep (own_fr HO45.out (show Fr w5 _ by (repeat (first | with_reducible exact Fr.refl _ | with_reducible assumption | with_reducible refine Fr.alloc ?_ _ | with_reducible refine Fr.drew ?_ | with_reducible refine Fr.drewN ?_ _ | (with_reducible refine Fr.setNew2 ?_ ?_ _; · (simp <;> omega)) | with_reducible refine Fr.trans ?_ (by assumption))))) (fun g cs hB => KB g 3 cs (by decide) hB)); clear hO6 KB; have B6 := BO.fr F6; obtain ⟨z0', z1', z2', zf0', zf1', zf2'⟩ := B6.three; have BRR := B1'.fr F6; obtain ⟨x0, x1, x2, xf0, xf1, xf2⟩ := BRR.three; have TT : Ch (· = w2.heap.size) w3 (w6.setCell ⟨w2.heap.size, 2, none⟩ (.slice A6 k k6)) := Ch.setAt C6 _ ())
        | fail)
    all_goals have BF := B6.set_ 2 (.slice A6 k k6)
    all_goals have O4 := mrow_set (o := 2) (u := .slice A6 k k6) HO46.out (mrow_ne HO46.out B6 (by decide))
    all_goals have O6 := mrow_set (o := 2) (u := .slice A6 k k6) HO6.out (mrow_ne HO6.out B6 (by decide))
    all_goals have FE : Fr w _ := TT.fr (fun j hj => by have : j = w2.heap.size := hj; omega) FW3
    all_goals have BR := BRR.far (p := ⟨w2.heap.size, 2, none⟩) (by show w.heap.size + 1 ≠ w2.heap.size; omega) (.slice A6 k k6)
    all_goals have HFIN := hid (withoutEnd (q := q) O4 O6 BR FE trivial HLEN (by omega) (by omega))
    all_goals have BE := ((BR.set_ 0 (.int .i64 q)).set_ 1 (.slice A3 hd.length k3)).set_ 2 (.slice A6 k k6)
    all_goals obtain ⟨y0, y1, y2, _⟩ := BF.three
    all_goals clear O4 O6 TT C5 C6 B6 BRR FE keepL HO4 HO46 HO45 HO5 HO6 z0' z1' z2' zf0' zf1' zf2' b0 b1 b2
    all_goals go_wp2
    all_goals (obtain ⟨u0, u1, u2, _⟩ := BE.three; clear BF BE BR y0 y1 y2 x0 x1 x2 xf0 xf1 xf2)
    all_goals generalize (((w6.setCell ⟨w2.heap.size, 2, none⟩ (.slice A6 k k6)).setCell ⟨w.heap.size + 1, 0, none⟩ (.int .i64 q)).setCell ⟨w.heap.size + 1, 1, none⟩ (.slice A3 hd.length k3)).setCell ⟨w.heap.size + 1, 2, none⟩ (.slice A6 k k6) = w9 at HFIN u0 u1 u2 ⊢
    all_goals refine bodyPost_ret (v := .agg #[.int .i64 q, .slice A3 hd.length k3, .slice A6 k k6]) (by simp [results, Tryd.results48, go_sem, u0, u1, u2]) rfl ?_
    all_goals exact HFIN.out
  · rw [if_neg hck] at HS2
    have HLEN : (P1 ++ P2).length = k + (n - (k + 1)) ∧ (P1 ++ P2).flatMap cellsA = P1.flatMap cellsA ++ P2.flatMap cellsA := ⟨HLN.out, HFL.out⟩
    clear HFL HLN
    have keepL : ∀ W' : World, Ch (· = w2.heap.size) w3 W' → (Ch (· = w2.heap.size) w3 W' ∧ W'.cell? ⟨w.heap.size, 2, none⟩ = some (.slice (some ⟨ab, ao, none⟩) n c1)) := fun W' F => ⟨F, F.cell hbw b2⟩
    go_region_held3 (fun W' => Ch (· = w2.heap.size) w3 W' ∧ W'.cell? ⟨w.heap.size, 2, none⟩ = some (.slice (some ⟨ab, ao, none⟩) n c1)) ((refine keepL _ ?_; (repeat (first | with_reducible exact Ch.refl _ | with_reducible assumption | with_reducible refine Ch.alloc ?_ _ | with_reducible refine Ch.drew ?_ | with_reducible refine Ch.setAt ?_ _ () | with_reducible refine Ch.trans ?_ (by assumption))); done))
      (first
        | ((with_reducible refine upon_srcF 28 64 (.agg #[.int .i64 0, .int .i64 0, .int .i64 0]) 3 24 Tryd.underlying28 (by kernel_rfl) rfl (by decide) (by decide) w3 (.slice (some ⟨w3.heap.size, 0, none⟩) 0 0) 0 [] ?fr ?own (by omega) (some ⟨ab, ao, none⟩) k c1 (P1.flatMap cellsA) hf1 (by omega) ?src (cellsA_one P1) ?_); (case fr => (repeat (first | with_reducible exact Fr.refl _ | with_reducible assumption | with_reducible refine Fr.alloc ?_ _ | with_reducible refine Fr.drew ?_ | with_reducible refine Fr.drewN ?_ _ | (with_reducible refine Fr.setNew2 ?_ ?_ _; · (simp <;> omega)) | with_reducible refine Fr.trans ?_ (by assumption)))); (case own => first | exact own_nilB (Blk.new w3 64 #[]).drew (Nat.le_refl _) | exact own_nilB (Blk.new w3 64 #[]) (Nat.le_refl _) | fail); (case src => exact HS1.out.fr (FW3.trans (by (repeat (first | with_reducible exact Fr.refl _ | with_reducible assumption | with_reducible refine Fr.alloc ?_ _ | with_reducible refine Fr.drew ?_ | with_reducible refine Fr.drewN ?_ _ | (with_reducible refine Fr.setNew2 ?_ ?_ _; · (simp <;> omega)) | with_reducible refine Fr.trans ?_ (by assumption)))))); intro v5 w5 hO5 F5 KB; rw [Nat.zero_add, List.nil_append] at hO5; obtain ⟨A5, k5, rfl⟩ := own_form hO5; have C5 : Ch (· = w2.heap.size) w3 w5 := F5.ch; have HO5 := hid hO5; have HO45 := hid (own_keep (own_fr HO4.out (show Fr w3 _ by (repeat (first | with_reducible exact Fr.refl _ | with_reducible assumption | with_reducible refine Fr.alloc ?_ _ | with_reducible refine Fr.drew ?_ | with_reducible refine Fr.drewN ?_ _ | (with_reducible refine Fr.setNew2 ?_ ?_ _; · (simp <;> omega)) | with_reducible refine Fr.trans ?_ (by assumption))))) (fun g cs hB => KB g 3 cs (by decide) hB)); clear hO5 KB)
        | ((with_reducible refine upon_srcF 28 64 (.agg #[.int .i64 0, .int .i64 0, .int .i64 0]) 3 24 Tryd.underlying28 (by kernel_rfl) rfl (by decide) (by decide) w3 (.slice A5 k k5) k (P1.flatMap cellsA) ?fr ?own (by omega) (some ⟨ab, ao + (k + 1) * 3, none⟩) (n - (k + 1)) (c1 - (k + 1)) (P2.flatMap cellsA) hf2 (by omega) ?src (cellsA_one P2) ?_); (case fr => (repeat (first | with_reducible exact Fr.refl _ | with_reducible assumption | with_reducible refine Fr.alloc ?_ _ | with_reducible refine Fr.drew ?_ | with_reducible refine Fr.drewN ?_ _ | (with_reducible refine Fr.setNew2 ?_ ?_ _; · (simp <;> omega)) | with_reducible refine Fr.trans ?_ (by assumption)))); (case own => first | exact HO5.out | exact own_fr HO5.out (Fr.refl _).drew | fail); (case src => exact HS2.out.fr (FW3.trans (by (repeat (first | with_reducible exact Fr.refl _ | with_reducible assumption | with_reducible refine Fr.alloc ?_ _ | with_reducible refine Fr.drew ?_ | with_reducible refine Fr.drewN ?_ _ | (with_reducible refine Fr.setNew2 ?_ ?_ _; · (simp <;> omega)) | with_reducible refine Fr.trans ?_ (by assumption)))))); intro v6 w6 hO6 F6 KB; skip; obtain ⟨A6, k6, rfl⟩ := own_form hO6; have C6 : Ch (· = w2.heap.size) w3 w6 := F6.ch; have HO6 := hid hO6; have HO46 := hid (own_keep (own_fr HO45.out (show Fr w5 _ by (repeat (first | with_reducible exact Fr.refl _ | with_reducible assumption | with_reducible refine Fr.alloc ?_ _ | with_reducible refine Fr.drew ?_ | with_reducible refine Fr.drewN ?_ _ | (with_reducible refine Fr.setNew2 ?_ ?_ _; · (simp <;> omega)) | with_reducible refine Fr.trans ?_ (by assumption))))) (fun g cs hB => KB g 3 cs (by decide) hB)); clear hO6 KB; have B6 := BO.fr F6; obtain ⟨z0', z1', z2', zf0', zf1', zf2'⟩ := B6.three; have BRR := B1'.fr F6; obtain ⟨x0, x1, x2, xf0, xf1, xf2⟩ := BRR.three; have TT : Ch (· = w2.heap.size) w3 (w6.setCell ⟨w2.heap.size, 2, none⟩ (.slice A6 (k + (n - (k + 1))) k6)) := Ch.setAt C6 _ ())
        | fail)
    all_goals have BF := B6.set_ 2 (.slice A6 (k + (n - (k + 1))) k6)
    all_goals have O4 := mrow_set (o := 2) (u := .slice A6 (k + (n - (k + 1))) k6) HO46.out (mrow_ne HO46.out B6 (by decide))
    all_goals have O6 := mrow_set (o := 2) (u := .slice A6 (k + (n - (k + 1))) k6) HO6.out (mrow_ne HO6.out B6 (by decide))
    all_goals have FE : Fr w _ := TT.fr (fun j hj => by have : j = w2.heap.size := hj; omega) FW3
    all_goals have BR := BRR.far (p := ⟨w2.heap.size, 2, none⟩) (by show w.heap.size + 1 ≠ w2.heap.size; omega) (.slice A6 (k + (n - (k + 1))) k6)
    all_goals have HFIN := hid (withoutEnd (q := q) O4 O6 BR FE trivial HLEN (by omega) (by omega))
    all_goals have BE := ((BR.set_ 0 (.int .i64 q)).set_ 1 (.slice A3 hd.length k3)).set_ 2 (.slice A6 (k + (n - (k + 1))) k6)
    all_goals obtain ⟨y0, y1, y2, _⟩ := BF.three
    all_goals clear O4 O6 TT C5 C6 B6 BRR FE keepL HO4 HO46 HO45 HO5 HO6 z0' z1' z2' zf0' zf1' zf2' b0 b1 b2
    all_goals go_wp2
    all_goals (obtain ⟨u0, u1, u2, _⟩ := BE.three; clear BF BE BR y0 y1 y2 x0 x1 x2 xf0 xf1 xf2)
    all_goals generalize (((w6.setCell ⟨w2.heap.size, 2, none⟩ (.slice A6 (k + (n - (k + 1))) k6)).setCell ⟨w.heap.size + 1, 0, none⟩ (.int .i64 q)).setCell ⟨w.heap.size + 1, 1, none⟩ (.slice A3 hd.length k3)).setCell ⟨w.heap.size + 1, 2, none⟩ (.slice A6 (k + (n - (k + 1))) k6) = w9 at HFIN u0 u1 u2 ⊢
    all_goals refine bodyPost_ret (v := .agg #[.int .i64 q, .slice A3 hd.length k3, .slice A6 (k + (n - (k + 1))) k6]) (by simp [results, Tryd.results48, go_sem, u0, u1, u2]) rfl ?_
    all_goals exact HFIN.out
end Go.Proofs.YtahclhldpcboeaaDoor
