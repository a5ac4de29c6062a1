/- Value: how it lies in memory, how an argument of it opens, and the walks of its sizes, copies and comparisons. -/
import Derived.Test.YtlmiadeaiiehaaaProg
import Derived.Test.YtlmiadeaiiehaaaOpen
import Derived.Test.YtlmiadeaiiehaaaMem
import Derived.WalkKit
import Derived.WalkSpells
import Derived.WalkLawsBesides
import Derived.Outline
import Derived.BigQuiet
import Derived.Deep.QuietTactic
import Derived.StillTailTactics
import Derived.Test.YtlmiadeaiiehaaaValW
namespace Go.Proofs.Ytlmiadeaiiehaaa
open Go Go.RowKit

def rdV : Rd V := fun _ c d => c 0 = some (.bool d.null) ∧ c 1 = some (.int .i64 d.n)
theorem rdV_flat : RdFlat rdV := fun _ _ _ _ _ hc h => ⟨hc _ _ h.1, hc _ _ h.2⟩
theorem rdV_mono : RdMono rdV := fun _ _ _ _ _ _ hc h => ⟨hc _ _ h.1, hc _ _ h.2⟩
theorem RdSl.v {m : Mv} {A : Option Addr} {xs : List V} (h : RdSl rdV m 2 A xs) {k : Nat} (hk : k < xs.length) :
    ∃ b o, A = some ⟨b, o, none⟩ ∧ m ⟨b, o + k * 2, none⟩ = some (.bool xs[k].null) ∧ m ⟨b, o + k * 2 + 1, none⟩ = some (.int .i64 xs[k].n) := by
  obtain ⟨b, o, hA, hc⟩ := h.at_ hk
  exact ⟨b, o, hA, hc⟩
section
open Go.ChangeShapes Go.WideShapes
variable {H : Type} {enc : TypeId × Value → H} {W : World}
theorem op_v (n : Nat) : Op enc Try.prog W n 89 2 rdV := fun cs x h => by
  refine ⟨op_len Try.underlying89 (by kernel_rfl) h, ?_⟩
  obtain ⟨a0, h0⟩ := op_field (rd := rdBool) (i := 0) (off := 0) (sz := 1) rdBool_mono Try.underlying89 rfl rfl (by kernel_rfl) (fun k _ => op_bool Try.underlying4) h
  obtain ⟨a1, h1⟩ := op_field (rd := rdIntB) (i := 1) (off := 1) (sz := 1) rdIntB_mono Try.underlying89 rfl rfl (by kernel_rfl) (fun k _ => op_int Try.underlying3) h
  exact ⟨⟨a0, a1⟩, h0, h1.1⟩
set_option maxRecDepth 100000 in
theorem open_vS {base : Nat} {v : Value} {d : DataW H} {p : List MemPlace} (hv : Value.okWide Try.prog W .any base 79 v) (h : DataW.Trod enc Try.prog W 0 (fun _ => true) true 79 v d p) :
    ∃ A cap xs, v = .slice A xs.length cap ∧ RdSl rdV W.cell? 2 A xs ∧ xs.length ≤ maxLen ∧ xs.length ≤ cap :=
  open_sl rdV_mono Try.underlying79 (by kernel_rfl) (by decide) op_v hv h
end
theorem toV (null : Bool) (n : Int) (w : World) :
    Calls Try.prog 68 #[.agg #[.bool null, .int .i64 n]] w fun e w' => e = .returned (.agg #[.bool null, .int .i64 n]) ∧ Fr w w' := by
  go_enter Try.func68, Try.ntmps68
  go_wp2
  exact bodyPost_ret (v := .agg #[.bool null, .int .i64 n]) (by simp [results, Try.results68, go_sem]) rfl ⟨rfl, by (repeat (first | with_reducible exact Fr.refl _ | with_reducible assumption | with_reducible refine Fr.alloc ?_ _ | with_reducible refine Fr.drew ?_ | with_reducible refine Fr.drewN ?_ _ | (with_reducible refine Fr.setNew2 ?_ ?_ _; · (simp <;> omega)) | with_reducible refine Fr.trans ?_ (by assumption)))⟩
theorem eqV (null : Bool) (n : Int) (null' : Bool) (n' : Int) (w : World) :
    Calls Try.prog 72 #[.agg #[.bool null, .int .i64 n], .agg #[.bool null', .int .i64 n']] w fun e w' => e = .returned (.bool (decide (null = null') && decide (n = n'))) ∧ Fr w w' := by
  go_enter Try.func72, Try.ntmps72
  go_wp2
  all_goals go_ret
  all_goals exact ⟨ret_bool (by rw [Bool.eq_iff_iff]; simp_all), by (repeat (first | with_reducible exact Fr.refl _ | with_reducible assumption | with_reducible refine Fr.alloc ?_ _ | with_reducible refine Fr.drew ?_ | with_reducible refine Fr.drewN ?_ _ | (with_reducible refine Fr.setNew2 ?_ ?_ _; · (simp <;> omega)) | with_reducible refine Fr.trans ?_ (by assumption)))⟩
theorem szVS (A : Option Addr) (n cap : Nat) (left : Int) (w : World) (hn : n ≤ maxLen) (h0 : 0 ≤ left) (h1 : left ≤ 1048576) :
    Calls Try.prog 47 #[.slice A n cap, .int .i64 left] w fun e w' => e = .returned (.int .i64 (if left < n then -1 else left - n)) ∧ w = w' := by
  unfold maxLen at hn
  go_enter Try.func47, Try.ntmps47
  go_wp2
  all_goals go_ret
  all_goals exact ⟨ret_int (by first | rfl | (split <;> omega)), rfl⟩
theorem toVS (A : Option Addr) (cap : Nat) (xs : List V) (w : World) (hx : RdSl rdV w.cell? 2 A xs) (hl : xs.length ≤ 1048576) :
    Calls Try.prog 52 #[.slice A xs.length cap] w fun e w' => ∃ g cs, e = .returned (.slice (some ⟨g, 0, none⟩) xs.length xs.length) ∧ w.heap.size ≤ g ∧ Blk w' g 63 cs ∧ cs.size = xs.length * 2 ∧ RdSl rdV w'.cell? 2 (some ⟨g, 0, none⟩) xs ∧ Fr w w' := by
  have H := hid hx
  clear hx
  have hmk := mk_row (P := Try.prog) 61 63 (.agg #[.bool false, .int .i64 0]) 2 16 Try.underlying61 (by kernel_rfl) xs.length (by omega) (by omega)
  go_enter Try.func52, Try.ntmps52
  go_wp2
  go_loopw [4] (fun t wr => ∃ (k : Nat) (cs : Array Value), k ≤ xs.length ∧ t = .int .i64 k ∧ Fr w wr ∧ Blk wr w.heap.size 63 cs ∧ cs.size = xs.length * 2 ∧
      ∀ i (h : i < xs.length), i < k → cs[i * 2]? = some (.bool xs[i].null) ∧ cs[i * 2 + 1]? = some (.int .i64 xs[i].n)) (fun t _ => xs.length - (intOf t).toNat)
  case atStart => exact ⟨0, _, by omega, rfl, by (repeat (first | with_reducible exact Fr.refl _ | with_reducible assumption | with_reducible refine Fr.alloc ?_ _ | with_reducible refine Fr.drew ?_ | with_reducible refine Fr.drewN ?_ _ | (with_reducible refine Fr.setNew2 ?_ ?_ _; · (simp <;> omega)) | with_reducible refine Fr.trans ?_ (by assumption))), Blk.new _ _ _, by simp [made_size], fun i h h' => absurd h' (by omega)⟩
  case round =>
    obtain ⟨k, cs, hk, rfl, hf, hB, hz, hv⟩ := hrel
    have HV := hid hv
    clear hv
    have HZ := hid hz
    clear hz
    by_cases hlt : k < xs.length
    · obtain ⟨b, o, rfl, c0, c1⟩ := H.out.v hlt
      replace c0 := hf.cell c0
      replace c1 := hf.cell c1
      go_wp2_with (go_at_call 68; refine (toV _ _ _).mono ?_; rintro e w1 ⟨rfl, hb1⟩; replace hB := hB.fr hb1; clear c0 c1; obtain ⟨u0, d0⟩ := hB.cell_some (i := k * 2) (by have := HZ.out; omega); obtain ⟨u1, d1⟩ := hB.cell_some (i := k * 2 + 1) (by have := HZ.out; omega); have f0 := hB.frozen (k * 2); have f1 := hB.frozen (k * 2 + 1))
      go_roundw
      case rel => exact ⟨k + 1, _, by omega, by go_num, (((hf.trans hb1).setNew (Nat.le_refl _) _).setNew (Nat.le_refl _) _), ((hB.set_ _ _).set_ _ _), by simpa using HZ.out, fun i h hi => by
        have hz := HZ.out
        simp only [Array.getElem?_setIfInBounds]
        by_cases e : i = k
        · subst e; simp; omega
        · repeat rw [if_neg (by omega)]
          exact HV.out i h (by omega)⟩
      case measure => simp [intOf]; omega
    · obtain rfl : k = xs.length := by omega
      go_wp2
      go_ret
      exact ⟨_, cs, rfl, Nat.le_refl _, hB, HZ.out, fun hne => ⟨_, 0, rfl, fun i h => by
        simp only [rdV, hB.cell, Nat.zero_add]
        exact HV.out i h h⟩, hf⟩
/-- The same, without its block. -/
theorem toVS' (A : Option Addr) (cap : Nat) (xs : List V) (w : World) (hx : RdSl rdV w.cell? 2 A xs) (hl : xs.length ≤ 1048576) :
    Calls Try.prog 52 #[.slice A xs.length cap] w fun e w' => ∃ g, e = .returned (.slice (some ⟨g, 0, none⟩) xs.length xs.length) ∧ RdSl rdV w'.cell? 2 (some ⟨g, 0, none⟩) xs ∧ Fr w w' :=
  (toVS A cap xs w hx hl).mono fun _ _ ⟨g, _, h1, _, _, _, h5, h6⟩ => ⟨g, h1, h5, h6⟩
/-- .. and read in blocks of the call's own. -/
theorem toVSB (A : Option Addr) (cap : Nat) (xs : List V) (w : World) (hx : RdSl rdV w.cell? 2 A xs) (hl : xs.length ≤ 1048576) :
    Calls Try.prog 52 #[.slice A xs.length cap] w fun e w' => ∃ g, e = .returned (.slice (some ⟨g, 0, none⟩) xs.length xs.length) ∧ RdSl rdV (fromB w' w.heap.size) 2 (some ⟨g, 0, none⟩) xs ∧ Fr w w' :=
  (toVS A cap xs w hx hl).mono fun _ _ ⟨g, _, h1, h2, _, _, h5, h6⟩ => ⟨g, h1, h5.toB rdV_flat h2, h6⟩
set_option maxRecDepth 100000 in
theorem eqVS (A A' : Option Addr) (cap cap' : Nat) (xs ys : List V) (w : World) (hx : RdSl rdV w.cell? 2 A xs) (hy : RdSl rdV w.cell? 2 A' ys) (hl : xs.length ≤ 1048576) (hl' : ys.length ≤ 1048576) :
    Calls Try.prog 56 #[.slice A xs.length cap, .slice A' ys.length cap'] w fun e w' => e = .returned (.bool (decide (xs = ys))) ∧ Fr w w' := by
  have HX := hid hx
  have HY := hid hy
  clear hx hy
  by_cases hlen : xs.length = ys.length
  · have HL := hid hlen
    have e1 : (((xs.length : Int)) != ((ys.length : Int))) = false := by simp [hlen]
    clear hlen
    go_enter Try.func56, Try.ntmps56
    go_wp2
    go_loopw [5] (fun t wr => ∃ (k : Nat), k ≤ xs.length ∧ t = .int .i64 k ∧ Fr w wr ∧ ∀ i (h : i < xs.length) (h' : i < ys.length), i < k → xs[i] = ys[i]) (fun t _ => xs.length - (intOf t).toNat)
    case atStart => exact ⟨0, by omega, rfl, by (repeat (first | with_reducible exact Fr.refl _ | with_reducible assumption | with_reducible refine Fr.alloc ?_ _ | with_reducible refine Fr.drew ?_ | with_reducible refine Fr.drewN ?_ _ | (with_reducible refine Fr.setNew2 ?_ ?_ _; · (simp <;> omega)) | with_reducible refine Fr.trans ?_ (by assumption))), fun i h h' h'' => absurd h'' (by omega)⟩
    case round =>
      obtain ⟨k, hk, rfl, hf, hv⟩ := hrel
      have HV := hid hv
      clear hv
      by_cases hlt : k < xs.length
      · have hlt' : k < ys.length := by rw [← HL.out]; exact hlt
        obtain ⟨b, o, rfl, c0, c1⟩ := HX.out.v hlt
        obtain ⟨b', o', rfl, c0', c1'⟩ := HY.out.v hlt'
        replace c0 := hf.cell c0
        replace c0' := hf.cell c0'
        replace c1 := hf.cell c1
        replace c1' := hf.cell c1'
        have hd : (decide (xs[k].null = ys[k].null) && decide (xs[k].n = ys[k].n)) = decide (xs[k] = ys[k]) := by
          rw [Bool.eq_iff_iff]; cases xs[k]; cases ys[k]; simp
        go_wp2_with fail
        go_still_tail 8, (by kernel_rfl)
        cases hE : decide (xs[k] = ys[k])
        · go_wp2_with (go_at_call 72; refine (eqV _ _ _ _ _).mono ?_; rintro e w1 ⟨rfl, hb1⟩)
          go_ret
          refine ⟨ret_bool ?_, hf.drew.trans hb1⟩
          symm
          rw [decide_eq_false_iff_not] at hE ⊢
          intro e
          exact hE (by subst e; rfl)
        · go_wp2_with (go_at_call 72; refine (eqV _ _ _ _ _).mono ?_; rintro e w1 ⟨rfl, hb1⟩)
          go_roundw
          case rel => exact ⟨k + 1, by omega, by go_num, hf.drew.trans hb1, fun i h h' hi => by
            by_cases e : i = k
            · subst e; exact of_decide_eq_true hE
            · exact HV.out i h h' (by omega)⟩
          case measure => simp [intOf]; omega
      · go_wp2
        go_ret
        refine ⟨ret_bool ?_, hf⟩
        symm
        rw [decide_eq_true_iff]
        exact List.ext_getElem HL.out fun i h h' => HV.out i h h' (by omega)
  · have e1 : (((xs.length : Int)) != ((ys.length : Int))) = true := by simp; omega
    go_enter Try.func56, Try.ntmps56
    go_wp2
    go_ret
    refine ⟨ret_bool ?_, Fr.refl _⟩
    symm
    rw [decide_eq_false_iff_not]
    intro e
    exact hlen (by rw [e])
end Go.Proofs.Ytlmiadeaiiehaaa
