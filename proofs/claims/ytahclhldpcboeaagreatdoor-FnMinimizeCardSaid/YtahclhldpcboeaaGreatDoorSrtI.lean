/- Walks of the library's insertion sort at facts. -/
import Derived.Test.YtahclhldpcboeaaGreatDoorSrtP
import Derived.Test.YtahclhldpcboeaaGreatDoorFactW
import Derived.Test.YtahclhldpcboeaaGreatDoorMemQ
import Derived.Deep.RegionWith
namespace Go.Proofs.YtahclhldpcboeaaGreatDoor
open Go Go.RowKit

/-- The cells hold the facts, from the first on. -/
def FAt (cs : Array Value) (ys : List Fact) : Prop := ∀ i (h : i < ys.length), cs[i * 3]? = some (.int .i64 ys[i].rel) ∧ cs[i * 3 + 1]? = some (.int .i64 ys[i].x) ∧ cs[i * 3 + 2]? = some (.int .i64 ys[i].y)
theorem FAt.cells {w : World} {g : Nat} {t : TypeId} {cs : Array Value} {ys : List Fact} (h : FAt cs ys) (hB : Blk w g t cs) {i : Nat} (hi : i < ys.length) {a : Fact} (ha : fat ys i = a) :
    w.cell? ⟨g, i * 3, none⟩ = some (.int .i64 a.rel) ∧ w.cell? ⟨g, i * 3 + 1, none⟩ = some (.int .i64 a.x) ∧ w.cell? ⟨g, i * 3 + 2, none⟩ = some (.int .i64 a.y) := by
  subst ha
  obtain ⟨h0, h1, h2⟩ := h i hi
  rw [fat_at hi, hB.cell, hB.cell, hB.cell]
  exact ⟨h0, h1, h2⟩
/-- One element written anew. -/
def put3 (cs : Array Value) (j : Nat) (a : Fact) : Array Value := ((cs.setIfInBounds (j * 3) (.int .i64 a.rel)).setIfInBounds (j * 3 + 1) (.int .i64 a.x)).setIfInBounds (j * 3 + 2) (.int .i64 a.y)
theorem put3_size (cs : Array Value) (j : Nat) (a : Fact) : (put3 cs j a).size = cs.size := by simp [put3]
theorem put3_at {cs : Array Value} {j : Nat} {a : Fact} (h : j * 3 + 2 < cs.size) : (put3 cs j a)[j * 3]? = some (.int .i64 a.rel) ∧ (put3 cs j a)[j * 3 + 1]? = some (.int .i64 a.x) ∧ (put3 cs j a)[j * 3 + 2]? = some (.int .i64 a.y) := by
  unfold put3
  simp only [Array.getElem?_setIfInBounds, Array.size_setIfInBounds]
  refine ⟨?_, ?_, ?_⟩
  · rw [if_neg (by omega), if_neg (by omega), if_pos trivial, if_pos (by omega)]
  · rw [if_neg (by omega), if_pos trivial, if_pos (by omega)]
  · rw [if_pos trivial, if_pos (by omega)]
theorem put3_far {cs : Array Value} {j i q : Nat} {a : Fact} (h : i ≠ j) (hq : q < 3) : (put3 cs j a)[i * 3 + q]? = cs[i * 3 + q]? := by
  unfold put3
  simp only [Array.getElem?_setIfInBounds]
  rw [if_neg (by omega), if_neg (by omega), if_neg (by omega)]
theorem fat_put {cs : Array Value} {ys : List Fact} {j : Nat} {a : Fact} (h : FAt cs ys) (hj : j < ys.length) (hs : ys.length * 3 ≤ cs.size) : FAt (put3 cs j a) (ys.set j a) := fun i hi => by
  simp only [List.length_set] at hi
  rw [List.getElem_set]
  by_cases e : j = i
  · subst e
    rw [if_pos rfl]
    exact put3_at (by omega)
  · rw [if_neg e]
    obtain ⟨h0, h1, h2⟩ := h i hi
    exact ⟨(put3_far (q := 0) (fun x => e x.symm) (by omega)).trans h0, (put3_far (q := 1) (fun x => e x.symm) (by omega)).trans h1, (put3_far (q := 2) (fun x => e x.symm) (by omega)).trans h2⟩
theorem blk_put {w : World} {g : Nat} {t : TypeId} {cs : Array Value} (h : Blk w g t cs) (j : Nat) (a : Fact) : Blk (((w.setCell ⟨g, j * 3, none⟩ (.int .i64 a.rel)).setCell ⟨g, j * 3 + 1, none⟩ (.int .i64 a.x)).setCell ⟨g, j * 3 + 2, none⟩ (.int .i64 a.y)) g t (put3 cs j a) :=
  ((h.set_ _ _).set_ _ _).set_ _ _
theorem ch_put {w0 w : World} {g : Nat} (h : Ch (· = g) w0 w) (j : Nat) (a : Fact) : Ch (· = g) w0 (((w.setCell ⟨g, j * 3, none⟩ (.int .i64 a.rel)).setCell ⟨g, j * 3 + 1, none⟩ (.int .i64 a.x)).setCell ⟨g, j * 3 + 2, none⟩ (.int .i64 a.y)) :=
  Ch.set (S := (· = g)) (Ch.set (S := (· = g)) (Ch.set (S := (· = g)) h (.inl rfl) _) (.inl rfl) _) (.inl rfl) _
/-- A row of facts while it is sorted. -/
def SSt (w0 : World) (g sz : Nat) (xs : List Fact) (w : World) (ys : List Fact) : Prop := ys.length = xs.length ∧ (∀ x, x ∈ ys ↔ x ∈ xs) ∧ (∃ cs, Blk w g 54 cs ∧ cs.size = sz ∧ FAt cs ys) ∧ Ch (· = g) w0 w
theorem SSt.fr {w0 w w' : World} {g sz : Nat} {xs ys : List Fact} (h : SSt w0 g sz xs w ys) (hf : Fr w w') : SSt w0 g sz xs w' ys := by
  obtain ⟨h1, h2, ⟨cs, hB, hs, hF⟩, hC⟩ := h
  exact ⟨h1, h2, ⟨cs, hB.fr hf, hs, hF⟩, hC.trans hf.ch⟩
theorem SSt.swap {w0 w : World} {g sz : Nat} {xs ys : List Fact} {j : Nat} {a b : Fact} (h : SSt w0 g sz xs w ys) (hj : 0 < j) (hl : j < ys.length) (hs : ys.length * 3 ≤ sz) (ha : fat ys j = a) (hb : fat ys (j - 1) = b) :
    SSt w0 g sz xs ((((((w.setCell ⟨g, j * 3, none⟩ (.int .i64 b.rel)).setCell ⟨g, j * 3 + 1, none⟩ (.int .i64 b.x)).setCell ⟨g, j * 3 + 2, none⟩ (.int .i64 b.y)).setCell ⟨g, (j - 1) * 3, none⟩ (.int .i64 a.rel)).setCell ⟨g, (j - 1) * 3 + 1, none⟩ (.int .i64 a.x)).setCell ⟨g, (j - 1) * 3 + 2, none⟩ (.int .i64 a.y)) (swapL ys j) := by
  obtain ⟨h1, h2, ⟨cs, hB, hz, hF⟩, hC⟩ := h
  subst ha hb
  refine ⟨by rw [swapL_len]; exact h1, fun x => by rw [swapL_mem hj hl]; exact h2 x, ⟨put3 (put3 cs j (fat ys (j - 1))) (j - 1) (fat ys j), blk_put (blk_put hB _ _) _ _, by rw [put3_size, put3_size]; exact hz, ?_⟩, ch_put (ch_put hC _ _) _ _⟩
  unfold swapL
  exact fat_put (fat_put hF hl (by omega)) (by simp; omega) (by rw [put3_size]; simp; omega)
set_option maxRecDepth 100000 in
set_option maxHeartbeats 2000000 in
theorem insSort (g cap sz : Nat) (xs : List Fact) (cs : Array Value) (w : World) (hB : Blk w g 54 cs) (hz : cs.size = sz) (hF : FAt cs xs) (h1 : 1 ≤ xs.length) (h2 : xs.length ≤ 12) (hs : xs.length * 3 ≤ sz) :
    Calls Tryz.prog 102 #[.slice (some ⟨g, 0, none⟩) xs.length cap, .int .i64 0, .int .i64 xs.length, .func (.func 28) #[] #[]] w fun r w' => r = .returned (.tuple #[]) ∧ ∃ ys, SSt w g sz xs w' ys ∧ Srt (fat ys) ys.length := by
  have S0 := hid (show SSt w g sz xs w xs ∧ Srt (fat xs) 1 from ⟨⟨rfl, fun x => Iff.rfl, ⟨cs, hB, hz, hF⟩, Ch.refl _⟩, fun p q h1 h2 => by omega⟩)
  clear hB hF hz
  go_enter Tryz.func102, Tryz.ntmps102
  go_wp2
  go_loopw [8] (fun t wr => ∃ (i : Nat) (ys : List Fact), 1 ≤ i ∧ i ≤ xs.length ∧ t = .int .i64 i ∧ Hid (SSt w g sz xs wr ys ∧ Srt (fat ys) i)) (fun t _ => xs.length - (intOf t).toNat)
  case atStart => exact ⟨1, xs, by omega, by omega, rfl, S0⟩
  case round =>
    revert wr
    intro W1 hrel
    obtain ⟨i, ys, hi1, hi, rfl, hS⟩ := hrel
    by_cases hlt : i < xs.length
    · have S1 := hid (show SSt w g sz xs W1 ys ∧ Ins (fat ys) i i from ⟨hS.out.1, ins_start hS.out.2⟩)
      clear hS
      go_wp2
      go_loopw [9] (fun t wr => ∃ (j : Nat) (ys : List Fact), j ≤ i ∧ t = .int .i64 j ∧ Hid (SSt w g sz xs wr ys ∧ Ins (fat ys) i j)) (fun t _ => (intOf t).toNat)
      case atStart => exact ⟨i, ys, by omega, rfl, S1⟩
      case round =>
        clear S1
        obtain ⟨j, zs, hji, rfl, hS⟩ := hrel
        have hzl := hS.out.1.1
        by_cases hj : 0 < j
        · have e0 : decide (0 < j) = true := decide_eq_true hj
          have e0' : decide ((0 : Int) < (j : Int)) = true := decide_eq_true (by omega)
          obtain ⟨a, ea⟩ : ∃ a, fat zs j = a := ⟨_, rfl⟩
          obtain ⟨b, eb⟩ : ∃ b, fat zs (j - 1) = b := ⟨_, rfl⟩
          obtain ⟨_, _, ⟨cs', hB, hz, hF⟩, _⟩ := hS.out.1
          obtain ⟨c0, c1, c2⟩ := hF.cells hB (i := j) (by omega) ea
          obtain ⟨d0, d1, d2⟩ := hF.cells hB (i := j - 1) (by omega) eb
          have f0 := hB.frozen (j * 3)
          have f1 := hB.frozen (j * 3 + 1)
          have f2 := hB.frozen (j * 3 + 2)
          have f3 := hB.frozen ((j - 1) * 3)
          have f4 := hB.frozen ((j - 1) * 3 + 1)
          have f5 := hB.frozen ((j - 1) * 3 + 2)
          have CL : decide (Fact.cmp ⟨a.rel, a.x, a.y⟩ ⟨b.rel, b.x, b.y⟩ < 0) = a.less b := by
            have := Fact.cmp_less a b
            have h : decide (Fact.cmp a b < 0) = !decide (0 ≤ Fact.cmp a b) := by rw [Bool.eq_iff_iff]; simp
            rw [show Fact.cmp ⟨a.rel, a.x, a.y⟩ ⟨b.rel, b.x, b.y⟩ = Fact.cmp a b from rfl, h, this]; simp
          have EA := hid ea
          have EB := hid eb
          clear ea eb hF hB
          cases hl : a.less b
          · rw [hl] at CL
            go_wp2_with fail
            (refine wp_region_quietC (fun w' => Fr _ w') (by kernel_rfl) (by kernel_rfl) (Fr.refl _).drew ?_; (repeat go_big_quiet_step (first | exact fun _ => rfl | exact fun _ => ⟨rfl, rfl⟩ | (intro hw'; replace c0 := hw'.cell c0; replace c1 := hw'.cell c1; replace c2 := hw'.cell c2; replace d0 := hw'.cell d0; replace d1 := hw'.cell d1; replace d2 := hw'.cell d2; go_simp; first | done | exact rfl | exact ⟨rfl, rfl⟩) | (intro hw'; go_at_call 28; refine (factCmp _ _ _ _ _ _ _).mono ?_; rintro e w1 ⟨rfl, hb1⟩; exact ⟨rfl, hw'.trans hb1⟩))); refine wpQuiet_nil ?_; intro wq hq)
            have SE := hid (show SSt w g sz xs wq zs ∧ Srt (fat zs) (i + 1) from ⟨hS.out.1.fr hq, ins_end hS.out.2 (.inr (by rw [EA.out, EB.out]; exact hl)) hji⟩)
            go_wp2
            go_roundw
            case rel => exact ⟨i + 1, zs, by omega, by omega, by go_num, SE⟩
            case measure => simp [intOf]; omega
          · rw [hl] at CL
            go_wp2_with fail
            (refine wp_region_quietC (fun w' => Fr _ w') (by kernel_rfl) (by kernel_rfl) (Fr.refl _).drew ?_; (repeat go_big_quiet_step (first | exact fun _ => rfl | exact fun _ => ⟨rfl, rfl⟩ | (intro hw'; replace c0 := hw'.cell c0; replace c1 := hw'.cell c1; replace c2 := hw'.cell c2; replace d0 := hw'.cell d0; replace d1 := hw'.cell d1; replace d2 := hw'.cell d2; go_simp; first | done | exact rfl | exact ⟨rfl, rfl⟩) | (intro hw'; go_at_call 28; refine (factCmp _ _ _ _ _ _ _).mono ?_; rintro e w1 ⟨rfl, hb1⟩; exact ⟨rfl, hw'.trans hb1⟩))); refine wpQuiet_nil ?_; intro wq hq)
            have SE := hid (show SSt w g sz xs _ _ ∧ Ins (fat (swapL zs j)) i (j - 1) from ⟨(hS.out.1.fr hq).swap hj (by omega) (by omega) EA.out EB.out, ins_congr (by omega) (fun p hp => (swapL_fat hj (by omega) p (by omega)).symm) (ins_swap hS.out.2 hj hji (by rw [EA.out, EB.out]; exact hl))⟩)
            replace f0 := hq.frozen c0 f0
            replace f1 := hq.frozen c1 f1
            replace f2 := hq.frozen c2 f2
            replace f3 := hq.frozen d0 f3
            replace f4 := hq.frozen d1 f4
            replace f5 := hq.frozen d2 f5
            replace c0 := hq.cell c0
            replace c1 := hq.cell c1
            replace c2 := hq.cell c2
            replace d0 := hq.cell d0
            replace d1 := hq.cell d1
            replace d2 := hq.cell d2
            go_wp2_with fail
            go_region
            replace SE := hid (show SSt w g sz xs (World.drew _) _ ∧ Ins (fat (swapL zs j)) i (j - 1) from ⟨SE.out.1.fr (Fr.refl _).drew, SE.out.2⟩)
            go_wp2
            go_roundw
            case rel => exact ⟨j - 1, swapL zs j, by omega, by go_num, SE⟩
            case measure => simp [intOf]; omega
        · have e0 : decide (0 < j) = false := decide_eq_false hj
          have e0' : decide ((0 : Int) < (j : Int)) = false := decide_eq_false (by omega)
          have SE := hid (show ∀ wq, Fr wr wq → SSt w g sz xs wq zs ∧ Srt (fat zs) (i + 1) from fun wq hq => ⟨hS.out.1.fr hq, ins_end hS.out.2 (.inl (by omega)) hji⟩)
          clear hj
          go_wp2_with fail
          (refine wp_region_quietC (fun w' => Fr _ w') (by kernel_rfl) (by kernel_rfl) (Fr.refl _).drew ?_; (repeat go_big_quiet_step (first | exact fun _ => rfl | exact fun _ => ⟨rfl, rfl⟩ | (intro hw'; go_simp; first | done | exact rfl | exact ⟨rfl, rfl⟩) )); refine wpQuiet_nil ?_; intro wq hq)
          replace SE := hid (SE.out _ hq)
          go_wp2
          go_roundw
          case rel => exact ⟨i + 1, zs, by omega, by omega, by go_num, SE⟩
          case measure => simp [intOf]; omega
    · obtain rfl : i = xs.length := by omega
      go_wp2
      go_end0
      exact ⟨rfl, ys, hS.out.1, by rw [hS.out.1.1]; exact hS.out.2⟩
end Go.Proofs.YtahclhldpcboeaaGreatDoor
