/- Walks of the laws on single values. -/
import Derived.Test.YtabbcepdinplfaaValG
import Derived.Test.YtabbcepdinplfaaValOpen
import Derived.Deep.RegionHeld3
namespace Go.Proofs.Ytabbcepdinplfaa
open Go Go.RowKit

theorem toValue (b : Bool) (n : Int) (w : World) :
    Calls Try.prog 18 #[.agg #[.bool b, .int .i64 n]] w fun e w' => e = .returned (.agg #[.bool b, .int .i64 n]) ∧ Fr w w' := by
  go_enter Try.func18, Try.ntmps18
  go_wp2
  exact bodyPost_ret (v := .agg #[.bool b, .int .i64 n]) (by simp [results, Try.results18, go_sem]) rfl ⟨rfl, by (repeat (first | with_reducible exact Fr.refl _ | with_reducible assumption | with_reducible refine Fr.alloc ?_ _ | with_reducible refine Fr.drew ?_ | with_reducible refine Fr.drewN ?_ _ | (with_reducible refine Fr.setNew2 ?_ ?_ _; · (simp <;> omega)) | with_reducible refine Fr.trans ?_ (by assumption)))⟩

theorem walkFnExactValidValue (b : Bool) (n : Int) (w : World) (_ : I64 n) :
    Calls Try.prog 4 #[.agg #[.bool b, .int .i64 n]] w fun e w' => e = .returned (.bool true) ∧ Fr w w' := by
  have F0 : Fr w (w.alloc (.cells #[.bool b, .int .i64 n] 24)) := (Fr.refl _).alloc _
  have HB := hid (Blk.new w 24 #[.bool b, .int .i64 n])
  go_enter Try.func4, Try.ntmps4
  go_wp2_with fail
  refine (toValue _ _ _).mono ?_
  rintro e w1 ⟨rfl, b1⟩
  go_wp2_with fail
  refine (specValidValue _ _ _).mono ?_
  rintro e w2 ⟨rfl, b2⟩
  have c0 := HB.out.at_ (b1.trans b2) (i := 0) rfl
  have c1 := HB.out.at_ (b1.trans b2) (i := 1) rfl
  go_wp2_with fail
  refine (toValue _ _ _).mono ?_
  rintro e w3 ⟨rfl, b3⟩
  go_wp2_with fail
  refine (implValidValue _ _ _).mono ?_
  rintro e w4 ⟨rfl, b4⟩
  go_wp2
  go_ret
  exact ⟨rfl, (((F0.trans b1).trans b2).trans b3).trans b4⟩

theorem walkFnExactCompareValues (an : Bool) (a : Int) (bn : Bool) (b : Int) (w : World) (_ : I64 a) (_ : I64 b) :
    Calls Try.prog 5 #[.agg #[.bool an, .int .i64 a], .agg #[.bool bn, .int .i64 b]] w fun e w' => e = .returned (.bool true) ∧ Fr w w' := by
  have R := V.cmp2_eq ⟨an, a⟩ ⟨bn, b⟩
  have HR := hid R
  clear R
  go_enter Try.func5, Try.ntmps5
  go_wp2_with fail
  go_region_held3 (fun w' => w'.cell? ⟨w.heap.size, 0, none⟩ = some (.bool an) ∧ w'.cell? ⟨w.heap.size, 1, none⟩ = some (.int .i64 a) ∧ w'.cell? ⟨w.heap.size + 1, 0, none⟩ = some (.bool bn) ∧ w'.cell? ⟨w.heap.size + 1, 1, none⟩ = some (.int .i64 b) ∧ Fr w w')
    (first
      | (go_split_ands
         refine ⟨hb1.cell ?_, hb1.cell ?_, hb1.cell ?_, hb1.cell ?_, Fr.trans ?_ hb1⟩ <;> assumption)
      | (refine ⟨?_, ?_, ?_, ?_, ?_⟩
         · (go_simp; done)
         · (go_simp; done)
         · (go_simp; done)
         · (go_simp; done)
         · ((repeat (first | with_reducible exact Fr.refl _ | with_reducible assumption | with_reducible refine Fr.alloc ?_ _ | with_reducible refine Fr.drew ?_ | with_reducible refine Fr.drewN ?_ _ | (with_reducible refine Fr.setNew2 ?_ ?_ _; · (simp <;> omega)) | with_reducible refine Fr.trans ?_ (by assumption))); done)))
    (first
      | (go_at_call 18; refine (toValue _ _ _).mono ?_; rintro e w1 ⟨rfl, hb1⟩)
      | (go_at_call 20; refine (specCompareValues _ _ _ _ _).mono ?_; rintro e w1 ⟨rfl, hb1⟩))
  go_wp2_with fail
  go_region_held3 (fun w' => w'.cell? ⟨w.heap.size, 0, none⟩ = some (.bool an) ∧ w'.cell? ⟨w.heap.size, 1, none⟩ = some (.int .i64 a) ∧ w'.cell? ⟨w.heap.size + 1, 0, none⟩ = some (.bool bn) ∧ w'.cell? ⟨w.heap.size + 1, 1, none⟩ = some (.int .i64 b) ∧ Fr w w')
    (first
      | (go_split_ands
         refine ⟨hb2.cell ?_, hb2.cell ?_, hb2.cell ?_, hb2.cell ?_, Fr.trans ?_ hb2⟩ <;> assumption)
      | (go_split_ands
         refine ⟨?_, ?_, ?_, ?_, Fr.drew ?_⟩ <;> assumption))
    (first
      | (go_at_call 18; refine (toValue _ _ _).mono ?_; rintro e w2 ⟨rfl, hb2⟩)
      | (go_at_call 21; refine (implCompareValues _ _ _ _ _).mono ?_; rintro e w2 ⟨rfl, hb2⟩))
  go_split_ands
  rw [HR.out]
  go_wp2
  go_ret
  exact ⟨rfl, by assumption⟩

theorem drawCompareValues (A : Option Addr) (cap : Nat) (xs : List Nat) (w : World) (hx : RdSl rdByte w.cell? 1 A xs) (hl : xs.length ≤ 1048576) (hc : xs.length ≤ cap) :
    Calls Try.prog 32 #[.slice A xs.length cap] w (Two w) := by
  have H := hid hx
  clear hx
  have hR0 := hid ((Blk.new w 26 #[.bool false, .int .i64 0]).alloc (.cells #[.bool false, .int .i64 0] 26))
  have hS0 := Blk.new (w.alloc (.cells #[.bool false, .int .i64 0] 26)) 26 #[.bool false, .int .i64 0]
  have F0 : Hid (Fr w ((w.alloc (.cells #[.bool false, .int .i64 0] 26)).alloc (.cells #[.bool false, .int .i64 0] 26))) := hid (((Fr.refl _).alloc _).alloc _)
  rw [World.size_alloc] at hS0
  have HS0 := hid hS0
  clear hS0
  go_enter Try.func32, Try.ntmps32
  go_wp2_with fail
  refine (twoValues _ _ _ _ (H.out.fr rdByte_mono F0.out) hl hc).mono ?_
  rintro e w1 ⟨b, n, c, m, rfl, b1⟩
  have F1 := F0.out.trans b1
  obtain ⟨c0, c1, f0, f1⟩ := (hR0.out.fr b1).two
  obtain ⟨d0, d1, g0, g1⟩ := (HS0.out.fr b1).two
  go_wp2
  refine bodyPost_ret (v := .tuple #[.agg #[.bool b, .int .i64 n], .agg #[.bool c, .int .i64 m]]) (by simp [results, Try.results32, go_sem, c0, c1, d0, d1]) rfl ⟨b, n, c, m, rfl, by (repeat (first | with_reducible exact Fr.refl _ | with_reducible assumption | with_reducible refine Fr.alloc ?_ _ | with_reducible refine Fr.drew ?_ | with_reducible refine Fr.drewN ?_ _ | (with_reducible refine Fr.setNew2 ?_ ?_ _; · (simp <;> omega)) | with_reducible refine Fr.trans ?_ (by assumption)))⟩

/-- The facts of the order law. -/
theorem V.cmp_facts (an : Bool) (a : Int) (bn : Bool) (b : Int) (h : (V.mk an a).cmp2 ⟨bn, b⟩ ≠ 2) :
    (V.mk bn b).cmp2 ⟨an, a⟩ = -(V.mk an a).cmp2 ⟨bn, b⟩ ∧ -1 ≤ (V.mk an a).cmp2 ⟨bn, b⟩ ∧ (V.mk an a).cmp2 ⟨bn, b⟩ ≤ 1 ∧ ((V.mk an a).cmp2 ⟨bn, b⟩ == 0) = (an == bn && a == b) ∧ (an = bn ∨ decide ((V.mk an a).cmp2 ⟨bn, b⟩ < 0) = an) := by
  unfold V.cmp2 at h ⊢
  split at h
  · rename_i hv
    rw [Bool.and_eq_true] at hv
    obtain ⟨h1, h2⟩ := hv
    rw [h1, h2]
    simp only [Bool.and_true, if_true, Bool.and_self]
    cases an <;> cases bn <;> simp_all [V.valid, V.cmp, icmp]
    all_goals (try (split <;> (try split) <;> simp_all <;> omega))
  · exact absurd rfl h

theorem walkFnValueOrder (A : Option Addr) (cap : Nat) (xs : List Nat) (w : World) (hx : RdSl rdByte w.cell? 1 A xs) (hl : xs.length ≤ maxLen) (hc : xs.length ≤ cap) :
    Calls Try.prog 8 #[.slice A xs.length cap] w fun e w' => e = .returned (.bool true) ∧ Fr w w' := by
  have H := hid hx
  clear hx
  unfold maxLen at hl
  by_cases hs : xs.length ≤ 1048576
  · have e0 : decide ((1048576 : Int) < (xs.length : Int)) = false := by simp; omega
    go_enter Try.func8, Try.ntmps8
    go_wp2_with fail
    refine (drawCompareValues _ _ _ _ H.out hs hc).mono ?_
    rintro e w1 ⟨an, a, bn, b, rfl, b1⟩
    have HA := hid ((Blk.new w1 26 #[.bool an, .int .i64 a]).alloc (.cells #[.bool bn, .int .i64 b] 26))
    have hB := Blk.new (w1.alloc (.cells #[.bool an, .int .i64 a] 26)) 26 #[.bool bn, .int .i64 b]
    rw [World.size_alloc] at hB
    have HB := hid hB
    clear hB
    have F1 : Fr w ((w1.alloc (.cells #[.bool an, .int .i64 a] 26)).alloc (.cells #[.bool bn, .int .i64 b] 26)) := (b1.alloc _).alloc _
    obtain ⟨c, hcd⟩ : ∃ c, c = (V.mk an a).cmp2 ⟨bn, b⟩ := ⟨_, rfl⟩
    have IM : ∀ w, Calls Try.prog 21 #[.agg #[.bool an, .int .i64 a], .agg #[.bool bn, .int .i64 b]] w fun e w' => e = .returned (.int .i64 c) ∧ Fr w w' := fun w => by rw [hcd]; exact implCompareValues _ _ _ _ _
    have SP : ∀ w, Calls Try.prog 20 #[.agg #[.bool an, .int .i64 a], .agg #[.bool bn, .int .i64 b]] w fun e w' => e = .returned (.int .i64 c) ∧ Fr w w' := fun w => by rw [hcd, ← V.cmp2_eq]; exact specCompareValues _ _ _ _ _
    have HIM := hid IM
    have HSP := hid SP
    clear IM SP
    by_cases h2 : c = 2
    · have e1 : (c == 2) = true := by simp [h2]
      have e2 : (c != c) = false := by simp
      have e3 : (c == c) = true := by simp
      clear hcd h2
      go_wp2_with fail
      refine (HIM.out _).mono ?_
      rintro e w2 ⟨rfl, b2⟩
      have x0 := HA.out.at_ b2 (i := 0) rfl
      have x1 := HA.out.at_ b2 (i := 1) rfl
      have y0 := HB.out.at_ b2 (i := 0) rfl
      have y1 := HB.out.at_ b2 (i := 1) rfl
      go_wp2_with fail
      refine (HSP.out _).mono ?_
      rintro e w3 ⟨rfl, b3⟩
      replace x0 := b3.cell x0
      replace x1 := b3.cell x1
      replace y0 := b3.cell y0
      replace y1 := b3.cell y1
      go_wp2_with fail
      refine (HSP.out _).mono ?_
      rintro e w4 ⟨rfl, b4⟩
      go_wp2
      go_ret
      exact ⟨ret_bool (by simp), ((F1.trans b2).trans b3).trans b4⟩
    · obtain ⟨f1, f2, f3, f4, f5⟩ := V.cmp_facts an a bn b (by rw [← hcd]; exact h2)
      rw [← hcd] at f1 f2 f3 f4 f5
      have BK : ∀ w, Calls Try.prog 21 #[.agg #[.bool bn, .int .i64 b], .agg #[.bool an, .int .i64 a]] w fun e w' => e = .returned (.int .i64 (-c)) ∧ Fr w w' := fun w => by rw [← f1]; exact implCompareValues _ _ _ _ _
      have HBK := hid BK
      clear BK
      have e1 : (c == 2) = false := by simp [h2]
      have e2 : (c != c) = false := by simp
      have HF := hid (And.intro f4 f5)
      clear hcd h2 f1 f4 f5
      go_wp2_with fail
      refine (HIM.out _).mono ?_
      rintro e w2 ⟨rfl, b2⟩
      have x0 := HA.out.at_ b2 (i := 0) rfl
      have x1 := HA.out.at_ b2 (i := 1) rfl
      have y0 := HB.out.at_ b2 (i := 0) rfl
      have y1 := HB.out.at_ b2 (i := 1) rfl
      go_wp2_with fail
      refine (HSP.out _).mono ?_
      rintro e w3 ⟨rfl, b3⟩
      replace x0 := b3.cell x0
      replace x1 := b3.cell x1
      replace y0 := b3.cell y0
      replace y1 := b3.cell y1
      go_wp2_with fail
      refine (HBK.out _).mono ?_
      rintro e w4 ⟨rfl, b4⟩
      replace x0 := b4.cell x0
      replace x1 := b4.cell x1
      replace y0 := b4.cell y0
      replace y1 := b4.cell y1
      have FF := hid (((F1.trans b2).trans b3).trans b4)
      obtain ⟨f4, f5⟩ := HF.out
      clear HIM HSP HBK HF HA HB H F1 b1 b2 b3 b4
      cases an <;> cases bn
      · by_cases hab : a = b
        · subst hab
          simp at f4
          subst f4
          go_wp2
          go_ret
          exact ⟨ret_bool (by simp), FF.out⟩
        · have e4 : (c == 0) = false := by rw [f4]; simp [hab]
          have H4 := hid e4
          have HAB := hid hab
          clear f4 f5
          go_wp2
          go_ret
          exact ⟨ret_bool (by have h1 := H4.out; have h2 := HAB.out; simp at h1; simp [h1, h2]), FF.out⟩
      · simp at f4 f5
        have e4 : (c == 0) = false := by simp [f4]
        have e5 : decide (c < 0) = false := by simp; omega
        clear f4 f5
        go_wp2
        go_ret
        exact ⟨ret_bool (by simp), FF.out⟩
      · simp at f4 f5
        have e4 : (c == 0) = false := by simp [f4]
        have e5 : decide (c < 0) = true := by simp; omega
        clear f4 f5
        go_wp2
        go_ret
        exact ⟨ret_bool (by simp), FF.out⟩
      · by_cases hab : a = b
        · subst hab
          simp at f4
          subst f4
          go_wp2
          go_ret
          exact ⟨ret_bool (by simp), FF.out⟩
        · have e4 : (c == 0) = false := by rw [f4]; simp [hab]
          have H4 := hid e4
          have HAB := hid hab
          clear f4 f5
          go_wp2
          go_ret
          exact ⟨ret_bool (by have h1 := H4.out; have h2 := HAB.out; simp at h1; simp [h1, h2]), FF.out⟩
  · have e0 : decide ((1048576 : Int) < (xs.length : Int)) = true := by simp; omega
    go_enter Try.func8, Try.ntmps8
    go_wp2
    go_ret
    exact ⟨rfl, Fr.refl _⟩
end Go.Proofs.Ytabbcepdinplfaa
