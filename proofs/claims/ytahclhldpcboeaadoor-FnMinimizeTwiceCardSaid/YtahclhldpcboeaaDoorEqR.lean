/- Walk of laws.equalRules at two equal queries. -/
import Derived.Test.YtahclhldpcboeaaDoorInts
import Derived.Test.YtahclhldpcboeaaDoorTAtom
import Derived.Test.YtahclhldpcboeaaDoorGrfG
import Derived.Test.YtahclhldpcboeaaDoorRedI
import Derived.Test.YtahclhldpcboeaaDoorMinI
namespace Go.Proofs.YtahclhldpcboeaaDoor
open Go Go.RowKit
set_option maxRecDepth 100000 in
set_option maxHeartbeats 4000000 in
theorem equalRules (q : Int) (A0 A1 B0 B1 : Option Addr) (c0 c1 d0 d1 : Nat) (hd : List Int) (bd : List Atom) (w : World) (hx0 : RdSl rdInt w.cell? 1 A0 hd) (hx1 : RdSl rdAtom w.cell? 3 A1 bd) (hy0 : RdSl rdInt w.cell? 1 B0 hd) (hy1 : RdSl rdAtom w.cell? 3 B1 bd) (hl0 : hd.length ≤ 1048576) (hl1 : bd.length ≤ 1048576) :
    Calls Tryd.prog 33 #[.agg #[.int .i64 q, .slice A0 hd.length c0, .slice A1 bd.length c1], .agg #[.int .i64 q, .slice B0 hd.length d0, .slice B1 bd.length d1]] w fun e w' => e = .returned (.bool true) ∧ Fr w w' := by
  have EQ := hid (fun W (h : Fr w W) => (equalInts A0 B0 c0 d0 hd hd W (hx0.fr rdInt_mono h) (hy0.fr rdInt_mono h) (by unfold maxLen; omega) (by unfold maxLen; omega)))
  have HX := hid hx1
  have HY := hid hy1
  clear hx0 hx1 hy0 hy1
  have BX := (Blk.new w 30 #[.int .i64 q, .slice A0 hd.length c0, .slice A1 bd.length c1]).alloc (.cells #[.int .i64 q, .slice B0 hd.length d0, .slice B1 bd.length d1] 30)
  have BY := Blk.new (w.alloc (.cells #[.int .i64 q, .slice A0 hd.length c0, .slice A1 bd.length c1] 30)) 30 #[.int .i64 q, .slice B0 hd.length d0, .slice B1 bd.length d1]
  rw [World.size_alloc] at BY
  have F1 : Fr w ((w.alloc (.cells #[.int .i64 q, .slice A0 hd.length c0, .slice A1 bd.length c1] 30)).alloc (.cells #[.int .i64 q, .slice B0 hd.length d0, .slice B1 bd.length d1] 30)) := by (repeat (first | with_reducible exact Fr.refl _ | with_reducible assumption | with_reducible refine Fr.alloc ?_ _ | with_reducible refine Fr.drew ?_ | with_reducible refine Fr.drewN ?_ _ | (with_reducible refine Fr.setNew2 ?_ ?_ _; · (simp <;> omega)) | with_reducible refine Fr.trans ?_ (by assumption)))
  go_enter Tryd.func33, Tryd.ntmps33
  go_wp2_with fail
  generalize (w.alloc (.cells #[.int .i64 q, .slice A0 hd.length c0, .slice A1 bd.length c1] 30)).alloc (.cells #[.int .i64 q, .slice B0 hd.length d0, .slice B1 bd.length d1] 30) = w1 at BX BY F1 ⊢
  refine (EQ.out w1 F1).mono ?_
  rintro e w2 ⟨rfl, hF2⟩
  simp only [decide_true]
  have B2 := hid (BX.fr hF2)
  have C2 := hid (BY.fr hF2)
  have FW := F1.trans hF2
  obtain ⟨x0, x1, x2, _⟩ := B2.out.three
  obtain ⟨y0, y1, y2, _⟩ := C2.out.three
  clear EQ BX BY F1 hF2
  go_wp2_with fail
  go_loopw [5] (fun t wr => ∃ (k : Nat), k ≤ bd.length ∧ t = .int .i64 k ∧ Fr w2 wr) (fun t _ => bd.length - (intOf t).toNat)
  case atStart => exact ⟨0, by omega, rfl, Fr.refl _⟩
  case round =>
    obtain ⟨k, hk, rfl, hF⟩ := hrel
    obtain ⟨x0', x1', x2', _⟩ := (B2.out.fr hF).three
    obtain ⟨y0', y1', y2', _⟩ := (C2.out.fr hF).three
    by_cases hlt : k < bd.length
    · have hlt' : (k : Int) < (bd.length : Int) := by omega
      obtain ⟨b, o, rfl, r0, r1, r2⟩ := (HX.out.fr rdAtom_mono (FW.trans hF)).atom hlt
      obtain ⟨b', o', rfl, s0, s1, s2⟩ := (HY.out.fr rdAtom_mono (FW.trans hF)).atom hlt
      go_wp2_with fail
      go_quiet (fail)
      go_wp2
      go_roundw
      · exact ⟨k + 1, by omega, by simp, hF.drewN _⟩
      · (simp [intOf]; omega)
    · obtain rfl : k = bd.length := by omega
      go_wp2
      go_ret
      exact ⟨rfl, FW.trans hF⟩
/- The law of minimal queries: minimizing twice. -/

theorem minB_nil {q : Int} {hd : List Int} {bd : List Atom} (h : bd.length = 0) : red q hd bd < 0 := by
  have : bd = [] := List.eq_nil_of_length_eq_zero h
  subst this
  show (-1 : Int) < 0
  omega
/-- What is left has no superfluous atom; it is valid. -/
theorem minB_end {q : Int} {hd : List Int} : ∀ (n : Nat) (bd : List Atom), bd.length = n → vrule q hd bd = true → red q hd (minB q hd bd) < 0 ∧ vrule q hd (minB q hd bd) = true ∧ (minB q hd bd).length ≤ bd.length ∧ (¬ red q hd bd < 0 → (minB q hd bd).length < bd.length) := by
  intro n
  induction n with
  | zero =>
    intro bd hn hv
    have h := minB_nil (q := q) (hd := hd) hn
    rw [minB_stop h]
    exact ⟨h, hv, Nat.le_refl _, fun h' => absurd h h'⟩
  | succ n ih =>
    intro bd hn hv
    by_cases h : red q hd bd < 0
    · rw [minB_stop h]
      exact ⟨h, hv, Nat.le_refl _, fun h' => absurd h h'⟩
    · obtain ⟨j, hj⟩ : ∃ j : Nat, red q hd bd = j := ⟨(red q hd bd).toNat, by omega⟩
      obtain ⟨hjl, hv'⟩ := red_valid hj
      have hl := lessA_len hjl
      obtain ⟨h1, h2, h3, _⟩ := ih (lessA bd j) (by omega) hv'
      rw [minB_step hj hjl]
      exact ⟨h1, h2, by omega, fun _ => by omega⟩
theorem minR_yes {q : Int} {hd : List Int} {bd : List Atom} (hv : vrule q hd bd = true) : minR q hd bd = (q, hd, minB q hd bd) := by
  unfold minR
  rw [if_pos hv]
theorem minR_no {q : Int} {hd : List Int} {bd : List Atom} (hv : vrule q hd bd = false) : minR q hd bd = (0, [], []) := by
  unfold minR
  rw [if_neg (by rw [hv]; simp)]
theorem minR_twice {q : Int} {hd : List Int} {bd : List Atom} (hv : vrule q hd bd = true) : minR q hd (minB q hd bd) = (q, hd, minB q hd bd) := by
  obtain ⟨h1, h2, _, _⟩ := minB_end (q := q) (hd := hd) bd.length bd rfl hv
  rw [minR_yes h2, minB_stop h1]
theorem isMin_len {q : Int} {hd : List Int} {bd : List Atom} (hv : vrule q hd bd = true) : isMin q hd bd = decide ((minB q hd bd).length = bd.length) := by
  obtain ⟨_, _, h3, h4⟩ := minB_end (q := q) (hd := hd) bd.length bd rfl hv
  unfold isMin
  rw [hv, Bool.true_and]
  by_cases h : red q hd bd < 0
  · rw [decide_eq_true h, minB_stop h]
    simp
  · have := h4 h
    rw [decide_eq_false h, decide_eq_false (by omega)]
end Go.Proofs.YtahclhldpcboeaaDoor
