/- Walks of the validity of rows. -/
import Derived.Test.YtlmiadeaiiehaaaRelP
import Derived.Test.YtlmiadeaiiehaaaMemQ
namespace Go.Proofs.Ytlmiadeaiiehaaa
open Go Go.RowKit

theorem validWidR (n : Int) (w : World) :
    Calls Try.prog 53 #[.int .i64 n] w fun e w' => e = .returned (.bool (wid n)) ∧ w = w' := by
  go_enter Try.func53, Try.ntmps53
  go_wp2
  all_goals go_ret
  all_goals exact ⟨ret_bool (by rw [Bool.eq_iff_iff]; simp [wid]; try omega), rfl⟩

theorem specVRow (A : Option Addr) (c : Nat) (xs : List V) (w : World) (hx : RdSl rdV w.cell? 2 A xs) (hl : xs.length ≤ 1048576) :
    Calls Try.prog 48 #[.slice A xs.length c] w fun e w' => e = .returned (.bool (vrow xs)) ∧ Fr w w' := by
  have HX := hid hx
  clear hx
  go_enter Try.func48, Try.ntmps48
  go_wp2
  go_loopw [3] (fun t wr => ∃ (k : Nat), k ≤ xs.length ∧ t = .int .i64 k ∧ Fr w wr ∧ ∀ i (h1 : i < xs.length), i < k → xs[i].valid = true) (fun t _ => xs.length - (intOf t).toNat)
  case atStart => exact ⟨0, by omega, rfl, Fr.refl _, fun i _ h => absurd h (by omega)⟩
  case round =>
    obtain ⟨k, hk, rfl, hf, hv⟩ := hrel
    have HV := hid hv
    clear hv
    by_cases hlt : k < xs.length
    · obtain ⟨b, o, hA, d0, d1⟩ := HX.out.v hlt
      replace d0 := hf.cell d0
      replace d1 := hf.cell d1
      subst hA
      cases hok : xs[k].valid
      · have NO := hid (show vrow xs = false by unfold vrow; rw [all_no hlt hok]; simp)
        go_wp2_with (go_at_call 66; refine (specValid _ _ _).mono ?_; rintro e w1 ⟨rfl, b1⟩)
        go_ret
        exact ⟨ret_bool NO.out.symm, hf.trans b1⟩
      · have HO := hid hok
        go_wp2_with (go_at_call 66; refine (specValid _ _ _).mono ?_; rintro e w1 ⟨rfl, b1⟩)
        go_roundw
        case rel => exact ⟨k + 1, by omega, by go_num, hf.trans b1, fun i h hi => by
          by_cases e : i = k
          · subst e; exact HO.out
          · exact HV.out i h (by omega)⟩
        case measure => simp [intOf]; omega
    · have AE := hid (all_yes (p := V.valid) fun i hi => HV.out i hi (by omega))
      clear HV
      go_wp2_with (go_at_call 50; refine (inRange _ _ _ _).mono ?_; rintro e w1 ⟨rfl, rfl⟩)
      go_ret
      refine ⟨ret_bool ?_, hf⟩
      unfold vrow
      rw [AE.out, Bool.eq_iff_iff]; simp; try omega

theorem implVRow (A : Option Addr) (c : Nat) (xs : List V) (w : World) (hx : RdSl rdV w.cell? 2 A xs) (hl : xs.length ≤ 1048576) :
    Calls Try.prog 54 #[.slice A xs.length c] w fun e w' => e = .returned (.bool (vrow xs)) ∧ Fr w w' := by
  have HX := hid hx
  clear hx
  by_cases hn : 1 ≤ xs.length ∧ xs.length ≤ 6
  · have e1 : wid (xs.length : Int) = true := by simp [wid]; omega
    have HN := hid (show (decide (1 ≤ xs.length) && decide (xs.length ≤ 6)) = true by simp [hn])
    clear hn
    go_enter Try.func54, Try.ntmps54
    go_wp2_with (go_at_call 53; refine (validWidR _ _).mono ?_; rintro e w1 ⟨rfl, rfl⟩)
    go_loopw [11] (fun t wr => ∃ (k : Nat), k ≤ xs.length ∧ t = .int .i64 k ∧ Fr w wr ∧ ∀ i (h1 : i < xs.length), i < k → xs[i].valid = true) (fun t _ => xs.length - (intOf t).toNat)
    case atStart => exact ⟨0, by omega, rfl, Fr.refl _, fun i _ h => absurd h (by omega)⟩
    case round =>
      obtain ⟨k, hk, rfl, hf, hv⟩ := hrel
      have HV := hid hv
      clear hv
      by_cases hlt : k < xs.length
      · obtain ⟨b, o, hA, d0, d1⟩ := HX.out.v hlt
        replace d0 := hf.cell d0
        replace d1 := hf.cell d1
        subst hA
        cases hok : xs[k].valid
        · have NO := hid (show vrow xs = false by unfold vrow; rw [all_no hlt hok]; simp)
          go_wp2_with (go_at_call 69; refine (implValid _ _ _).mono ?_; rintro e w1 ⟨rfl, b1⟩)
          go_ret
          exact ⟨ret_bool NO.out.symm, (hf.alloc _).trans b1⟩
        · have HO := hid hok
          go_wp2_with (go_at_call 69; refine (implValid _ _ _).mono ?_; rintro e w1 ⟨rfl, b1⟩)
          go_roundw
          case rel => exact ⟨k + 1, by omega, by go_num, (hf.alloc _).trans b1, fun i h hi => by
            by_cases e : i = k
            · subst e; exact HO.out
            · exact HV.out i h (by omega)⟩
          case measure => simp [intOf]; omega
      · have AE := hid (all_yes (p := V.valid) fun i hi => HV.out i hi (by omega))
        clear HV
        go_wp2
        go_ret
        exact ⟨ret_bool (by unfold vrow; rw [AE.out, HN.out]; rfl), hf⟩
  · have e1 : wid (xs.length : Int) = false := by simp [wid]; omega
    go_enter Try.func54, Try.ntmps54
    go_wp2_with (go_at_call 53; refine (validWidR _ _).mono ?_; rintro e w1 ⟨rfl, rfl⟩)
    go_ret
    exact ⟨ret_bool (by unfold vrow; rw [show (decide (1 ≤ xs.length) && decide (xs.length ≤ 6)) = false by simp; omega]; rfl), Fr.refl _⟩

end Go.Proofs.Ytlmiadeaiiehaaa
