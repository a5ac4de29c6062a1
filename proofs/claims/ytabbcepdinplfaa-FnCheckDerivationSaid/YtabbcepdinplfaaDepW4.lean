/- Walks: the reference's closure and derivation. -/
import Derived.Test.YtabbcepdinplfaaDepW3
namespace Go.Proofs.Ytabbcepdinplfaa
open Go Go.RowKit

theorem and_eq_sub (a b : Nat) : (((a &&& b : Nat) : Int) == (a : Int)) = sub a b := by
  unfold sub; rw [Bool.eq_iff_iff]; simp; omega
theorem and_ne_sub (a b : Nat) : (((a &&& b : Nat) : Int) != (a : Int)) = !sub a b := by
  unfold sub; rw [Bool.eq_iff_iff]; simp; omega

set_option maxRecDepth 100000 in
set_option maxHeartbeats 1000000 in
theorem specClosure (A : Option Addr) (cap : Nat) (xs : List Dep) (s : Nat) (w : World) (hx : RdSl rdDep w.cell? 2 A xs) (hl : xs.length ≤ 1048576) (hd : ∀ d ∈ xs, d.ok) (hs : s < 64) :
    Calls Try.prog 66 #[.slice A xs.length cap, .int .i64 s] w fun e w' => e = .returned (.int .i64 (drv xs s).2) ∧ Fr w w' := by
  have H := hid hx
  have HD := hid hd
  clear hx hd
  go_enter Try.func66, Try.ntmps66
  go_wp2
  go_loopw [1, 5] (fun sv c wr => ∃ (S : Nat) (ch : Bool), sv = .int .i64 S ∧ c = .bool ch ∧ Fr w wr ∧ Hid (∃ st, Rounds xs s st S ch) ∧ S < 64) (fun sv c _ => 2 * (64 - (intOf sv).toNat) + boolN c)
  case atStart => exact ⟨s, true, rfl, rfl, Fr.refl _, hid ⟨[], Rounds.start xs hs⟩, hs⟩
  case round =>
    obtain ⟨S, ch, rfl, rfl, hb, hR, hS⟩ := hrel
    cases ch
    · go_wp2
      go_ret
      obtain ⟨st, hE⟩ := hR.out
      have h2 : (drv xs s).2 = S := by rw [← hE.done]
      exact ⟨by rw [h2]; rfl, hb⟩
    · go_wp2
      obtain ⟨wo, rfl⟩ : ∃ wo : World, wo = wr := ⟨_, rfl⟩
      go_loopw [1, 5, 6] (fun sv c i wr => ∃ (k S1 : Nat) (ch : Bool), sv = .int .i64 S1 ∧ c = .bool ch ∧ i = .int .i64 k ∧ k ≤ xs.length ∧ Fr w wr ∧ Hid (∃ p, Mid xs S k p S1 ∧ ch = !p.isEmpty) ∧ S1 < 64 ∧ S ≤ S1) (fun _ _ i _ => xs.length - (intOf i).toNat)
      case atStart => exact ⟨0, S, false, rfl, rfl, rfl, by omega, hb, hid ⟨[], Mid.start xs hS, rfl⟩, hS, Nat.le_refl _⟩
      case round =>
        obtain ⟨k, S1, ch, rfl, rfl, rfl, hk, hb1, hM, hS1, hle⟩ := hrel
        by_cases hlt : k < xs.length
        · obtain ⟨b, o, rfl, c0, c1⟩ := H.out.dep hlt
          replace c0 := hb1.cell c0
          replace c1 := hb1.cell c1
          have hok := HD.out _ (List.getElem_mem hlt)
          obtain ⟨hf, ht, ef, et⟩ := Dep.ok_f hok
          have e1 : bits .and .i64 (xs[k].f : Int) (S1 : Int) = ((xs[k].f &&& S1 : Nat) : Int) := i64_and _ _ hf hS1
          have e2 : bits .and .i64 (xs[k].t : Int) (S1 : Int) = ((xs[k].t &&& S1 : Nat) : Int) := i64_and _ _ ht hS1
          have e3 : bits .or .i64 (S1 : Int) (xs[k].t : Int) = ((S1 ||| xs[k].t : Nat) : Int) := i64_or _ _ hS1 ht
          have e4 := and_eq_sub xs[k].f S1
          have e5 := and_ne_sub xs[k].t S1
          have HT := hid ht
          have HK := hid hok
          rw [ef] at c0
          rw [et] at c1
          clear ef et hf ht hok
          cases g1 : sub xs[k].f S1
          · have HA := hid (show app xs[k] S1 = false by simp [app, g1])
            rw [g1] at e4
            go_wp2_with fail
            go_quiet (fail)
            go_wp2
            go_roundw
            case rel =>
              obtain ⟨p, hm, hc⟩ := hM.out
              exact ⟨k + 1, S1, ch, rfl, rfl, by go_num, by omega, hb1.drewN _, hid ⟨p, hm.no hlt HA.out, hc⟩, hS1, hle⟩
            case measure => simp [intOf]; omega
          · rw [g1] at e4
            cases g2 : sub xs[k].t S1
            · have HA := hid (show app xs[k] S1 = true by simp [app, g1, g2])
              rw [g2] at e5
              have hgt : S1 < S1 ||| xs[k].t := or_gt g2
              have hlt6 : S1 ||| xs[k].t < 64 := or_lt hS1 HT.out
              go_wp2_with fail
              go_quiet (fail)
              go_wp2
              go_roundw
              case rel =>
                obtain ⟨p, hm, hc⟩ := hM.out
                exact ⟨k + 1, S1 ||| xs[k].t, true, rfl, rfl, by go_num, by omega, hb1.drewN _, hid ⟨p ++ [k], hm.yes hlt HK.out HA.out, by simp⟩, hlt6, by omega⟩
              case measure => simp [intOf]; omega
            · have HA := hid (show app xs[k] S1 = false by simp [app, g1, g2])
              rw [g2] at e5
              go_wp2_with fail
              go_quiet (fail)
              go_wp2
              go_roundw
              case rel =>
                obtain ⟨p, hm, hc⟩ := hM.out
                exact ⟨k + 1, S1, ch, rfl, rfl, by go_num, by omega, hb1.drewN _, hid ⟨p, hm.no hlt HA.out, hc⟩, hS1, hle⟩
              case measure => simp [intOf]; omega
        · obtain rfl : k = xs.length := by omega
          go_wp2
          go_roundw
          case rel =>
            obtain ⟨p, hm, hc⟩ := hM.out
            obtain ⟨st, hE⟩ := hR.out
            exact ⟨S1, ch, rfl, rfl, hb1, hid ⟨st ++ p, by rw [hc]; exact hE.next HD.out hm⟩, hS1⟩
          case measure =>
            obtain ⟨p, hm, hc⟩ := hM.out
            have : boolN (.bool ch) + 2 * S < 1 + 2 * S1 := by
              have h1 := hm.2.2.1
              have h2 := hm.2.2.2.1
              rw [hc]
              cases p with
              | nil => simp [boolN]; omega
              | cons a p => have := h2 (by simp); simp [boolN]; omega
            have e1 : boolN (.bool true) = 1 := rfl
            simp [intOf] at this ⊢; omega
end Go.Proofs.Ytabbcepdinplfaa
