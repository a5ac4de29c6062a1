/- Walks: the closure, by passes. -/
import Derived.Test.YtabbcepdinplfaaDepW2
namespace Go.Proofs.Ytabbcepdinplfaa
open Go Go.RowKit

theorem implContains (s p : Int) (w : World) : Calls Try.prog 71 #[.int .i64 s, .int .i64 p] w fun e w' => e = .returned (.bool (bits .andNot .i64 p s == 0)) ∧ w = w' := by
  go_enter Try.func71, Try.ntmps71
  go_wp2
  go_ret
  exact ⟨rfl, rfl⟩

def nv (n : Nat) : Value := .int .i64 (n : Int)

set_option maxRecDepth 100000 in
set_option maxHeartbeats 1000000 in
theorem implDerived (A : Option Addr) (cap : Nat) (xs : List Dep) (s : Nat) (w : World) (hx : RdSl rdDep w.cell? 2 A xs) (hl : xs.length ≤ 1048576) (hd : ∀ d ∈ xs, d.ok) (hs : s < 64) :
    Calls Try.prog 75 #[.slice A xs.length cap, .int .i64 s] w fun e w' => ∃ v, e = .returned (.tuple #[v, .int .i64 (drv xs s).2]) ∧ w'.ownsRow w.heap.size 3 1 v (drv xs s).1.length ((drv xs s).1.map nv) ∧ Fr w w' := by
  have H := hid hx
  have HD := hid hd
  clear hx hd
  obtain ⟨i0, hi0, hz0, hz1, hz2⟩ := info_parts (P := Try.prog) (e := 3) (z := .int .i64 0) (size := 1) (bytes := 8) (by kernel_rfl)
  go_enter Try.func75, Try.ntmps75
  go_wp2
  go_loopw [1, 4, 6] (fun sv v c wr => ∃ (S : Nat) (st : List Nat) (ch : Bool), sv = .int .i64 S ∧ c = .bool ch ∧ Fr w wr ∧ wr.ownsRow w.heap.size 3 1 v st.length (st.map nv) ∧ Hid (Rounds xs s st S ch) ∧ S < 64 ∧ st.length ≤ S) (fun sv _ c _ => 2 * (64 - (intOf sv).toNat) + boolN c)
  case atStart => exact ⟨s, [], true, rfl, rfl, Fr.refl _, own_nil, hid (Rounds.start xs hs), hs, by simp⟩
  case round =>
    obtain ⟨S, st, ch, rfl, rfl, hb, hown, hR, hS, hn⟩ := hrel
    cases ch
    · go_wp2
      go_ret2
      have hE := hR.out.done
      have h1 : (drv xs s).1 = st := by rw [← hE]
      have h2 : (drv xs s).2 = S := by rw [← hE]
      exact ⟨u4, by rw [h2]; rfl, by rw [h1]; exact hown, hb⟩
    · go_wp2
      obtain ⟨wo, rfl⟩ : ∃ wo : World, wo = wr := ⟨_, rfl⟩
      go_loopw [1, 4, 6, 12] (fun sv v c i wr => ∃ (k S1 : Nat) (q : List Nat) (ch : Bool), sv = .int .i64 S1 ∧ c = .bool ch ∧ i = .int .i64 k ∧ k ≤ xs.length ∧ Fr w wr ∧ wr.ownsRow w.heap.size 3 1 v q.length (q.map nv) ∧ Hid (∃ p, q = st ++ p ∧ Mid xs S k p S1 ∧ ch = !p.isEmpty) ∧ S1 < 64 ∧ S ≤ S1 ∧ q.length ≤ S1) (fun _ _ _ i _ => xs.length - (intOf i).toNat)
      case atStart => exact ⟨0, S, st, false, rfl, rfl, rfl, by omega, hb, hown, hid ⟨[], by simp, Mid.start xs hS, rfl⟩, hS, Nat.le_refl _, hn⟩
      case round =>
        obtain ⟨k, S1, q, ch, rfl, rfl, rfl, hk, hb1, hown1, hM, hS1, hle, hpl⟩ := hrel
        by_cases hlt : k < xs.length
        · obtain ⟨b, o, rfl, c0, c1⟩ := H.out.dep hlt
          replace c0 := hb1.cell c0
          replace c1 := hb1.cell c1
          have hok := HD.out _ (List.getElem_mem hlt)
          obtain ⟨hf, ht, ef, et⟩ := Dep.ok_f hok
          have e1 : (bits .andNot .i64 xs[k].fr (S1 : Int) == 0) = sub xs[k].f S1 := by rw [ef]; exact i64_andNot _ _ hf hS1
          have e2 : (bits .andNot .i64 xs[k].to (S1 : Int) == 0) = sub xs[k].t S1 := by rw [et]; exact i64_andNot _ _ ht hS1
          have e3 : bits .or .i64 (S1 : Int) xs[k].to = ((S1 ||| xs[k].t : Nat) : Int) := by rw [et]; exact i64_or _ _ hS1 ht
          have HT := hid ht
          have HK := hid hok
          clear ef et hf ht hok
          cases g1 : sub xs[k].f S1
          · have HA := hid (show app xs[k] S1 = false by simp [app, g1])
            go_wp2_with (go_at_call 71; refine (implContains _ _ _).mono ?_; rintro e w1 ⟨rfl, rfl⟩)
            go_roundw
            case rel =>
              obtain ⟨p, hq, hm, hc⟩ := hM.out
              exact ⟨k + 1, S1, q, ch, rfl, rfl, by go_num, by omega, hb1.alloc _, hown1.alloc _, hid ⟨p, hq, hm.no hlt HA.out, hc⟩, hS1, hle, hpl⟩
            case measure => simp [intOf]; omega
          · cases g2 : sub xs[k].t S1
            · have HA := hid (show app xs[k] S1 = true by simp [app, g1, g2])
              have hgt : S1 < S1 ||| xs[k].t := or_gt g2
              have hlt6 : S1 ||| xs[k].t < 64 := or_lt hS1 HT.out
              go_wp2_with (first
                | (go_at_call 71; refine (implContains _ _ _).mono ?_; rintro e w1 ⟨rfl, rfl⟩)
                | (at_builtin; refine wp_app1 rfl _ _ 38 rfl w.heap.size 3 (.int .i64 0) 1 8 Try.underlying38 (by kernel_rfl) rfl (by decide) (by decide) _ _ _ rfl ((hown1.alloc _).alloc _) (by omega) (by have := hb1.size; simp; omega) (wr.heap.size + 1) [nv k] rfl (blk_new (by simp)) rfl rfl ?_; intro v' w2 hown2 hg2))
              go_roundw
              case rel =>
                obtain ⟨p, hq, hm, hc⟩ := hM.out
                exact ⟨k + 1, S1 ||| xs[k].t, q ++ [k], true, rfl, rfl, by go_num, by omega, ((hb1.alloc _).alloc _).grown hg2 ((hown1.alloc _).alloc _), by simpa using hown2, hid ⟨p ++ [k], by rw [hq]; simp, hm.yes hlt HK.out HA.out, by simp⟩, hlt6, by omega, by simp; omega⟩
              case measure => simp [intOf]; omega
            · have HA := hid (show app xs[k] S1 = false by simp [app, g1, g2])
              go_wp2_with (go_at_call 71; refine (implContains _ _ _).mono ?_; rintro e w1 ⟨rfl, rfl⟩)
              go_roundw
              case rel =>
                obtain ⟨p, hq, hm, hc⟩ := hM.out
                exact ⟨k + 1, S1, q, ch, rfl, rfl, by go_num, by omega, hb1.alloc _, hown1.alloc _, hid ⟨p, hq, hm.no hlt HA.out, hc⟩, hS1, hle, hpl⟩
              case measure => simp [intOf]; omega
        · obtain rfl : k = xs.length := by omega
          go_wp2
          go_roundw
          case rel =>
            obtain ⟨p, hq, hm, hc⟩ := hM.out
            exact ⟨S1, q, ch, rfl, rfl, hb1, hown1, hid (by rw [hq, hc]; exact hR.out.next HD.out hm), hS1, hpl⟩
          case measure =>
            obtain ⟨p, hq, hm, hc⟩ := hM.out
            have : boolN (.bool ch) + 2 * S < 1 + 2 * S1 := by
              have h1 := hm.2.2.1
              have h2 := hm.2.2.2.1
              rw [hc]
              cases p with
              | nil => simp [boolN]; omega
              | cons a p => have := h2 (by simp); simp [boolN]; omega
            have e1 : boolN (.bool true) = 1 := rfl
            simp [intOf] at this ⊢; omega
end Go.Proofs.Ytabbcepdinplfaa
