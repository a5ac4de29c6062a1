/- Walks: Derivation. -/
import Derived.Test.YtabbcepdinplfaaDepW5
namespace Go.Proofs.Ytabbcepdinplfaa
open Go Go.RowKit

theorem implDerivation (A : Option Addr) (cap : Nat) (xs : List Dep) (wd s : Int) (w : World) (hx : RdSl rdDep w.cell? 2 A xs) (hl : xs.length ≤ 1048576) :
    Calls Try.prog 45 #[.slice A xs.length cap, .int .i64 wd, .int .i64 s] w fun e w' => ∃ v, e = .returned v ∧ w'.ownsRow w.heap.size 3 1 v (drvD xs wd s).length ((drvD xs wd s).map nv) ∧ Fr w w' := by
  have H := hid hx
  clear hx
  have hl' : xs.length ≤ maxLen := by unfold maxLen; omega
  cases hv : vdeps xs wd
  · have R := hid (show drvD xs wd s = [] by simp [drvD, hv])
    go_enter Try.func45, Try.ntmps45
    go_wp2_with (go_at_call 25; refine (implValidDeps _ _ _ _ _ H.out hl').mono ?_; rintro e w1 ⟨rfl, hb1⟩)
    go_ret
    exact ⟨_, rfl, by rw [R.out]; exact own_nil, hb1⟩
  · have HV := hid hv
    obtain ⟨h1, h2⟩ := wd_of (vwd_of hv)
    cases hs : vset s wd
    · have R := hid (show drvD xs wd s = [] by simp [drvD, hs])
      go_enter Try.func45, Try.ntmps45
      go_wp2_with (first
        | (go_at_call 25; refine (implValidDeps _ _ _ _ _ H.out hl').mono ?_; rintro e w1 ⟨rfl, hb1⟩)
        | (go_at_call 67; refine (implValidSet _ _ _ h1 h2).mono ?_; rintro e w2 ⟨rfl, rfl⟩))
      go_ret
      exact ⟨_, rfl, by rw [R.out]; exact own_nil, hb1⟩
    · obtain ⟨n, rfl, hn⟩ := nat_of_vset h1 h2 hs
      have R := hid (show drvD xs wd (n : Int) = (drv xs n).1 by simp [drvD, hv, hs])
      go_enter Try.func45, Try.ntmps45
      go_wp2_with (first
        | (go_at_call 25; refine (implValidDeps _ _ _ _ _ H.out hl').mono ?_; rintro e w1 ⟨rfl, hb1⟩)
        | (go_at_call 67; refine (implValidSet _ _ _ h1 h2).mono ?_; rintro e w2 ⟨rfl, rfl⟩)
        | (go_at_call 75; refine (implDerived _ _ _ _ _ (H.out.fr rdDep_mono hb1) hl (vdeps_ok HV.out) hn).mono ?_; rintro e w2 ⟨v, rfl, hown, hb2⟩))
      go_ret
      exact ⟨v, rfl, by rw [R.out]; exact own_base hown hb1.size, hb1.trans hb2⟩
set_option maxRecDepth 100000 in
set_option maxHeartbeats 1000000 in
theorem specDerivation (A : Option Addr) (cap : Nat) (xs : List Dep) (wd s : Int) (w : World) (hx : RdSl rdDep w.cell? 2 A xs) (hl : xs.length ≤ 1048576) :
    Calls Try.prog 44 #[.slice A xs.length cap, .int .i64 wd, .int .i64 s] w fun e w' => ∃ v, e = .returned v ∧ w'.ownsRow w.heap.size 3 1 v (drvD xs wd s).length ((drvD xs wd s).map nv) ∧ Fr w w' := by
  have H := hid hx
  clear hx
  have hl' : xs.length ≤ maxLen := by unfold maxLen; omega
  have F0 : Fr w (w.alloc (.cells #[] 3)) := (Fr.refl _).alloc _
  have O0 := own_empty (w := w) (base := w.heap.size) (e := 3) (sz := 1) (Nat.le_refl _)
  cases hv : vdeps xs wd
  · have R := hid (show drvD xs wd s = [] by simp [drvD, hv])
    go_enter Try.func44, Try.ntmps44
    go_wp2_with (go_at_call 57; refine (specValidDeps _ _ _ _ _ (H.out.fr rdDep_mono F0) hl').mono ?_; rintro e w1 ⟨rfl, hb1⟩)
    go_ret
    exact ⟨_, rfl, by rw [R.out]; exact own_nil, F0.trans hb1⟩
  · have HV := hid hv
    have hw := vwd_of hv
    obtain ⟨h1, h2⟩ := wd_of hw
    cases hs : vset s wd
    · have R := hid (show drvD xs wd s = [] by simp [drvD, hs])
      go_enter Try.func44, Try.ntmps44
      go_wp2_with (first
        | (go_at_call 57; refine (specValidDeps _ _ _ _ _ (H.out.fr rdDep_mono F0) hl').mono ?_; rintro e w1 ⟨rfl, hb1⟩)
        | (go_at_call 65; refine (specValidSet _ _ _).mono ?_; rintro e w2 ⟨rfl, rfl⟩))
      go_ret
      exact ⟨_, rfl, by rw [R.out]; exact own_nil, F0.trans hb1⟩
    · obtain ⟨s, rfl, hn0⟩ := nat_of_vset h1 h2 hs
      have R := hid (show drvD xs wd (s : Int) = (drv xs s).1 by simp [drvD, hv, hs])
      have HD := hid (vdeps_ok hv)
      go_enter Try.func44, Try.ntmps44
      go_wp2_with (first
        | (go_at_call 57; refine (specValidDeps _ _ _ _ _ (H.out.fr rdDep_mono F0) hl').mono ?_; rintro e w1 ⟨rfl, hb1⟩)
        | (go_at_call 65; refine (specValidSet _ _ _).mono ?_; rintro e w2 ⟨rfl, rfl⟩))
      have O1 := own_fr O0 hb1
      have F1 := F0.trans hb1
      clear hv hw hs F0 O0
      go_loopw [2, 7, 8] (fun sv v c wr => ∃ (S : Nat) (st : List Nat) (ch : Bool), sv = .int .i64 S ∧ c = .bool ch ∧ Fr w wr ∧ wr.ownsRow w.heap.size 3 1 v st.length (st.map nv) ∧ Hid (Rounds xs s st S ch) ∧ S < 64 ∧ st.length ≤ S) (fun sv _ c _ => 2 * (64 - (intOf sv).toNat) + boolN c)
      case atStart => exact ⟨s, [], true, rfl, rfl, F1, O1, hid (Rounds.start xs hn0), hn0, by simp⟩
      case round =>
        obtain ⟨S, st, ch, rfl, rfl, hb, hown, hR, hS, hn⟩ := hrel
        cases ch
        · go_wp2
          go_ret
          have hE := hR.out.done
          have g1 : (drv xs s).1 = st := by rw [← hE]
          exact ⟨u7, rfl, by rw [R.out, g1]; exact hown, hb⟩
        · go_wp2
          obtain ⟨wo, rfl⟩ : ∃ wo : World, wo = wr := ⟨_, rfl⟩
          go_loopw [2, 7, 8, 9] (fun sv v c i wr => ∃ (k S1 : Nat) (q : List Nat) (ch : Bool), sv = .int .i64 S1 ∧ c = .bool ch ∧ i = .int .i64 k ∧ k ≤ xs.length ∧ Fr w wr ∧ wr.ownsRow w.heap.size 3 1 v q.length (q.map nv) ∧ Hid (∃ p, q = st ++ p ∧ Mid xs S k p S1 ∧ ch = !p.isEmpty) ∧ S1 < 64 ∧ S ≤ S1 ∧ q.length ≤ S1) (fun _ _ _ i _ => xs.length - (intOf i).toNat)
          case atStart => exact ⟨0, S, st, false, rfl, rfl, rfl, by omega, hb, hown, hid ⟨[], by simp, Mid.start xs hS, rfl⟩, hS, Nat.le_refl _, hn⟩
          case round =>
            obtain ⟨k, S1, q, ch, rfl, rfl, rfl, hk, hb2, hown1, hM, hS1, hle, hpl⟩ := hrel
            by_cases hlt : k < xs.length
            · obtain ⟨b, o, rfl, c0, c1⟩ := H.out.dep hlt
              replace c0 := hb2.cell c0
              replace c1 := hb2.cell c1
              have hok := HD.out _ (List.getElem_mem hlt)
              obtain ⟨hf, ht, ef, et⟩ := Dep.ok_f hok
              have e1 : bits .and .i64 (xs[k].f : Int) (S1 : Int) = ((xs[k].f &&& S1 : Nat) : Int) := i64_and _ _ hf hS1
              have e2 : bits .and .i64 (xs[k].t : Int) (S1 : Int) = ((xs[k].t &&& S1 : Nat) : Int) := i64_and _ _ ht hS1
              have e3 : bits .or .i64 (S1 : Int) (xs[k].t : Int) = ((S1 ||| xs[k].t : Nat) : Int) := i64_or _ _ hS1 ht
              have e4 := and_eq_sub xs[k].f S1
              have e5 := and_ne_sub xs[k].t S1
              have HT := hid ht
              have HK := hid hok
              rw [ef] at c0
              rw [et] at c1
              clear ef et hf ht hok
              cases g1 : sub xs[k].f S1
              · have HA := hid (show app xs[k] S1 = false by simp [app, g1])
                rw [g1] at e4
                go_wp2_with fail
                go_quiet (fail)
                go_wp2
                go_roundw
                case rel =>
                  obtain ⟨p, hq, hm, hc⟩ := hM.out
                  exact ⟨k + 1, S1, q, ch, rfl, rfl, by go_num, by omega, hb2.drewN _, own_fr hown1 ((Fr.refl _).drewN _), hid ⟨p, hq, hm.no hlt HA.out, hc⟩, hS1, hle, hpl⟩
                case measure => simp [intOf]; omega
              · rw [g1] at e4
                cases g2 : sub xs[k].t S1
                · have HA := hid (show app xs[k] S1 = true by simp [app, g1, g2])
                  rw [g2] at e5
                  have hgt : S1 < S1 ||| xs[k].t := or_gt g2
                  have hlt6 : S1 ||| xs[k].t < 64 := or_lt hS1 HT.out
                  go_wp2_with fail
                  go_quiet (fail)
                  rename_i nq
                  have hown2 := own_fr hown1 ((Fr.refl wr).drewN nq)
                  go_wp2_with (at_builtin; refine wp_app1 rfl _ _ 38 rfl w.heap.size 3 (.int .i64 0) 1 8 Try.underlying38 (by kernel_rfl) rfl (by decide) (by decide) _ _ _ rfl (hown2.alloc _) (by omega) (by have := hb2.size; simp; omega) wr.heap.size [nv k] rfl (blk_new (by simp)) rfl rfl ?_; intro v' w2 hown3 hg2)
                  go_roundw
                  case rel =>
                    obtain ⟨p, hq, hm, hc⟩ := hM.out
                    exact ⟨k + 1, S1 ||| xs[k].t, q ++ [k], true, rfl, rfl, by go_num, by omega, ((hb2.drewN nq).alloc _).grown hg2 (hown2.alloc _), by simpa using hown3, hid ⟨p ++ [k], by rw [hq]; simp, hm.yes hlt HK.out HA.out, by simp⟩, hlt6, by omega, by simp; omega⟩
                  case measure => simp [intOf]; omega
                · have HA := hid (show app xs[k] S1 = false by simp [app, g1, g2])
                  rw [g2] at e5
                  go_wp2_with fail
                  go_quiet (fail)
                  go_wp2
                  go_roundw
                  case rel =>
                    obtain ⟨p, hq, hm, hc⟩ := hM.out
                    exact ⟨k + 1, S1, q, ch, rfl, rfl, by go_num, by omega, hb2.drewN _, own_fr hown1 ((Fr.refl _).drewN _), hid ⟨p, hq, hm.no hlt HA.out, hc⟩, hS1, hle, hpl⟩
                  case measure => simp [intOf]; omega
            · obtain rfl : k = xs.length := by omega
              go_wp2
              go_roundw
              case rel =>
                obtain ⟨p, hq, hm, hc⟩ := hM.out
                exact ⟨S1, q, ch, rfl, rfl, hb2, hown1, hid (by rw [hq, hc]; exact hR.out.next HD.out hm), hS1, hpl⟩
              case measure =>
                obtain ⟨p, hq, hm, hc⟩ := hM.out
                have : boolN (.bool ch) + 2 * S < 1 + 2 * S1 := by
                  have h1 := hm.2.2.1
                  have h2 := hm.2.2.2.1
                  rw [hc]
                  cases p with
                  | nil => simp [boolN]; omega
                  | cons a p => have := h2 (by simp); simp [boolN]; omega
                have e1 : boolN (.bool true) = 1 := rfl
                simp [intOf] at this ⊢; omega
end Go.Proofs.Ytabbcepdinplfaa
