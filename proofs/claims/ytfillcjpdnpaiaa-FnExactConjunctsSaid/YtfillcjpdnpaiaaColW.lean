/- Walks of the columns of expressions, on the program's side. -/
import Derived.Test.YtfillcjpdnpaiaaColP
import Derived.Test.YtfillcjpdnpaiaaMark
namespace Go.Proofs.Ytfillcjpdnpaiaa
open Go Go.RowKit

def MskAt (n : Nat) (e : Ex) (k N : Nat) : Prop := N < 64 ∧ (k = 0 → N = 0) ∧ ∀ n', n = n' + 1 → N = orL (msk n') (e.kids.take k)
theorem mskAt_end {n : Nat} {e : Ex} {N : Nat} (h : MskAt n e e.kids.length N) (h0 : n = 0 → e.kids.length = 0) (hk : e.kind ≠ 1) : N = msk n e := by
  cases n with
  | zero => rw [h.2.1 (h0 rfl)]; unfold msk; rw [if_neg hk]
  | succ n => rw [h.2.2 n rfl, List.take_of_length_le (Nat.le_refl _)]; unfold msk; rw [if_neg hk]
theorem mskAt_step {n : Nat} {e : Ex} {k N : Nat} (h : MskAt (n + 1) e k N) (hk : k < e.kids.length) (hs : msk n e.kids[k] < 64) : MskAt (n + 1) e (k + 1) (N ||| msk n e.kids[k]) := by
  obtain ⟨h1, h2, h3⟩ := h
  refine ⟨or_64 h1 hs, fun h => by omega, fun n' hn => ?_⟩
  obtain rfl : n = n' := by omega
  rw [orL_take hk, h3 n rfl]
def ImplCol (n : Nat) : Prop := ∀ (e : Ex) (b o : Nat) (wd : Int) (deep : Nat) (w : World), rdEx (n + 1) w.cell? (fun j => w.cell? ⟨b, o + j, none⟩) e → exSm n e.kids → vE wd n deep e = true → wd ≤ 6 →
    Calls Try.prog 42 #[.pointer (some ⟨b, o, none⟩)] w fun r w' => r = .returned (.int .i64 (msk n e)) ∧ Fr w w'
set_option maxRecDepth 100000 in
set_option maxHeartbeats 2000000 in
theorem implCol (n : Nat) : ImplCol n := by
  induction n using Nat.strongRecOn with
  | _ n ih =>
    intro e b o wd deep w hr hs hv hw
    have IH := hid ih
    have HS := hid hs
    have hl := exSm_len hs
    have HV := hid hv
    obtain ⟨a0, a1, _, _, A, c, a4, hx, _, _⟩ := hr
    simp only [Nat.add_zero] at a0 a4
    have HX := hid hx
    have HC := hid a4
    clear hx ih hs
    by_cases hk : e.kind = 1
    · have e1 : (e.kind == 1) = true := by simp [hk]
      have hc := col_ok hv hk
      have R := hid (show msk n e = 1 <<< e.col.toNat by cases n <;> (unfold msk; rw [if_pos hk]))
      clear hk hv
      rcases (by omega : e.col = 0 ∨ e.col = 1 ∨ e.col = 2 ∨ e.col = 3 ∨ e.col = 4 ∨ e.col = 5) with h | h | h | h | h | h
      all_goals rw [h] at a1
      all_goals have R2 := hid (show msk n e = 1 <<< Int.toNat _ by rw [R.out, h])
      all_goals clear h hc R
      all_goals go_enter Try.func42, Try.ntmps42
      all_goals go_wp2
      all_goals go_ret
      all_goals exact ⟨ret_int (by first | (rw [R2.out]; done) | (rw [R2.out]; rfl)), Fr.refl _⟩
    · have e1 : (e.kind == 1) = false := by simp [hk]
      have HK := hid hk
      have h2 := vE_two hv
      clear hk hv
      go_enter Try.func42, Try.ntmps42
      go_wp2
      clear a4 a0 a1
      go_loopw [3, 20] (fun s t wr => ∃ (k N : Nat), k ≤ e.kids.length ∧ t = .int .i64 k ∧ s = .int .i64 N ∧ Fr w wr ∧ Hid (MskAt n e k N)) (fun _ t _ => e.kids.length - (intOf t).toNat)
      case atStart => exact ⟨0, 0, by omega, rfl, rfl, Fr.refl _, hid ⟨by omega, fun _ => rfl, fun n' _ => by simp [orL]⟩⟩
      case round =>
        obtain ⟨k, N, hk, rfl, rfl, hf, hN⟩ := hrel
        have a4 := hf.cell HC.out
        by_cases hlt : k < e.kids.length
        · cases n with
          | zero => exfalso; rw [HX.out.ex0] at hlt; simp at hlt
          | succ n =>
            obtain ⟨kb, ko, hA, rK⟩ := HX.out.at_ hlt
            subst hA
            have RK := hid (rdEx_mono (n + 1) _ wr.cell? _ (fun j => wr.cell? ⟨kb, ko + k * 5 + j, none⟩) _ hf.mle (fun j v hv => hf.cell hv) rK)
            clear rK
            obtain ⟨d, rfl, hvk⟩ := vE_down HV.out hlt
            have m64 := msk_64 hw n d _ hvk
            have HVK := hid hvk
            have ST := hid (mskAt_step hN.out hlt m64)
            have eo := i64_or N (msk n e.kids[k]) hN.out.1 m64
            clear hvk
            go_wp2_with fail
            refine (IH.out n (by omega) _ _ _ _ _ _ RK.out (HS.out.2 k hlt) HVK.out hw).mono ?_
            rintro r w1 ⟨rfl, b1⟩
            go_wp2
            go_roundw
            case rel => exact ⟨k + 1, _, by omega, by go_num, rfl, hf.trans b1, ST⟩
            case measure => simp [intOf]; omega
        · obtain rfl : k = e.kids.length := by omega
          have RES := hid (mskAt_end hN.out (fun h => by subst h; rw [HX.out.ex0]; rfl) HK.out)
          go_wp2
          go_ret
          exact ⟨ret_int (by rw [RES.out]), hf⟩
/-- The columns of an expression, ascending. -/
def xcols (n : Nat) (e : Ex) : List Int := if vexpr 6 n e then (bitsN (msk n e) 6).map (fun c : Nat => (c : Int)) else []
set_option maxRecDepth 100000 in
set_option maxHeartbeats 2000000 in
theorem implColumnsOf2 (n : Nat) (e : Ex) (A : Option Addr) (c : Nat) (w : World) (hx : RdSl (rdEx n) w.cell? 5 A e.kids) (hs : exSm n e.kids) (hc : e.kids.length ≤ c) :
    Calls Try.prog 12 #[.agg #[.int .i64 e.kind, .int .i64 e.col, .bool e.val.null, .int .i64 e.val.n, .slice A e.kids.length c]] w fun r w' => ∃ A' cap', r = .returned (.slice A' (xcols n e).length cap') ∧ RdSl rdInt (fromB w' w.heap.size) 1 A' (xcols n e) ∧ Mk w' A' (xcols n e).length ∧ (∀ k, AtB A' k → w.heap.size ≤ k) ∧ Fr w w' := by
  have HX := hid hx
  clear hx
  have BA := Blk.new w 33 #[.int .i64 e.kind, .int .i64 e.col, .bool e.val.null, .int .i64 e.val.n, .slice A e.kids.length c]
  have F1 : Fr w (w.alloc (.cells #[.int .i64 e.kind, .int .i64 e.col, .bool e.val.null, .int .i64 e.val.n, .slice A e.kids.length c] 33)) := (Fr.refl _).alloc _
  cases hv : vexpr 6 n e
  · have R := hid (show xcols n e = [] by unfold xcols; rw [hv]; rfl)
    go_enter Try.func12, Try.ntmps12
    go_wp2_with (go_at_call 35; refine (implValidExpr n _ _ _ _ _ (HX.out.fr (rdEx_mono n) F1) hs hc).mono ?_; rintro r w1 ⟨rfl, b1⟩; rw [hv])
    go_ret
    rw [R.out]
    exact ⟨none, 0, rfl, RdSl.nil, fun h => absurd rfl h, fun k ⟨_, h, _⟩ => (by cases h), F1.trans b1⟩
  · have R := hid (show xcols n e = (bitsN (msk n e) 6).map (fun c : Nat => (c : Int)) by unfold xcols; rw [hv]; rfl)
    have hm := msk_64 (wd := 6) (by omega) n 8 e (vexpr_vE hv)
    obtain ⟨m, em⟩ : ∃ m, msk n e = m := ⟨_, rfl⟩
    rw [em] at hm
    have EM := hid em
    clear em
    go_enter Try.func12, Try.ntmps12
    go_wp2_with fail
    refine (implValidExpr n _ _ _ _ _ (HX.out.fr (rdEx_mono n) F1) hs hc).mono ?_
    rintro r w1 ⟨rfl, b1⟩
    rw [hv]
    have P := hid (ptrEx (BA.fr b1) (HX.out.fr (rdEx_mono n) (F1.trans b1)) (exSm_len hs) hc)
    go_wp2_with fail
    refine (implCol n _ _ _ 6 8 _ P.out hs (vexpr_vE hv) (by omega)).mono ?_
    rintro r w2 ⟨rfl, b2⟩
    rw [EM.out]
    have F2 := (F1.trans b1).trans b2
    have hsz := F2.size
    go_wp2
    go_loopw [4, 10] (fun v t wr => ∃ (k : Nat) (u : Value), k ≤ 6 ∧ t = .int .i64 k ∧ u = v ∧ Fr w wr ∧ Hid (wr.ownsRow w.heap.size 3 1 u (bitsN m k).length (((bitsN m k).map (fun c : Nat => (c : Int))).map iv))) (fun _ t _ => 6 - (intOf t).toNat)
    case atStart => exact ⟨0, _, by omega, rfl, rfl, F2, hid (by have : bitsN m 0 = [] := rfl; rw [this]; exact own_nil)⟩
    case round =>
      obtain ⟨k, v, hk, rfl, rfl, hf, hO⟩ := hrel
      have hsr := hf.size
      by_cases hlt : k < 6
      · have hb := bitsN_succ m k
        have hlen : (bitsN m k).length ≤ 6 := by
          unfold bitsN
          have := List.length_filter_le (fun c => m.testBit c) (List.range k)
          rw [List.length_range] at this
          omega
        cases ht : m.testBit k
        · have HO' := hid (show wr.ownsRow w.heap.size 3 1 v (bitsN m (k + 1)).length (((bitsN m (k + 1)).map (fun c : Nat => (c : Int))).map iv) by rw [hb, ht]; simpa using hO.out)
          have eb := bit_test hm k hlt
          rw [ht] at eb
          clear hb ht hO
          rcases (by omega : k = 0 ∨ k = 1 ∨ k = 2 ∨ k = 3 ∨ k = 4 ∨ k = 5) with rfl | rfl | rfl | rfl | rfl | rfl
          all_goals first | (have eb1 : (bits .and .i64 (m : Int) 1 != 0) = false := eb) | (have eb1 : (bits .and .i64 (m : Int) 2 != 0) = false := eb) | (have eb1 : (bits .and .i64 (m : Int) 4 != 0) = false := eb) | (have eb1 : (bits .and .i64 (m : Int) 8 != 0) = false := eb) | (have eb1 : (bits .and .i64 (m : Int) 16 != 0) = false := eb) | (have eb1 : (bits .and .i64 (m : Int) 32 != 0) = false := eb)
          all_goals clear eb
          all_goals go_wp2
          all_goals go_roundw
          all_goals first
            | exact ⟨_, _, by omega, by first | rfl | go_num, rfl, hf, HO'⟩
            | (simp [intOf]; done)
            | (simp [intOf]; omega)
        · have eb := bit_test hm k hlt
          rw [ht] at eb
          obtain ⟨K, hK⟩ : ∃ K, K = k + 1 := ⟨_, rfl⟩
          have HH := hid (show bitsN m K = bitsN m k ++ [k] by rw [hK, hb, ht]; rfl)
          have HK := hid hK
          clear hK
          have HO := hid hO.out
          clear hb ht hO
          rcases (by omega : k = 0 ∨ k = 1 ∨ k = 2 ∨ k = 3 ∨ k = 4 ∨ k = 5) with rfl | rfl | rfl | rfl | rfl | rfl
          all_goals first | (have eb1 : (bits .and .i64 (m : Int) 1 != 0) = true := eb) | (have eb1 : (bits .and .i64 (m : Int) 2 != 0) = true := eb) | (have eb1 : (bits .and .i64 (m : Int) 4 != 0) = true := eb) | (have eb1 : (bits .and .i64 (m : Int) 8 != 0) = true := eb) | (have eb1 : (bits .and .i64 (m : Int) 16 != 0) = true := eb) | (have eb1 : (bits .and .i64 (m : Int) 32 != 0) = true := eb)
          all_goals clear eb
          all_goals go_wp2_with (at_builtin; refine wp_app1 rfl _ _ 28 rfl w.heap.size 3 (.int .i64 0) 1 8 Try.underlying28 (by kernel_rfl) rfl (by decide) (by decide) _ _ _ rfl (own_fr HO.out ((Fr.refl wr).alloc _)) (by omega) (by simp; omega) wr.heap.size [.int .i64 _] rfl (blk_new (by simp)) rfl rfl ?_; intro v5 w5 hO5 hg5)
          all_goals have F5 : Fr w w5 := Fr.grown (hf.alloc _) hg5 (own_fr HO.out ((Fr.refl wr).alloc _))
          all_goals have HO5 := hid hO5
          all_goals clear hO5
          all_goals go_wp2
          all_goals go_roundw
          all_goals first
            | exact ⟨K, _, by have := HK.out; omega, by rw [HK.out]; first | rfl | go_num, rfl, F5, hid (by rw [HH.out]; simpa using HO5.out)⟩
            | (simp [intOf]; done)
            | (simp [intOf]; omega)
      · obtain rfl : k = 6 := by omega
        obtain ⟨A', cap', rfl⟩ := own_form hO.out
        have HO := hid hO.out
        clear hO
        go_wp2
        go_ret
        rw [R.out, EM.out]
        refine ⟨A', cap', by simp, ?_, ?_, own_atB HO.out, hf⟩
        · exact own_int HO.out (by simp)
        · have h := mk_of_own HO.out
          rw [Nat.mul_one] at h
          simpa using h
theorem implColumnsOf (n : Nat) (e : Ex) (A : Option Addr) (c : Nat) (w : World) (hx : RdSl (rdEx n) w.cell? 5 A e.kids) (hs : exSm n e.kids) (hc : e.kids.length ≤ c) :
    Calls Try.prog 12 #[.agg #[.int .i64 e.kind, .int .i64 e.col, .bool e.val.null, .int .i64 e.val.n, .slice A e.kids.length c]] w fun r w' => ∃ A' cap', r = .returned (.slice A' (xcols n e).length cap') ∧ RdSl rdInt (fromB w' w.heap.size) 1 A' (xcols n e) ∧ Fr w w' :=
  (implColumnsOf2 n e A c w hx hs hc).mono fun _ _ ⟨A', c', h1, h2, _, _, h3⟩ => ⟨A', c', h1, h2, h3⟩
end Go.Proofs.Ytfillcjpdnpaiaa
