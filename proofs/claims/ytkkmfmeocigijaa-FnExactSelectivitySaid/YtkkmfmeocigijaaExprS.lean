/- Walks of the size of expressions. -/
import Derived.Test.YtkkmfmeocigijaaExprV
namespace Go.Proofs.Ytkkmfmeocigijaa
open Go Go.RowKit

theorem vE_down {wd : Int} {n deep : Nat} {e : Ex} (h : vE wd (n + 1) deep e = true) {i : Nat} (hi : i < e.kids.length) : ∃ d : Nat, deep = d + 1 ∧ vE wd n d e.kids[i] = true := by
  have hd := (head_yes (vE_head h).1).2
  obtain ⟨d, rfl⟩ : ∃ d, deep = d + 1 := ⟨deep - 1, by rcases hd with q | ⟨_, q⟩ <;> omega⟩
  have := vE_kids h i hi
  rw [show ((d + 1 : Nat) : Int) - 1 = d by omega] at this
  exact ⟨d, rfl, this⟩
theorem sE_small {wd : Int} {n deep : Nat} {e : Ex} (h : vE wd n deep e = true) (hd : deep ≤ 8) : 1 ≤ sE n e ∧ sE n e ≤ 511 := by
  obtain ⟨h1, h2⟩ := sE_bound n deep e h
  refine ⟨h1, ?_⟩
  have h3 : (2 : Int) ^ (deep + 1) ≤ 512 := by
    have : deep = 0 ∨ deep = 1 ∨ deep = 2 ∨ deep = 3 ∨ deep = 4 ∨ deep = 5 ∨ deep = 6 ∨ deep = 7 ∨ deep = 8 := by omega
    rcases this with rfl | rfl | rfl | rfl | rfl | rfl | rfl | rfl | rfl <;> decide
  omega
def SumAt (n : Nat) (e : Ex) (k : Nat) (N : Int) : Prop := 1 ≤ N ∧ N ≤ 1 + 511 * (k : Int) ∧ (k = 0 → N = 1) ∧ ∀ n', n = n' + 1 → N = 1 + sumL (sE n') (e.kids.take k)
theorem sumAt_end {n : Nat} {e : Ex} {N : Int} (h : SumAt n e e.kids.length N) (h0 : n = 0 → e.kids.length = 0) : N = sE n e := by
  cases n with
  | zero => exact h.2.2.1 (h0 rfl)
  | succ n => rw [h.2.2.2 n rfl, List.take_of_length_le (Nat.le_refl _)]; rfl
theorem sumAt_step {n : Nat} {e : Ex} {k : Nat} {N : Int} (h : SumAt (n + 1) e k N) (hk : k < e.kids.length) (hs : 1 ≤ sE n e.kids[k] ∧ sE n e.kids[k] ≤ 511) : SumAt (n + 1) e (k + 1) (N + sE n e.kids[k]) := by
  obtain ⟨h1, h2, h3, h4⟩ := h
  refine ⟨by omega, by omega, fun h => by omega, fun n' hn => ?_⟩
  obtain rfl : n = n' := by omega
  rw [sumL_take hk, h4 n rfl]; omega

def SpecSz (n : Nat) : Prop := ∀ (e : Ex) (A : Option Addr) (c : Nat) (wd : Int) (deep : Nat) (w : World), RdSl (rdEx n) w.cell? 5 A e.kids → exSm n e.kids → vE wd n deep e = true → deep ≤ 8 →
    Calls Try.prog 54 #[.agg #[.int .i64 e.kind, .int .i64 e.col, .bool e.val.null, .int .i64 e.val.n, .slice A e.kids.length c]] w fun r w' => r = .returned (.int .i64 (sE n e)) ∧ Fr w w'
set_option maxRecDepth 100000 in
set_option maxHeartbeats 2000000 in
theorem specSz (n : Nat) : SpecSz n := by
  induction n using Nat.strongRecOn with
  | _ n ih =>
    intro e A c wd deep w hx hs hv hd
    have HX := hid hx
    have IH := hid ih
    have HS := hid hs
    have hl := exSm_len hs
    have h2 := vE_two hv
    have HV := hid hv
    clear hx ih hs hv
    have BA := Blk.new w 27 #[.int .i64 e.kind, .int .i64 e.col, .bool e.val.null, .int .i64 e.val.n, .slice A e.kids.length c]
    have F1 : Fr w (w.alloc (.cells #[.int .i64 e.kind, .int .i64 e.col, .bool e.val.null, .int .i64 e.val.n, .slice A e.kids.length c] 27)) := (Fr.refl _).alloc _
    go_enter Try.func54, Try.ntmps54
    go_wp2
    generalize w.alloc (.cells #[.int .i64 e.kind, .int .i64 e.col, .bool e.val.null, .int .i64 e.val.n, .slice A e.kids.length c] 27) = W1 at BA F1 ⊢
    go_loopw [3, 4] (fun s t wr => ∃ (k : Nat) (N : Int), k ≤ e.kids.length ∧ t = .int .i64 k ∧ s = .int .i64 N ∧ Fr W1 wr ∧ Hid (SumAt n e k N)) (fun _ t _ => e.kids.length - (intOf t).toNat)
    case atStart => exact ⟨0, 1, by omega, rfl, rfl, Fr.refl _, hid ⟨by omega, by omega, fun _ => rfl, fun n' _ => by simp [sumL]⟩⟩
    case round =>
      obtain ⟨k, N, hk, rfl, rfl, hf, hN⟩ := hrel
      obtain ⟨a0, a1, a2, a3, a4, _⟩ := (BA.fr hf).five
      by_cases hlt : k < e.kids.length
      · cases n with
        | zero => exfalso; rw [HX.out.ex0] at hlt; simp at hlt
        | succ n =>
          obtain ⟨b, o, B, c', hA, d0, d1, d2, d3, cK, rK, _⟩ := HX.out.ex hlt
          subst hA
          have RK := hid (rK.fr (rdEx_mono n) (F1.trans hf))
          clear rK
          replace d0 := (F1.trans hf).cell d0
          replace d1 := (F1.trans hf).cell d1
          replace d2 := (F1.trans hf).cell d2
          replace d3 := (F1.trans hf).cell d3
          replace cK := (F1.trans hf).cell cK
          obtain ⟨d, rfl, hvk⟩ := vE_down HV.out hlt
          obtain ⟨s1, s2⟩ := sE_small hvk (by omega)
          have HVK := hid hvk
          have n1 := hN.out.1
          have n2 := hN.out.2.1
          have ST := hid (sumAt_step hN.out hlt ⟨s1, s2⟩)
          clear hvk
          go_wp2_with fail
          refine (IH.out n (by omega) _ _ _ _ _ _ RK.out (HS.out.2 k hlt) HVK.out (by omega)).mono ?_
          rintro r w1 ⟨rfl, b1⟩
          have ew : IntKind.i64.wrap (N + sE n e.kids[k]) = N + sE n e.kids[k] := IntWalk.i64_in _ (by omega)
          go_wp2
          go_roundw
          case rel => exact ⟨k + 1, _, by omega, by go_num, rfl, hf.trans b1, ST⟩
          case measure => simp [intOf]; omega
      · obtain rfl : k = e.kids.length := by omega
        have RES := hid (sumAt_end hN.out (fun h => by subst h; rw [HX.out.ex0]; rfl))
        go_wp2
        go_ret
        exact ⟨ret_int RES.out, F1.trans hf⟩

def ImplSz (n : Nat) : Prop := ∀ (e : Ex) (b o : Nat) (wd : Int) (deep : Nat) (w : World), rdEx (n + 1) w.cell? (fun j => w.cell? ⟨b, o + j, none⟩) e → exSm n e.kids → vE wd n deep e = true → deep ≤ 8 →
    Calls Try.prog 52 #[.pointer (some ⟨b, o, none⟩)] w fun r w' => r = .returned (.int .i64 (sE n e)) ∧ Fr w w'
set_option maxRecDepth 100000 in
set_option maxHeartbeats 2000000 in
theorem implSz (n : Nat) : ImplSz n := by
  induction n using Nat.strongRecOn with
  | _ n ih =>
    intro e b o wd deep w hr hs hv hd
    have IH := hid ih
    have HS := hid hs
    have hl := exSm_len hs
    have h2 := vE_two hv
    have HV := hid hv
    obtain ⟨_, _, _, _, A, c, a4, hx, _, _⟩ := hr
    simp only [Nat.add_zero] at a4
    have HX := hid hx
    have HC := hid a4
    clear hx ih hs hv
    go_enter Try.func52, Try.ntmps52
    go_wp2
    clear a4
    go_loopw [3, 10] (fun s t wr => ∃ (k : Nat) (N : Int), k ≤ e.kids.length ∧ t = .int .i64 k ∧ s = .int .i64 N ∧ Fr w wr ∧ Hid (SumAt n e k N)) (fun _ t _ => e.kids.length - (intOf t).toNat)
    case atStart => exact ⟨0, 1, by omega, rfl, rfl, Fr.refl _, hid ⟨by omega, by omega, fun _ => rfl, fun n' _ => by simp [sumL]⟩⟩
    case round =>
      obtain ⟨k, N, hk, rfl, rfl, hf, hN⟩ := hrel
      have a4 := hf.cell HC.out
      by_cases hlt : k < e.kids.length
      · cases n with
        | zero => exfalso; rw [HX.out.ex0] at hlt; simp at hlt
        | succ n =>
          obtain ⟨kb, ko, hA, rK⟩ := HX.out.at_ hlt
          subst hA
          have RK := hid (rdEx_mono (n + 1) _ wr.cell? _ (fun j => wr.cell? ⟨kb, ko + k * 5 + j, none⟩) _ hf.mle (fun j v hv => hf.cell hv) rK)
          clear rK
          obtain ⟨d, rfl, hvk⟩ := vE_down HV.out hlt
          obtain ⟨s1, s2⟩ := sE_small hvk (by omega)
          have HVK := hid hvk
          have n1 := hN.out.1
          have n2 := hN.out.2.1
          have ST := hid (sumAt_step hN.out hlt ⟨s1, s2⟩)
          clear hvk
          go_wp2_with fail
          refine (IH.out n (by omega) _ _ _ _ _ _ RK.out (HS.out.2 k hlt) HVK.out (by omega)).mono ?_
          rintro r w1 ⟨rfl, b1⟩
          have ew : IntKind.i64.wrap (N + sE n e.kids[k]) = N + sE n e.kids[k] := IntWalk.i64_in _ (by omega)
          go_wp2
          go_roundw
          case rel => exact ⟨k + 1, _, by omega, by go_num, rfl, hf.trans b1, ST⟩
          case measure => simp [intOf]; omega
      · obtain rfl : k = e.kids.length := by omega
        have RES := hid (sumAt_end hN.out (fun h => by subst h; rw [HX.out.ex0]; rfl))
        go_wp2
        go_ret
        exact ⟨ret_int RES.out, hf⟩

def xsize (n : Nat) (e : Ex) : Int := if vexpr 6 n e then sE n e else 0
theorem vexpr_vE {n : Nat} {e : Ex} (h : vexpr 6 n e = true) : vE 6 n (8 : Nat) e = true := by
  unfold vexpr at h
  rw [Bool.and_eq_true] at h
  exact h.2
theorem specExprSize (n : Nat) (e : Ex) (A : Option Addr) (c : Nat) (w : World) (hx : RdSl (rdEx n) w.cell? 5 A e.kids) (hs : exSm n e.kids) :
    Calls Try.prog 17 #[.agg #[.int .i64 e.kind, .int .i64 e.col, .bool e.val.null, .int .i64 e.val.n, .slice A e.kids.length c]] w fun r w' => r = .returned (.int .i64 (xsize n e)) ∧ Fr w w' := by
  have HX := hid hx
  clear hx
  have BA := Blk.new w 27 #[.int .i64 e.kind, .int .i64 e.col, .bool e.val.null, .int .i64 e.val.n, .slice A e.kids.length c]
  have F1 : Fr w (w.alloc (.cells #[.int .i64 e.kind, .int .i64 e.col, .bool e.val.null, .int .i64 e.val.n, .slice A e.kids.length c] 27)) := (Fr.refl _).alloc _
  cases hv : vexpr 6 n e
  · have R := hid (show xsize n e = 0 by unfold xsize; rw [hv]; rfl)
    go_enter Try.func17, Try.ntmps17
    go_wp2_with (go_at_call 53; refine (specValidExpr n _ _ _ _ _ (HX.out.fr (rdEx_mono n) F1) hs).mono ?_; rintro r w1 ⟨rfl, b1⟩; rw [hv])
    go_ret
    exact ⟨ret_int R.out.symm, F1.trans b1⟩
  · have R := hid (show xsize n e = sE n e by unfold xsize; rw [hv]; rfl)
    go_enter Try.func17, Try.ntmps17
    go_wp2_with fail
    refine (specValidExpr n _ _ _ _ _ (HX.out.fr (rdEx_mono n) F1) hs).mono ?_
    rintro r w1 ⟨rfl, b1⟩
    rw [hv]
    obtain ⟨a0, a1, a2, a3, a4, _⟩ := (BA.fr b1).five
    go_wp2_with fail
    refine (specSz n _ _ _ _ _ _ (HX.out.fr (rdEx_mono n) (F1.trans b1)) hs (vexpr_vE hv) (by omega)).mono ?_
    rintro r w2 ⟨rfl, b2⟩
    go_wp2
    go_ret
    exact ⟨ret_int R.out.symm, (F1.trans b1).trans b2⟩
theorem implExprSize (n : Nat) (e : Ex) (A : Option Addr) (c : Nat) (w : World) (hx : RdSl (rdEx n) w.cell? 5 A e.kids) (hs : exSm n e.kids) (hc : e.kids.length ≤ c) :
    Calls Try.prog 16 #[.agg #[.int .i64 e.kind, .int .i64 e.col, .bool e.val.null, .int .i64 e.val.n, .slice A e.kids.length c]] w fun r w' => r = .returned (.int .i64 (xsize n e)) ∧ Fr w w' := by
  have HX := hid hx
  clear hx
  have BA := Blk.new w 27 #[.int .i64 e.kind, .int .i64 e.col, .bool e.val.null, .int .i64 e.val.n, .slice A e.kids.length c]
  have F1 : Fr w (w.alloc (.cells #[.int .i64 e.kind, .int .i64 e.col, .bool e.val.null, .int .i64 e.val.n, .slice A e.kids.length c] 27)) := (Fr.refl _).alloc _
  cases hv : vexpr 6 n e
  · have R := hid (show xsize n e = 0 by unfold xsize; rw [hv]; rfl)
    go_enter Try.func16, Try.ntmps16
    go_wp2_with (go_at_call 18; refine (implValidExpr n _ _ _ _ _ (HX.out.fr (rdEx_mono n) F1) hs hc).mono ?_; rintro r w1 ⟨rfl, b1⟩; rw [hv])
    go_ret
    exact ⟨ret_int R.out.symm, F1.trans b1⟩
  · have R := hid (show xsize n e = sE n e by unfold xsize; rw [hv]; rfl)
    go_enter Try.func16, Try.ntmps16
    go_wp2_with fail
    refine (implValidExpr n _ _ _ _ _ (HX.out.fr (rdEx_mono n) F1) hs hc).mono ?_
    rintro r w1 ⟨rfl, b1⟩
    rw [hv]
    have P := hid (ptrEx (BA.fr b1) (HX.out.fr (rdEx_mono n) (F1.trans b1)) (exSm_len hs) hc)
    go_wp2_with fail
    refine (implSz n _ _ _ _ _ _ P.out hs (vexpr_vE hv) (by omega)).mono ?_
    rintro r w2 ⟨rfl, b2⟩
    go_wp2
    go_ret
    exact ⟨ret_int R.out.symm, (F1.trans b1).trans b2⟩
end Go.Proofs.Ytkkmfmeocigijaa
