/- Walks of the columns of expressions, on the spec's side: addColumns, ColumnsOf. -/
import Derived.Test.YtfillcjpdnpaiaaColS
import Derived.Test.YtfillcjpdnpaiaaColW
namespace Go.Proofs.Ytfillcjpdnpaiaa
open Go Go.RowKit

/-- The list of a set. -/
def lst (m : Nat) : List Int := (bitsN m 6).map (fun c : Nat => (c : Int))
theorem lst_len (m : Nat) : (lst m).length ≤ 6 := by
  unfold lst bitsN
  have := List.length_filter_le (fun c => m.testBit c) (List.range 6)
  rw [List.length_range] at this
  simpa using this
def LstAt (w : World) (v : Value) (m : Nat) : Prop := ∃ b o cap, v = .slice (some ⟨b, o, none⟩) (lst m).length cap ∧ RdSl rdInt w.cell? 1 (some ⟨b, o, none⟩) (lst m) ∧ (lst m).length ≤ cap
theorem LstAt.fr {w w' : World} {v : Value} {m : Nat} (h : LstAt w v m) (hf : Fr w w') : LstAt w' v m := by
  obtain ⟨b, o, cap, h1, h2, h3⟩ := h
  exact ⟨b, o, cap, h1, h2.fr rdInt_mono hf, h3⟩
theorem addLst (b o cap : Nat) (m : Nat) (c : Int) (w : World) (hx : RdSl rdInt w.cell? 1 (some ⟨b, o, none⟩) (lst m)) (hc : (lst m).length ≤ cap) (hm : m < 64) (h0 : 0 ≤ c) (h6 : c < 6) :
    Calls Try.prog 66 #[.slice (some ⟨b, o, none⟩) (lst m).length cap, .int .i64 c] w fun r w' => ∃ v, r = .returned v ∧ LstAt w' v (m ||| 1 <<< c.toNat) ∧ Fr w w' := by
  have hl := lst_len m
  refine (addNum b o cap (lst m) c w hx (by omega) hc).mono ?_
  rintro r w' ⟨b', o', cap', rfl, h1, h2, h3⟩
  obtain ⟨cn, rfl⟩ : ∃ cn : Nat, c = cn := ⟨c.toNat, by omega⟩
  have e : insN (lst m) (cn : Int) = lst (m ||| 1 <<< ((cn : Int)).toNat) := insN_bits m hm cn (by omega)
  rw [e] at h1 h2
  exact ⟨_, rfl, ⟨b', o', cap', by rw [e], h1, h2⟩, h3⟩
def AddAt (n : Nat) (e : Ex) (m k M : Nat) : Prop := M < 64 ∧ (k = 0 → M = m) ∧ ∀ n', n = n' + 1 → M = m ||| orL (msk n') (e.kids.take k)
theorem addAt_step {n : Nat} {e : Ex} {m k M : Nat} (h : AddAt (n + 1) e m k M) (hk : k < e.kids.length) (hs : msk n e.kids[k] < 64) : AddAt (n + 1) e m (k + 1) (M ||| msk n e.kids[k]) := by
  obtain ⟨h1, h2, h3⟩ := h
  refine ⟨or_64 h1 hs, fun h => by omega, fun n' hn => ?_⟩
  obtain rfl : n = n' := by omega
  rw [orL_take hk, h3 n rfl, Nat.or_assoc]
theorem addAt_end {n : Nat} {e : Ex} {m M : Nat} (h : AddAt n e m e.kids.length M) (h0 : n = 0 → e.kids.length = 0) (hk : e.kind ≠ 1) : M = m ||| msk n e := by
  cases n with
  | zero => rw [h.2.1 (h0 rfl)]; unfold msk; rw [if_neg hk]; simp
  | succ n => rw [h.2.2 n rfl, List.take_of_length_le (Nat.le_refl _)]; unfold msk; rw [if_neg hk]
def SpecAdd (n : Nat) : Prop := ∀ (e : Ex) (A : Option Addr) (c : Nat) (b o cap m : Nat) (wd : Int) (deep : Nat) (w : World), RdSl (rdEx n) w.cell? 5 A e.kids → exSm n e.kids → RdSl rdInt w.cell? 1 (some ⟨b, o, none⟩) (lst m) → (lst m).length ≤ cap → m < 64 → vE wd n deep e = true → wd ≤ 6 →
    Calls Try.prog 40 #[.slice (some ⟨b, o, none⟩) (lst m).length cap, .agg #[.int .i64 e.kind, .int .i64 e.col, .bool e.val.null, .int .i64 e.val.n, .slice A e.kids.length c]] w fun r w' => ∃ v, r = .returned v ∧ LstAt w' v (m ||| msk n e) ∧ Fr w w'
set_option maxRecDepth 100000 in
set_option maxHeartbeats 2000000 in
theorem specAddCols (n : Nat) : SpecAdd n := by
  induction n using Nat.strongRecOn with
  | _ n ih =>
    intro e A c b o cap m wd deep w hx hs hL hLc hm hv hw
    have HX := hid hx
    have HL := hid hL
    have HV := hid hv
    have IH := hid ih
    have HS := hid hs
    have hl := exSm_len hs
    have h2 := vE_two hv
    clear hx hL ih hs
    have BA := Blk.new w 33 #[.int .i64 e.kind, .int .i64 e.col, .bool e.val.null, .int .i64 e.val.n, .slice A e.kids.length c]
    have F1 : Fr w (w.alloc (.cells #[.int .i64 e.kind, .int .i64 e.col, .bool e.val.null, .int .i64 e.val.n, .slice A e.kids.length c] 33)) := (Fr.refl _).alloc _
    obtain ⟨a0, a1, a2, a3, a4, _⟩ := BA.five
    by_cases hk : e.kind = 1
    · have e1 : (e.kind == 1) = true := by simp [hk]
      have hc := col_ok hv hk
      have R := hid (show msk n e = 1 <<< e.col.toNat by cases n <;> (unfold msk; rw [if_pos hk]))
      have h0 : e.kids.length = 0 := by
        rcases kind_cases hv with q | q | q | q | q <;> omega
      have H0 := hid h0
      clear hk hv h0
      go_enter Try.func40, Try.ntmps40
      go_wp2_with fail
      refine (addLst b o cap m e.col _ (HL.out.fr rdInt_mono F1) hLc hm hc.1 (by omega)).mono ?_
      rintro r w1 ⟨v, rfl, hV, b1⟩
      have HVv := hid hV
      obtain ⟨vb, vo, vc, rfl, _, _⟩ := hV
      replace a4 := b1.cell a4
      clear a0 a1 a2 a3
      go_wp2
      go_loopw [0, 5] (fun s t wr => t = .int .i64 0 ∧ Hid (s = .slice (some ⟨vb, vo, none⟩) (lst (m ||| 1 <<< e.col.toNat)).length vc) ∧ Hid (wr = w1)) (fun _ _ _ => 0)
      case atStart => exact ⟨rfl, hid rfl, hid rfl⟩
      case round =>
        obtain ⟨rfl, hs', hwr⟩ := hrel
        obtain rfl := hwr.out
        obtain rfl := hs'.out
        have hz : ¬ 0 < e.kids.length := by have := H0.out; omega
        go_wp2
        go_ret
        exact ⟨_, rfl, by rw [R.out]; exact HVv.out, F1.trans b1⟩
    · have e1 : (e.kind == 1) = false := by simp [hk]
      have HK := hid hk
      clear hk hv
      go_enter Try.func40, Try.ntmps40
      go_wp2
      clear a0 a1 a2 a3 a4
      generalize w.alloc (.cells #[.int .i64 e.kind, .int .i64 e.col, .bool e.val.null, .int .i64 e.val.n, .slice A e.kids.length c] 33) = W1 at BA F1 ⊢
      go_loopw [0, 5] (fun s t wr => ∃ (k M : Nat) (v : Value), k ≤ e.kids.length ∧ t = .int .i64 k ∧ v = s ∧ Fr W1 wr ∧ Hid (LstAt wr v M) ∧ Hid (AddAt n e m k M)) (fun _ t _ => e.kids.length - (intOf t).toNat)
      case atStart => exact ⟨0, m, _, by omega, rfl, rfl, Fr.refl _, hid ⟨b, o, cap, rfl, HL.out.fr rdInt_mono F1, hLc⟩, hid ⟨hm, fun _ => rfl, fun n' _ => by simp [orL]⟩⟩
      case round =>
        obtain ⟨k, M, v, hk, rfl, rfl, hf, hLs, hA⟩ := hrel
        obtain ⟨a0, a1, a2, a3, a4, _⟩ := (BA.fr hf).five
        by_cases hlt : k < e.kids.length
        · cases n with
          | zero => exfalso; rw [HX.out.ex0] at hlt; simp at hlt
          | succ n =>
            obtain ⟨vb, vo, vc, hv', hR, hcp⟩ := hLs.out
            subst hv'
            have HR := hid hR
            clear hR
            obtain ⟨kb, ko, K, kc, hKA, d0, d1, d2, d3, d4, rK, _⟩ := HX.out.ex hlt
            subst hKA
            have RK := hid (rK.fr (rdEx_mono n) (F1.trans hf))
            clear rK
            replace d0 := (F1.trans hf).cell d0
            replace d1 := (F1.trans hf).cell d1
            replace d2 := (F1.trans hf).cell d2
            replace d3 := (F1.trans hf).cell d3
            replace d4 := (F1.trans hf).cell d4
            obtain ⟨d, rfl, hvk⟩ := vE_down HV.out hlt
            have m64 := msk_64 hw n d _ hvk
            have HVK := hid hvk
            have ST := hid (addAt_step hA.out hlt m64)
            clear hvk
            go_wp2_with fail
            refine (IH.out n (by omega) e.kids[k] K kc vb vo vc M wd d _ RK.out (HS.out.2 k hlt) HR.out hcp hA.out.1 HVK.out hw).mono ?_
            rintro r w1 ⟨v1, rfl, hV1, b1⟩
            have HV1 := hid hV1
            clear hV1
            go_wp2
            go_roundw
            case rel => exact ⟨k + 1, _, _, by omega, by go_num, rfl, hf.trans b1, HV1, ST⟩
            case measure => simp [intOf]; omega
        · obtain rfl : k = e.kids.length := by omega
          have RES := hid (addAt_end hA.out (fun h => by subst h; rw [HX.out.ex0]; rfl) HK.out)
          go_wp2
          go_ret
          exact ⟨_, rfl, by rw [← RES.out]; exact hLs.out, F1.trans hf⟩
theorem specColumnsOf (n : Nat) (e : Ex) (A : Option Addr) (c : Nat) (w : World) (hx : RdSl (rdEx n) w.cell? 5 A e.kids) (hs : exSm n e.kids) :
    Calls Try.prog 10 #[.agg #[.int .i64 e.kind, .int .i64 e.col, .bool e.val.null, .int .i64 e.val.n, .slice A e.kids.length c]] w fun r w' => ∃ A' cap', r = .returned (.slice A' (xcols n e).length cap') ∧ RdSl rdInt w'.cell? 1 A' (xcols n e) ∧ Fr w w' := by
  have HX := hid hx
  clear hx
  have BA := Blk.new w 33 #[.int .i64 e.kind, .int .i64 e.col, .bool e.val.null, .int .i64 e.val.n, .slice A e.kids.length c]
  have F1 : Fr w (w.alloc (.cells #[.int .i64 e.kind, .int .i64 e.col, .bool e.val.null, .int .i64 e.val.n, .slice A e.kids.length c] 33)) := (Fr.refl _).alloc _
  cases hv : vexpr 6 n e
  · have R := hid (show xcols n e = [] by unfold xcols; rw [hv]; rfl)
    go_enter Try.func10, Try.ntmps10
    go_wp2_with (go_at_call 39; refine (specValidExpr n _ _ _ _ _ (HX.out.fr (rdEx_mono n) F1) hs).mono ?_; rintro r w1 ⟨rfl, b1⟩; rw [hv])
    go_ret
    rw [R.out]
    exact ⟨none, 0, rfl, RdSl.nil, F1.trans b1⟩
  · have R := hid (show xcols n e = lst (msk n e) by unfold xcols lst; rw [hv]; simp)
    have hL0 : lst 0 = [] := rfl
    have HVE := hid (vexpr_vE hv)
    go_enter Try.func10, Try.ntmps10
    go_wp2_with fail
    refine (specValidExpr n _ _ _ _ _ (HX.out.fr (rdEx_mono n) F1) hs).mono ?_
    rintro r w1 ⟨rfl, b1⟩
    rw [hv]
    have K1 : Fr w1 (w1.alloc (.cells #[] 3)) := (Fr.refl _).alloc _
    have F2 := (F1.trans b1).trans K1
    obtain ⟨a0, a1, a2, a3, a4, _⟩ := (BA.fr (b1.trans K1)).five
    go_wp2_with fail
    refine (show Calls Try.prog 40 #[.slice (some ⟨w1.heap.size, 0, none⟩) 0 0, .agg #[.int .i64 e.kind, .int .i64 e.col, .bool e.val.null, .int .i64 e.val.n, .slice A e.kids.length c]] _ _ from specAddCols n e A c w1.heap.size 0 0 0 6 8 _ (HX.out.fr (rdEx_mono n) F2) hs (by rw [hL0]; exact RdSl.nil) (by rw [hL0]; simp) (by omega) HVE.out (by omega)).mono ?_
    rintro r w2 ⟨v, rfl, hV, b2⟩
    rw [Nat.zero_or] at hV
    obtain ⟨vb, vo, vc, rfl, hR, _⟩ := hV
    have HR := hid hR
    clear hR
    go_wp2
    go_ret
    rw [R.out]
    exact ⟨_, _, rfl, HR.out, F2.trans b2⟩
end Go.Proofs.Ytfillcjpdnpaiaa
