/- Walk of the law FnExactConjoin. -/
import Derived.Test.YtfillcjpdnpaiaaCjnI
import Derived.Test.YtfillcjpdnpaiaaRExprU
import Derived.Test.YtfillcjpdnpaiaaMarkT
import Derived.Test.YtfillcjpdnpaiaaLaw
namespace Go.Proofs.Ytfillcjpdnpaiaa
open Go Go.RowKit
section
open Go.ChangeShapes Go.WideShapes
variable {H : Type} {enc : TypeId × Value → H} {W : World}
set_option maxRecDepth 100000 in
theorem open_exL {base : Nat} {v : Value} {d : DataW H} {p : List MemPlace} (hv : Value.okWide Try.prog W .any base 24 v) (h : DataW.Trod enc Try.prog W 0 (fun _ => true) true 24 v d p) :
    ∃ n A c, ∃ xs : List Ex, v = .slice A xs.length c ∧ RdSl (rdEx n) W.cell? 5 A xs ∧ xs.length ≤ maxLen := by
  obtain ⟨a0, len, cap, rfl⟩ := okWide_slice Try.underlying24 hv
  obtain ⟨xs, n, A, c, h0, h1, h2, _⟩ := arg_one (rd := fun m c xs => ∃ n, rdSlice (rdEx n) 5 m c xs) h (fun cs e => by cases e) (fun n cs x hh => by
    obtain ⟨q, a, ha⟩ := op_slice (n := n) (sz := 5) (rdEx_mono n) Try.underlying24 (by kernel_rfl) (by decide) (fun j hj cs x hh => by obtain ⟨q, a, ha⟩ := op_ex j cs x hh; exact ⟨q, a, rdEx_le (by omega) ha⟩) cs x hh
    exact ⟨q, a, n, ha⟩)
  simp only [List.getElem?_cons_zero, Option.some.injEq] at h0
  exact ⟨n, A, c, xs, h0, h1, h2⟩
end
theorem sumNT {f : Ex → Nat} {g : Ex → Nat} (h : ∀ x, g x + 1 = f x) : ∀ xs : List Ex, xs.length + sumT g xs = sumN f xs
  | [] => rfl
  | x :: r => by have := sumNT h r; have := h x; simp only [List.length_cons, sumT, sumN]; omega
theorem tot_parts : ∀ (n : Nat) (e : Ex), tot n e.kids + 1 = parts (n + 1) e
  | 0, e => by
    have h : ∀ xs : List Ex, sumN (parts 0) xs = xs.length := fun xs => by
      induction xs with
      | nil => rfl
      | cons x r ih =>
        show 1 + sumN (parts 0) r = _
        rw [ih, List.length_cons]; omega
    show e.kids.length + 1 = 1 + sumN (parts 0) e.kids
    rw [h e.kids]; omega
  | n + 1, e => by
    show (e.kids.length + sumT (fun x => tot n x.kids) e.kids) + 1 = 1 + sumN (parts (n + 1)) e.kids
    rw [sumNT (f := parts (n + 1)) (fun x => tot_parts n x)]; omega
theorem tot_valid {n : Nat} {e : Ex} (hd : Dp n e) (hv : vexpr 6 n e = true) : tot n e.kids ≤ 512 := by
  have h1 := tot_parts n e
  have h2 := parts_le (wd := 6) (n := n + 1) (deep := 8) (e := e) (by rw [vE_lift n _ e hd]; exact vexpr_vE hv)
  have h3 : 2 ^ (8 + 1) = 512 := by decide
  omega
theorem tot_xcjn {n : Nat} {xs : List Ex} (hd : Dp (n + 9) (xcjn n xs)) : tot (n + 9) (xcjn n xs).kids ≤ 512 := by
  cases hc : (xs.all (vexpr 6 n) && decide (xs.length ≤ 9) && vexpr 6 (n + 9) (cjn xs))
  · have h : xcjn n xs = e0 := by unfold xcjn; rw [hc]; rfl
    rw [h]
    show tot (n + 9) [] ≤ 512
    rw [tot_nil]; omega
  · have h : xcjn n xs = cjn xs := by unfold xcjn; rw [hc]; rfl
    rw [h] at hd ⊢
    simp only [Bool.and_eq_true] at hc
    exact tot_valid hd hc.2
set_option maxRecDepth 100000 in
set_option maxHeartbeats 4000000 in
theorem walkFnExactConjoin (n : Nat) (A : Option Addr) (c : Nat) (xs : List Ex) (w : World) (hx : RdSl (rdEx n) w.cell? 5 A xs) (hm : xs.length ≤ maxLen) :
    Calls Try.prog 5 #[.slice A xs.length c] w fun r w' => r = .returned (.bool true) ∧ Fr w w' := by
  have HX := hid (rd_up (m := n) (n := n + 1) (by omega) hx)
  clear hx
  rcases exSz_facts (n + 1) 1048576 xs (by omega) (by omega) with h | ⟨h1, h2, hs⟩
  · have R := hid h
    go_enter Try.func5, Try.ntmps5
    go_wp2_with fail
    refine (szExS (n + 1) _ _ _ _ _ HX.out hm (by omega) (by omega)).mono ?_
    rintro r w1 ⟨rfl, b1⟩
    rw [R.out]
    go_wp2
    go_ret
    exact ⟨rfl, b1⟩
  · have htot : (tot (n + 1) xs : Int) ≤ 1048576 := by
      rcases exSz_tot (n + 1) 1048576 xs (by omega) (by omega) with h | ⟨h3, h4⟩ <;> omega
    obtain ⟨lf, elf⟩ : ∃ lf, exSz (n + 1) 1048576 xs = lf := ⟨_, rfl⟩
    rw [elf] at h1 h2
    have ELF := hid elf
    have d0 : decide (lf < 0) = false := by simp; omega
    have HS := hid hs
    obtain ⟨e, ee⟩ : ∃ e, xcjn n xs = e := ⟨_, rfl⟩
    have EE := hid ee
    clear hs elf ee
    obtain ⟨T, eT⟩ : ∃ T, 1 + 4 * tot (n + 1) xs = T := ⟨_, rfl⟩
    have hT : T ≤ 5000000 := by omega
    have ET := hid eT
    clear eT
    have dT : decide ((T : Int) < 0) = false := by simp
    have CTO : Hid (∀ W : World, Fr w W → Calls Try.prog 25 #[.slice A xs.length c] W fun e w' => ∃ g, e = .returned (.slice (some ⟨g, 0, none⟩) xs.length xs.length) ∧ RdSl (rdEx (n + 1)) w'.cell? 5 (some ⟨g, 0, none⟩) xs ∧ Sh (n + 1) w' W.heap.size w'.heap.size (some ⟨g, 0, none⟩) xs ∧ Fr W w') := hid fun W hW => (toExSU (n + 1) A c xs W (HX.out.fr (rdEx_mono _) hW) HS.out).mono fun r w' h => by
      obtain ⟨g, q1, q2, q3, q4⟩ := h
      exact ⟨g, q1, (q2.mono (rdEx_mono _) (fromU_le _ _)).mono (rdEx_mono _) (fromB_le _ _), q3, q4⟩
    go_enter Try.func5, Try.ntmps5
    go_wp2_with fail
    refine (szExS (n + 1) _ _ _ _ _ HX.out hm (by omega) (by omega)).mono ?_
    rintro r w1 ⟨rfl, b1⟩
    rw [ELF.out]
    go_wp2_with fail
    refine (CTO.out _ b1).mono ?_
    rintro r w2 ⟨g0, rfl, x0, _, b2⟩
    have X0 := hid x0
    clear x0
    go_wp2_with fail
    refine (specConjoin n xs _ _ _ X0.out HS.out).mono ?_
    rw [EE.out]
    rintro r w3 ⟨A0, c0, rfl, hK0, hSm, b3⟩
    have HK0 := hid hK0
    have HSM := hid hSm
    clear hK0 hSm X0
    have B4 := Blk.new w3 33 #[.int .i64 e.kind, .int .i64 e.col, .bool e.val.null, .int .i64 e.val.n, .slice A0 e.kids.length c0]
    have FW : Fr w3 (w3.alloc (.cells #[.int .i64 e.kind, .int .i64 e.col, .bool e.val.null, .int .i64 e.val.n, .slice A0 e.kids.length c0] 33)) := (Fr.refl _).alloc _
    go_wp2_with fail
    generalize hW3 : w3.alloc (.cells #[.int .i64 e.kind, .int .i64 e.col, .bool e.val.null, .int .i64 e.val.n, .slice A0 e.kids.length c0] 33) = W3 at B4 FW ⊢
    clear hW3
    have F3 : Fr w W3 := ((b1.trans b2).trans b3).trans FW
    have W0 := hid ((HK0.out.mono (fromB_le _ _)).fr FW)
    clear HK0
    refine (CTO.out _ F3).mono ?_
    rintro r w4 ⟨k0, rfl, y0, hSh, b4⟩
    have Y0 := hid y0
    have SH := hid hSh
    clear y0 hSh
    go_wp2_with fail
    refine (implConjoin2 n xs _ _ _ Y0.out HS.out).mono ?_
    rw [EE.out]
    rintro r w5 ⟨A1, c1, rfl, hK1, _, b5, hSS⟩
    have HG := hid hK1
    have HSS := hid hSS
    clear hK1 hSS
    have htx : tot (n + 9) e.kids ≤ 512 := by
      have h := HG.out.1
      have h2 := tot_xcjn (n := n) (xs := xs) (by rw [EE.out]; exact dp_of (n + 9) h)
      rw [EE.out] at h2; exact h2
    obtain ⟨M, eM⟩ : ∃ M, 1 + 4 * tot (n + 9) e.kids = M := ⟨_, rfl⟩
    have hM : M ≤ 5000 := by omega
    have EM := hid eM
    clear eM
    have dM : decide ((M : Int) < 0) = false := by simp
    have B6 := Blk.new w5 33 #[.int .i64 e.kind, .int .i64 e.col, .bool e.val.null, .int .i64 e.val.n, .slice A1 e.kids.length c1]
    have FW5 : Fr w5 (w5.alloc (.cells #[.int .i64 e.kind, .int .i64 e.col, .bool e.val.null, .int .i64 e.val.n, .slice A1 e.kids.length c1] 33)) := (Fr.refl _).alloc _
    have B45 := B4.fr (b4.trans b5)
    obtain ⟨a0, a1, a2, a3, a4, _⟩ := B45.five
    have l45 := B45.lt
    go_wp2_with fail
    clear a0 a1 a2 a3 a4
    generalize hW5 : w5.alloc (.cells #[.int .i64 e.kind, .int .i64 e.col, .bool e.val.null, .int .i64 e.val.n, .slice A1 e.kids.length c1] 33) = W5 at B6 FW5 ⊢
    clear hW5
    have hs4 := b4.size
    have hs5 := b5.size
    have hl6 := B6.lt
    have F35 : Fr W3 W5 := (b4.trans b5).trans FW5
    have CEQ : Hid (∀ W : World, Fr W3 W → KidsOk (n + 9) (fromB W w4.heap.size) (e, A1, c1) → Calls Try.prog 14 #[.agg #[.int .i64 e.kind, .int .i64 e.col, .bool e.val.null, .int .i64 e.val.n, .slice A1 e.kids.length c1], .agg #[.int .i64 e.kind, .int .i64 e.col, .bool e.val.null, .int .i64 e.val.n, .slice A0 e.kids.length c0]] W fun r w' => r = .returned (.bool true) ∧ Fr W w') := hid fun W hW hK => eqEx (eqExS (n + 9)) e A1 A0 c1 c0 W (hK.mono (fromB_le _ _)).1 (W0.out.fr hW).1 HSM.out
    have HG5 := hid (HG.out.mono (FW5.mle_from w4.heap.size))
    refine (CEQ.out _ F35 HG5.out).mono ?_
    rintro r w6 ⟨rfl, b6⟩
    have F36 := F35.trans b6
    go_wp2_with fail
    refine (CTO.out _ (F3.trans F36)).mono ?_
    rintro r w7 ⟨k1, rfl, y1, _, b7⟩
    have Y1 := hid y1
    clear y1
    have F37 := F36.trans b7
    go_wp2_with fail
    refine (eqExS (n + 1) _ _ _ _ xs _ (Y0.out.fr (rdEx_mono _) (((b5.trans FW5).trans b6).trans b7)) Y1.out HS.out).mono ?_
    rintro r w8 ⟨rfl, b8⟩
    have F38 := F37.trans b8
    have B58 : Fr W5 w8 := (b6.trans b7).trans b8
    go_wp2_with fail
    refine (markS (n + 1) _ _ xs 1 W3.heap.size w4.heap.size _ (SH.out.km (((b5.trans FW5).trans B58)).km) (by have := ET.out; omega)).mono ?_
    rw [ET.out]
    rintro r w9 ⟨rfl, C9, _⟩
    have F39 : Fr W3 w9 := C9.fr (fun k hk => hk.1) F38
    have HG9 := hid ((HG5.out.mono (B58.mle_from w4.heap.size)).mono (C9.mle_from (lo := w4.heap.size) (fun k hk => hk.2)))
    have B69 : Blk w9 w5.heap.size 33 #[.int .i64 e.kind, .int .i64 e.col, .bool e.val.null, .int .i64 e.val.n, .slice A1 e.kids.length c1] := (C9.block _ (B6.fr B58).lt (fun hh => by have := hh.2; omega)).trans (B6.fr B58)
    obtain ⟨S, hS1, hS2⟩ := HSS.out
    have HS9 := hid (((hS1.keep FW5.keepS).keep B58.keepS).keep (C9.keepS fun k hk hh => by have := hS2 k hk; have := hh.2; omega))
    have HB := hid hS2
    clear hS1 hS2 HSS HG5
    obtain ⟨a0, a1, a2, a3, a4, _⟩ := (B4.fr F39).five
    obtain ⟨g0, g1, g2, g3, g4, _⟩ := B69.five
    go_wp2_with fail
    refine (CEQ.out _ F39 HG9.out).mono ?_
    rintro r w10 ⟨rfl, b10⟩
    clear a0 a1 a2 a3 a4 g0 g1 g2 g3 g4
    have F310 := F39.trans b10
    obtain ⟨g0, g1, g2, g3, g4, _⟩ := (B69.fr b10).five
    go_wp2_with fail
    refine (markTE (n + 9) e A1 c1 1 S _ (HS9.out.keep b10.keepS) (by have := EM.out; omega)).mono ?_
    rw [EM.out]
    rintro r w11 ⟨rfl, C11, hMk⟩
    have HMK := hid hMk
    clear hMk g0 g1 g2 g3 g4
    have F311 : Fr W3 w11 := C11.fr (fun k hk => by have := HB.out k hk; omega) F310
    have B611 : Blk w11 w5.heap.size 33 #[.int .i64 e.kind, .int .i64 e.col, .bool e.val.null, .int .i64 e.val.n, .slice A1 e.kids.length c1] := (C11.block _ (B69.fr b10).lt (fun hh => by have := HB.out _ hh; omega)).trans (B69.fr b10)
    obtain ⟨g0, g1, g2, g3, g4, _⟩ := B611.five
    go_wp2_with fail
    refine (heldTE (n + 9) e A1 c1 1 S _ HMK.out (by have := EM.out; omega)).mono ?_
    rw [EM.out]
    rintro r w12 ⟨rfl, b12⟩
    clear g0 g1 g2 g3 g4
    have F312 := F311.trans b12
    go_wp2_with fail
    refine (CTO.out _ (F3.trans F312)).mono ?_
    rintro r w13 ⟨k2, rfl, y2, _, b13⟩
    have Y2 := hid y2
    clear y2
    have F313 := F312.trans b13
    go_wp2_with fail
    refine (implConjoin n xs _ _ _ Y2.out HS.out).mono ?_
    rw [EE.out]
    rintro r w14 ⟨A2, c2, rfl, hK2, _, b14⟩
    have HK2 := hid hK2
    clear hK2
    have FW14 : Fr w14 (w14.alloc (.cells #[.int .i64 e.kind, .int .i64 e.col, .bool e.val.null, .int .i64 e.val.n, .slice A2 e.kids.length c2] 33)) := (Fr.refl _).alloc _
    have B414 := B4.fr (F313.trans b14)
    obtain ⟨a0, a1, a2, a3, a4, _⟩ := B414.five
    have l414 := B414.lt
    go_wp2_with fail
    clear a0 a1 a2 a3 a4
    generalize hW14 : w14.alloc (.cells #[.int .i64 e.kind, .int .i64 e.col, .bool e.val.null, .int .i64 e.val.n, .slice A2 e.kids.length c2] 33) = W14 at FW14 ⊢
    clear hW14
    have F314 := (F313.trans b14).trans FW14
    have F1114 := ((b12.trans b13).trans b14).trans FW14
    refine (eqEx (eqExS (n + 9)) e A2 A0 c2 c0 _ ((HK2.out.mono (fromB_le _ _)).fr FW14).1 (W0.out.fr F314).1 HSM.out).mono ?_
    rintro r w15 ⟨rfl, b15⟩
    obtain ⟨g0, g1, g2, g3, g4, _⟩ := (B611.fr (F1114.trans b15)).five
    go_wp2_with fail
    refine (heldTE (n + 9) e A1 c1 1 S _ (HMK.out.keep (F1114.trans b15).keepS) (by have := EM.out; omega)).mono ?_
    rw [EM.out]
    rintro r w16 ⟨rfl, b16⟩
    go_wp2
    go_ret
    exact ⟨rfl, (F3.trans F314).trans (b15.trans b16)⟩
end Go.Proofs.Ytfillcjpdnpaiaa
