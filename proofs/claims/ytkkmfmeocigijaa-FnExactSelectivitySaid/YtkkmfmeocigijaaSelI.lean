/- The walk of the selectivity, on the program's side. -/
import Derived.Test.YtkkmfmeocigijaaSelV
namespace Go.Proofs.Ytkkmfmeocigijaa
open Go Go.RowKit

theorem constPm (v : V) (b o : Nat) (w : World) (d2 : w.cell? ⟨b, o + 2, none⟩ = some (.bool v.null)) (d3 : w.cell? ⟨b, o + 3, none⟩ = some (.int .i64 v.n)) : Calls Try.prog 101 #[.pointer (some ⟨b, o, none⟩)] w fun r w' => r = .returned (.int .i64 (truP v)) ∧ Fr w w' := by
  obtain ⟨t, et⟩ : ∃ t, v.tr = t := ⟨_, rfl⟩
  have T := hid (show ∀ W : World, Calls Try.prog 89 #[.agg #[.bool v.null, .int .i64 v.n]] W fun r w' => r = .returned (.int .i64 t) ∧ Fr W w' from fun W => by rw [← et]; exact implTruth v W)
  have hts : v.tS = 1 ↔ t = 2 := by rw [← et]; rcases tS_cases v with ⟨h1, h2⟩ | ⟨h1, h2⟩ | ⟨h1, h2⟩ <;> rw [h1, h2] <;> omega
  by_cases ht : t = 2
  · have e1 : (t == 2) = true := by simp [ht]
    have R := hid (show truP v = 1000 from if_pos (hts.2 ht))
    clear et hts ht
    go_enter Try.func101, Try.ntmps101
    go_wp2_with (go_at_call 89; refine (T.out _).mono ?_; rintro r w2 ⟨rfl, b2⟩)
    go_ret
    exact ⟨ret_int (by rw [R.out]), b2⟩
  · have e1 : (t == 2) = false := by simp [ht]
    have R := hid (show truP v = 0 from if_neg (fun h => ht (hts.1 h)))
    clear et hts ht
    go_enter Try.func101, Try.ntmps101
    go_wp2_with (go_at_call 89; refine (T.out _).mono ?_; rintro r w2 ⟨rfl, b2⟩)
    go_ret
    exact ⟨ret_int (by rw [R.out]), b2⟩
/-- Statistics behind a pointer. -/
def StAt (m : Mv) (sb : Nat) (rows : Int) (ds ns : List Int) : Prop := ∃ D cd M cm, m ⟨sb, 0, none⟩ = some (.int .i64 rows) ∧ m ⟨sb, 1, none⟩ = some (.slice D ds.length cd) ∧ m ⟨sb, 2, none⟩ = some (.slice M ns.length cm) ∧ RdSl rdInt m 1 D ds ∧ RdSl rdInt m 1 M ns
theorem StAt.fr {w w' : World} {sb : Nat} {rows : Int} {ds ns : List Int} (h : StAt w.cell? sb rows ds ns) (hf : Fr w w') : StAt w'.cell? sb rows ds ns := by
  obtain ⟨D, cd, M, cm, h0, h1, h2, h3, h4⟩ := h
  exact ⟨D, cd, M, cm, hf.cell h0, hf.cell h1, hf.cell h2, h3.fr rdInt_mono hf, h4.fr rdInt_mono hf⟩
set_option maxRecDepth 100000 in
set_option maxHeartbeats 4000000 in
theorem equalPm (n : Nat) (x0 x1 : Ex) (b o : Nat) (kb ko kc : Nat) (rows : Int) (ds ns : List Int) (sb deep : Nat) (w : World) (a4 : w.cell? ⟨b, o + 4, none⟩ = some (.slice (some ⟨kb, ko, none⟩) 2 kc))
    (d0 : w.cell? ⟨kb, ko, none⟩ = some (.int .i64 x0.kind)) (d1 : w.cell? ⟨kb, ko + 1, none⟩ = some (.int .i64 x0.col)) (g0 : w.cell? ⟨kb, ko + 5, none⟩ = some (.int .i64 x1.kind)) (g2 : w.cell? ⟨kb, ko + 5 + 2, none⟩ = some (.bool x1.val.null))
    (hst : StOk rows ds ns) (hs : StAt w.cell? sb rows ds ns) (hv : vE ds.length n deep x0 = true) :
    Calls Try.prog 102 #[.pointer (some ⟨b, o, none⟩), .pointer (some ⟨sb, 0, none⟩)] w fun r w' => r = .returned (.int .i64 (if colEq x0 x1 then eqlP rows ds ns x0.col.toNat else 100)) ∧ Fr w w' := by
  obtain ⟨D, cd, M, cm, s0, s1, s2, hD, hM⟩ := hs
  generalize hP : (if colEq x0 x1 then eqlP rows ds ns x0.col.toNat else 100) = P
  obtain ⟨b1, f1⟩ : ∃ q, (x0.kind == 1) = q := ⟨_, rfl⟩
  obtain ⟨b2, f2⟩ : ∃ q, (x1.kind == 2) = q := ⟨_, rfl⟩
  have f1' : (x0.kind != 1) = !b1 := by rw [← f1]; rfl
  have f2' : (x1.kind != 2) = !b2 := by rw [← f2]; rfl
  obtain ⟨b3, f3⟩ : ∃ q, x1.val.null = q := ⟨_, rfl⟩
  rw [f3] at g2
  have R2 := hid (show P = if (b1 && (b2 && !b3)) then eqlP rows ds ns x0.col.toNat else 100 by rw [← hP]; unfold colEq; rw [f1, f2, f3])
  clear f3 hP
  by_cases hcol : (b1 && (b2 && !b3)) = true
  · have hb : b1 = true ∧ b2 = true ∧ b3 = false := by
      revert hcol
      cases b1 <;> cases b2 <;> cases b3 <;> simp
    obtain ⟨rfl, rfl, rfl⟩ := hb
    have hk1 : x0.kind = 1 := by simpa using f1
    obtain ⟨c1, c2⟩ := col_ok hv hk1
    obtain ⟨ci, hci⟩ : ∃ ci : Nat, x0.col = ci := ⟨x0.col.toNat, by omega⟩
    have hcd : ci < ds.length := by omega
    have hcn : ci < ns.length := by rw [← hst.len]; exact hcd
    have R3 := hid (show P = if rows = 0 ∨ ds.getD ci 0 = 0 then 0 else (1000 * (rows - ns.getD ci 0)).tdiv (rows * ds.getD ci 0) by rw [R2.out, if_pos hcol, hci]; rfl)
    rw [hci] at d1
    obtain ⟨Db, Do, rfl, q⟩ := hD.int hcd
    obtain ⟨Mb, Mo, rfl, q'⟩ := hM.int hcn
    have r0 := hst.r0
    have r4 := hst.r4
    have d0' := hst.d0 ci
    have d4' := hst.d4 ci
    have n0 := hst.n0 ci
    have nr := hst.nr ci
    generalize ds.getD ci 0 = d at q d0' d4' R3
    generalize ns.getD ci 0 = m at q' n0 nr R3
    simp only [Bool.not_true] at f1' f2'
    clear hk1 c1 c2 hci hcol hv hD hM f1 f2 hst
    by_cases hr : rows = 0
    · have e0 : (rows == 0) = true := by simp [hr]
      have R4 := hid (R3.out.trans (if_pos (.inl hr)))
      clear hr r0 r4 n0 nr d0' d4'
      go_enter Try.func102, Try.ntmps102
      go_wp2_with fail
      (refine wp_region_quietC (fun w' => Fr _ w') (by kernel_rfl) (by kernel_rfl) (Fr.refl _).drew ?_; (repeat go_big_quiet_step (first | exact fun _ => rfl | exact fun _ => ⟨rfl, rfl⟩ | (intro hw'; replace a4 := hw'.cell a4; replace d0 := hw'.cell d0; replace d1 := hw'.cell d1; replace g0 := hw'.cell g0; replace g2 := hw'.cell g2; replace s0 := hw'.cell s0; replace s1 := hw'.cell s1; replace s2 := hw'.cell s2; replace q := hw'.cell q; replace q' := hw'.cell q'; go_simp; first | done | exact rfl | exact ⟨rfl, rfl⟩) )); refine wpQuiet_nil ?_; intro wq hq)
      replace a4 := hq.cell a4; replace d0 := hq.cell d0; replace d1 := hq.cell d1; replace g0 := hq.cell g0; replace g2 := hq.cell g2; replace s0 := hq.cell s0; replace s1 := hq.cell s1; replace s2 := hq.cell s2; replace q := hq.cell q; replace q' := hq.cell q'
      have HQ := hid hq
      clear hq
      go_wp2_with fail
      (refine wp_region_quietC (fun w' => Fr _ w') (by kernel_rfl) (by kernel_rfl) (Fr.refl _).drew ?_; (repeat go_big_quiet_step (first | exact fun _ => rfl | exact fun _ => ⟨rfl, rfl⟩ | (intro hw'; replace a4 := hw'.cell a4; replace d0 := hw'.cell d0; replace d1 := hw'.cell d1; replace g0 := hw'.cell g0; replace g2 := hw'.cell g2; replace s0 := hw'.cell s0; replace s1 := hw'.cell s1; replace s2 := hw'.cell s2; replace q := hw'.cell q; replace q' := hw'.cell q'; go_simp; first | done | exact rfl | exact ⟨rfl, rfl⟩) )); refine wpQuiet_nil ?_; intro wq hq)
      go_wp2
      go_ret
      exact ⟨ret_int (by rw [R4.out]), HQ.out.trans hq⟩
    · have e0 : (rows == 0) = false := by simp [hr]
      by_cases hd : d = 0
      · have e1 : (d == 0) = true := by simp [hd]
        have R4 := hid (R3.out.trans (if_pos (.inr hd)))
        clear hr hd r0 r4 n0 nr d0' d4'
        go_enter Try.func102, Try.ntmps102
        go_wp2_with fail
        (refine wp_region_quietC (fun w' => Fr _ w') (by kernel_rfl) (by kernel_rfl) (Fr.refl _).drew ?_; (repeat go_big_quiet_step (first | exact fun _ => rfl | exact fun _ => ⟨rfl, rfl⟩ | (intro hw'; replace a4 := hw'.cell a4; replace d0 := hw'.cell d0; replace d1 := hw'.cell d1; replace g0 := hw'.cell g0; replace g2 := hw'.cell g2; replace s0 := hw'.cell s0; replace s1 := hw'.cell s1; replace s2 := hw'.cell s2; replace q := hw'.cell q; replace q' := hw'.cell q'; go_simp; first | done | exact rfl | exact ⟨rfl, rfl⟩) )); refine wpQuiet_nil ?_; intro wq hq)
        replace a4 := hq.cell a4; replace d0 := hq.cell d0; replace d1 := hq.cell d1; replace g0 := hq.cell g0; replace g2 := hq.cell g2; replace s0 := hq.cell s0; replace s1 := hq.cell s1; replace s2 := hq.cell s2; replace q := hq.cell q; replace q' := hq.cell q'
        have HQ := hid hq
        clear hq
        go_wp2_with fail
        (refine wp_region_quietC (fun w' => Fr _ w') (by kernel_rfl) (by kernel_rfl) (Fr.refl _).drew ?_; (repeat go_big_quiet_step (first | exact fun _ => rfl | exact fun _ => ⟨rfl, rfl⟩ | (intro hw'; replace a4 := hw'.cell a4; replace d0 := hw'.cell d0; replace d1 := hw'.cell d1; replace g0 := hw'.cell g0; replace g2 := hw'.cell g2; replace s0 := hw'.cell s0; replace s1 := hw'.cell s1; replace s2 := hw'.cell s2; replace q := hw'.cell q; replace q' := hw'.cell q'; go_simp; first | done | exact rfl | exact ⟨rfl, rfl⟩) )); refine wpQuiet_nil ?_; intro wq hq)
        go_wp2
        go_ret
        exact ⟨ret_int (by rw [R4.out]), HQ.out.trans hq⟩
      · have e1 : (d == 0) = false := by simp [hd]
        have R4 := hid (R3.out.trans (if_neg (fun hq => by rcases hq with hq | hq; exact hr hq; exact hd hq)))
        have hm1 : rows * 1 ≤ rows * d := Int.mul_le_mul_of_nonneg_left (by omega) r0
        have hm2 : rows * d ≤ rows * 400 := Int.mul_le_mul_of_nonneg_left d4' r0
        obtain ⟨rd, erd⟩ : ∃ rd, rows * d = rd := ⟨_, rfl⟩
        rw [erd] at hm1 hm2
        have s1' : IntKind.i64.wrap (rows - m) = rows - m := IntWalk.i64_in _ (by omega)
        have s2' : IntKind.i64.wrap (1000 * (rows - m)) = 1000 * (rows - m) := IntWalk.i64_in _ (by omega)
        have s3' : IntKind.i64.wrap rd = rd := IntWalk.i64_in _ (by omega)
        have s4' : ¬ rd = 0 := by omega
        have ht := tdiv_range (a := 1000 * (rows - m)) (b := rd) (k := 1000) (by omega) (by omega) (by omega)
        obtain ⟨x, ex⟩ : ∃ x, (1000 * (rows - m)).tdiv rd = x := ⟨_, rfl⟩
        rw [ex] at ht
        have s5' : IntKind.i64.wrap x = x := IntWalk.i64_in _ (by omega)
        have R5 := hid (R4.out.trans (by rw [erd, ex]))
        clear hr hd d0' d4' hm1 hm2
        go_enter Try.func102, Try.ntmps102
        go_wp2_with fail
        (refine wp_region_quietC (fun w' => Fr _ w') (by kernel_rfl) (by kernel_rfl) (Fr.refl _).drew ?_; (repeat go_big_quiet_step (first | exact fun _ => rfl | exact fun _ => ⟨rfl, rfl⟩ | (intro hw'; replace a4 := hw'.cell a4; replace d0 := hw'.cell d0; replace d1 := hw'.cell d1; replace g0 := hw'.cell g0; replace g2 := hw'.cell g2; replace s0 := hw'.cell s0; replace s1 := hw'.cell s1; replace s2 := hw'.cell s2; replace q := hw'.cell q; replace q' := hw'.cell q'; go_simp; first | done | exact rfl | exact ⟨rfl, rfl⟩) )); refine wpQuiet_nil ?_; intro wq hq)
        replace a4 := hq.cell a4; replace d0 := hq.cell d0; replace d1 := hq.cell d1; replace g0 := hq.cell g0; replace g2 := hq.cell g2; replace s0 := hq.cell s0; replace s1 := hq.cell s1; replace s2 := hq.cell s2; replace q := hq.cell q; replace q' := hq.cell q'
        have HQ := hid hq
        clear hq
        go_wp2_with fail
        (refine wp_region_quietC (fun w' => Fr _ w') (by kernel_rfl) (by kernel_rfl) (Fr.refl _).drew ?_; (repeat go_big_quiet_step (first | exact fun _ => rfl | exact fun _ => ⟨rfl, rfl⟩ | (intro hw'; replace a4 := hw'.cell a4; replace d0 := hw'.cell d0; replace d1 := hw'.cell d1; replace g0 := hw'.cell g0; replace g2 := hw'.cell g2; replace s0 := hw'.cell s0; replace s1 := hw'.cell s1; replace s2 := hw'.cell s2; replace q := hw'.cell q; replace q' := hw'.cell q'; go_simp; first | done | exact rfl | exact ⟨rfl, rfl⟩) )); refine wpQuiet_nil ?_; intro wq hq)
        replace a4 := hq.cell a4; replace d0 := hq.cell d0; replace d1 := hq.cell d1; replace g0 := hq.cell g0; replace g2 := hq.cell g2; replace s0 := hq.cell s0; replace s1 := hq.cell s1; replace s2 := hq.cell s2; replace q := hq.cell q; replace q' := hq.cell q'
        have HQ2 := hid hq
        clear hq
        go_wp2_with fail
        (refine wp_region_quietC (fun w' => Fr _ w') (by kernel_rfl) (by kernel_rfl) (Fr.refl _).drew ?_; (repeat go_big_quiet_step (first | exact fun _ => rfl | exact fun _ => ⟨rfl, rfl⟩ | (intro hw'; replace a4 := hw'.cell a4; replace d0 := hw'.cell d0; replace d1 := hw'.cell d1; replace g0 := hw'.cell g0; replace g2 := hw'.cell g2; replace s0 := hw'.cell s0; replace s1 := hw'.cell s1; replace s2 := hw'.cell s2; replace q := hw'.cell q; replace q' := hw'.cell q'; go_simp; first | done | exact rfl | exact ⟨rfl, rfl⟩) )); refine wpQuiet_nil ?_; intro wq hq)
        go_wp2
        go_ret
        exact ⟨ret_int (by rw [R5.out]), (HQ.out.trans HQ2.out).trans hq⟩
  · have R3 := hid (show P = 100 by rw [R2.out, if_neg hcol])
    clear hD hM hv hst f1 f2
    cases b1 <;> cases b2 <;> cases b3
    all_goals first | (exfalso; revert hcol; decide) | skip
    all_goals clear hcol
    all_goals simp only [Bool.not_true, Bool.not_false] at f1' f2'
    all_goals go_enter Try.func102, Try.ntmps102
    all_goals go_wp2_with fail
    all_goals (
      (refine wp_region_quietC (fun w' => Fr _ w') (by kernel_rfl) (by kernel_rfl) (Fr.refl _).drew ?_; (repeat go_big_quiet_step (first | exact fun _ => rfl | exact fun _ => ⟨rfl, rfl⟩ | (intro hw'; replace a4 := hw'.cell a4; replace d0 := hw'.cell d0; replace d1 := hw'.cell d1; replace g0 := hw'.cell g0; replace g2 := hw'.cell g2; replace s0 := hw'.cell s0; replace s1 := hw'.cell s1; replace s2 := hw'.cell s2; go_simp; first | done | exact rfl | exact ⟨rfl, rfl⟩) )); refine wpQuiet_nil ?_; intro wq hq)
      replace a4 := hq.cell a4; replace d0 := hq.cell d0; replace d1 := hq.cell d1; replace g0 := hq.cell g0; replace g2 := hq.cell g2
      go_wp2
      go_ret
      exact ⟨ret_int (by rw [R3.out]), hq⟩)

def ImplPm (n : Nat) : Prop := ∀ (e : Ex) (b o : Nat) (rows : Int) (ds ns : List Int) (sb deep : Nat) (w : World), rdEx (n + 1) w.cell? (fun j => w.cell? ⟨b, o + j, none⟩) e → exSm n e.kids → StOk rows ds ns → StAt w.cell? sb rows ds ns → ds.length ≤ 1048576 → vE ds.length n deep e = true →
    Calls Try.prog 71 #[.pointer (some ⟨b, o, none⟩), .pointer (some ⟨sb, 0, none⟩)] w fun r w' => r = .returned (.int .i64 (pm rows ds ns n e)) ∧ Fr w w'
set_option maxRecDepth 100000 in
set_option maxHeartbeats 4000000 in
theorem implPm (n : Nat) : ImplPm n := by
  induction n using Nat.strongRecOn with
  | _ n ih =>
    intro e b o rows ds ns sb deep w hr hs hst hsa hdl hv
    have HSA := hid hsa
    have HV := hid hv
    have HST := hid hst
    have IH := hid ih
    have HS := hid hs
    have hl := exSm_len hs
    obtain ⟨a0, a1, a2, a3, A, c, a4, hx, _, _⟩ := hr
    simp only [Nat.add_zero] at a0 a4
    have HX := hid hx
    clear hx hsa ih hs hst
    rcases kinds hv with hk | hk | ⟨hk, h0⟩ | ⟨hk, h0⟩ | ⟨hk, h0⟩ | ⟨hk, h0⟩ | ⟨hk, h0⟩ | ⟨hk, h0⟩
    · have R := hid (pm_two (rows := rows) (ds := ds) (ns := ns) (n := n) hk)
      have e2 : (e.kind == 2) = true := by simp; omega
      clear hk hv
      go_enter Try.func71, Try.ntmps71
      go_wp2_with (go_at_call 101; refine (constPm e.val b o _ a2 a3).mono ?_; rintro r w2 ⟨rfl, b2⟩)
      go_ret
      exact ⟨ret_int (by rw [R.out]), b2⟩
    · have R := hid (pm_rest (rows := rows) (ds := ds) (ns := ns) (n := n) hk)
      have e2 : (e.kind == 2) = false := by simp; omega
      have e10 : (e.kind == 10) = false := by simp; omega
      have e8 : (e.kind == 8) = false := by simp; omega
      have e9 : (e.kind == 9) = false := by simp; omega
      have e6 : (e.kind == 6) = false := by simp; omega
      have e7 : (e.kind == 7) = false := by simp; omega
      have e11 : (e.kind == 11) = false := by simp; omega
      clear hk hv
      go_enter Try.func71, Try.ntmps71
      go_wp2
      go_ret
      exact ⟨ret_int (by rw [R.out]), Fr.refl _⟩
    · have hlt : 0 < e.kids.length := by omega
      cases n with
      | zero => exfalso; rw [HX.out.ex0] at hlt; simp at hlt
      | succ n =>
        have R := hid (pm_less (rows := rows) (ds := ds) (ns := ns) (n := n) hk)
        have e2 : (e.kind == 2) = false := by simp; omega
        have e10 : (e.kind == 10) = false := by simp; omega
        have e8 : (e.kind == 8) = false := by simp; omega
        have e9 : (e.kind == 9) = false := by simp; omega
        have e6 : (e.kind == 6) = false := by simp; omega
        have e7 : (e.kind == 7) = true := by simp; omega
        have H0 := hid h0
        clear hk hv h0
        go_enter Try.func71, Try.ntmps71
        go_wp2
        go_ret
        exact ⟨ret_int (by rw [R.out]), Fr.refl _⟩
    · have hlt : 0 < e.kids.length := by omega
      cases n with
      | zero => exfalso; rw [HX.out.ex0] at hlt; simp at hlt
      | succ n =>
        have R := hid (pm_not (rows := rows) (ds := ds) (ns := ns) (n := n) hk hlt)
        have e2 : (e.kind == 2) = false := by simp; omega
        have e10 : (e.kind == 10) = true := by simp; omega
        obtain ⟨kb, ko, hA, rK⟩ := HX.out.at_ hlt
        subst hA
        simp only [Nat.zero_mul, Nat.add_zero] at rK 
        obtain ⟨d, rfl, hvk⟩ := vE_down HV.out hlt
        have HS0 := hid (HS.out.2 0 hlt)
        have H0 := hid h0
        generalize e.kids[0] = x0 at rK hvk HS0 R
        have RK := hid rK
        have HVK := hid hvk
        clear hk hv rK hvk 
        obtain ⟨p0, ep0⟩ : ∃ p, pm rows ds ns n x0 = p := ⟨_, rfl⟩
        have rp0 := pm_range HST.out n x0
        rw [ep0] at rp0
        have C0 : ∀ W : World, Fr w W → Calls Try.prog 71 #[.pointer (some ⟨kb, ko, none⟩), .pointer (some ⟨sb, 0, none⟩)] W fun r w' => r = .returned (.int .i64 p0) ∧ Fr W w' := fun W hW => by
          rw [← ep0]
          exact IH.out n (by omega) x0 kb (ko) rows ds ns sb d W (rdEx_mono (n + 1) _ W.cell? _ (fun j => W.cell? ⟨kb, ko + j, none⟩) _ hW.mle (fun j v hv => hW.cell hv) RK.out) HS0.out HST.out (HSA.out.fr hW) hdl HVK.out
        replace C0 := hid C0
        have EP0 := hid ep0
        clear ep0
        have ew : IntKind.i64.wrap (1000 - p0) = 1000 - p0 := IntWalk.i64_in _ (by omega)
        clear h0
        go_enter Try.func71, Try.ntmps71
        go_wp2_with fail
        refine (C0.out _ (Fr.refl _)).mono ?_
        rintro r w1 ⟨rfl, b1⟩
        go_wp2
        go_ret
        exact ⟨ret_int (by rw [R.out, EP0.out]; rfl), b1⟩
    · have hlt : 0 < e.kids.length := by omega
      have hlt1 : 1 < e.kids.length := by omega
      cases n with
      | zero => exfalso; rw [HX.out.ex0] at hlt; simp at hlt
      | succ n =>
        have R := hid (pm_and (rows := rows) (ds := ds) (ns := ns) (n := n) hk hlt hlt1)
        have e2 : (e.kind == 2) = false := by simp; omega
        have e10 : (e.kind == 10) = false := by simp; omega
        have e8 : (e.kind == 8) = true := by simp; omega
        obtain ⟨kb, ko, hA, rK⟩ := HX.out.at_ hlt
        obtain ⟨kb', ko', hA', rK1⟩ := HX.out.at_ hlt1
        subst hA
        cases hA'
        simp only [Nat.zero_mul, Nat.add_zero, Nat.one_mul] at rK rK1
        obtain ⟨d, rfl, hvk⟩ := vE_down HV.out hlt
        obtain ⟨d', hd', hvk1⟩ := vE_down HV.out hlt1
        obtain rfl : d = d' := by omega
        clear hd'
        have HS0 := hid (HS.out.2 0 hlt)
        have HS1 := hid (HS.out.2 1 hlt1)
        have H0 := hid h0
        generalize e.kids[0] = x0 at rK hvk HS0 R
        generalize e.kids[1] = x1 at rK1 hvk1 HS1 R
        have RK := hid rK
        have HVK := hid hvk
        have RK1 := hid rK1
        have HVK1 := hid hvk1
        clear hk hv rK hvk rK1 hvk1
        obtain ⟨p0, ep0⟩ : ∃ p, pm rows ds ns n x0 = p := ⟨_, rfl⟩
        have rp0 := pm_range HST.out n x0
        rw [ep0] at rp0
        have C0 : ∀ W : World, Fr w W → Calls Try.prog 71 #[.pointer (some ⟨kb, ko, none⟩), .pointer (some ⟨sb, 0, none⟩)] W fun r w' => r = .returned (.int .i64 p0) ∧ Fr W w' := fun W hW => by
          rw [← ep0]
          exact IH.out n (by omega) x0 kb (ko) rows ds ns sb d W (rdEx_mono (n + 1) _ W.cell? _ (fun j => W.cell? ⟨kb, ko + j, none⟩) _ hW.mle (fun j v hv => hW.cell hv) RK.out) HS0.out HST.out (HSA.out.fr hW) hdl HVK.out
        replace C0 := hid C0
        have EP0 := hid ep0
        clear ep0
        obtain ⟨p1, ep1⟩ : ∃ p, pm rows ds ns n x1 = p := ⟨_, rfl⟩
        have rp1 := pm_range HST.out n x1
        rw [ep1] at rp1
        have C1 : ∀ W : World, Fr w W → Calls Try.prog 71 #[.pointer (some ⟨kb, ko + 5, none⟩), .pointer (some ⟨sb, 0, none⟩)] W fun r w' => r = .returned (.int .i64 p1) ∧ Fr W w' := fun W hW => by
          rw [← ep1]
          exact IH.out n (by omega) x1 kb (ko + 5) rows ds ns sb d W (rdEx_mono (n + 1) _ W.cell? _ (fun j => W.cell? ⟨kb, ko + 5 + j, none⟩) _ hW.mle (fun j v hv => hW.cell hv) RK1.out) HS1.out HST.out (HSA.out.fr hW) hdl HVK1.out
        replace C1 := hid C1
        have EP1 := hid ep1
        clear ep1
        obtain ⟨m1, m2, m3, m4⟩ := mul_range' rp0.1 rp0.2 rp1.1 rp1.2
        have hz := and_range rp0.1 rp0.2 rp1.1 rp1.2
        obtain ⟨y, ey⟩ : ∃ y, p0 * p1 = y := ⟨_, rfl⟩
        rw [ey] at m1 m2 m3 m4 hz
        have sy : IntKind.i64.wrap y = y := IntWalk.i64_in _ (by omega)
        obtain ⟨z, ez⟩ : ∃ z, y.tdiv 1000 = z := ⟨_, rfl⟩
        rw [ez] at hz
        have sz : IntKind.i64.wrap z = z := IntWalk.i64_in _ (by omega)
        have RR := hid (show pm rows ds ns (n + 1) e = z by rw [R.out, EP0.out, EP1.out, ey, ez])
        clear h0
        go_enter Try.func71, Try.ntmps71
        go_wp2_with fail
        refine (C0.out _ (Fr.refl _)).mono ?_
        rintro r w1 ⟨rfl, b1⟩
        replace a0 := b1.cell a0
        replace a4 := b1.cell a4
        go_wp2_with fail
        refine (C1.out _ b1).mono ?_
        rintro r w2 ⟨rfl, b2⟩
        replace a0 := b2.cell a0
        replace a4 := b2.cell a4
        go_wp2
        go_ret
        exact ⟨ret_int (by rw [RR.out]), b1.trans b2⟩
    · have hlt : 0 < e.kids.length := by omega
      have hlt1 : 1 < e.kids.length := by omega
      cases n with
      | zero => exfalso; rw [HX.out.ex0] at hlt; simp at hlt
      | succ n =>
        have R := hid (pm_or (rows := rows) (ds := ds) (ns := ns) (n := n) hk hlt hlt1)
        have e2 : (e.kind == 2) = false := by simp; omega
        have e10 : (e.kind == 10) = false := by simp; omega
        have e8 : (e.kind == 8) = false := by simp; omega
        have e9 : (e.kind == 9) = true := by simp; omega
        obtain ⟨kb, ko, hA, rK⟩ := HX.out.at_ hlt
        obtain ⟨kb', ko', hA', rK1⟩ := HX.out.at_ hlt1
        subst hA
        cases hA'
        simp only [Nat.zero_mul, Nat.add_zero, Nat.one_mul] at rK rK1
        obtain ⟨d, rfl, hvk⟩ := vE_down HV.out hlt
        obtain ⟨d', hd', hvk1⟩ := vE_down HV.out hlt1
        obtain rfl : d = d' := by omega
        clear hd'
        have HS0 := hid (HS.out.2 0 hlt)
        have HS1 := hid (HS.out.2 1 hlt1)
        have H0 := hid h0
        generalize e.kids[0] = x0 at rK hvk HS0 R
        generalize e.kids[1] = x1 at rK1 hvk1 HS1 R
        have RK := hid rK
        have HVK := hid hvk
        have RK1 := hid rK1
        have HVK1 := hid hvk1
        clear hk hv rK hvk rK1 hvk1
        obtain ⟨p0, ep0⟩ : ∃ p, pm rows ds ns n x0 = p := ⟨_, rfl⟩
        have rp0 := pm_range HST.out n x0
        rw [ep0] at rp0
        have C0 : ∀ W : World, Fr w W → Calls Try.prog 71 #[.pointer (some ⟨kb, ko, none⟩), .pointer (some ⟨sb, 0, none⟩)] W fun r w' => r = .returned (.int .i64 p0) ∧ Fr W w' := fun W hW => by
          rw [← ep0]
          exact IH.out n (by omega) x0 kb (ko) rows ds ns sb d W (rdEx_mono (n + 1) _ W.cell? _ (fun j => W.cell? ⟨kb, ko + j, none⟩) _ hW.mle (fun j v hv => hW.cell hv) RK.out) HS0.out HST.out (HSA.out.fr hW) hdl HVK.out
        replace C0 := hid C0
        have EP0 := hid ep0
        clear ep0
        obtain ⟨p1, ep1⟩ : ∃ p, pm rows ds ns n x1 = p := ⟨_, rfl⟩
        have rp1 := pm_range HST.out n x1
        rw [ep1] at rp1
        have C1 : ∀ W : World, Fr w W → Calls Try.prog 71 #[.pointer (some ⟨kb, ko + 5, none⟩), .pointer (some ⟨sb, 0, none⟩)] W fun r w' => r = .returned (.int .i64 p1) ∧ Fr W w' := fun W hW => by
          rw [← ep1]
          exact IH.out n (by omega) x1 kb (ko + 5) rows ds ns sb d W (rdEx_mono (n + 1) _ W.cell? _ (fun j => W.cell? ⟨kb, ko + 5 + j, none⟩) _ hW.mle (fun j v hv => hW.cell hv) RK1.out) HS1.out HST.out (HSA.out.fr hW) hdl HVK1.out
        replace C1 := hid C1
        have EP1 := hid ep1
        clear ep1
        obtain ⟨m1, m2, m3, m4⟩ := mul_range' rp0.1 rp0.2 rp1.1 rp1.2
        have hz := and_range rp0.1 rp0.2 rp1.1 rp1.2
        obtain ⟨y, ey⟩ : ∃ y, p0 * p1 = y := ⟨_, rfl⟩
        rw [ey] at m1 m2 m3 m4 hz
        have sy : IntKind.i64.wrap y = y := IntWalk.i64_in _ (by omega)
        obtain ⟨z, ez⟩ : ∃ z, y.tdiv 1000 = z := ⟨_, rfl⟩
        rw [ez] at hz
        have sz : IntKind.i64.wrap z = z := IntWalk.i64_in _ (by omega)
        have sa : IntKind.i64.wrap (p0 + p1) = p0 + p1 := IntWalk.i64_in _ (by omega)
        have sb' : IntKind.i64.wrap (p0 + p1 - z) = p0 + p1 - z := IntWalk.i64_in _ (by omega)
        have RR := hid (show pm rows ds ns (n + 1) e = p0 + p1 - z by rw [R.out, EP0.out, EP1.out, ey, ez])
        clear h0
        go_enter Try.func71, Try.ntmps71
        go_wp2_with fail
        refine (C0.out _ (Fr.refl _)).mono ?_
        rintro r w1 ⟨rfl, b1⟩
        replace a0 := b1.cell a0
        replace a4 := b1.cell a4
        go_wp2_with fail
        refine (C1.out _ b1).mono ?_
        rintro r w2 ⟨rfl, b2⟩
        replace a0 := b2.cell a0
        replace a4 := b2.cell a4
        go_wp2
        go_ret
        exact ⟨ret_int (by rw [RR.out]), b1.trans b2⟩
    · have hlt : 0 < e.kids.length := by omega
      have hlt1 : 1 < e.kids.length := by omega
      cases n with
      | zero => exfalso; rw [HX.out.ex0] at hlt; simp at hlt
      | succ n =>
        have R := hid (pm_eq (rows := rows) (ds := ds) (ns := ns) (n := n) hk hlt hlt1)
        have e2 : (e.kind == 2) = false := by simp; omega
        have e10 : (e.kind == 10) = false := by simp; omega
        have e8 : (e.kind == 8) = false := by simp; omega
        have e9 : (e.kind == 9) = false := by simp; omega
        have e6 : (e.kind == 6) = true := by simp; omega
        obtain ⟨kb, ko, hA, rK⟩ := HX.out.at_ hlt
        obtain ⟨kb', ko', hA', rK1⟩ := HX.out.at_ hlt1
        subst hA
        cases hA'
        simp only [Nat.zero_mul, Nat.add_zero, Nat.one_mul] at rK rK1
        obtain ⟨d, rfl, hvk⟩ := vE_down HV.out hlt
        obtain ⟨d', hd', hvk1⟩ := vE_down HV.out hlt1
        obtain rfl : d = d' := by omega
        clear hd'
        have HS0 := hid (HS.out.2 0 hlt)
        have HS1 := hid (HS.out.2 1 hlt1)
        have H0 := hid h0
        generalize e.kids[0] = x0 at rK hvk HS0 R
        generalize e.kids[1] = x1 at rK1 hvk1 HS1 R
        have RK := hid rK
        have HVK := hid hvk
        have RK1 := hid rK1
        have HVK1 := hid hvk1
        clear hk hv rK hvk rK1 hvk1
        obtain ⟨d0, d1, _, _, _⟩ := RK.out
        obtain ⟨g0, g1, g2, _, _⟩ := RK1.out
        simp only [Nat.add_zero] at d0 g0
        have a4' := a4
        rw [h0] at a4'
        have CE := hid (equalPm n x0 x1 b o kb ko c rows ds ns sb d w a4' d0 d1 g0 g2 HST.out HSA.out HVK.out)
        clear h0 a4' d0 d1 g0 g1 g2
        go_enter Try.func71, Try.ntmps71
        go_wp2_with fail
        refine CE.out.mono ?_
        rintro r w1 ⟨rfl, b1⟩
        rw [← R.out]
        go_wp2
        go_ret
        exact ⟨rfl, b1⟩
    · have hlt : 0 < e.kids.length := by omega
      cases n with
      | zero => exfalso; rw [HX.out.ex0] at hlt; simp at hlt
      | succ n =>
        have R := hid (pm_nul (rows := rows) (ds := ds) (ns := ns) (n := n) hk hlt)
        have e2 : (e.kind == 2) = false := by simp; omega
        have e10 : (e.kind == 10) = false := by simp; omega
        have e8 : (e.kind == 8) = false := by simp; omega
        have e9 : (e.kind == 9) = false := by simp; omega
        have e6 : (e.kind == 6) = false := by simp; omega
        have e7 : (e.kind == 7) = false := by simp; omega
        have e11 : (e.kind == 11) = true := by simp; omega
        obtain ⟨kb, ko, hA, rK⟩ := HX.out.at_ hlt
        subst hA
        simp only [Nat.zero_mul, Nat.add_zero] at rK 
        obtain ⟨d, rfl, hvk⟩ := vE_down HV.out hlt
        have HS0 := hid (HS.out.2 0 hlt)
        have H0 := hid h0
        generalize e.kids[0] = x0 at rK hvk HS0 R
        have RK := hid rK
        have HVK := hid hvk
        clear hk hv rK hvk 
        obtain ⟨d0, d1, _, _, _⟩ := RK.out
        simp only [Nat.add_zero] at d0
        obtain ⟨D, cd, M, cm, s0, s1, s2, hD, hM⟩ := HSA.out
        obtain ⟨b1, f1⟩ : ∃ q, (x0.kind != 1) = q := ⟨_, rfl⟩
        obtain ⟨b2, f2⟩ : ∃ q, (rows == 0) = q := ⟨_, rfl⟩
        have R2 := hid (show pm rows ds ns (n + 1) e = if (!b1 && !b2) then nulP rows ns x0.col.toNat else 0 by
          have r0 := HST.out.r0
          rw [R.out, ← f1, ← f2]
          by_cases q1 : x0.kind = 1 <;> by_cases q2 : rows = 0 <;> simp [q1, q2]
          intro h; omega)
        clear h0
        by_cases hcol : (!b1 && !b2) = true
        · have hb : b1 = false ∧ b2 = false := by
            revert hcol
            cases b1 <;> cases b2 <;> simp
          obtain ⟨rfl, rfl⟩ := hb
          have hk1 : x0.kind = 1 := by simpa using f1
          have hr0 : 0 < rows := by have := HST.out.r0; have : rows ≠ 0 := by simpa using f2
                                    omega
          obtain ⟨c1, c2⟩ := col_ok HVK.out hk1
          obtain ⟨ci, hci⟩ : ∃ ci : Nat, x0.col = ci := ⟨x0.col.toNat, by omega⟩
          have hcn : ci < ns.length := by have := HST.out.len; omega
          have R3 := hid (show pm rows ds ns (n + 1) e = (1000 * ns.getD ci 0).tdiv rows by rw [R2.out, if_pos hcol, hci]; rfl)
          obtain ⟨mb, mo, hM', q'⟩ := hM.int hcn
          subst hM'
          have n0 := HST.out.n0 ci
          have nr := HST.out.nr ci
          have r4 := HST.out.r4
          generalize ns.getD ci 0 = m at q' n0 nr R3
          have s1' : IntKind.i64.wrap (1000 * m) = 1000 * m := IntWalk.i64_in _ (by omega)
          have s4' : ¬ rows = 0 := by omega
          have ht := tdiv_range (a := 1000 * m) (b := rows) (k := 1000) (by omega) hr0 (by omega)
          obtain ⟨z, ez⟩ : ∃ z, (1000 * m).tdiv rows = z := ⟨_, rfl⟩
          rw [ez] at ht
          have sz : IntKind.i64.wrap z = z := IntWalk.i64_in _ (by omega)
          have R4 := hid (R3.out.trans ez)
          rw [hci] at d1
          clear hk1 c1 c2 hci hcol hr0 hD hM
          go_enter Try.func71, Try.ntmps71
          go_wp2_with fail
          (refine wp_region_quietC (fun w' => Fr _ w') (by kernel_rfl) (by kernel_rfl) (Fr.refl _).drew ?_; (repeat go_big_quiet_step (first | exact fun _ => rfl | exact fun _ => ⟨rfl, rfl⟩ | (intro hw'; replace a0 := hw'.cell a0; replace a4 := hw'.cell a4; replace d0 := hw'.cell d0; replace d1 := hw'.cell d1; replace s0 := hw'.cell s0; replace s1 := hw'.cell s1; replace s2 := hw'.cell s2; replace q' := hw'.cell q'; go_simp; first | done | exact rfl | exact ⟨rfl, rfl⟩) )); refine wpQuiet_nil ?_; intro wq hq)
          go_wp2
          go_ret
          exact ⟨ret_int (by rw [R4.out]), hq⟩
        · have R3 := hid (show pm rows ds ns (n + 1) e = 0 by rw [R2.out, if_neg hcol])
          clear hD hM
          cases b1 <;> cases b2
          all_goals first | (exfalso; revert hcol; decide) | skip
          all_goals clear hcol
          all_goals go_enter Try.func71, Try.ntmps71
          all_goals go_wp2
          all_goals go_ret
          all_goals exact ⟨ret_int (by rw [R3.out]), Fr.refl _⟩
end Go.Proofs.Ytkkmfmeocigijaa
