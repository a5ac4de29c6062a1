/- The walk of CheckHomomorphism, on the spec's side. -/
import Derived.Test.YtahclhldpcboeaaHomS
namespace Go.Proofs.Ytahclhldpcboeaa
open Go Go.RowKit

theorem hasV_iff {q v : Int} : hasV q v = true ↔ 0 ≤ v ∧ v < q := by simp [hasV]
set_option maxRecDepth 100000 in
set_option maxHeartbeats 4000000 in
theorem specCheckHom (q1 q2 : Int) (A0 A1 B0 B1 M : Option Addr) (c0 c1 d0 d1 cm : Nat) (hd1 hd2 m : List Int) (bd1 bd2 : List Atom) (w : World) (hx0 : RdSl rdInt w.cell? 1 A0 hd1) (hx1 : RdSl rdAtom w.cell? 3 A1 bd1) (hy0 : RdSl rdInt w.cell? 1 B0 hd2) (hy1 : RdSl rdAtom w.cell? 3 B1 bd2) (hm : RdSl rdInt w.cell? 1 M m)
    (l0 : hd1.length ≤ 1048576) (l1 : bd1.length ≤ 1048576) (l2 : hd2.length ≤ 1048576) (l3 : bd2.length ≤ 1048576) (l4 : m.length ≤ 1048576) :
    Calls Try.prog 11 #[.agg #[.int .i64 q1, .slice A0 hd1.length c0, .slice A1 bd1.length c1], .agg #[.int .i64 q2, .slice B0 hd2.length d0, .slice B1 bd2.length d1], .slice M m.length cm] w fun r w' => r = .returned (.bool (chkHom q1 hd1 bd1 q2 hd2 bd2 m)) ∧ Fr w w' := by
  have HX0 := hid hx0
  have HX1 := hid hx1
  have HY0 := hid hy0
  have HY1 := hid hy1
  have HM := hid hm
  clear hx0 hx1 hy0 hy1 hm
  have BA := (Blk.new w 30 #[.int .i64 q1, .slice A0 hd1.length c0, .slice A1 bd1.length c1]).alloc (.cells #[.int .i64 q2, .slice B0 hd2.length d0, .slice B1 bd2.length d1] 30)
  have BB := Blk.new (w.alloc (.cells #[.int .i64 q1, .slice A0 hd1.length c0, .slice A1 bd1.length c1] 30)) 30 #[.int .i64 q2, .slice B0 hd2.length d0, .slice B1 bd2.length d1]
  rw [World.size_alloc] at BB
  have F1 : Fr w ((w.alloc (.cells #[.int .i64 q1, .slice A0 hd1.length c0, .slice A1 bd1.length c1] 30)).alloc (.cells #[.int .i64 q2, .slice B0 hd2.length d0, .slice B1 bd2.length d1] 30)) := ((Fr.refl _).alloc _).alloc _
  have C1 := hid (fun (W : World) (hW : Fr w W) => specVRule q1 A0 c0 hd1 A1 c1 bd1 W (HX0.out.fr rdInt_mono hW) (HX1.out.fr rdAtom_mono hW) l0 l1)
  have C2 := hid (fun (W : World) (hW : Fr w W) => specVRule q2 B0 d0 hd2 B1 d1 bd2 W (HY0.out.fr rdInt_mono hW) (HY1.out.fr rdAtom_mono hW) l2 l3)
  obtain ⟨v1, E1⟩ : ∃ v, vrule q1 hd1 bd1 = v := ⟨_, rfl⟩
  obtain ⟨v2, E2⟩ : ∃ v, vrule q2 hd2 bd2 = v := ⟨_, rfl⟩
  rw [E1] at C1
  rw [E2] at C2
  have CK := hid (show chkHom q1 hd1 bd1 q2 hd2 bd2 m = ((v1 && v2 && decide ((m.length : Int) = q1)) && (m.all (hasV q2) && isHom hd1 bd1 hd2 bd2 m)) by unfold chkHom; rw [E1, E2])
  have HE1 := hid E1
  have HE2 := hid E2
  clear E1 E2
  obtain ⟨a0, a1, a2, _⟩ := BA.three
  obtain ⟨b0, b1, b2, _⟩ := BB.three
  cases v1
  · go_enter Try.func11, Try.ntmps11
    go_wp2_with fail
    refine (C1.out _ F1).mono ?_
    rintro r w2 ⟨rfl, b2⟩
    go_wp2
    go_ret
    exact ⟨ret_bool (by rw [CK.out]; rfl), F1.trans b2⟩
  cases v2
  · go_enter Try.func11, Try.ntmps11
    go_wp2_with fail
    refine (C1.out _ F1).mono ?_
    rintro r w2 ⟨rfl, g2⟩
    obtain ⟨b0, b1, b2, _⟩ := (BB.fr g2).three
    go_wp2_with fail
    refine (C2.out _ (F1.trans g2)).mono ?_
    rintro r w3 ⟨rfl, g3⟩
    go_wp2
    go_ret
    exact ⟨ret_bool (by rw [CK.out]; rfl), (F1.trans g2).trans g3⟩
  have P1 := vrule_parts HE1.out
  have P2 := vrule_parts HE2.out
  by_cases hql : (m.length : Int) = q1
  rotate_left
  · have e1 : ((m.length : Int) != q1) = true := by simp [hql]
    go_enter Try.func11, Try.ntmps11
    go_wp2_with fail
    refine (C1.out _ F1).mono ?_
    rintro r w2 ⟨rfl, g2⟩
    obtain ⟨b0, b1, b2, _⟩ := (BB.fr g2).three
    go_wp2_with fail
    refine (C2.out _ (F1.trans g2)).mono ?_
    rintro r w3 ⟨rfl, g3⟩
    obtain ⟨a0, a1, a2, _⟩ := (BA.fr (g2.trans g3)).three
    go_wp2
    go_ret
    exact ⟨ret_bool (by rw [CK.out]; simp [hql]), (F1.trans g2).trans g3⟩
  have e1 : ((m.length : Int) != q1) = false := by simp [hql]
  have HQL := hid hql
  obtain ⟨p1, p2, p3, p4, p5, p6, p7⟩ := P1
  obtain ⟨r1, r2, r3, r4, r5, r6, r7⟩ := P2
  have HP6 := hid p6
  have HP7 := hid p7
  have HR7 := hid r7
  clear hql p6 p7 r6 r7
  go_enter Try.func11, Try.ntmps11
  go_wp2_with fail
  refine (C1.out _ F1).mono ?_
  rintro r w2 ⟨rfl, g2⟩
  obtain ⟨b0, b1, b2, _⟩ := (BB.fr g2).three
  go_wp2_with fail
  refine (C2.out _ (F1.trans g2)).mono ?_
  rintro r w3 ⟨rfl, g3⟩
  obtain ⟨a0, a1, a2, _⟩ := (BA.fr (g2.trans g3)).three
  have F3 := (F1.trans g2).trans g3
  replace BA := BA.fr (g2.trans g3)
  replace BB := BB.fr (g2.trans g3)
  go_wp2
  clear a0 a1 a2 b0 b1 b2
  go_loopw [7] (fun t wr => ∃ (k : Nat), k ≤ m.length ∧ t = .int .i64 k ∧ Fr w3 wr ∧ ∀ i (h1 : i < m.length), i < k → hasV q2 m[i] = true) (fun t _ => m.length - (intOf t).toNat)
  case atStart => exact ⟨0, by omega, rfl, Fr.refl _, fun i _ h => absurd h (by omega)⟩
  case round =>
    obtain ⟨k, hk, rfl, hf, hv⟩ := hrel
    have HV := hid hv
    clear hv
    obtain ⟨a0, a1, a2, _⟩ := (BA.fr hf).three
    obtain ⟨b0, b1, b2, _⟩ := (BB.fr hf).three
    by_cases hlt : k < m.length
    · obtain ⟨mb, mo, hA, m0⟩ := HM.out.at_ hlt
      subst hA
      replace m0 := (F3.trans hf).cell m0
      simp only [Nat.mul_one, Nat.add_zero] at m0
      by_cases h : 0 ≤ m[k] ∧ m[k] < q2
      · obtain ⟨h1, h2⟩ := h
        have HO := hid (show hasV q2 m[k] = true from hasV_iff.2 ⟨h1, h2⟩)
        go_wp2_with fail
        (refine wp_region_quietC (fun w' => Fr _ w') (by kernel_rfl) (by kernel_rfl) (Fr.refl _).drew ?_; (repeat go_big_quiet_step (first | exact fun _ => rfl | exact fun _ => ⟨rfl, rfl⟩ | (intro hw'; replace b0 := hw'.cell b0; replace m0 := hw'.cell m0; go_simp; first | done | exact rfl | exact ⟨rfl, rfl⟩) | (intro hw'; go_at_call 39; refine (inRange_yes _ _ _ _ ?_ ?_).mono ?_; (· omega); (· omega); rintro e w1 ⟨rfl, rfl⟩; exact ⟨rfl, hw'⟩))); refine wpQuiet_nil ?_; intro wq hq)
        go_wp2
        go_roundw
        case rel => exact ⟨k + 1, by omega, by go_num, hf.trans hq, fun i h hi => by
          by_cases q : i = k
          · subst q; exact HO.out
          · exact HV.out i h (by omega)⟩
        case measure => simp [intOf]; omega
      · have NO := hid (show m.all (hasV q2) = false from all_no hlt (by rw [← Bool.not_eq_true, hasV_iff]; exact h))
        have h' : m[k] < 0 ∨ q2 - 1 < m[k] := by omega
        clear h
        go_wp2_with fail
        (refine wp_region_quietC (fun w' => Fr _ w') (by kernel_rfl) (by kernel_rfl) (Fr.refl _).drew ?_; (repeat go_big_quiet_step (first | exact fun _ => rfl | exact fun _ => ⟨rfl, rfl⟩ | (intro hw'; replace b0 := hw'.cell b0; replace m0 := hw'.cell m0; go_simp; first | done | exact rfl | exact ⟨rfl, rfl⟩) | (intro hw'; go_at_call 39; refine (inRange_no _ _ _ _ ?_).mono ?_; (· omega); rintro e w1 ⟨rfl, rfl⟩; exact ⟨rfl, hw'⟩))); refine wpQuiet_nil ?_; intro wq hq)
        go_wp2
        go_ret
        exact ⟨ret_bool (by rw [CK.out, NO.out]; simp), (F3.trans hf).trans hq⟩
    · have AE := hid (all_yes (p := hasV q2) fun i hi => HV.out i hi (by omega))
      have FF := F3.trans hf
      go_wp2_with (first | (go_at_call 40; refine (specIsHom q1 q2 A0 A1 B0 B1 M c0 c1 d0 d1 cm hd1 hd2 m bd1 bd2 _ (HX0.out.fr rdInt_mono FF) (HX1.out.fr rdAtom_mono FF) (HY0.out.fr rdInt_mono FF) (HY1.out.fr rdAtom_mono FF) (HM.out.fr rdInt_mono FF) p3 p5 r3 r5 ?h1 ?h2 ?h3 ?h4).mono ?_; (case h1 => (intro a ha; have := HP6.out a ha; have := HQL.out; omega)); (case h2 => (intro v hv; have := HP7.out v hv; have := HQL.out; omega)); (case h3 => (intro v hv; have h := (List.all_eq_true.1 AE.out) v hv; rw [hasV_iff] at h; omega)); (case h4 => (intro v hv; have := HR7.out v hv; omega)); rintro r w9 ⟨rfl, g9⟩) | fail)
      go_ret
      exact ⟨ret_bool (by rw [CK.out, AE.out]; simp [HQL.out]), FF.trans g9⟩
end Go.Proofs.Ytahclhldpcboeaa
