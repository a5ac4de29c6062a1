/- The evaluation of expressions, on the program's side. -/
import Derived.Test.YtfillcjpdnpaiaaEvalI
namespace Go.Proofs.Ytfillcjpdnpaiaa
open Go Go.RowKit

def ImplEv (n : Nat) : Prop := ∀ (e : Ex) (b o : Nat) (row : List V) (B : Option Addr) (rc : Nat) (deep : Nat) (w : World), rdEx (n + 1) w.cell? (fun j => w.cell? ⟨b, o + j, none⟩) e → exSm n e.kids → RdSl rdV w.cell? 2 B row → row.all V.valid = true → row.length ≤ 1048576 → vE row.length n deep e = true →
    Calls Try.prog 57 #[.pointer (some ⟨b, o, none⟩), .slice B row.length rc] w fun r w' => r = .returned (.agg #[.bool (ev row n e).null, .int .i64 (ev row n e).n]) ∧ Fr w w'
set_option maxRecDepth 100000 in
set_option maxHeartbeats 2000000 in
theorem implEv (n : Nat) : ImplEv n := by
  induction n using Nat.strongRecOn with
  | _ n ih =>
    intro e b o row B rc deep w hr hs hrow hrv hrl hv
    have HR := hid hrow
    have HV := hid hv
    have HRV := hid hrv
    have IH := hid ih
    have HS := hid hs
    have hl := exSm_len hs
    obtain ⟨d0, d1, d2, d3, A, c, d4, hx, _, _⟩ := hr
    simp only [Nat.add_zero] at d0 d4
    have HX := hid hx
    have F1 : Fr w (w.alloc (.cells #[.bool false, .int .i64 0] 30)) := by (repeat (first | with_reducible exact Fr.refl _ | with_reducible assumption | with_reducible refine Fr.alloc ?_ _ | with_reducible refine Fr.drew ?_ | with_reducible refine Fr.drewN ?_ _ | (with_reducible refine Fr.setNew2 ?_ ?_ _; · (simp <;> omega)) | with_reducible refine Fr.trans ?_ (by assumption)))
    have D := hid (And.intro d0 (And.intro d1 (And.intro d2 (And.intro d3 d4))))
    replace d0 := F1.cell d0
    replace d1 := F1.cell d1
    replace d2 := F1.cell d2
    replace d3 := F1.cell d3
    replace d4 := F1.cell d4
    clear hx hrow ih hs hrv
    rcases kind_cases hv with ⟨hk, h0⟩ | ⟨hk, h0⟩ | hk
    · have R := hid (ev_col (row := row) (n := n) hk)
      obtain ⟨c1, c2⟩ := col_ok hv hk
      obtain ⟨ci, hc⟩ : ∃ ci : Nat, e.col = ci := ⟨e.col.toNat, by omega⟩
      have hci : ci < row.length := by omega
      have e1 : (e.kind == 1) = true := by simp [hk]
      obtain ⟨b', o', hA, g0, g1⟩ := HR.out.v hci
      replace g0 := F1.cell g0
      replace g1 := F1.cell g1
      have R' := hid (show ev row n e = ⟨row[ci].null, row[ci].n⟩ by rw [R.out, hc]; simp [List.getD, List.getElem?_eq_getElem hci])
      subst hA
      rw [hc] at d1
      clear R hv h0 c1 c2 hk hc
      go_enter Try.func57, Try.ntmps57
      go_wp2
      exact bodyPost_ret (v := Vv ⟨row[ci].null, row[ci].n⟩) (by simp [results, Try.results57, go_sem]) rfl ⟨by rw [R'.out], by (repeat (first | with_reducible exact Fr.refl _ | with_reducible assumption | with_reducible refine Fr.alloc ?_ _ | with_reducible refine Fr.drew ?_ | with_reducible refine Fr.drewN ?_ _ | (with_reducible refine Fr.setNew2 ?_ ?_ _; · (simp <;> omega)) | with_reducible refine Fr.trans ?_ (by assumption)))⟩
    · have R := hid (ev_con (row := row) (n := n) hk)
      have e1 : (e.kind == 1) = false := by simp [hk]
      have e2 : (e.kind == 2) = true := by simp [hk]
      clear hv h0 hk
      go_enter Try.func57, Try.ntmps57
      go_wp2
      exact bodyPost_ret (v := Vv e.val) (by simp [results, Try.results57, go_sem]) rfl ⟨by rw [R.out], by (repeat (first | with_reducible exact Fr.refl _ | with_reducible assumption | with_reducible refine Fr.alloc ?_ _ | with_reducible refine Fr.drew ?_ | with_reducible refine Fr.drewN ?_ _ | (with_reducible refine Fr.setNew2 ?_ ?_ _; · (simp <;> omega)) | with_reducible refine Fr.trans ?_ (by assumption)))⟩
    · have hlt : 0 < e.kids.length := by omega
      have q1 : e.kind ≠ 1 := by omega
      have q2 : e.kind ≠ 2 := by omega
      cases n with
      | zero => exfalso; rw [HX.out.ex0] at hlt; simp at hlt
      | succ n =>
        have e1 : (e.kind == 1) = false := by simp [q1]
        have e2 : (e.kind == 2) = false := by simp [q2]
        obtain ⟨kb, ko, hA, rK⟩ := HX.out.at_ hlt
        subst hA
        simp only [Nat.zero_mul, Nat.add_zero] at rK
        obtain ⟨d, rfl, hvk⟩ := vE_down HV.out hlt
        have HVK := hid hvk
        have RK := hid rK
        have HS0 := hid (HS.out.2 0 hlt)
        obtain ⟨v, hev⟩ : ∃ v, ev row n e.kids[0] = v := ⟨_, rfl⟩
        have HVV := hid (show v.valid = true from hev ▸ ev_valid HRV.out rfl n _ _ hvk)
        have C0 : ∀ W : World, Fr w W → Calls Try.prog 57 #[.pointer (some ⟨kb, ko, none⟩), .slice B row.length rc] W fun r w' => r = .returned (.agg #[.bool v.null, .int .i64 v.n]) ∧ Fr W w' := fun W hW => by
          rw [← hev]
          exact IH.out n (by omega) _ _ _ _ _ _ _ _ (rdEx_mono (n + 1) _ W.cell? _ (fun j => W.cell? ⟨kb, ko + j, none⟩) _ hW.mle (fun j v hv => hW.cell hv) RK.out) HS0.out (HR.out.fr rdV_mono hW) HRV.out hrl HVK.out
        have HEV := hid hev
        clear hev rK hvk hv
        have HC0 := hid C0
        clear C0
        go_enter Try.func57, Try.ntmps57
        go_wp2_with fail
        refine absW fun W hW => ?_
        have BR : Blk W w.heap.size 30 #[.bool false, .int .i64 0] := by rw [hW]; exact Blk.new _ _ _
        have FW : Fr w W := by rw [hW]; exact F1
        clear hW d0 d1 d2 d3 d4 F1
        refine (HC0.out W FW).mono ?_
        rintro r w1 ⟨rfl, b1⟩
        have F2 : Fr w1 (w1.alloc (.cells #[.bool v.null, .int .i64 v.n] 30)) := by (repeat (first | with_reducible exact Fr.refl _ | with_reducible assumption | with_reducible refine Fr.alloc ?_ _ | with_reducible refine Fr.drew ?_ | with_reducible refine Fr.drewN ?_ _ | (with_reducible refine Fr.setNew2 ?_ ?_ _; · (simp <;> omega)) | with_reducible refine Fr.trans ?_ (by assumption)))
        have BA := Blk.new w1 30 #[.bool v.null, .int .i64 v.n]
        obtain ⟨d0, d1, d2, d3, d4⟩ := D.out
        have G1 := (FW.trans b1).trans F2
        have BR1 := BR.fr (b1.trans F2)
        replace d0 := G1.cell d0
        replace d1 := G1.cell d1
        replace d2 := G1.cell d2
        replace d3 := G1.cell d3
        replace d4 := G1.cell d4
        rcases hk with ⟨hk, h0⟩ | ⟨hk, h0⟩ | ⟨hk, h0⟩
        · have e3 : (e.kind == 10) = true := by simp [hk]
          have R := hid (ev_not (row := row) (n := n) hk hlt)
          clear hk h0 q1 q2
          have RR := hid (show ev row (n + 1) e = trV (2 - v.tr) by rw [R.out, HEV.out]; rfl)
          have t1 : 0 ≤ v.tr ∧ v.tr ≤ 2 := by rcases tS_cases v with ⟨_, h⟩ | ⟨_, h⟩ | ⟨_, h⟩ <;> omega
          go_wp2_with (first | (go_at_call 74; refine (implTruth v _).mono ?_; rintro r w2 ⟨rfl, b2⟩) | (go_at_call 75; refine (implTV _ _).mono ?_; rintro r w3 ⟨rfl, b3⟩; obtain ⟨z0, z1, f0, f1⟩ := (BR1.fr (b2.trans b3)).pair; have FF := G1.trans (b2.trans b3)))
          exact bodyPost_ret (v := Vv (trV (2 - v.tr))) (by simp [results, Try.results57, go_sem, z0, z1]) rfl ⟨by rw [RR.out], by (repeat (first | with_reducible exact Fr.refl _ | with_reducible assumption | with_reducible refine Fr.alloc ?_ _ | with_reducible refine Fr.drew ?_ | with_reducible refine Fr.drewN ?_ _ | (with_reducible refine Fr.setNew2 ?_ ?_ _; · (simp <;> omega)) | with_reducible refine Fr.trans ?_ (by assumption)))⟩
        · have e3 : (e.kind == 10) = false := by simp [hk]
          have e4 : (e.kind == 11) = true := by simp [hk]
          have R := hid (ev_nul (row := row) (n := n) hk hlt)
          clear hk h0 q1 q2
          have RR := hid (show ev row (n + 1) e = V.flag v.null by rw [R.out, HEV.out])
          go_wp2_with (first | (go_at_call 76; refine (implFlag _ _).mono ?_; rintro r w3 ⟨rfl, b3⟩; obtain ⟨z0, z1, f0, f1⟩ := (BR1.fr b3).pair; have FF := G1.trans b3))
          exact bodyPost_ret (v := Vv (V.flag v.null)) (by simp [results, Try.results57, go_sem, z0, z1]) rfl ⟨by rw [RR.out], by (repeat (first | with_reducible exact Fr.refl _ | with_reducible assumption | with_reducible refine Fr.alloc ?_ _ | with_reducible refine Fr.drew ?_ | with_reducible refine Fr.drewN ?_ _ | (with_reducible refine Fr.setNew2 ?_ ?_ _; · (simp <;> omega)) | with_reducible refine Fr.trans ?_ (by assumption)))⟩
        · have hlt1 : 1 < e.kids.length := by omega
          have e3 : (e.kind == 10) = false := by simp [hk]
          have e4 : (e.kind == 11) = false := by simp [hk]
          have R := hid (ev_two (row := row) (n := n) hk hlt hlt1)
          have H0 := hid h0
          clear hk h0 q1 q2
          obtain ⟨kb', ko', hA', rK'⟩ := HX.out.at_ hlt1
          cases hA'
          simp only [Nat.one_mul] at rK'
          obtain ⟨d', hd', hvk'⟩ := vE_down HV.out hlt1
          obtain rfl : d = d' := by omega
          clear hd'
          have HVK' := hid hvk'
          have RK' := hid rK'
          have HS1 := hid (HS.out.2 1 hlt1)
          obtain ⟨u, heu⟩ : ∃ u, ev row n e.kids[1] = u := ⟨_, rfl⟩
          have HUV := hid (show u.valid = true from heu ▸ ev_valid HRV.out rfl n _ _ hvk')
          have C1 : ∀ W : World, Fr w W → Calls Try.prog 57 #[.pointer (some ⟨kb, ko + 5, none⟩), .slice B row.length rc] W fun r w' => r = .returned (.agg #[.bool u.null, .int .i64 u.n]) ∧ Fr W w' := fun W hW => by
            rw [← heu]
            exact IH.out n (by omega) _ _ _ _ _ _ _ _ (rdEx_mono (n + 1) _ W.cell? _ (fun j => W.cell? ⟨kb, ko + 5 + j, none⟩) _ hW.mle (fun j v hv => hW.cell hv) RK'.out) HS1.out (HR.out.fr rdV_mono hW) HRV.out hrl HVK'.out
          have HEU := hid heu
          clear heu rK' hvk'
          have HC1 := hid C1
          clear C1
          have RR := hid (show ev row (n + 1) e = comb e.kind v u by rw [R.out, HEV.out, HEU.out])
          go_wp2_with fail
          refine absC fun W2 hW2 => ?_
          rw [← hW2] at BA BR1 G1
          clear hW2 F2 d0 d1 d2 d3 d4
          obtain ⟨a0, a1, _⟩ := BA.pair
          obtain ⟨d0, d1, d2, d3, d4⟩ := D.out
          replace d0 := G1.cell d0
          replace d1 := G1.cell d1
          replace d2 := G1.cell d2
          replace d3 := G1.cell d3
          replace d4 := G1.cell d4
          (refine wp_region_quiet_tail (fun w' => Fr _ w') 13 (by kernel_rfl) (by kernel_rfl) (Fr.refl _).drew ?_; simp only [List.take_succ_cons, List.take_zero, List.drop_succ_cons, List.drop_zero]; (repeat go_big_quiet_step (first | exact fun _ => rfl | exact fun _ => ⟨rfl, rfl⟩ | (intro hw'; replace a0 := hw'.cell a0; replace a1 := hw'.cell a1; replace d0 := hw'.cell d0; replace d1 := hw'.cell d1; replace d2 := hw'.cell d2; replace d3 := hw'.cell d3; replace d4 := hw'.cell d4; go_simp; first | done | exact rfl | exact ⟨rfl, rfl⟩) | (intro hw'; go_at_call 57; with_reducible refine (HC1.out _ (G1.trans hw')).mono ?_; rintro r w1 ⟨rfl, b9⟩; exact ⟨rfl, hw'.trans b9⟩) | (intro hw'; go_at_call 77; refine (implComb _ _ _ _ HVV.out HUV.out).mono ?_; rintro r w1 ⟨rfl, b9⟩; exact ⟨rfl, hw'.trans b9⟩))); refine wpQuiet_nil ?_; intro wq hq)
          obtain ⟨z0, z1, f0, f1⟩ := (BR1.fr hq).pair
          have FF := G1.trans hq
          go_wp2
          exact bodyPost_ret (v := Vv (comb e.kind v u)) (by simp [results, Try.results57, go_sem, z0, z1]) rfl ⟨by rw [RR.out], by (repeat (first | with_reducible exact Fr.refl _ | with_reducible assumption | with_reducible refine Fr.alloc ?_ _ | with_reducible refine Fr.drew ?_ | with_reducible refine Fr.drewN ?_ _ | (with_reducible refine Fr.setNew2 ?_ ?_ _; · (simp <;> omega)) | with_reducible refine Fr.trans ?_ (by assumption)))⟩
end Go.Proofs.Ytfillcjpdnpaiaa
