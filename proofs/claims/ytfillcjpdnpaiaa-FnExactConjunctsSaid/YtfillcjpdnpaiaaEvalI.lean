/- The evaluation of expressions, on the spec's side. -/
import Derived.Test.YtfillcjpdnpaiaaEvalH
import Derived.Test.YtfillcjpdnpaiaaExprS
namespace Go.Proofs.Ytfillcjpdnpaiaa
open Go Go.RowKit

/-- The parts of a valid expression of a kind. -/
theorem ev_col {row : List V} {n : Nat} {e : Ex} (h : e.kind = 1) : ev row n e = row.getD e.col.toNat default := by
  cases n <;> simp [ev, h]
theorem col_ok {wd : Int} {n : Nat} {deep : Int} {e : Ex} (hv : vE wd n deep e = true) (h : e.kind = 1) : 0 ≤ e.col ∧ e.col < wd := by
  have := (vE_head hv).2
  unfold vScal at this
  rw [if_pos h] at this
  simp only [Bool.and_eq_true, decide_eq_true_eq] at this
  exact this.1
theorem ev_con {row : List V} {n : Nat} {e : Ex} (h : e.kind = 2) : ev row n e = e.val := by
  cases n <;> simp [ev, h]
theorem kid_cnt {wd : Int} {n : Nat} {deep : Int} {e : Ex} (hv : vE wd n deep e = true) : (e.kids.length : Int) = nk e.kind := (head_yes (vE_head hv).1).1
theorem ev_succ (row : List V) (n : Nat) (e : Ex) : ev row (n + 1) e = if e.kind = 1 then row.getD e.col.toNat default else if e.kind = 2 then e.val else
    if e.kind = 10 then trV (2 - (ev row n (e.kids.getD 0 default)).tr) else if e.kind = 11 then V.flag (ev row n (e.kids.getD 0 default)).null else
    comb e.kind (ev row n (e.kids.getD 0 default)) (ev row n (e.kids.getD 1 default)) := rfl
theorem ev_not {row : List V} {n : Nat} {e : Ex} (h : e.kind = 10) (h0 : 0 < e.kids.length) : ev row (n + 1) e = trV (2 - (ev row n e.kids[0]).tr) := by
  rw [ev_succ, if_neg (by omega), if_neg (by omega), if_pos h, getD_at h0]; rfl
theorem ev_nul {row : List V} {n : Nat} {e : Ex} (h : e.kind = 11) (h0 : 0 < e.kids.length) : ev row (n + 1) e = V.flag (ev row n e.kids[0]).null := by
  rw [ev_succ, if_neg (by omega), if_neg (by omega), if_neg (by omega), if_pos h, getD_at h0]
theorem ev_two {row : List V} {n : Nat} {e : Ex} (h : e.kind ≠ 1 ∧ e.kind ≠ 2 ∧ e.kind ≠ 10 ∧ e.kind ≠ 11) (h0 : 0 < e.kids.length) (h1 : 1 < e.kids.length) : ev row (n + 1) e = comb e.kind (ev row n e.kids[0]) (ev row n e.kids[1]) := by
  rw [ev_succ, if_neg h.1, if_neg h.2.1, if_neg h.2.2.1, if_neg h.2.2.2, getD_at h0, getD_at h1]
/-- Five kinds of kinds. -/
theorem kind_cases {wd : Int} {n : Nat} {deep : Int} {e : Ex} (hv : vE wd n deep e = true) : (e.kind = 1 ∧ e.kids.length = 0) ∨ (e.kind = 2 ∧ e.kids.length = 0) ∨ (e.kind = 10 ∧ e.kids.length = 1) ∨ (e.kind = 11 ∧ e.kids.length = 1) ∨ ((e.kind ≠ 1 ∧ e.kind ≠ 2 ∧ e.kind ≠ 10 ∧ e.kind ≠ 11) ∧ e.kids.length = 2) := by
  have h := kid_cnt hv
  unfold nk at h
  split at h
  · omega
  · split at h
    · omega
    · split at h <;> omega
theorem notS_tr (v : V) : trS (notS v.tS) = trV (2 - v.tr) := by
  obtain ⟨b, n⟩ := v
  cases b
  · by_cases h : n = 0 <;> simp [V.tS, V.tr, h, notS, trS, trV]
  · simp [V.tS, V.tr, notS, trS, trV]
def SpecEv (n : Nat) : Prop := ∀ (e : Ex) (A : Option Addr) (c : Nat) (row : List V) (B : Option Addr) (rc : Nat) (deep : Nat) (w : World), RdSl (rdEx n) w.cell? 5 A e.kids → exSm n e.kids → RdSl rdV w.cell? 2 B row → row.all V.valid = true → row.length ≤ 1048576 → vE row.length n deep e = true →
    Calls Try.prog 59 #[.agg #[.int .i64 e.kind, .int .i64 e.col, .bool e.val.null, .int .i64 e.val.n, .slice A e.kids.length c], .slice B row.length rc] w fun r w' => r = .returned (Vv (ev row n e)) ∧ Fr w w'
/-- The world behind the head: the expression's block, the result's. -/
theorem evblk {w W : World} {xs : Array Value} {t t' : TypeId} (hW : W = (w.alloc (.cells xs t)).alloc (.cells #[.bool false, .int .i64 0] t')) : Blk W w.heap.size t xs ∧ Blk W (w.heap.size + 1) t' #[.bool false, .int .i64 0] ∧ Fr w W := by
  subst hW
  refine ⟨(Blk.new w t xs).alloc _, ?_, ((Fr.refl w).alloc _).alloc _⟩
  have := Blk.new (w.alloc (.cells xs t)) t' #[.bool false, .int .i64 0]
  rwa [show (w.alloc (.cells xs t)).heap.size = w.heap.size + 1 by simp] at this
set_option maxRecDepth 100000 in
set_option maxHeartbeats 1000000 in
theorem specEv (n : Nat) : SpecEv n := by
  induction n using Nat.strongRecOn with
  | _ n ih =>
    intro e A c row B rc deep w hx hs hr hrv hrl hv
    have HX := hid hx
    have HR := hid hr
    have HV := hid hv
    have HRV := hid hrv
    have IH := hid ih
    have HS := hid hs
    have hl := exSm_len hs
    clear hx hr ih hs hrv
    rcases kind_cases hv with ⟨hk, h0⟩ | ⟨hk, h0⟩ | ⟨hk, h0⟩ | ⟨hk, h0⟩ | ⟨hk, h0⟩
    · have R := hid (ev_col (row := row) (n := n) hk)
      obtain ⟨c1, c2⟩ := col_ok hv hk
      obtain ⟨ci, hc⟩ : ∃ ci : Nat, e.col = ci := ⟨e.col.toNat, by omega⟩
      have hci : ci < row.length := by omega
      have e1 : (e.kind == 1) = true := by simp [hk]
      obtain ⟨b, o, hA, d0, d1⟩ := HR.out.v hci
      have F1 : Fr w ((w.alloc (.cells #[.int .i64 e.kind, .int .i64 ci, .bool e.val.null, .int .i64 e.val.n, .slice A e.kids.length c] 33)).alloc (.cells #[.bool false, .int .i64 0] 30)) := by (repeat (first | with_reducible exact Fr.refl _ | with_reducible assumption | with_reducible refine Fr.alloc ?_ _ | with_reducible refine Fr.drew ?_ | with_reducible refine Fr.drewN ?_ _ | (with_reducible refine Fr.setNew2 ?_ ?_ _; · (simp <;> omega)) | with_reducible refine Fr.trans ?_ (by assumption)))
      have g0 := F1.cell d0
      have g1 := F1.cell d1
      have R' := hid (show ev row n e = ⟨row[ci].null, row[ci].n⟩ by rw [R.out, hc]; simp [List.getD, List.getElem?_eq_getElem hci])
      subst hA
      clear R hv h0 c1 c2 hk
      go_enter Try.func59, Try.ntmps59
      go_wp2
      exact bodyPost_ret (v := Vv ⟨row[ci].null, row[ci].n⟩) (by simp [results, Try.results59, go_sem]) rfl ⟨by rw [R'.out], by (repeat (first | with_reducible exact Fr.refl _ | with_reducible assumption | with_reducible refine Fr.alloc ?_ _ | with_reducible refine Fr.drew ?_ | with_reducible refine Fr.drewN ?_ _ | (with_reducible refine Fr.setNew2 ?_ ?_ _; · (simp <;> omega)) | with_reducible refine Fr.trans ?_ (by assumption)))⟩
    · have R := hid (ev_con (row := row) (n := n) hk)
      have e1 : (e.kind == 1) = false := by simp [hk]
      have e2 : (e.kind == 2) = true := by simp [hk]
      clear hv h0 hk
      go_enter Try.func59, Try.ntmps59
      go_wp2
      exact bodyPost_ret (v := Vv e.val) (by simp [results, Try.results59, go_sem]) rfl ⟨by rw [R.out], by (repeat (first | with_reducible exact Fr.refl _ | with_reducible assumption | with_reducible refine Fr.alloc ?_ _ | with_reducible refine Fr.drew ?_ | with_reducible refine Fr.drewN ?_ _ | (with_reducible refine Fr.setNew2 ?_ ?_ _; · (simp <;> omega)) | with_reducible refine Fr.trans ?_ (by assumption)))⟩
    · have hlt : 0 < e.kids.length := by omega
      cases n with
      | zero => exfalso; rw [HX.out.ex0] at hlt; simp at hlt
      | succ n =>
        have R := hid (ev_not (row := row) (n := n) hk hlt)
        have e1 : (e.kind == 1) = false := by simp [hk]
        have e2 : (e.kind == 2) = false := by simp [hk]
        have e3 : (e.kind == 10) = true := by simp [hk]
        have H0 := hid h0
        clear hv hk h0
        obtain ⟨b, o, K, c', hA, d0, d1, d2, d3, cK, rK, _⟩ := HX.out.ex hlt
        subst hA
        simp only [Nat.zero_mul, Nat.add_zero] at d0 d1 d2 d3 cK
        obtain ⟨d, rfl, hvk⟩ := vE_down HV.out hlt
        have HVK := hid hvk
        have RK := hid rK
        have F1 : Fr w ((w.alloc (.cells #[.int .i64 e.kind, .int .i64 e.col, .bool e.val.null, .int .i64 e.val.n, .slice (some ⟨b, o, none⟩) e.kids.length c] 33)).alloc (.cells #[.bool false, .int .i64 0] 30)) := by (repeat (first | with_reducible exact Fr.refl _ | with_reducible assumption | with_reducible refine Fr.alloc ?_ _ | with_reducible refine Fr.drew ?_ | with_reducible refine Fr.drewN ?_ _ | (with_reducible refine Fr.setNew2 ?_ ?_ _; · (simp <;> omega)) | with_reducible refine Fr.trans ?_ (by assumption)))
        replace d0 := F1.cell d0
        replace d1 := F1.cell d1
        replace d2 := F1.cell d2
        replace d3 := F1.cell d3
        replace cK := F1.cell cK
        clear rK hvk
        obtain ⟨v, hev⟩ : ∃ v, ev row n e.kids[0] = v := ⟨_, rfl⟩
        obtain ⟨t1, t2⟩ := tS_range v
        have HEV := hid hev
        clear hev
        go_enter Try.func59, Try.ntmps59
        go_wp2_with fail
        refine absW fun W hW => ?_
        obtain ⟨BA, BR, FW⟩ := evblk hW
        clear hW d0 d1 d2 d3 cK F1
        refine (show Calls Try.prog 59 #[.agg #[.int .i64 e.kids[0].kind, .int .i64 e.kids[0].col, .bool e.kids[0].val.null, .int .i64 e.kids[0].val.n, .slice K e.kids[0].kids.length c'], .slice B row.length rc] W fun r w' => r = .returned (.agg #[.bool v.null, .int .i64 v.n]) ∧ Fr W w' by rw [← HEV.out]; exact IH.out n (by omega) _ _ _ _ _ _ _ _ (RK.out.fr (rdEx_mono n) FW) (HS.out.2 0 hlt) (HR.out.fr rdV_mono FW) HRV.out hrl HVK.out).mono ?_
        rintro r w1 ⟨rfl, b1⟩
        have RR := hid (show ev row (n + 1) e = trS (notS v.tS) by rw [R.out, HEV.out, notS_tr]; rfl)
        go_wp2_with (first | (go_at_call 81; refine (specTruth v _).mono ?_; rintro r w2 ⟨rfl, b2⟩) | (go_at_call 80; refine (specNot _ _ t1 t2).mono ?_; rintro r w3 ⟨rfl, rfl⟩) | (go_at_call 79; refine (specOf _ _).mono ?_; rintro r w4 ⟨rfl, b4⟩; obtain ⟨z0, z1, f0, f1⟩ := (BR.fr ((b1.trans b2).trans b4)).pair; have FF := FW.trans ((b1.trans b2).trans b4)))
        exact bodyPost_ret (v := Vv (trS (notS v.tS))) (by simp [results, Try.results59, go_sem, z0, z1]) rfl ⟨by rw [RR.out], by (repeat (first | with_reducible exact Fr.refl _ | with_reducible assumption | with_reducible refine Fr.alloc ?_ _ | with_reducible refine Fr.drew ?_ | with_reducible refine Fr.drewN ?_ _ | (with_reducible refine Fr.setNew2 ?_ ?_ _; · (simp <;> omega)) | with_reducible refine Fr.trans ?_ (by assumption)))⟩
    · have hlt : 0 < e.kids.length := by omega
      cases n with
      | zero => exfalso; rw [HX.out.ex0] at hlt; simp at hlt
      | succ n =>
        have R := hid (ev_nul (row := row) (n := n) hk hlt)
        have e1 : (e.kind == 1) = false := by simp [hk]
        have e2 : (e.kind == 2) = false := by simp [hk]
        have e3 : (e.kind == 10) = false := by simp [hk]
        have e4 : (e.kind == 11) = true := by simp [hk]
        have H0 := hid h0
        clear hv hk h0
        obtain ⟨b, o, K, c', hA, d0, d1, d2, d3, cK, rK, _⟩ := HX.out.ex hlt
        subst hA
        simp only [Nat.zero_mul, Nat.add_zero] at d0 d1 d2 d3 cK
        obtain ⟨d, rfl, hvk⟩ := vE_down HV.out hlt
        have HVK := hid hvk
        have RK := hid rK
        have F1 : Fr w ((w.alloc (.cells #[.int .i64 e.kind, .int .i64 e.col, .bool e.val.null, .int .i64 e.val.n, .slice (some ⟨b, o, none⟩) e.kids.length c] 33)).alloc (.cells #[.bool false, .int .i64 0] 30)) := by (repeat (first | with_reducible exact Fr.refl _ | with_reducible assumption | with_reducible refine Fr.alloc ?_ _ | with_reducible refine Fr.drew ?_ | with_reducible refine Fr.drewN ?_ _ | (with_reducible refine Fr.setNew2 ?_ ?_ _; · (simp <;> omega)) | with_reducible refine Fr.trans ?_ (by assumption)))
        replace d0 := F1.cell d0
        replace d1 := F1.cell d1
        replace d2 := F1.cell d2
        replace d3 := F1.cell d3
        replace cK := F1.cell cK
        clear rK hvk
        obtain ⟨v, hev⟩ : ∃ v, ev row n e.kids[0] = v := ⟨_, rfl⟩
        obtain ⟨t1, t2⟩ := tS_range v
        have HEV := hid hev
        clear hev
        go_enter Try.func59, Try.ntmps59
        go_wp2_with fail
        refine absW fun W hW => ?_
        obtain ⟨BA, BR, FW⟩ := evblk hW
        clear hW d0 d1 d2 d3 cK F1
        refine (show Calls Try.prog 59 #[.agg #[.int .i64 e.kids[0].kind, .int .i64 e.kids[0].col, .bool e.kids[0].val.null, .int .i64 e.kids[0].val.n, .slice K e.kids[0].kids.length c'], .slice B row.length rc] W fun r w' => r = .returned (.agg #[.bool v.null, .int .i64 v.n]) ∧ Fr W w' by rw [← HEV.out]; exact IH.out n (by omega) _ _ _ _ _ _ _ _ (RK.out.fr (rdEx_mono n) FW) (HS.out.2 0 hlt) (HR.out.fr rdV_mono FW) HRV.out hrl HVK.out).mono ?_
        rintro r w1 ⟨rfl, b1⟩
        have RR := hid (show ev row (n + 1) e = V.flag v.null by rw [R.out, HEV.out])
        obtain ⟨vb, vn⟩ := v
        have hfd : ∀ w : World, (Instr.field 30 (.agg #[.bool vb, .int .i64 vn]) 0).run Try.prog w = .ok (.bool vb) w := fun _ => by kernel_rfl
        cases vb
        all_goals go_wp2_with (first | (go_at_call 82; refine (specToInt _ _).mono ?_; rintro r w2 ⟨rfl, rfl⟩; obtain ⟨z0, z1, f0, f1⟩ := (BR.fr b1).pair; have FF := FW.trans b1))
        · exact bodyPost_ret (v := .agg #[.bool false, .int .i64 0]) (by simp [results, Try.results59, go_sem, z0, z1]) rfl ⟨by rw [RR.out]; rfl, by (repeat (first | with_reducible exact Fr.refl _ | with_reducible assumption | with_reducible refine Fr.alloc ?_ _ | with_reducible refine Fr.drew ?_ | with_reducible refine Fr.drewN ?_ _ | (with_reducible refine Fr.setNew2 ?_ ?_ _; · (simp <;> omega)) | with_reducible refine Fr.trans ?_ (by assumption)))⟩
        · exact bodyPost_ret (v := .agg #[.bool false, .int .i64 1]) (by simp [results, Try.results59, go_sem, z0, z1]) rfl ⟨by rw [RR.out]; rfl, by (repeat (first | with_reducible exact Fr.refl _ | with_reducible assumption | with_reducible refine Fr.alloc ?_ _ | with_reducible refine Fr.drew ?_ | with_reducible refine Fr.drewN ?_ _ | (with_reducible refine Fr.setNew2 ?_ ?_ _; · (simp <;> omega)) | with_reducible refine Fr.trans ?_ (by assumption)))⟩
    · have hlt : 0 < e.kids.length := by omega
      have hlt1 : 1 < e.kids.length := by omega
      cases n with
      | zero => exfalso; rw [HX.out.ex0] at hlt; simp at hlt
      | succ n =>
        have R := hid (ev_two (row := row) (n := n) hk hlt hlt1)
        have e1 : (e.kind == 1) = false := by simp [hk]
        have e2 : (e.kind == 2) = false := by simp [hk]
        have e3 : (e.kind == 10) = false := by simp [hk]
        have e4 : (e.kind == 11) = false := by simp [hk]
        have H0 := hid h0
        clear hv hk h0
        obtain ⟨b, o, K, c', hA, d0, d1, d2, d3, cK, rK, _⟩ := HX.out.ex hlt
        obtain ⟨b', o', K', c2', hA', g0, g1, g2, g3, cK', rK', _⟩ := HX.out.ex hlt1
        subst hA
        cases hA'
        simp only [Nat.zero_mul, Nat.add_zero, Nat.one_mul] at d0 d1 d2 d3 cK g0 g1 g2 g3 cK'
        obtain ⟨d, rfl, hvk⟩ := vE_down HV.out hlt
        obtain ⟨d', hd', hvk'⟩ := vE_down HV.out hlt1
        obtain rfl : d = d' := by omega
        clear hd'
        have HVK := hid hvk
        have HVK' := hid hvk'
        have RK := hid rK
        have RK' := hid rK'
        clear rK hvk rK' hvk'
        have HS0 := hid (HS.out.2 0 hlt)
        have HS1 := hid (HS.out.2 1 hlt1)
        generalize e.kids[0] = x0 at d0 d1 d2 d3 cK HVK RK HS0 R
        generalize e.kids[1] = x1 at g0 g1 g2 g3 cK' HVK' RK' HS1 R
        obtain ⟨v, hev⟩ : ∃ v, ev row n x0 = v := ⟨_, rfl⟩
        obtain ⟨u, heu⟩ : ∃ u, ev row n x1 = u := ⟨_, rfl⟩
        have hvv : v.valid = true := hev ▸ ev_valid HRV.out rfl n _ _ HVK.out
        have huv : u.valid = true := heu ▸ ev_valid HRV.out rfl n _ _ HVK'.out
        have C0 : ∀ W : World, Fr w W → Calls Try.prog 59 #[.agg #[.int .i64 x0.kind, .int .i64 x0.col, .bool x0.val.null, .int .i64 x0.val.n, .slice K x0.kids.length c'], .slice B row.length rc] W fun r w' => r = .returned (.agg #[.bool v.null, .int .i64 v.n]) ∧ Fr W w' := fun W hW => by rw [← hev]; exact IH.out n (by omega) x0 K c' row B rc d W (RK.out.fr (rdEx_mono n) hW) HS0.out (HR.out.fr rdV_mono hW) HRV.out hrl HVK.out
        have C1 : ∀ W : World, Fr w W → Calls Try.prog 59 #[.agg #[.int .i64 x1.kind, .int .i64 x1.col, .bool x1.val.null, .int .i64 x1.val.n, .slice K' x1.kids.length c2'], .slice B row.length rc] W fun r w' => r = .returned (.agg #[.bool u.null, .int .i64 u.n]) ∧ Fr W w' := fun W hW => by rw [← heu]; exact IH.out n (by omega) x1 K' c2' row B rc d W (RK'.out.fr (rdEx_mono n) hW) HS1.out (HR.out.fr rdV_mono hW) HRV.out hrl HVK'.out
        replace C0 := hid C0
        replace C1 := hid C1
        have HEV := hid hev
        have HEU := hid heu
        have HVV := hid hvv
        have HUV := hid huv
        clear hev heu hvv huv
        have RR := hid (show ev row (n + 1) e = comb e.kind v u by rw [R.out, HEV.out, HEU.out])
        go_enter Try.func59, Try.ntmps59
        go_wp2_with fail
        refine absC fun W hW => ?_
        obtain ⟨BA, BR, FW⟩ := evblk hW
        clear hW
        obtain ⟨a0, a1, a2, a3, a4, _⟩ := BA.five
        replace d0 := FW.cell d0
        replace d1 := FW.cell d1
        replace d2 := FW.cell d2
        replace d3 := FW.cell d3
        replace cK := FW.cell cK
        replace g0 := FW.cell g0
        replace g1 := FW.cell g1
        replace g2 := FW.cell g2
        replace g3 := FW.cell g3
        replace cK' := FW.cell cK'
        (refine wp_region_quiet_tail (fun w' => Fr _ w') 15 (by kernel_rfl) (by kernel_rfl) (Fr.refl _).drew ?_; simp only [List.take_succ_cons, List.take_zero, List.drop_succ_cons, List.drop_zero]; (repeat go_big_quiet_step (first | exact fun _ => rfl | exact fun _ => ⟨rfl, rfl⟩ | (intro hw'; replace a0 := hw'.cell a0; replace a1 := hw'.cell a1; replace a2 := hw'.cell a2; replace a3 := hw'.cell a3; replace a4 := hw'.cell a4; replace d0 := hw'.cell d0; replace d1 := hw'.cell d1; replace d2 := hw'.cell d2; replace d3 := hw'.cell d3; replace cK := hw'.cell cK; replace g0 := hw'.cell g0; replace g1 := hw'.cell g1; replace g2 := hw'.cell g2; replace g3 := hw'.cell g3; replace cK' := hw'.cell cK'; go_simp; first | done | exact rfl | exact ⟨rfl, rfl⟩) | (intro hw'; go_at_call 59; with_reducible refine (C0.out _ (FW.trans hw')).mono ?_; rintro r w1 ⟨rfl, b9⟩; exact ⟨rfl, hw'.trans b9⟩) | (intro hw'; go_at_call 59; with_reducible refine (C1.out _ (FW.trans hw')).mono ?_; rintro r w1 ⟨rfl, b9⟩; exact ⟨rfl, hw'.trans b9⟩) | (intro hw'; go_at_call 83; refine (specComb _ _ _ _ HVV.out HUV.out).mono ?_; rintro r w1 ⟨rfl, b9⟩; exact ⟨rfl, hw'.trans b9⟩))); refine wpQuiet_nil ?_; intro wq hq)
        obtain ⟨z0, z1, f0, f1⟩ := (BR.fr hq).pair
        have FF := FW.trans hq
        go_wp2
        exact bodyPost_ret (v := Vv (comb e.kind v u)) (by simp [results, Try.results59, go_sem, z0, z1]) rfl ⟨by rw [RR.out], by (repeat (first | with_reducible exact Fr.refl _ | with_reducible assumption | with_reducible refine Fr.alloc ?_ _ | with_reducible refine Fr.drew ?_ | with_reducible refine Fr.drewN ?_ _ | (with_reducible refine Fr.setNew2 ?_ ?_ _; · (simp <;> omega)) | with_reducible refine Fr.trans ?_ (by assumption)))⟩
end Go.Proofs.Ytfillcjpdnpaiaa
