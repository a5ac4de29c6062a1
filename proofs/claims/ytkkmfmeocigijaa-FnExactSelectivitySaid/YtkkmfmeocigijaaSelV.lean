/- The walk of the selectivity, on the spec's side. -/
import Derived.Test.YtkkmfmeocigijaaSelW
namespace Go.Proofs.Ytkkmfmeocigijaa
open Go Go.RowKit

theorem pm_two {rows : Int} {ds ns : List Int} {n : Nat} {e : Ex} (h : e.kind = 2) : pm rows ds ns n e = truP e.val := by
  cases n <;> (unfold pm; rw [if_pos h])
theorem pm_succ (rows : Int) (ds ns : List Int) (n : Nat) (e : Ex) : pm rows ds ns (n + 1) e = if e.kind = 2 then truP e.val else if e.kind = 10 then 1000 - pm rows ds ns n (e.kids.getD 0 default) else
    if e.kind = 8 then (pm rows ds ns n (e.kids.getD 0 default) * pm rows ds ns n (e.kids.getD 1 default)).tdiv 1000 else
    if e.kind = 9 then pm rows ds ns n (e.kids.getD 0 default) + pm rows ds ns n (e.kids.getD 1 default) - (pm rows ds ns n (e.kids.getD 0 default) * pm rows ds ns n (e.kids.getD 1 default)).tdiv 1000 else
    if e.kind = 6 then (if colEq (e.kids.getD 0 default) (e.kids.getD 1 default) then eqlP rows ds ns (e.kids.getD 0 default).col.toNat else 100) else
    if e.kind = 7 then 333 else
    if e.kind = 11 then (if (e.kids.getD 0 default).kind = 1 ∧ 0 < rows then nulP rows ns (e.kids.getD 0 default).col.toNat else 0) else 500 := rfl
theorem pm_rest {rows : Int} {ds ns : List Int} {n : Nat} {e : Ex} (h : e.kind = 1 ∨ e.kind = 3 ∨ e.kind = 4 ∨ e.kind = 5) : pm rows ds ns n e = 500 := by
  cases n with
  | zero => unfold pm; rw [if_neg (by omega)]
  | succ n => rw [pm_succ, if_neg (by omega), if_neg (by omega), if_neg (by omega), if_neg (by omega), if_neg (by omega), if_neg (by omega), if_neg (by omega)]
theorem pm_less {rows : Int} {ds ns : List Int} {n : Nat} {e : Ex} (h : e.kind = 7) : pm rows ds ns (n + 1) e = 333 := by
  rw [pm_succ, if_neg (by omega), if_neg (by omega), if_neg (by omega), if_neg (by omega), if_neg (by omega), if_pos h]
theorem pm_not {rows : Int} {ds ns : List Int} {n : Nat} {e : Ex} (h : e.kind = 10) (h0 : 0 < e.kids.length) : pm rows ds ns (n + 1) e = 1000 - pm rows ds ns n e.kids[0] := by
  rw [pm_succ, if_neg (by omega), if_pos h, getD_at h0]; rfl
theorem pm_and {rows : Int} {ds ns : List Int} {n : Nat} {e : Ex} (h : e.kind = 8) (h0 : 0 < e.kids.length) (h1 : 1 < e.kids.length) : pm rows ds ns (n + 1) e = (pm rows ds ns n e.kids[0] * pm rows ds ns n e.kids[1]).tdiv 1000 := by
  rw [pm_succ, if_neg (by omega), if_neg (by omega), if_pos h, getD_at h0, getD_at h1]
theorem pm_or {rows : Int} {ds ns : List Int} {n : Nat} {e : Ex} (h : e.kind = 9) (h0 : 0 < e.kids.length) (h1 : 1 < e.kids.length) : pm rows ds ns (n + 1) e = pm rows ds ns n e.kids[0] + pm rows ds ns n e.kids[1] - (pm rows ds ns n e.kids[0] * pm rows ds ns n e.kids[1]).tdiv 1000 := by
  rw [pm_succ, if_neg (by omega), if_neg (by omega), if_neg (by omega), if_pos h, getD_at h0, getD_at h1]
theorem pm_eq {rows : Int} {ds ns : List Int} {n : Nat} {e : Ex} (h : e.kind = 6) (h0 : 0 < e.kids.length) (h1 : 1 < e.kids.length) : pm rows ds ns (n + 1) e = if colEq e.kids[0] e.kids[1] then eqlP rows ds ns e.kids[0].col.toNat else 100 := by
  rw [pm_succ, if_neg (by omega), if_neg (by omega), if_neg (by omega), if_neg (by omega), if_pos h, getD_at h0, getD_at h1]
theorem pm_nul {rows : Int} {ds ns : List Int} {n : Nat} {e : Ex} (h : e.kind = 11) (h0 : 0 < e.kids.length) : pm rows ds ns (n + 1) e = if e.kids[0].kind = 1 ∧ 0 < rows then nulP rows ns e.kids[0].col.toNat else 0 := by
  rw [pm_succ, if_neg (by omega), if_neg (by omega), if_neg (by omega), if_neg (by omega), if_neg (by omega), if_neg (by omega), if_pos h, getD_at h0]
/-- The kinds of a valid expression, one by one. -/
theorem kinds {wd : Int} {n : Nat} {deep : Int} {e : Ex} (hv : vE wd n deep e = true) : (e.kind = 2) ∨ (e.kind = 1 ∨ e.kind = 3 ∨ e.kind = 4 ∨ e.kind = 5) ∨ (e.kind = 7 ∧ e.kids.length = 2) ∨ (e.kind = 10 ∧ e.kids.length = 1) ∨ (e.kind = 8 ∧ e.kids.length = 2) ∨ (e.kind = 9 ∧ e.kids.length = 2) ∨ (e.kind = 6 ∧ e.kids.length = 2) ∨ (e.kind = 11 ∧ e.kids.length = 1) := by
  have h := kid_cnt hv
  unfold nk at h
  split at h
  · omega
  · split at h
    · omega
    · split at h <;> omega
theorem selblk {w W : World} {xs ys : Array Value} {t t' : TypeId} (hW : W = (w.alloc (.cells xs t)).alloc (.cells ys t')) : Blk W w.heap.size t xs ∧ Blk W (w.heap.size + 1) t' ys ∧ Fr w W := by
  subst hW
  refine ⟨(Blk.new w t xs).alloc _, ?_, ((Fr.refl w).alloc _).alloc _⟩
  have := Blk.new (w.alloc (.cells xs t)) t' ys
  rwa [show (w.alloc (.cells xs t)).heap.size = w.heap.size + 1 by simp] at this
def SpecPm (n : Nat) : Prop := ∀ (e : Ex) (A : Option Addr) (c : Nat) (rows : Int) (ds ns : List Int) (D M : Option Addr) (cd cm : Nat) (deep : Nat) (w : World), RdSl (rdEx n) w.cell? 5 A e.kids → exSm n e.kids → StOk rows ds ns → RdSl rdInt w.cell? 1 D ds → RdSl rdInt w.cell? 1 M ns → ds.length ≤ 1048576 → vE ds.length n deep e = true →
    Calls Try.prog 67 #[.agg #[.int .i64 e.kind, .int .i64 e.col, .bool e.val.null, .int .i64 e.val.n, .slice A e.kids.length c], .agg #[.int .i64 rows, .slice D ds.length cd, .slice M ns.length cm]] w fun r w' => r = .returned (.int .i64 (pm rows ds ns n e)) ∧ Fr w w'
set_option maxRecDepth 100000 in
set_option maxHeartbeats 4000000 in
theorem specPm (n : Nat) : SpecPm n := by
  induction n using Nat.strongRecOn with
  | _ n ih =>
    intro e A c rows ds ns D M cd cm deep w hx hs hst hd hm hdl hv
    have HX := hid hx
    have HD := hid hd
    have HM := hid hm
    have HV := hid hv
    have HST := hid hst
    have IH := hid ih
    have HS := hid hs
    have hl := exSm_len hs
    clear hx hd hm ih hs hst
    rcases kinds hv with hk | hk | ⟨hk, h0⟩ | ⟨hk, h0⟩ | ⟨hk, h0⟩ | ⟨hk, h0⟩ | ⟨hk, h0⟩ | ⟨hk, h0⟩
    · have R := hid (pm_two (rows := rows) (ds := ds) (ns := ns) (n := n) hk)
      have e2 : (e.kind == 2) = true := by simp; omega
      obtain ⟨t, et⟩ : ∃ t, e.val.tS = t := ⟨_, rfl⟩
      have T := hid (show ∀ W : World, Calls Try.prog 96 #[.agg #[.bool e.val.null, .int .i64 e.val.n]] W fun r w' => r = .returned (.int .i64 t) ∧ Fr W w' from fun W => by rw [← et]; exact specTruth e.val W)
      have R2 := hid (show pm rows ds ns n e = if t = 1 then 1000 else 0 by rw [R.out, truP, et])
      clear hk et hv
      by_cases ht : t = 1
      · have et : (t == 1) = true := by simp [ht]
        have R3 := hid (R2.out.trans (if_pos ht))
        clear ht
        go_enter Try.func67, Try.ntmps67
        go_wp2_with (first | (go_at_call 96; refine (T.out _).mono ?_; rintro r w2 ⟨rfl, b2⟩) | (go_at_call 97; refine (specToInt _ _).mono ?_; rintro r w3 ⟨rfl, rfl⟩))
        go_ret
        exact ⟨ret_int (by rw [R3.out]), by (repeat (first | with_reducible exact Fr.refl _ | with_reducible assumption | with_reducible refine Fr.alloc ?_ _ | with_reducible refine Fr.drew ?_ | with_reducible refine Fr.drewN ?_ _ | (with_reducible refine Fr.setNew2 ?_ ?_ _; · (simp <;> omega)) | with_reducible refine Fr.trans ?_ (by assumption)))⟩
      · have et : (t == 1) = false := by simp [ht]
        have R3 := hid (R2.out.trans (if_neg ht))
        clear ht
        go_enter Try.func67, Try.ntmps67
        go_wp2_with (first | (go_at_call 96; refine (T.out _).mono ?_; rintro r w2 ⟨rfl, b2⟩) | (go_at_call 97; refine (specToInt _ _).mono ?_; rintro r w3 ⟨rfl, rfl⟩))
        go_ret
        exact ⟨ret_int (by rw [R3.out]), by (repeat (first | with_reducible exact Fr.refl _ | with_reducible assumption | with_reducible refine Fr.alloc ?_ _ | with_reducible refine Fr.drew ?_ | with_reducible refine Fr.drewN ?_ _ | (with_reducible refine Fr.setNew2 ?_ ?_ _; · (simp <;> omega)) | with_reducible refine Fr.trans ?_ (by assumption)))⟩
    · have R := hid (pm_rest (rows := rows) (ds := ds) (ns := ns) (n := n) hk)
      have e2 : (e.kind == 2) = false := by simp; omega
      have e10 : (e.kind == 10) = false := by simp; omega
      have e8 : (e.kind == 8) = false := by simp; omega
      have e9 : (e.kind == 9) = false := by simp; omega
      have e6 : (e.kind == 6) = false := by simp; omega
      have e7 : (e.kind == 7) = false := by simp; omega
      have e11 : (e.kind == 11) = false := by simp; omega
      clear hk hv
      go_enter Try.func67, Try.ntmps67
      go_wp2
      go_ret
      exact ⟨ret_int (by rw [R.out]), by (repeat (first | with_reducible exact Fr.refl _ | with_reducible assumption | with_reducible refine Fr.alloc ?_ _ | with_reducible refine Fr.drew ?_ | with_reducible refine Fr.drewN ?_ _ | (with_reducible refine Fr.setNew2 ?_ ?_ _; · (simp <;> omega)) | with_reducible refine Fr.trans ?_ (by assumption)))⟩
    · have hlt : 0 < e.kids.length := by omega
      cases n with
      | zero => exfalso; rw [HX.out.ex0] at hlt; simp at hlt
      | succ n =>
        have R := hid (pm_less (rows := rows) (ds := ds) (ns := ns) (n := n) hk)
        have e2 : (e.kind == 2) = false := by simp; omega
        have e10 : (e.kind == 10) = false := by simp; omega
        have e8 : (e.kind == 8) = false := by simp; omega
        have e9 : (e.kind == 9) = false := by simp; omega
        have e6 : (e.kind == 6) = false := by simp; omega
        have e7 : (e.kind == 7) = true := by simp; omega
        have H0 := hid h0
        clear hk hv h0
        go_enter Try.func67, Try.ntmps67
        go_wp2
        go_ret
        exact ⟨ret_int (by rw [R.out]), by (repeat (first | with_reducible exact Fr.refl _ | with_reducible assumption | with_reducible refine Fr.alloc ?_ _ | with_reducible refine Fr.drew ?_ | with_reducible refine Fr.drewN ?_ _ | (with_reducible refine Fr.setNew2 ?_ ?_ _; · (simp <;> omega)) | with_reducible refine Fr.trans ?_ (by assumption)))⟩
    · have hlt : 0 < e.kids.length := by omega
      cases n with
      | zero => exfalso; rw [HX.out.ex0] at hlt; simp at hlt
      | succ n =>
        have R := hid (pm_not (rows := rows) (ds := ds) (ns := ns) (n := n) hk hlt)
        have e2 : (e.kind == 2) = false := by simp; omega
        have e10 : (e.kind == 10) = true := by simp; omega
        obtain ⟨b, o, K, c', hA, d0, d1, d2, d3, dK, rK, _⟩ := HX.out.ex hlt
        subst hA
        simp only [Nat.zero_mul, Nat.add_zero] at d0 d1 d2 d3 dK 
        obtain ⟨d, rfl, hvk⟩ := vE_down HV.out hlt
        have HS0 := hid (HS.out.2 0 hlt)
        have H0 := hid h0
        generalize e.kids[0] = x0 at d0 d1 d2 d3 dK rK hvk HS0 R
        have RK := hid rK
        have HVK := hid hvk
        clear hk hv h0 rK hvk 
        obtain ⟨p0, ep0⟩ : ∃ p, pm rows ds ns n x0 = p := ⟨_, rfl⟩
        have rp0 := pm_range HST.out n x0
        rw [ep0] at rp0
        have C0 : ∀ W : World, Fr w W → Calls Try.prog 67 #[.agg #[.int .i64 x0.kind, .int .i64 x0.col, .bool x0.val.null, .int .i64 x0.val.n, .slice K x0.kids.length c'], .agg #[.int .i64 rows, .slice D ds.length cd, .slice M ns.length cm]] W fun r w' => r = .returned (.int .i64 p0) ∧ Fr W w' := fun W hW => by rw [← ep0]; exact IH.out n (by omega) x0 K c' rows ds ns D M cd cm d W (RK.out.fr (rdEx_mono n) hW) HS0.out HST.out (HD.out.fr rdInt_mono hW) (HM.out.fr rdInt_mono hW) hdl HVK.out
        replace C0 := hid C0
        have EP0 := hid ep0
        clear ep0
        have ew : IntKind.i64.wrap (1000 - p0) = 1000 - p0 := IntWalk.i64_in _ (by omega)
        go_enter Try.func67, Try.ntmps67
        go_wp2_with fail
        refine absC fun W hW => ?_
        obtain ⟨BE, BS, FW⟩ := selblk hW
        clear hW
        obtain ⟨a0, a1, a2, a3, a4, _⟩ := BE.five
        obtain ⟨s0, s1, s2, _⟩ := BS.three
        replace d0 := FW.cell d0
        replace d1 := FW.cell d1
        replace d2 := FW.cell d2
        replace d3 := FW.cell d3
        replace dK := FW.cell dK
        (refine wp_region_quietC (fun w' => Fr _ w') (by kernel_rfl) (by kernel_rfl) (Fr.refl _).drew ?_; (repeat go_big_quiet_step (first | exact fun _ => rfl | exact fun _ => ⟨rfl, rfl⟩ | (intro hw'; replace a0 := hw'.cell a0; replace a1 := hw'.cell a1; replace a2 := hw'.cell a2; replace a3 := hw'.cell a3; replace a4 := hw'.cell a4; replace s0 := hw'.cell s0; replace s1 := hw'.cell s1; replace s2 := hw'.cell s2; replace d0 := hw'.cell d0; replace d1 := hw'.cell d1; replace d2 := hw'.cell d2; replace d3 := hw'.cell d3; replace dK := hw'.cell dK; go_simp; first | done | exact rfl | exact ⟨rfl, rfl⟩) | (intro hw'; go_at_call 67; with_reducible refine (C0.out _ (FW.trans hw')).mono ?_; rintro r w1 ⟨rfl, b9⟩; exact ⟨rfl, hw'.trans b9⟩))); refine wpQuiet_nil ?_; intro wq hq)
        go_wp2
        go_ret
        exact ⟨ret_int (by rw [R.out, EP0.out]; rfl), FW.trans hq⟩
    · have hlt : 0 < e.kids.length := by omega
      have hlt1 : 1 < e.kids.length := by omega
      cases n with
      | zero => exfalso; rw [HX.out.ex0] at hlt; simp at hlt
      | succ n =>
        have R := hid (pm_and (rows := rows) (ds := ds) (ns := ns) (n := n) hk hlt hlt1)
        have e2 : (e.kind == 2) = false := by simp; omega
        have e10 : (e.kind == 10) = false := by simp; omega
        have e8 : (e.kind == 8) = true := by simp; omega
        obtain ⟨b, o, K, c', hA, d0, d1, d2, d3, dK, rK, _⟩ := HX.out.ex hlt
        obtain ⟨b', o', K', c2', hA', g0, g1, g2, g3, gK, rK', _⟩ := HX.out.ex hlt1
        subst hA
        cases hA'
        simp only [Nat.zero_mul, Nat.add_zero, Nat.one_mul] at d0 d1 d2 d3 dK g0 g1 g2 g3 gK
        obtain ⟨d, rfl, hvk⟩ := vE_down HV.out hlt
        obtain ⟨d', hd', hvk'⟩ := vE_down HV.out hlt1
        obtain rfl : d = d' := by omega
        clear hd' 
        have HS0 := hid (HS.out.2 0 hlt)
        have HS1 := hid (HS.out.2 1 hlt1)
        have H0 := hid h0
        generalize e.kids[0] = x0 at d0 d1 d2 d3 dK rK hvk HS0 R
        generalize e.kids[1] = x1 at g0 g1 g2 g3 gK rK' hvk' HS1 R
        have RK := hid rK
        have HVK := hid hvk
        have RK1 := hid rK'
        have HVK1 := hid hvk'
        clear hk hv h0 rK hvk rK' hvk'
        obtain ⟨p0, ep0⟩ : ∃ p, pm rows ds ns n x0 = p := ⟨_, rfl⟩
        have rp0 := pm_range HST.out n x0
        rw [ep0] at rp0
        have C0 : ∀ W : World, Fr w W → Calls Try.prog 67 #[.agg #[.int .i64 x0.kind, .int .i64 x0.col, .bool x0.val.null, .int .i64 x0.val.n, .slice K x0.kids.length c'], .agg #[.int .i64 rows, .slice D ds.length cd, .slice M ns.length cm]] W fun r w' => r = .returned (.int .i64 p0) ∧ Fr W w' := fun W hW => by rw [← ep0]; exact IH.out n (by omega) x0 K c' rows ds ns D M cd cm d W (RK.out.fr (rdEx_mono n) hW) HS0.out HST.out (HD.out.fr rdInt_mono hW) (HM.out.fr rdInt_mono hW) hdl HVK.out
        replace C0 := hid C0
        have EP0 := hid ep0
        clear ep0
        obtain ⟨p1, ep1⟩ : ∃ p, pm rows ds ns n x1 = p := ⟨_, rfl⟩
        have rp1 := pm_range HST.out n x1
        rw [ep1] at rp1
        have C1 : ∀ W : World, Fr w W → Calls Try.prog 67 #[.agg #[.int .i64 x1.kind, .int .i64 x1.col, .bool x1.val.null, .int .i64 x1.val.n, .slice K' x1.kids.length c2'], .agg #[.int .i64 rows, .slice D ds.length cd, .slice M ns.length cm]] W fun r w' => r = .returned (.int .i64 p1) ∧ Fr W w' := fun W hW => by rw [← ep1]; exact IH.out n (by omega) x1 K' c2' rows ds ns D M cd cm d W (RK1.out.fr (rdEx_mono n) hW) HS1.out HST.out (HD.out.fr rdInt_mono hW) (HM.out.fr rdInt_mono hW) hdl HVK1.out
        replace C1 := hid C1
        have EP1 := hid ep1
        clear ep1
        obtain ⟨m1, m2, m3, m4⟩ := mul_range' rp0.1 rp0.2 rp1.1 rp1.2
        have hz := and_range rp0.1 rp0.2 rp1.1 rp1.2
        obtain ⟨y, ey⟩ : ∃ y, p0 * p1 = y := ⟨_, rfl⟩
        rw [ey] at m1 m2 m3 m4 hz
        have sy : IntKind.i64.wrap y = y := IntWalk.i64_in _ (by omega)
        obtain ⟨z, ez⟩ : ∃ z, y.tdiv 1000 = z := ⟨_, rfl⟩
        rw [ez] at hz
        have sz : IntKind.i64.wrap z = z := IntWalk.i64_in _ (by omega)
        have RR := hid (show pm rows ds ns (n + 1) e = z by rw [R.out, EP0.out, EP1.out, ey, ez])
        go_enter Try.func67, Try.ntmps67
        go_wp2_with fail
        refine absC fun W hW => ?_
        obtain ⟨BE, BS, FW⟩ := selblk hW
        clear hW
        obtain ⟨a0, a1, a2, a3, a4, _⟩ := BE.five
        obtain ⟨s0, s1, s2, _⟩ := BS.three
        replace d0 := FW.cell d0
        replace d1 := FW.cell d1
        replace d2 := FW.cell d2
        replace d3 := FW.cell d3
        replace dK := FW.cell dK
        replace g0 := FW.cell g0
        replace g1 := FW.cell g1
        replace g2 := FW.cell g2
        replace g3 := FW.cell g3
        replace gK := FW.cell gK
        (refine wp_region_quietC (fun w' => Fr _ w') (by kernel_rfl) (by kernel_rfl) (Fr.refl _).drew ?_; (repeat go_big_quiet_step (first | exact fun _ => rfl | exact fun _ => ⟨rfl, rfl⟩ | (intro hw'; replace a0 := hw'.cell a0; replace a1 := hw'.cell a1; replace a2 := hw'.cell a2; replace a3 := hw'.cell a3; replace a4 := hw'.cell a4; replace s0 := hw'.cell s0; replace s1 := hw'.cell s1; replace s2 := hw'.cell s2; replace d0 := hw'.cell d0; replace d1 := hw'.cell d1; replace d2 := hw'.cell d2; replace d3 := hw'.cell d3; replace dK := hw'.cell dK; replace g0 := hw'.cell g0; replace g1 := hw'.cell g1; replace g2 := hw'.cell g2; replace g3 := hw'.cell g3; replace gK := hw'.cell gK; go_simp; first | done | exact rfl | exact ⟨rfl, rfl⟩) | (intro hw'; go_at_call 67; with_reducible refine (C0.out _ (FW.trans hw')).mono ?_; rintro r w1 ⟨rfl, b9⟩; exact ⟨rfl, hw'.trans b9⟩) | (intro hw'; go_at_call 67; with_reducible refine (C1.out _ (FW.trans hw')).mono ?_; rintro r w1 ⟨rfl, b9⟩; exact ⟨rfl, hw'.trans b9⟩))); refine wpQuiet_nil ?_; intro wq hq)
        go_wp2
        go_ret
        exact ⟨ret_int (by rw [RR.out]), FW.trans hq⟩
    · have hlt : 0 < e.kids.length := by omega
      have hlt1 : 1 < e.kids.length := by omega
      cases n with
      | zero => exfalso; rw [HX.out.ex0] at hlt; simp at hlt
      | succ n =>
        have R := hid (pm_or (rows := rows) (ds := ds) (ns := ns) (n := n) hk hlt hlt1)
        have e2 : (e.kind == 2) = false := by simp; omega
        have e10 : (e.kind == 10) = false := by simp; omega
        have e8 : (e.kind == 8) = false := by simp; omega
        have e9 : (e.kind == 9) = true := by simp; omega
        obtain ⟨b, o, K, c', hA, d0, d1, d2, d3, dK, rK, _⟩ := HX.out.ex hlt
        obtain ⟨b', o', K', c2', hA', g0, g1, g2, g3, gK, rK', _⟩ := HX.out.ex hlt1
        subst hA
        cases hA'
        simp only [Nat.zero_mul, Nat.add_zero, Nat.one_mul] at d0 d1 d2 d3 dK g0 g1 g2 g3 gK
        obtain ⟨d, rfl, hvk⟩ := vE_down HV.out hlt
        obtain ⟨d', hd', hvk'⟩ := vE_down HV.out hlt1
        obtain rfl : d = d' := by omega
        clear hd' 
        have HS0 := hid (HS.out.2 0 hlt)
        have HS1 := hid (HS.out.2 1 hlt1)
        have H0 := hid h0
        generalize e.kids[0] = x0 at d0 d1 d2 d3 dK rK hvk HS0 R
        generalize e.kids[1] = x1 at g0 g1 g2 g3 gK rK' hvk' HS1 R
        have RK := hid rK
        have HVK := hid hvk
        have RK1 := hid rK'
        have HVK1 := hid hvk'
        clear hk hv h0 rK hvk rK' hvk'
        obtain ⟨p0, ep0⟩ : ∃ p, pm rows ds ns n x0 = p := ⟨_, rfl⟩
        have rp0 := pm_range HST.out n x0
        rw [ep0] at rp0
        have C0 : ∀ W : World, Fr w W → Calls Try.prog 67 #[.agg #[.int .i64 x0.kind, .int .i64 x0.col, .bool x0.val.null, .int .i64 x0.val.n, .slice K x0.kids.length c'], .agg #[.int .i64 rows, .slice D ds.length cd, .slice M ns.length cm]] W fun r w' => r = .returned (.int .i64 p0) ∧ Fr W w' := fun W hW => by rw [← ep0]; exact IH.out n (by omega) x0 K c' rows ds ns D M cd cm d W (RK.out.fr (rdEx_mono n) hW) HS0.out HST.out (HD.out.fr rdInt_mono hW) (HM.out.fr rdInt_mono hW) hdl HVK.out
        replace C0 := hid C0
        have EP0 := hid ep0
        clear ep0
        obtain ⟨p1, ep1⟩ : ∃ p, pm rows ds ns n x1 = p := ⟨_, rfl⟩
        have rp1 := pm_range HST.out n x1
        rw [ep1] at rp1
        have C1 : ∀ W : World, Fr w W → Calls Try.prog 67 #[.agg #[.int .i64 x1.kind, .int .i64 x1.col, .bool x1.val.null, .int .i64 x1.val.n, .slice K' x1.kids.length c2'], .agg #[.int .i64 rows, .slice D ds.length cd, .slice M ns.length cm]] W fun r w' => r = .returned (.int .i64 p1) ∧ Fr W w' := fun W hW => by rw [← ep1]; exact IH.out n (by omega) x1 K' c2' rows ds ns D M cd cm d W (RK1.out.fr (rdEx_mono n) hW) HS1.out HST.out (HD.out.fr rdInt_mono hW) (HM.out.fr rdInt_mono hW) hdl HVK1.out
        replace C1 := hid C1
        have EP1 := hid ep1
        clear ep1
        obtain ⟨m1, m2, m3, m4⟩ := mul_range' rp0.1 rp0.2 rp1.1 rp1.2
        have hz := and_range rp0.1 rp0.2 rp1.1 rp1.2
        obtain ⟨y, ey⟩ : ∃ y, p0 * p1 = y := ⟨_, rfl⟩
        rw [ey] at m1 m2 m3 m4 hz
        have sy : IntKind.i64.wrap y = y := IntWalk.i64_in _ (by omega)
        obtain ⟨z, ez⟩ : ∃ z, y.tdiv 1000 = z := ⟨_, rfl⟩
        rw [ez] at hz
        have sz : IntKind.i64.wrap z = z := IntWalk.i64_in _ (by omega)
        have sa : IntKind.i64.wrap (p0 + p1) = p0 + p1 := IntWalk.i64_in _ (by omega)
        have sb : IntKind.i64.wrap (p0 + p1 - z) = p0 + p1 - z := IntWalk.i64_in _ (by omega)
        have RR := hid (show pm rows ds ns (n + 1) e = p0 + p1 - z by rw [R.out, EP0.out, EP1.out, ey, ez])
        go_enter Try.func67, Try.ntmps67
        go_wp2_with fail
        refine absC fun W hW => ?_
        obtain ⟨BE, BS, FW⟩ := selblk hW
        clear hW
        obtain ⟨a0, a1, a2, a3, a4, _⟩ := BE.five
        obtain ⟨s0, s1, s2, _⟩ := BS.three
        replace d0 := FW.cell d0
        replace d1 := FW.cell d1
        replace d2 := FW.cell d2
        replace d3 := FW.cell d3
        replace dK := FW.cell dK
        replace g0 := FW.cell g0
        replace g1 := FW.cell g1
        replace g2 := FW.cell g2
        replace g3 := FW.cell g3
        replace gK := FW.cell gK
        (refine wp_region_quietC (fun w' => Fr _ w') (by kernel_rfl) (by kernel_rfl) (Fr.refl _).drew ?_; (repeat go_big_quiet_step (first | exact fun _ => rfl | exact fun _ => ⟨rfl, rfl⟩ | (intro hw'; replace a0 := hw'.cell a0; replace a1 := hw'.cell a1; replace a2 := hw'.cell a2; replace a3 := hw'.cell a3; replace a4 := hw'.cell a4; replace s0 := hw'.cell s0; replace s1 := hw'.cell s1; replace s2 := hw'.cell s2; replace d0 := hw'.cell d0; replace d1 := hw'.cell d1; replace d2 := hw'.cell d2; replace d3 := hw'.cell d3; replace dK := hw'.cell dK; replace g0 := hw'.cell g0; replace g1 := hw'.cell g1; replace g2 := hw'.cell g2; replace g3 := hw'.cell g3; replace gK := hw'.cell gK; go_simp; first | done | exact rfl | exact ⟨rfl, rfl⟩) | (intro hw'; go_at_call 67; with_reducible refine (C0.out _ (FW.trans hw')).mono ?_; rintro r w1 ⟨rfl, b9⟩; exact ⟨rfl, hw'.trans b9⟩))); refine wpQuiet_nil ?_; intro wq hq)
        have HQ := hid hq
        replace a0 := hq.cell a0
        replace a1 := hq.cell a1
        replace a2 := hq.cell a2
        replace a3 := hq.cell a3
        replace a4 := hq.cell a4
        replace s0 := hq.cell s0
        replace s1 := hq.cell s1
        replace s2 := hq.cell s2
        replace d0 := hq.cell d0
        replace d1 := hq.cell d1
        replace d2 := hq.cell d2
        replace d3 := hq.cell d3
        replace dK := hq.cell dK
        replace g0 := hq.cell g0
        replace g1 := hq.cell g1
        replace g2 := hq.cell g2
        replace g3 := hq.cell g3
        replace gK := hq.cell gK
        have FV := FW.trans hq
        clear hq
        go_wp2_with fail
        (refine wp_region_quietC (fun w' => Fr _ w') (by kernel_rfl) (by kernel_rfl) (Fr.refl _).drew ?_; (repeat go_big_quiet_step (first | exact fun _ => rfl | exact fun _ => ⟨rfl, rfl⟩ | (intro hw'; replace a0 := hw'.cell a0; replace a1 := hw'.cell a1; replace a2 := hw'.cell a2; replace a3 := hw'.cell a3; replace a4 := hw'.cell a4; replace s0 := hw'.cell s0; replace s1 := hw'.cell s1; replace s2 := hw'.cell s2; replace d0 := hw'.cell d0; replace d1 := hw'.cell d1; replace d2 := hw'.cell d2; replace d3 := hw'.cell d3; replace dK := hw'.cell dK; replace g0 := hw'.cell g0; replace g1 := hw'.cell g1; replace g2 := hw'.cell g2; replace g3 := hw'.cell g3; replace gK := hw'.cell gK; go_simp; first | done | exact rfl | exact ⟨rfl, rfl⟩) | (intro hw'; go_at_call 67; with_reducible refine (C1.out _ (FV.trans hw')).mono ?_; rintro r w1 ⟨rfl, b9⟩; exact ⟨rfl, hw'.trans b9⟩))); refine wpQuiet_nil ?_; intro wq hq)
        go_wp2
        go_ret
        exact ⟨ret_int (by rw [RR.out]), FV.trans hq⟩
    · have hlt : 0 < e.kids.length := by omega
      have hlt1 : 1 < e.kids.length := by omega
      cases n with
      | zero => exfalso; rw [HX.out.ex0] at hlt; simp at hlt
      | succ n =>
        have R := hid (pm_eq (rows := rows) (ds := ds) (ns := ns) (n := n) hk hlt hlt1)
        have e2 : (e.kind == 2) = false := by simp; omega
        have e10 : (e.kind == 10) = false := by simp; omega
        have e8 : (e.kind == 8) = false := by simp; omega
        have e9 : (e.kind == 9) = false := by simp; omega
        have e6 : (e.kind == 6) = true := by simp; omega
        obtain ⟨b, o, K, c', hA, d0, d1, d2, d3, dK, rK, _⟩ := HX.out.ex hlt
        obtain ⟨b', o', K', c2', hA', g0, g1, g2, g3, gK, rK', _⟩ := HX.out.ex hlt1
        subst hA
        cases hA'
        simp only [Nat.zero_mul, Nat.add_zero, Nat.one_mul] at d0 d1 d2 d3 dK g0 g1 g2 g3 gK
        obtain ⟨d, rfl, hvk⟩ := vE_down HV.out hlt
        obtain ⟨d', hd', hvk'⟩ := vE_down HV.out hlt1
        obtain rfl : d = d' := by omega
        clear hd' 
        have HS0 := hid (HS.out.2 0 hlt)
        have HS1 := hid (HS.out.2 1 hlt1)
        have H0 := hid h0
        generalize e.kids[0] = x0 at d0 d1 d2 d3 dK rK hvk HS0 R
        generalize e.kids[1] = x1 at g0 g1 g2 g3 gK rK' hvk' HS1 R
        have RK := hid rK
        have HVK := hid hvk
        have RK1 := hid rK'
        have HVK1 := hid hvk'
        clear hk hv h0 rK hvk rK' hvk'
        have F1 : Fr w ((w.alloc (.cells #[.int .i64 e.kind, .int .i64 e.col, .bool e.val.null, .int .i64 e.val.n, .slice (some ⟨b, o, none⟩) e.kids.length c] 27)).alloc (.cells #[.int .i64 rows, .slice D ds.length cd, .slice M ns.length cm] 53)) := by (repeat (first | with_reducible exact Fr.refl _ | with_reducible assumption | with_reducible refine Fr.alloc ?_ _ | with_reducible refine Fr.drew ?_ | with_reducible refine Fr.drewN ?_ _ | (with_reducible refine Fr.setNew2 ?_ ?_ _; · (simp <;> omega)) | with_reducible refine Fr.trans ?_ (by assumption)))
        replace d0 := F1.cell d0
        replace d1 := F1.cell d1
        replace d2 := F1.cell d2
        replace d3 := F1.cell d3
        replace dK := F1.cell dK
        replace g0 := F1.cell g0
        replace g1 := F1.cell g1
        replace g2 := F1.cell g2
        replace g3 := F1.cell g3
        replace gK := F1.cell gK
        obtain ⟨b1, f1⟩ : ∃ q, (x0.kind == 1) = q := ⟨_, rfl⟩
        obtain ⟨b2, f2⟩ : ∃ q, (x1.kind == 2) = q := ⟨_, rfl⟩
        obtain ⟨b3, f3⟩ : ∃ q, x1.val.null = q := ⟨_, rfl⟩
        rw [f3] at g2
        have R2 := hid (show pm rows ds ns (n + 1) e = if (b1 && (b2 && !b3)) then eqlP rows ds ns x0.col.toNat else 100 by rw [R.out]; unfold colEq; rw [f1, f2, f3])
        clear f3
        by_cases hcol : (b1 && (b2 && !b3)) = true
        · have hb : b1 = true ∧ b2 = true ∧ b3 = false := by
            revert hcol
            cases b1 <;> cases b2 <;> cases b3 <;> simp
          obtain ⟨rfl, rfl, rfl⟩ := hb
          have hk1 : x0.kind = 1 := by simpa using f1
          obtain ⟨c1, c2⟩ := col_ok HVK.out hk1
          obtain ⟨ci, hci⟩ : ∃ ci : Nat, x0.col = ci := ⟨x0.col.toNat, by omega⟩
          have R3 := hid (show pm rows ds ns (n + 1) e = eqlP rows ds ns ci by rw [R2.out, if_pos hcol, hci]; rfl)
          have CE := hid (fun (W : World) (hW : Fr w W) => specEqual rows ds ns D M cd cm ci W HST.out (HD.out.fr rdInt_mono hW) (HM.out.fr rdInt_mono hW) (by omega))
          rw [hci] at d1
          have DD := hid (And.intro d0 (And.intro d1 (And.intro d2 (And.intro d3 dK))))
          have GG := hid (And.intro g0 (And.intro g1 (And.intro g2 (And.intro g3 gK))))
          clear hk1 c1 c2 hci hcol
          go_enter Try.func67, Try.ntmps67
          go_wp2_with fail
          refine absC fun W hW => ?_
          obtain ⟨BE, BS, FW⟩ := selblk hW
          rw [← hW] at d0 d1 d2 d3 dK
          clear hW g0 g1 g2 g3 gK F1
          obtain ⟨a0, a1, a2, a3, a4, _⟩ := BE.five
          obtain ⟨s0, s1, s2, _⟩ := BS.three
          (refine wp_region_quietC (fun w' => Fr _ w') (by kernel_rfl) (by kernel_rfl) (Fr.refl _).drew ?_; (repeat go_big_quiet_step (first | exact fun _ => rfl | exact fun _ => ⟨rfl, rfl⟩ | (intro hw'; replace a0 := hw'.cell a0; replace a1 := hw'.cell a1; replace a2 := hw'.cell a2; replace a3 := hw'.cell a3; replace a4 := hw'.cell a4; replace s0 := hw'.cell s0; replace s1 := hw'.cell s1; replace s2 := hw'.cell s2; replace d0 := hw'.cell d0; replace d1 := hw'.cell d1; replace d2 := hw'.cell d2; replace d3 := hw'.cell d3; replace dK := hw'.cell dK; go_simp; first | done | exact rfl | exact ⟨rfl, rfl⟩) | (intro hw'; go_at_call 100; with_reducible refine (CE.out _ (FW.trans hw')).mono ?_; rintro r w1 ⟨rfl, b9⟩; exact ⟨rfl, hw'.trans b9⟩))); refine wpQuiet_nil ?_; intro wq hq)
          go_wp2
          go_ret
          exact ⟨ret_int (by rw [R3.out]), FW.trans hq⟩
        · have R3 := hid (show pm rows ds ns (n + 1) e = 100 by rw [R2.out, if_neg hcol])
          cases b1 <;> cases b2 <;> cases b3
          all_goals first | (exfalso; revert hcol; decide) | skip
          all_goals clear hcol
          all_goals go_enter Try.func67, Try.ntmps67
          all_goals go_wp2
          all_goals go_ret
          all_goals exact ⟨ret_int (by rw [R3.out]), F1⟩
    · have hlt : 0 < e.kids.length := by omega
      cases n with
      | zero => exfalso; rw [HX.out.ex0] at hlt; simp at hlt
      | succ n =>
        have R := hid (pm_nul (rows := rows) (ds := ds) (ns := ns) (n := n) hk hlt)
        have e2 : (e.kind == 2) = false := by simp; omega
        have e10 : (e.kind == 10) = false := by simp; omega
        have e8 : (e.kind == 8) = false := by simp; omega
        have e9 : (e.kind == 9) = false := by simp; omega
        have e6 : (e.kind == 6) = false := by simp; omega
        have e7 : (e.kind == 7) = false := by simp; omega
        have e11 : (e.kind == 11) = true := by simp; omega
        obtain ⟨b, o, K, c', hA, d0, d1, d2, d3, dK, rK, _⟩ := HX.out.ex hlt
        subst hA
        simp only [Nat.zero_mul, Nat.add_zero] at d0 d1 d2 d3 dK 
        obtain ⟨d, rfl, hvk⟩ := vE_down HV.out hlt
        have HS0 := hid (HS.out.2 0 hlt)
        have H0 := hid h0
        generalize e.kids[0] = x0 at d0 d1 d2 d3 dK rK hvk HS0 R
        have RK := hid rK
        have HVK := hid hvk
        clear hk hv h0 rK hvk 
        have F1 : Fr w ((w.alloc (.cells #[.int .i64 e.kind, .int .i64 e.col, .bool e.val.null, .int .i64 e.val.n, .slice (some ⟨b, o, none⟩) e.kids.length c] 27)).alloc (.cells #[.int .i64 rows, .slice D ds.length cd, .slice M ns.length cm] 53)) := by (repeat (first | with_reducible exact Fr.refl _ | with_reducible assumption | with_reducible refine Fr.alloc ?_ _ | with_reducible refine Fr.drew ?_ | with_reducible refine Fr.drewN ?_ _ | (with_reducible refine Fr.setNew2 ?_ ?_ _; · (simp <;> omega)) | with_reducible refine Fr.trans ?_ (by assumption)))
        replace d0 := F1.cell d0
        replace d1 := F1.cell d1
        replace d2 := F1.cell d2
        replace d3 := F1.cell d3
        replace dK := F1.cell dK
        obtain ⟨b1, f1⟩ : ∃ q, (x0.kind == 1) = q := ⟨_, rfl⟩
        obtain ⟨b2, f2⟩ : ∃ q, decide (0 < rows) = q := ⟨_, rfl⟩
        have R2 := hid (show pm rows ds ns (n + 1) e = if (b1 && b2) then nulP rows ns x0.col.toNat else 0 by
          rw [R.out, ← f1, ← f2]
          by_cases q1 : x0.kind = 1 <;> by_cases q2 : 0 < rows <;> simp [q1, q2])
        by_cases hcol : (b1 && b2) = true
        · have hb : b1 = true ∧ b2 = true := by
            revert hcol
            cases b1 <;> cases b2 <;> simp
          obtain ⟨rfl, rfl⟩ := hb
          have hk1 : x0.kind = 1 := by simpa using f1
          have hr0 : 0 < rows := of_decide_eq_true f2
          obtain ⟨c1, c2⟩ := col_ok HVK.out hk1
          obtain ⟨ci, hci⟩ : ∃ ci : Nat, x0.col = ci := ⟨x0.col.toNat, by omega⟩
          have hcn : ci < ns.length := by have := HST.out.len; omega
          have R3 := hid (show pm rows ds ns (n + 1) e = (1000 * ns.getD ci 0).tdiv rows by rw [R2.out, if_pos hcol, hci]; rfl)
          obtain ⟨mb, mo, hM, q'⟩ := HM.out.int hcn
          subst hM
          replace q' := F1.cell q'
          have n0 := HST.out.n0 ci
          have nr := HST.out.nr ci
          have r4 := HST.out.r4
          generalize ns.getD ci 0 = m at q' n0 nr R3
          have s1' : IntKind.i64.wrap (1000 * m) = 1000 * m := IntWalk.i64_in _ (by omega)
          have s4' : ¬ rows = 0 := by omega
          have ht := tdiv_range (a := 1000 * m) (b := rows) (k := 1000) (by omega) hr0 (by omega)
          obtain ⟨z, ez⟩ : ∃ z, (1000 * m).tdiv rows = z := ⟨_, rfl⟩
          rw [ez] at ht
          have sz : IntKind.i64.wrap z = z := IntWalk.i64_in _ (by omega)
          have R4 := hid (R3.out.trans ez)
          rw [hci] at d1
          clear hk1 c1 c2 hci hcol hr0
          go_enter Try.func67, Try.ntmps67
          go_wp2_with fail
          refine absC fun W hW => ?_
          obtain ⟨BE, BS, FW⟩ := selblk hW
          rw [← hW] at d0 d1 d2 d3 dK q'
          clear hW F1
          obtain ⟨a0, a1, a2, a3, a4, _⟩ := BE.five
          obtain ⟨s0, s1, s2, _⟩ := BS.three
          (refine wp_region_quietC (fun w' => Fr _ w') (by kernel_rfl) (by kernel_rfl) (Fr.refl _).drew ?_; (repeat go_big_quiet_step (first | exact fun _ => rfl | exact fun _ => ⟨rfl, rfl⟩ | (intro hw'; replace a0 := hw'.cell a0; replace a1 := hw'.cell a1; replace a2 := hw'.cell a2; replace a3 := hw'.cell a3; replace a4 := hw'.cell a4; replace s0 := hw'.cell s0; replace s1 := hw'.cell s1; replace s2 := hw'.cell s2; replace d0 := hw'.cell d0; replace d1 := hw'.cell d1; replace d2 := hw'.cell d2; replace d3 := hw'.cell d3; replace dK := hw'.cell dK; replace q' := hw'.cell q'; go_simp; first | done | exact rfl | exact ⟨rfl, rfl⟩) )); refine wpQuiet_nil ?_; intro wq hq)
          go_wp2
          go_ret
          exact ⟨ret_int (by rw [R4.out]), FW.trans hq⟩
        · have R3 := hid (show pm rows ds ns (n + 1) e = 0 by rw [R2.out, if_neg hcol])
          cases b1 <;> cases b2
          all_goals first | (exfalso; revert hcol; decide) | skip
          all_goals clear hcol
          all_goals go_enter Try.func67, Try.ntmps67
          all_goals go_wp2
          all_goals go_ret
          all_goals exact ⟨ret_int (by rw [R3.out]), F1⟩
end Go.Proofs.Ytkkmfmeocigijaa
