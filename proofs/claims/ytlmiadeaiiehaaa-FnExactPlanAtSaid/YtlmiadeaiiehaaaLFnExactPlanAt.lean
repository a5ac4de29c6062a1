/- Walk of the law FnExactPlanAt. -/
import Derived.Test.YtlmiadeaiiehaaaPlE
import Derived.Test.YtlmiadeaiiehaaaPlM
import Derived.Test.YtlmiadeaiiehaaaPlX
import Derived.Test.YtlmiadeaiiehaaaLaw
import Derived.Test.YtlmiadeaiiehaaaBxL
import Derived.Deep.RegionHeld3
namespace Go.Proofs.Ytlmiadeaiiehaaa
open Go Go.RowKit

/-- A plan of one's own, while blocks stand that are none of its. -/
structure Hd (S : Nat → Prop) (W : World) (l : Nat) (q : Pl) (s : Sl3) : Prop where
  nd : NdS l (ShP l) W S q s
  ok : PlOk l W.cell? q s
theorem Hd.keep {S : Nat → Prop} {W W' : World} {l : Nat} {q : Pl} {s : Sl3} (h : Hd S W l q s) (hk : KeepA S W W') : Hd S W' l q s := ⟨h.nd.kp hk, ndS_ok h.nd hk h.ok⟩
theorem Hd.fr {S : Nat → Prop} {W W' : World} {l : Nat} {q : Pl} {s : Sl3} (h : Hd S W l q s) (hf : Fr W W') : Hd S W' l q s := h.keep hf.keepA
theorem Hd.ch {S D : Nat → Prop} {W W' : World} {l : Nat} {q : Pl} {s : Sl3} (h : Hd S W l q s) (hc : Ch D W W') (hd : ∀ k, S k → ¬ D k) : Hd S W' l q s := h.keep (hc.keepA hd)
theorem Hd.rd {S : Nat → Prop} {W W' : World} {l : Nat} {q : Pl} {s : Sl3} (h : Hd S W l q s) (hf : Fr W W') : PlOk l W'.cell? q s := h.ok.fr hf
set_option maxRecDepth 100000 in
set_option maxHeartbeats 4000000 in
theorem walkFnExactPlanAt (n : Nat) (e : Pl) (s : Sl3) (PA : Option Addr) (pc : Nat) (path : List Int) (w : World) (hx : PlOk n w.cell? e s) (hp : RdSl rdInt w.cell? 1 PA path) (hpm : path.length ≤ maxLen) :
    Calls Try.prog 4 #[plV e s, .slice PA path.length pc] w fun r w' => r = .returned (.bool true) ∧ Fr w w' := by
  have HX := hid hx
  have HP := hid hp
  clear hx hp
  unfold maxLen at hpm
  unfold plV
  by_cases hpl : path.length ≤ 1048576
  rotate_left
  · have F0 : Fr w (w.alloc (.cells #[.int .i64 e.kind, .int .i64 e.table, .slice s.a0 e.exprs.length s.c0, .slice s.a1 e.cols.length s.c1, .slice s.a2 e.kids.length s.c2] 42)) := (Fr.refl _).alloc _
    go_enter Try.func4, Try.ntmps4
    go_wp2
    go_ret
    exact ⟨rfl, F0⟩
  go_enter Try.func4, Try.ntmps4
  go_wp2_with fail
  refine absW fun W hW => ?_
  obtain ⟨BA0, F0⟩ := bx_one hW
  clear hW
  refine (szPl (szPlS n) e s 1048576 W (HX.out.fr F0) (by omega) (by omega)).mono ?_
  rintro r w0 ⟨q0, rfl, hq0, b0⟩
  have F1 := F0.trans b0
  rcases hq0 with rfl | ⟨hq1, hq2⟩
  · go_wp2
    go_ret
    exact ⟨rfl, F1⟩
  have hsm : ndT n e ≤ 1048576 := by omega
  have SM := hid hsm
  have HQ2 := hid hq2
  have dl0 : decide (q0 < 0) = false := by simp; omega
  clear hq2
  have T0 := hid (fun (W : World) (hW : Fr w W) => toPl (toPlS n) e s W (HX.out.fr hW) hsm)
  have T1 := hid (fun (W : World) (hW : Fr w W) => toInts PA pc path W (HP.out.fr rdInt_mono hW) hpl)
  obtain ⟨⟨q, bb⟩, hres⟩ : ∃ p, res e path = p := ⟨_, rfl⟩
  obtain ⟨l, hl⟩ : ∃ l, n - path.length = l := ⟨_, rfl⟩
  have RES := hid hres
  have HL := hid hl
  clear hres hl hsm
  have FM := F1
  replace BA0 := BA0.fr b0
  have hBAw := BA0.lt
  clear F0 F1 b0
  obtain ⟨a00, a01, a02, a03, a04, _⟩ := BA0.five
  go_wp2_with fail
  -- the reference's answer
  refine (T0.out _ FM).mono ?_
  rintro r u0 ⟨y0, rfl, yk, _, bu0⟩
  have Y0 := hid (yk.mono (fromB_le _ _))
  have Fu0 : Fr w u0 := FM.trans bu0
  clear yk a00 a01 a02 a03 a04
  unfold plV
  go_wp2_with fail
  refine (T1.out _ Fu0).mono ?_
  rintro r u1 ⟨y1, yc, rfl, _, _, _, yr, bu1⟩
  have Y1 := hid yr
  clear yr
  go_wp2_with fail
  refine (specPlanAtAns n e y0 _ _ path u1 (Y0.out.fr bu1) SM.out Y1.out hpl).mono ?_
  rintro r ws0 ⟨⟨sW, rfl, wok, wsm⟩, bws0⟩
  rw [RES.out, HL.out] at wok wsm
  rw [RES.out]
  dsimp only at wok wsm ⊢
  unfold plV
  have QSM := hid wsm
  have BW0 := Blk.new ws0 47 #[.int .i64 q.kind, .int .i64 q.table, .slice sW.a0 q.exprs.length sW.c0, .slice sW.a1 q.cols.length sW.c1, .slice sW.a2 q.kids.length sW.c2]
  have KW : Fr ws0 (ws0.alloc (.cells #[.int .i64 q.kind, .int .i64 q.table, .slice sW.a0 q.exprs.length sW.c0, .slice sW.a1 q.cols.length sW.c1, .slice sW.a2 q.kids.length sW.c2] 47)) := (Fr.refl _).alloc _
  have HS0 := hid ((wok.mono (fromB_le _ _)).fr KW)
  have Fws : Fr w0 (ws0.alloc (.cells #[.int .i64 q.kind, .int .i64 q.table, .slice sW.a0 q.exprs.length sW.c0, .slice sW.a1 q.cols.length sW.c1, .slice sW.a2 q.kids.length sW.c2] 47)) := ((bu0.trans bu1).trans bws0).trans KW
  have hgw : w0.heap.size ≤ ws0.heap.size := ((bu0.trans bu1).trans bws0).size
  clear wok wsm Y0 Y1
  have hBA0 := (BA0.fr Fws).lt
  have FS := FM.trans Fws
  replace BA0 := BA0.fr Fws
  obtain ⟨a00, a01, a02, a03, a04, _⟩ := BA0.five
  go_wp2_with fail
  refine absW fun ws hws => ?_
  rw [← hws] at BW0 HS0 Fws FS BA0 KW
  obtain ⟨gw, egw⟩ : ∃ g, ws0.heap.size = g := ⟨_, rfl⟩
  rw [egw] at BW0 hgw ⊢
  have hgws := BW0.lt
  have HS := HS0
  have hBAg : w.heap.size < gw := by omega
  clear hws a00 a01 a02 a03 a04 egw HS0 KW bws0 Fws bu0 bu1 Fu0
  -- the arguments' copies
  refine (T0.out _ FS).mono ?_
  rintro r k0 ⟨sx, rfl, xk, xn, g0⟩
  have zk0 : ws.heap.size ≤ k0.heap.size := g0.size
  have X0 := hid (show Hd (Inn ws.heap.size k0.heap.size) k0 n e sx from ⟨xn, xk.mono (fromB_le _ _)⟩)
  clear xk xn
  unfold plV
  have FK0 := FS.trans g0
  have K0 : Fr k0 (k0.alloc (.cells #[.int .i64 e.kind, .int .i64 e.table, .slice sx.a0 e.exprs.length sx.c0, .slice sx.a1 e.cols.length sx.c1, .slice sx.a2 e.kids.length sx.c2] 47)) := (Fr.refl _).alloc _
  have BX0 := Blk.new k0 47 #[.int .i64 e.kind, .int .i64 e.table, .slice sx.a0 e.exprs.length sx.c0, .slice sx.a1 e.cols.length sx.c1, .slice sx.a2 e.kids.length sx.c2]
  replace BA0 := BA0.fr (g0.trans K0)
  replace BW0 := BW0.fr (g0.trans K0)
  go_wp2_with fail
  refine absW fun W4 hW4 => ?_
  replace K0 : Fr k0 W4 := by rw [hW4]; exact K0
  have F4 : Fr w W4 := FK0.trans K0
  have E4 : Fr ws W4 := g0.trans K0
  rw [← hW4] at BX0 BA0 BW0
  replace X0 := hid (X0.out.fr K0)
  have hxl := BX0.lt
  clear hW4 g0 FK0 K0
  refine (T1.out _ F4).mono ?_
  rintro r W5 ⟨x1, xc, rfl, hx1, xB, xz, xr, b4⟩
  have F5 := F4.trans b4
  have E5 := E4.trans b4
  have X1 := hid xr
  have XB1 := hid xB
  have XZ1 := hid xz
  have hx1l := xB.lt
  replace BX0 := BX0.fr b4
  replace BA0 := BA0.fr b4
  replace BW0 := BW0.fr b4
  replace X0 := hid (X0.out.fr b4)
  have z45 := b4.size
  clear xr xB xz b4
  obtain ⟨d00, d01, d02, d03, d04, _⟩ := BX0.five
  go_wp2_with fail
  -- the program's answer
  refine (implPlanAtAns n e sx _ _ path W5 X0.out.ok SM.out X1.out hpl).mono ?_
  rintro r w6' ⟨⟨sG, rfl, ⟨S, hS, gN, gK⟩, _⟩, b6'⟩
  rw [RES.out, HL.out] at gN gK
  rw [RES.out]
  dsimp only at gN gK ⊢
  unfold plV
  have G0 := hid (show Hd S w6' l q sG from ⟨gN, gK⟩)
  have HSS := hid (fun k (h : S k) => And.intro (hS k h).1 (hS k h).2.lt)
  clear gN gK hS
  have BG0 := Blk.new w6' 47 #[.int .i64 q.kind, .int .i64 q.table, .slice sG.a0 q.exprs.length sG.c0, .slice sG.a1 q.cols.length sG.c1, .slice sG.a2 q.kids.length sG.c2]
  have K6 : Fr w6' (w6'.alloc (.cells #[.int .i64 q.kind, .int .i64 q.table, .slice sG.a0 q.exprs.length sG.c0, .slice sG.a1 q.cols.length sG.c1, .slice sG.a2 q.kids.length sG.c2] 47)) := (Fr.refl _).alloc _
  have b6 : Fr W5 (w6'.alloc (.cells #[.int .i64 q.kind, .int .i64 q.table, .slice sG.a0 q.exprs.length sG.c0, .slice sG.a1 q.cols.length sG.c1, .slice sG.a2 q.kids.length sG.c2] 47)) := b6'.trans K6
  have hgb5 : W5.heap.size ≤ w6'.heap.size := b6'.size
  have F6 := F5.trans b6
  have E6 := E5.trans b6
  replace G0 := hid (G0.out.fr K6)
  replace X0 := hid (X0.out.fr b6)
  replace X1 := hid (X1.out.fr rdInt_mono b6)
  replace XB1 := hid (XB1.out.fr b6)
  replace BX0 := BX0.fr b6
  replace BA0 := BA0.fr b6
  replace BW0 := BW0.fr b6
  clear d00 d01 d02 d03 d04
  obtain ⟨e00, e01, e02, e03, e04, _⟩ := BG0.five
  obtain ⟨f00, f01, f02, f03, f04, _⟩ := BW0.five
  go_wp2_with fail
  refine absW fun w6 hw6 => ?_
  rw [← hw6] at BG0 G0 b6 F6 E6 X0 X1 XB1 BX0 BA0 BW0
  obtain ⟨gb, egb⟩ : ∃ g, w6'.heap.size = g := ⟨_, rfl⟩
  rw [egb] at BG0 HSS hgb5 ⊢
  clear hw6 egb K6 b6' e00 e01 e02 e03 e04 f00 f01 f02 f03 f04
  have hgbl := BG0.lt
  have EQ := hid (fun (W : World) (a b : Sl3) (h : PlOk l W.cell? q a) (h' : PlOk l W.cell? q b) => eqPl (eqPlS l) q a b W h h' QSM.out)
  have EQE := hid (fun (W : World) (a b : Sl3) (h : PlOk n W.cell? e a) (h' : PlOk n W.cell? e b) => eqPl (eqPlS n) e a b W h h' SM.out)
  refine (EQ.out w6 sG sW G0.out.ok (HS.out.fr E6)).mono ?_
  rintro r w7 ⟨rfl, bw7⟩
  have F7 := F6.trans bw7
  have E7 := E6.trans bw7
  replace G0 := hid (G0.out.fr bw7)
  replace X0 := hid (X0.out.fr bw7)
  replace X1 := hid (X1.out.fr rdInt_mono bw7)
  replace XB1 := hid (XB1.out.fr bw7)
  replace BX0 := BX0.fr bw7
  replace BA0 := BA0.fr bw7
  replace BW0 := BW0.fr bw7
  replace BG0 := BG0.fr bw7
  clear b6 bw7
  have ebb : (bb != bb) = false := by simp
  go_wp2_with fail
  -- the plan stands
  obtain ⟨a00, a01, a02, a03, a04, _⟩ := BA0.five
  obtain ⟨d00, d01, d02, d03, d04, _⟩ := BX0.five
  have keepL : ∀ W' : World, Fr w7 W' → (Fr w7 W' ∧ W'.cell? ⟨w.heap.size, 0, none⟩ = some (.int .i64 e.kind) ∧ W'.cell? ⟨w.heap.size, 1, none⟩ = some (.int .i64 e.table) ∧ W'.cell? ⟨w.heap.size, 2, none⟩ = some (.slice s.a0 e.exprs.length s.c0) ∧ W'.cell? ⟨w.heap.size, 3, none⟩ = some (.slice s.a1 e.cols.length s.c1) ∧ W'.cell? ⟨w.heap.size, 4, none⟩ = some (.slice s.a2 e.kids.length s.c2) ∧ W'.cell? ⟨k0.heap.size, 0, none⟩ = some (.int .i64 e.kind) ∧ W'.cell? ⟨k0.heap.size, 1, none⟩ = some (.int .i64 e.table) ∧ W'.cell? ⟨k0.heap.size, 2, none⟩ = some (.slice sx.a0 e.exprs.length sx.c0) ∧ W'.cell? ⟨k0.heap.size, 3, none⟩ = some (.slice sx.a1 e.cols.length sx.c1) ∧ W'.cell? ⟨k0.heap.size, 4, none⟩ = some (.slice sx.a2 e.kids.length sx.c2)) := fun W' F => ⟨F, F.cell a00, F.cell a01, F.cell a02, F.cell a03, F.cell a04, F.cell d00, F.cell d01, F.cell d02, F.cell d03, F.cell d04⟩
  go_region_held3 (fun W' => Fr w7 W' ∧ W'.cell? ⟨w.heap.size, 0, none⟩ = some (.int .i64 e.kind) ∧ W'.cell? ⟨w.heap.size, 1, none⟩ = some (.int .i64 e.table) ∧ W'.cell? ⟨w.heap.size, 2, none⟩ = some (.slice s.a0 e.exprs.length s.c0) ∧ W'.cell? ⟨w.heap.size, 3, none⟩ = some (.slice s.a1 e.cols.length s.c1) ∧ W'.cell? ⟨w.heap.size, 4, none⟩ = some (.slice s.a2 e.kids.length s.c2) ∧ W'.cell? ⟨k0.heap.size, 0, none⟩ = some (.int .i64 e.kind) ∧ W'.cell? ⟨k0.heap.size, 1, none⟩ = some (.int .i64 e.table) ∧ W'.cell? ⟨k0.heap.size, 2, none⟩ = some (.slice sx.a0 e.exprs.length sx.c0) ∧ W'.cell? ⟨k0.heap.size, 3, none⟩ = some (.slice sx.a1 e.cols.length sx.c1) ∧ W'.cell? ⟨k0.heap.size, 4, none⟩ = some (.slice sx.a2 e.kids.length sx.c2)) ((refine keepL _ ?_; (repeat (first | with_reducible exact Fr.refl _ | with_reducible assumption | with_reducible refine Fr.alloc ?_ _ | with_reducible refine Fr.drew ?_ | with_reducible refine Fr.drewN ?_ _ | (with_reducible refine Fr.setNew2 ?_ ?_ _; · (simp <;> omega)) | with_reducible refine Fr.trans ?_ (by assumption))); done))
    (first
      | (go_at_call 16; with_reducible refine (T0.out _ ?_).mono ?_; (· exact F7.trans (by (repeat (first | with_reducible exact Fr.refl _ | with_reducible assumption | with_reducible refine Fr.alloc ?_ _ | with_reducible refine Fr.drew ?_ | with_reducible refine Fr.drewN ?_ _ | (with_reducible refine Fr.setNew2 ?_ ?_ _; · (simp <;> omega)) | with_reducible refine Fr.trans ?_ (by assumption))))); rintro r z0 ⟨sz, rfl, zk, _, bz0⟩; have Z0 := hid (zk.mono (fromB_le _ _)); clear zk; have Fz0 : Fr w7 z0 := Fr.trans (by (repeat (first | with_reducible exact Fr.refl _ | with_reducible assumption | with_reducible refine Fr.alloc ?_ _ | with_reducible refine Fr.drew ?_ | with_reducible refine Fr.drewN ?_ _ | (with_reducible refine Fr.setNew2 ?_ ?_ _; · (simp <;> omega)) | with_reducible refine Fr.trans ?_ (by assumption)))) bz0)
      | (go_at_call 19; refine (EQE.out _ sx sz (X0.out.rd Fz0) Z0.out).mono ?_; rintro r w8 ⟨rfl, bw8⟩; have FFw8 : Fr w7 w8 := Fr.trans (by (repeat (first | with_reducible exact Fr.refl _ | with_reducible assumption | with_reducible refine Fr.alloc ?_ _ | with_reducible refine Fr.drew ?_ | with_reducible refine Fr.drewN ?_ _ | (with_reducible refine Fr.setNew2 ?_ ?_ _; · (simp <;> omega)) | with_reducible refine Fr.trans ?_ (by assumption)))) bw8)
      | fail)
  clear keepL a00 a01 a02 a03 a04 d00 d01 d02 d03 d04 Z0
  have F8 := F7.trans FFw8
  have E8 := E7.trans FFw8
  replace G0 := hid (G0.out.fr FFw8)
  replace X0 := hid (X0.out.fr FFw8)
  replace X1 := hid (X1.out.fr rdInt_mono FFw8)
  replace XB1 := hid (XB1.out.fr FFw8)
  replace BX0 := BX0.fr FFw8
  replace BA0 := BA0.fr FFw8
  replace BW0 := BW0.fr FFw8
  replace BG0 := BG0.fr FFw8
  clear Fz0 bz0 bw8 FFw8
  -- the path stands
  go_wp2_with fail
  refine (T1.out _ F8).mono ?_
  rintro r u8 ⟨y8, yc8, rfl, _, _, _, yr8, bu8⟩
  have Y8 := hid yr8
  clear yr8
  go_wp2_with fail
  refine (eqI _ _ _ _ path u8 (X1.out.fr rdInt_mono bu8) Y8.out (by unfold maxLen; omega)).mono ?_
  rintro r w9 ⟨rfl, bw9⟩
  have F89 := bu8.trans bw9
  have E9 := E8.trans F89
  have F9 := F8.trans F89
  replace G0 := hid (G0.out.fr F89)
  replace X0 := hid (X0.out.fr F89)
  replace XB1 := hid (XB1.out.fr F89)
  replace BX0 := BX0.fr F89
  replace BA0 := BA0.fr F89
  replace BW0 := BW0.fr F89
  replace BG0 := BG0.fr F89
  clear X1 Y8 bu8 bw9 F89
  -- marks on the arguments' copies
  obtain ⟨d00, d01, d02, d03, d04, _⟩ := BX0.five
  have hmk := mkN_le n e
  have hsm2 := SM.out
  go_wp2_with fail
  refine (markPN n e sx 1 (Inn ws.heap.size k0.heap.size) w9 X0.out.nd (fun k hk => by have := hk.2; have := BX0.lt; omega) (by omega) SM.out).mono ?_
  rintro r w10 ⟨rfl, C0, _⟩
  obtain ⟨m0, em0⟩ : ∃ k, 1 + mkN n e = k := ⟨_, rfl⟩
  rw [em0]
  have hmk0 : m0 ≤ 10000000 := by omega
  clear em0 hmk hsm2 d00 d01 d02 d03 d04 X0
  replace G0 := hid (G0.out.ch C0 (fun k hk hd => by have := (HSS.out k hk).1; have := hd.2; omega))
  replace XB1 := hid (XB1.out.chI C0 (.inl (by omega)))
  replace BA0 := BA0.chI C0 (.inr (by omega))
  replace BW0 := BW0.chI C0 (.inr (by omega))
  replace BG0 := BG0.chI C0 (.inl (by omega))
  have E10 : Fr ws w10 := C0.fr (fun k hk => by have := hk.1; omega) E9
  clear C0
  go_wp2_with fail
  refine (markInts (some ⟨x1, 0, none⟩) path.length path.length m0 w10 (by omega) (by omega) (fun _ => ⟨x1, _, xc, rfl, XB1.out, by rw [XZ1.out]; exact Nat.le_refl _⟩)).mono ?_
  rintro r w11 ⟨rfl, C1, _, _⟩
  obtain ⟨m1, em1⟩ : ∃ k, m0 + path.length = k := ⟨_, rfl⟩
  rw [em1]
  have dk : decide ((m1 : Int) < 0) = false := by simp
  clear em1
  have hA1 : ∀ k, AtB (some ⟨x1, 0, none⟩) k → k = x1 := fun k h => by obtain ⟨ad, h1, h2⟩ := h; injection h1 with h1; subst h1; exact h2.symm
  replace G0 := hid (G0.out.ch C1 (fun k hk hd => by have := (HSS.out k hk).1; have := hA1 k hd; omega))
  replace BA0 := BA0.chS C1 (fun hd => by have := hA1 _ hd; omega)
  replace BW0 := BW0.chS C1 (fun hd => by have := hA1 _ hd; omega)
  replace BG0 := BG0.chS C1 (fun hd => by have := hA1 _ hd; omega)
  have E11 : Fr ws w11 := C1.fr (fun k hk => by have := hA1 k hk; omega) E10
  clear C1 hA1
  obtain ⟨e00, e01, e02, e03, e04, _⟩ := BG0.five
  obtain ⟨f00, f01, f02, f03, f04, _⟩ := BW0.five
  go_wp2_with fail
  refine (EQ.out w11 sG sW G0.out.ok (HS.out.fr E11)).mono ?_
  rintro r w12 ⟨rfl, bw12⟩
  replace G0 := hid (G0.out.fr bw12)
  replace BA0 := BA0.fr bw12
  replace BW0 := BW0.fr bw12
  replace BG0 := BG0.fr bw12
  have E12 := E11.trans bw12
  clear e00 e01 e02 e03 e04 f00 f01 f02 f03 f04
  obtain ⟨e00, e01, e02, e03, e04, _⟩ := BG0.five
  have hmk := mkN_le l q
  have hsm2 := QSM.out
  go_wp2_with fail
  -- marks on the answer
  refine (markPN l q sG 1 S w12 G0.out.nd (fun k hk => by have := (HSS.out k hk).2; have := BG0.lt; omega) (by omega) QSM.out).mono ?_
  rintro r w13 ⟨rfl, Cr, hM⟩
  have HM := hid hM
  obtain ⟨m2, em2⟩ : ∃ k, 1 + mkN l q = k := ⟨_, rfl⟩
  have EM2 := hid em2
  have hb2 : 1 + mkN l q ≤ 1048576000 := by omega
  rw [em2]
  have dm : decide ((m2 : Int) < 0) = false := by simp
  have dne : ((m2 : Int) == (m2 : Int)) = true := by simp
  clear hM em2 G0 e00 e01 e02 e03 e04 hmk hsm2
  replace BA0 := BA0.chS Cr (fun hd => by have := (HSS.out _ hd).1; omega)
  replace BW0 := BW0.chS Cr (fun hd => by have := (HSS.out _ hd).1; omega)
  replace BG0 := BG0.chS Cr (fun hd => by have := (HSS.out _ hd).2; omega)
  have E13 : Fr ws w13 := Cr.fr (fun k hk => by have := (HSS.out k hk).1; have := E5.size; omega) E12
  clear Cr
  obtain ⟨e00, e01, e02, e03, e04, _⟩ := BG0.five
  have HB2 := hid hb2
  clear hb2
  go_wp2_with fail
  refine (heldPN l q sG 1 S w13 HM.out HB2.out QSM.out).mono ?_
  rintro r w14 ⟨rfl, bv⟩
  rw [EM2.out]
  have E14 := E13.trans bv
  have F14 := FS.trans E14
  replace BA0 := BA0.fr bv
  replace BW0 := BW0.fr bv
  replace BG0 := BG0.fr bv
  have HM2 := hid (HM.out.kp (bv.keepA (S := S)))
  clear HM bv e00 e01 e02 e03 e04
  obtain ⟨a00, a01, a02, a03, a04, _⟩ := BA0.five
  go_wp2_with fail
  -- the second call
  refine (T0.out _ F14).mono ?_
  rintro r v0 ⟨sv, rfl, vk, _, bv0⟩
  have V0 := hid (vk.mono (fromB_le _ _))
  have Fv0 := F14.trans bv0
  clear vk a00 a01 a02 a03 a04
  unfold plV
  go_wp2_with fail
  refine (T1.out _ Fv0).mono ?_
  rintro r v1 ⟨g1, gc, rfl, _, _, _, vr, bv1⟩
  have V1 := hid vr
  clear vr
  go_wp2_with fail
  refine (implPlanAtAns n e sv _ _ path v1 (V0.out.fr bv1) SM.out V1.out hpl).mono ?_
  rintro r wx ⟨⟨sH, rfl, ⟨S2, _, hN2, hK2⟩, _⟩, bwx⟩
  rw [RES.out, HL.out] at hK2
  rw [RES.out]
  dsimp only at hK2 ⊢
  unfold plV
  have KX : Fr wx (wx.alloc (.cells #[.int .i64 q.kind, .int .i64 q.table, .slice sH.a0 q.exprs.length sH.c0, .slice sH.a1 q.cols.length sH.c1, .slice sH.a2 q.kids.length sH.c2] 47)) := (Fr.refl _).alloc _
  have H0 := hid (hK2.fr KX)
  have BH0 := Blk.new wx 47 #[.int .i64 q.kind, .int .i64 q.table, .slice sH.a0 q.exprs.length sH.c0, .slice sH.a1 q.cols.length sH.c1, .slice sH.a2 q.kids.length sH.c2]
  have FwX : Fr w14 (wx.alloc (.cells #[.int .i64 q.kind, .int .i64 q.table, .slice sH.a0 q.exprs.length sH.c0, .slice sH.a1 q.cols.length sH.c1, .slice sH.a2 q.kids.length sH.c2] 47)) := ((bv0.trans bv1).trans bwx).trans KX
  replace BW0 := BW0.fr FwX
  replace BG0 := BG0.fr FwX
  clear hN2 hK2 V0 V1
  obtain ⟨e00, e01, e02, e03, e04, _⟩ := BH0.five
  obtain ⟨f00, f01, f02, f03, f04, _⟩ := BW0.five
  go_wp2_with fail
  refine (EQ.out _ sH sW H0.out (HS.out.fr (E14.trans FwX))).mono ?_
  rintro r wy ⟨rfl, bwy⟩
  replace BG0 := BG0.fr bwy
  clear e00 e01 e02 e03 e04 f00 f01 f02 f03 f04
  obtain ⟨e00, e01, e02, e03, e04, _⟩ := BG0.five
  go_wp2_with fail
  refine (heldPN l q sG 1 S _ (HM2.out.kp ((FwX.trans bwy).keepA (S := S))) HB2.out QSM.out).mono ?_
  rintro r wz ⟨rfl, bz⟩
  rw [EM2.out]
  go_wp2
  go_ret
  exact ⟨rfl, ((F14.trans FwX).trans bwy).trans bz⟩
end Go.Proofs.Ytlmiadeaiiehaaa
