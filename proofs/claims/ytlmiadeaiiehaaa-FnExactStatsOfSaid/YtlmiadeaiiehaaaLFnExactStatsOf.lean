/- Walk of the law FnExactStatsOf. -/
import Derived.Test.YtlmiadeaiiehaaaTableU
import Derived.Test.YtlmiadeaiiehaaaStoI
import Derived.Test.YtlmiadeaiiehaaaStoS
import Derived.Test.YtlmiadeaiiehaaaLaw
import Derived.Test.YtlmiadeaiiehaaaBxL
import Derived.Deep.RegionHeld3
namespace Go.Proofs.Ytlmiadeaiiehaaa
open Go Go.RowKit
set_option maxRecDepth 100000 in
set_option maxHeartbeats 4000000 in
theorem walkFnExactStatsOf (wd0 : Int) (A00 : Option Addr) (c00 : Nat) (rows0 : List (List V)) (w : World) (hx00 : RdSl rdRow w.cell? 1 A00 rows0) (hm00 : rows0.length ≤ maxLen) :
    Calls Try.prog 3 #[.agg #[.int .i64 wd0, .slice A00 rows0.length c00]] w fun r w' => r = .returned (.bool true) ∧ Fr w w' := by
  have HX00 := hid hx00
  clear hx00
  rcases szT_ways (rows := rows0) (left := 1048576) (by omega) (by omega) with h | ⟨pz0, qz0, l00, l01⟩
  · have R := hid h
    clear h
    go_enter Try.func3, Try.ntmps3
    go_wp2_with fail
    refine absW fun W hW => ?_
    obtain ⟨BA0, F0⟩ := bx_one hW
    clear hW
    refine (szTable wd0 _ _ rows0 _ _ (HX00.out.fr rdRow_mono F0) hm00 (by omega) (by omega)).mono ?_
    rintro r wz ⟨rfl, bz⟩
    rw [R.out]
    go_wp2
    go_ret
    exact ⟨rfl, F0.trans bz⟩
  obtain ⟨lf0, elf0⟩ : ∃ l, szSS 1048576 rows0 = l := ⟨_, rfl⟩
  rw [elf0] at pz0 qz0
  have ELF0 := hid elf0
  have dl0 : decide (lf0 < 0) = false := by simp; omega
  clear elf0
  have T0 := hid (fun (W : World) (hW : Fr w W) => toTableU wd0 A00 c00 rows0 W (HX00.out.fr rdRow_mono hW) l00)
  have hlens : (statOf wd0 rows0).length ≤ 2000 := statOf_len
  obtain ⟨⟨mq, L1, L2⟩, eL⟩ : ∃ x, statOf wd0 rows0 = x := ⟨_, rfl⟩
  have EL := hid eL
  rw [eL] at hlens
  simp only [St.length] at hlens
  have hLl : (St.mk mq L1 L2).length ≤ 2000 := hlens
  clear eL
  go_enter Try.func3, Try.ntmps3
  go_wp2_with fail
  refine absW fun W hW => ?_
  obtain ⟨BA0, F0⟩ := bx_one hW
  clear hW
  refine (szTable wd0 _ _ rows0 _ _ (HX00.out.fr rdRow_mono F0) hm00 (by omega) (by omega)).mono ?_
  rintro r w0 ⟨rfl, b0⟩
  rw [ELF0.out]
  have F1 := F0.trans b0
  replace BA0 := BA0.fr b0
  have FM := F1
  clear F0 F1 b0
  obtain ⟨a00, a01, _⟩ := BA0.pair
  go_wp2_with fail
  refine (T0.out _ FM).mono ?_
  rintro r uy0 ⟨y00, rfl, hy00, buy0⟩
  have Hy00 := hid ((hy00.mono rdRow_mono (fromU_le _ _)).mono rdRow_mono (fromB_le _ _))
  clear hy00
  have Fuy0 : Fr w0 uy0 := buy0
  clear a00 a01
  go_wp2_with fail
  refine (specStatsOf wd0 _ _ rows0 _ Hy00.out l00).mono ?_
  rw [EL.out]
  intro r ws0 hpost
  obtain ⟨hpost, bws0⟩ := hpost
  obtain ⟨sA, sc, sB, sd, rfl, hsr⟩ := stS_out hpost
  dsimp only
  have BW0 := Blk.new ws0 28 #[.int .i64 mq, .slice sA L1.length sc, .slice sB L2.length sd]
  have KW : Fr ws0 (ws0.alloc (.cells #[.int .i64 mq, .slice sA L1.length sc, .slice sB L2.length sd] 28)) := (Fr.refl _).alloc _
  have HS0 := hid ((hsr.mono rdInt_mono (fromB_le _ _)).fr rdInt_mono KW)
  have Fws : Fr w0 (ws0.alloc (.cells #[.int .i64 mq, .slice sA L1.length sc, .slice sB L2.length sd] 28)) := (Fuy0.trans bws0).trans KW
  have hgw : w0.heap.size ≤ ws0.heap.size := (Fuy0.trans bws0).size
  clear Hy00 hsr hpost
  have hBA0 := (BA0.fr Fws).lt
  have FS := FM.trans Fws
  replace BA0 := BA0.fr Fws
  obtain ⟨a00, a01, _⟩ := BA0.pair
  go_wp2_with fail
  refine absW fun ws hws => ?_
  rw [← hws] at BW0 HS0 Fws hBA0 FS BA0 KW
  obtain ⟨gw, egw⟩ : ∃ g, ws0.heap.size = g := ⟨_, rfl⟩
  rw [egw] at BW0 hgw ⊢
  have hgws := BW0.lt
  have HS := HS0
  clear hws a00 a01 egw HS0 KW bws0
  clear Fuy0 buy0 Fws
  refine (T0.out _ FS).mono ?_
  rintro r k0 ⟨x00, rfl, hx00, g0⟩
  have hz0 : ws.heap.size ≤ k0.heap.size := g0.size
  have V00 := hid (hx00.mono rdRow_mono (fromU_in (hi := k0.heap.size) (Nat.le_refl _)))
  clear hx00
  have FK0 := FS.trans g0
  have K0 : Fr k0 (k0.alloc (.cells #[.int .i64 wd0, .slice (some ⟨x00, 0, none⟩) rows0.length rows0.length] 32)) := (Fr.refl _).alloc _
  have BX0 := Blk.new k0 32 #[.int .i64 wd0, .slice (some ⟨x00, 0, none⟩) rows0.length rows0.length]
  replace BA0 := BA0.fr (g0.trans K0)
  replace BW0 := BW0.fr (g0.trans K0)
  obtain ⟨d00, d01, _⟩ := BX0.pair
  go_wp2_with fail
  refine absW fun W5 hW5 => ?_
  replace K0 : Fr k0 W5 := by rw [hW5]; exact K0
  have F5 : Fr w W5 := FK0.trans K0
  rw [← hW5] at BX0 BA0 BW0
  replace V00 := hid (V00.out.mono rdRow_mono (K0.mle_in _ _))
  have E5 : Fr ws W5 := by
    exact (g0.trans K0)
  have hzl : k0.heap.size ≤ W5.heap.size := K0.size
  have hxl := BX0.lt
  clear hW5 d00 d01 g0 FK0 K0
  refine (implStatsOf wd0 _ _ rows0 _ (V00.out.mono rdRow_mono inU_cell) l00).mono ?_
  rw [EL.out]
  intro r w6' hpost
  obtain ⟨hpost, b6'⟩ := hpost
  obtain ⟨gA, gc, gB, gd, rfl, hgr, hgm, hga⟩ := stPost_out hpost
  dsimp only
  have hgl := hgm.lt
  have K6 : Fr w6' (w6'.alloc (.cells #[.int .i64 mq, .slice gA L1.length gc, .slice gB L2.length gd] 28)) := (Fr.refl _).alloc _
  have BG0 := Blk.new w6' 28 #[.int .i64 mq, .slice gA L1.length gc, .slice gB L2.length gd]
  have HG := hid (hgr.mono rdInt_mono (K6.mle_from _))
  have HMk := hid (hgm.fr K6)
  have HAt := hid hga
  have HAl := hid hgl
  have b6 : Fr W5 (w6'.alloc (.cells #[.int .i64 mq, .slice gA L1.length gc, .slice gB L2.length gd] 28)) := b6'.trans K6
  have hgb5 : W5.heap.size ≤ w6'.heap.size := b6'.size
  clear hgr hgm hga hgl hpost
  have F6 := F5.trans b6
  have E6 := E5.trans b6
  have hs6 := b6.size
  replace BX0 := BX0.fr b6
  replace BA0 := BA0.fr b6
  replace BW0 := BW0.fr b6
  replace V00 := hid (V00.out.mono rdRow_mono (b6.mle_in _ _))
  obtain ⟨e00, e01, e02, _⟩ := BG0.three
  obtain ⟨f00, f01, f02, _⟩ := BW0.three
  go_wp2_with fail
  refine absW fun w6 hw6 => ?_
  rw [← hw6] at BG0 HG HMk b6 F6 E6 hs6 BX0 BA0 BW0 V00
  obtain ⟨gb, egb⟩ : ∃ g, w6'.heap.size = g := ⟨_, rfl⟩
  rw [egb] at BG0 HAl hgb5 ⊢
  clear hw6 egb K6 b6' e00 e01 e02 f00 f01 f02
  have hgbl := BG0.lt
  refine (eqStats mq gA gB sA sB gc gd sc sd L1 L2 w6 (HG.out.mono rdInt_mono (fromB_le _ _)).r1 (HG.out.mono rdInt_mono (fromB_le _ _)).r2 (HS.out.fr rdInt_mono E6).r1 (HS.out.fr rdInt_mono E6).r2 (by unfold maxLen; omega) (by unfold maxLen; omega)).mono ?_
  rintro r w7 ⟨rfl, bw7⟩
  have F7 := F6.trans bw7
  have E7 := E6.trans bw7
  have M7 := bw7
  replace BX0 := BX0.fr bw7
  replace BA0 := BA0.fr bw7
  replace BW0 := BW0.fr bw7
  replace BG0 := BG0.fr bw7
  replace V00 := hid (V00.out.mono rdRow_mono (bw7.mle_in _ _))
  clear b6 bw7
  obtain ⟨a00, a01, _⟩ := BA0.pair
  obtain ⟨d00, d01, _⟩ := BX0.pair
  go_wp2_with fail
  have keepL : ∀ W' : World, Fr w7 W' → (Fr w7 W' ∧ W'.cell? ⟨w.heap.size, 0, none⟩ = some (.int .i64 wd0) ∧ W'.cell? ⟨w.heap.size, 1, none⟩ = some (.slice A00 rows0.length c00) ∧ W'.cell? ⟨k0.heap.size, 0, none⟩ = some (.int .i64 wd0) ∧ W'.cell? ⟨k0.heap.size, 1, none⟩ = some (.slice (some ⟨x00, 0, none⟩) rows0.length rows0.length)) := fun W' F => ⟨F, F.cell a00, F.cell a01, F.cell d00, F.cell d01⟩
  go_region_held3 (fun W' => Fr w7 W' ∧ W'.cell? ⟨w.heap.size, 0, none⟩ = some (.int .i64 wd0) ∧ W'.cell? ⟨w.heap.size, 1, none⟩ = some (.slice A00 rows0.length c00) ∧ W'.cell? ⟨k0.heap.size, 0, none⟩ = some (.int .i64 wd0) ∧ W'.cell? ⟨k0.heap.size, 1, none⟩ = some (.slice (some ⟨x00, 0, none⟩) rows0.length rows0.length)) ((refine keepL _ ?_; (repeat (first | with_reducible exact Fr.refl _ | with_reducible assumption | with_reducible refine Fr.alloc ?_ _ | with_reducible refine Fr.drew ?_ | with_reducible refine Fr.drewN ?_ _ | (with_reducible refine Fr.setNew2 ?_ ?_ _; · (simp <;> omega)) | with_reducible refine Fr.trans ?_ (by assumption))); done))
    (first
      | (go_at_call 7; with_reducible refine (T0.out _ ?_).mono ?_; (· exact F7.trans (by (repeat (first | with_reducible exact Fr.refl _ | with_reducible assumption | with_reducible refine Fr.alloc ?_ _ | with_reducible refine Fr.drew ?_ | with_reducible refine Fr.drewN ?_ _ | (with_reducible refine Fr.setNew2 ?_ ?_ _; · (simp <;> omega)) | with_reducible refine Fr.trans ?_ (by assumption))))); rintro r z0 ⟨z00, rfl, hz00, bz0⟩; have Hz00 := hid ((hz00.mono rdRow_mono (fromU_le _ _)).mono rdRow_mono (fromB_le _ _)); clear hz00; have Fz0 : Fr w7 z0 := Fr.trans (by (repeat (first | with_reducible exact Fr.refl _ | with_reducible assumption | with_reducible refine Fr.alloc ?_ _ | with_reducible refine Fr.drew ?_ | with_reducible refine Fr.drewN ?_ _ | (with_reducible refine Fr.setNew2 ?_ ?_ _; · (simp <;> omega)) | with_reducible refine Fr.trans ?_ (by assumption)))) bz0)
      | (go_at_call 10; refine (eqTable wd0 _ _ rows0 _ _ _ ((V00.out.mono rdRow_mono inU_cell).fr rdRow_mono Fz0) Hz00.out l00).mono ?_; rintro r w8 ⟨rfl, bw8⟩; have FFw8 : Fr w7 w8 := Fr.trans (by (repeat (first | with_reducible exact Fr.refl _ | with_reducible assumption | with_reducible refine Fr.alloc ?_ _ | with_reducible refine Fr.drew ?_ | with_reducible refine Fr.drewN ?_ _ | (with_reducible refine Fr.setNew2 ?_ ?_ _; · (simp <;> omega)) | with_reducible refine Fr.trans ?_ (by assumption)))) bw8)
      | fail)
  clear keepL a00 a01 d00 d01 Hz00
  replace BX0 := BX0.fr FFw8
  replace BA0 := BA0.fr FFw8
  replace BW0 := BW0.fr FFw8
  replace BG0 := BG0.fr FFw8
  replace V00 := hid (V00.out.mono rdRow_mono (FFw8.mle_in _ _))
  have F8 := F7.trans FFw8
  have E8 := E7.trans FFw8
  replace M7 := M7.trans FFw8
  clear Fz0 bz0 bw8 FFw8
  have hs7 := M7.size
  have HGb := hid (HG.out.mono rdInt_mono (M7.mle_from W5.heap.size))
  have HMb := hid (HMk.out.fr M7)
  obtain ⟨d00, d01, _⟩ := BX0.pair
  go_wp2_with fail
  refine (markTableU wd0 _ _ rows0 1 ws.heap.size k0.heap.size _ V00.out.rowsSc l00 l01 (by omega)).mono ?_
  rintro r w9 ⟨rfl, C0, _⟩
  have hsc0 := C0.size
  obtain ⟨m0, em0⟩ : ∃ k, 1 + totR rows0 * 2 = k := ⟨_, rfl⟩
  rw [em0]
  have hmk0 : m0 ≤ 10000000 := by omega
  clear em0
  clear d00 d01
  replace BA0 := BA0.chI C0 (.inr (by have := hBA0; omega))
  replace BW0 := BW0.chI C0 (.inr (by omega))
  replace BG0 := BG0.chI C0 (.inl (by omega))
  replace HGb := hid (HGb.out.mono rdInt_mono (C0.mle_from (lo := W5.heap.size) (fun k hk => by have := hk.2; omega)))
  replace HMb := hid (HMb.out.from_ (Fr.refl _) C0 (fun k hk hS => by have := HAt.out k hk; have := hS.2; omega))
  have E9 : Fr ws w9 := C0.fr (fun k hk => by have := hk.1; omega) E8
  clear C0
  have dk : decide ((m0 : Int) < 0) = false := by simp
  obtain ⟨e00, e01, e02, _⟩ := BG0.three
  obtain ⟨f00, f01, f02, _⟩ := BW0.three
  go_wp2_with fail
  refine (eqStats mq gA gB sA sB gc gd sc sd L1 L2 w9 (HGb.out.mono rdInt_mono (fromB_le _ _)).r1 (HGb.out.mono rdInt_mono (fromB_le _ _)).r2 (HS.out.fr rdInt_mono E9).r1 (HS.out.fr rdInt_mono E9).r2 (by unfold maxLen; omega) (by unfold maxLen; omega)).mono ?_
  rintro r wq ⟨rfl, bwq⟩
  replace BA0 := BA0.fr bwq
  replace BW0 := BW0.fr bwq
  replace BG0 := BG0.fr bwq
  clear e00 e01 e02 f00 f01 f02
  obtain ⟨e00, e01, e02, _⟩ := BG0.three
  go_wp2_with fail
  refine (markSt gA gB ⟨mq, L1, L2⟩ gc gd 1 _ (by omega) (by omega) (HMb.out.fr bwq)).mono ?_
  rintro r wr ⟨rfl, Cr, hR, _⟩
  have Er : Fr ws wr := Cr.fr (fun k hk => by have := HAt.out k hk; have := E5.size; omega) (E9.trans bwq)
  have HR := hid hR
  obtain ⟨m1, em1⟩ : ∃ k, 1 + (St.mk mq L1 L2).length = k := ⟨_, rfl⟩
  have EM1 := hid em1
  rw [em1]
  have dm : decide ((m1 : Int) < 0) = false := by simp
  clear hR em1 e00 e01 e02
  replace BA0 := BA0.chS Cr (fun hk => by have := HAt.out _ hk; have := hBA0; have := E5.size; omega)
  replace BW0 := BW0.chS Cr (fun hk => by have := HAt.out _ hk; have := E5.size; omega)
  replace BG0 := BG0.chS Cr (fun hk => by have := HAl.out _ hk; omega)
  clear Cr
  obtain ⟨e00, e01, e02, _⟩ := BG0.three
  go_wp2_with fail
  refine (heldSt gA gB ⟨mq, L1, L2⟩ gc gd 1 _ (by omega) (by omega) HR.out).mono ?_
  rintro r wv ⟨rfl, bv⟩
  rw [EM1.out]
  have Ev : Fr ws wv := Er.trans bv
  have FR := FS.trans Ev
  replace BA0 := BA0.fr bv
  replace BW0 := BW0.fr bv
  replace BG0 := BG0.fr bv
  have HRv := hid (HR.out.fr rdInt_mono bv)
  have dne : ((m1 : Int) == (m1 : Int)) = true := by simp
  clear HR bv e00 e01 e02
  obtain ⟨a00, a01, _⟩ := BA0.pair
  go_wp2_with fail
  refine (T0.out _ FR).mono ?_
  rintro r uv0 ⟨v00, rfl, hv00, buv0⟩
  have Hv00 := hid ((hv00.mono rdRow_mono (fromU_le _ _)).mono rdRow_mono (fromB_le _ _))
  clear hv00
  clear a00 a01
  go_wp2_with fail
  refine (implStatsOf wd0 _ _ rows0 _ Hv00.out l00).mono ?_
  rw [EL.out]
  intro r wx hpost
  obtain ⟨hpost, bwx⟩ := hpost
  obtain ⟨hA, hc, hB, hd, rfl, hhr, _⟩ := stPost_out hpost
  dsimp only
  have Fwx : Fr wv wx := buv0.trans bwx
  have BH0 := Blk.new wx 28 #[.int .i64 mq, .slice hA L1.length hc, .slice hB L2.length hd]
  have KX : Fr wx (wx.alloc (.cells #[.int .i64 mq, .slice hA L1.length hc, .slice hB L2.length hd] 28)) := (Fr.refl _).alloc _
  have HH := hid ((hhr.mono rdInt_mono (fromB_le _ _)).fr rdInt_mono KX)
  have FwX := Fwx.trans KX
  replace BW0 := BW0.fr FwX
  replace BG0 := BG0.fr FwX
  clear Hv00 hhr hpost
  obtain ⟨e00, e01, e02, _⟩ := BH0.three
  obtain ⟨f00, f01, f02, _⟩ := BW0.three
  go_wp2_with fail
  refine (eqStats mq hA hB sA sB hc hd sc sd L1 L2 _ (HH.out).r1 (HH.out).r2 (HS.out.fr rdInt_mono (Ev.trans FwX)).r1 (HS.out.fr rdInt_mono (Ev.trans FwX)).r2 (by unfold maxLen; omega) (by unfold maxLen; omega)).mono ?_
  rintro r wy ⟨rfl, bwy⟩
  replace BG0 := BG0.fr bwy
  clear e00 e01 e02 f00 f01 f02
  obtain ⟨e00, e01, e02, _⟩ := BG0.three
  go_wp2_with fail
  refine (heldSt gA gB ⟨mq, L1, L2⟩ gc gd 1 _ (by omega) (by omega) (HRv.out.fr rdInt_mono (FwX.trans bwy))).mono ?_
  rintro r wz ⟨rfl, bz⟩
  rw [EM1.out]
  go_wp2
  go_ret
  exact ⟨rfl, ((FR.trans FwX).trans bwy).trans bz⟩
end Go.Proofs.Ytlmiadeaiiehaaa
