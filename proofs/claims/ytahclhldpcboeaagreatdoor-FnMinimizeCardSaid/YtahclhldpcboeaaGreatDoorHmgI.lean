/- Walk of the program's homomorphism. -/
import Derived.Test.YtahclhldpcboeaaGreatDoorErrW
import Derived.Test.YtahclhldpcboeaaGreatDoorFrzI
namespace Go.Proofs.YtahclhldpcboeaaGreatDoor
open Go Go.RowKit

/-- What homomorphism answers: a mapping in a block of its own, or one of two errors. -/
def HgPost (w : World) (ei ea : Addr) (ok : Bool) (o : Option (List Int)) (r : Ending) (w' : World) : Prop := match ok, o with
  | true, some m' => ∃ g c cs, r = .returned (.tuple #[.slice (some ⟨g, 0, none⟩) m'.length c, .nilIface]) ∧ Blk w' g 3 cs ∧ IAt cs m' ∧ m'.length ≤ cs.size ∧ w.heap.size ≤ g
  | true, none => r = .returned (.tuple #[.slice none 0 0, noHom ea])
  | false, _ => r = .returned (.tuple #[.slice none 0 0, noHom ei])
/-- What extended answers, its block from a number on. -/
def ExdLow (base n : Nat) (ea : Addr) (o : Option (List Int)) (v e : Value) (w' : World) : Prop := match o with
  | some m' => ∃ g c cs, v = .slice (some ⟨g, 0, none⟩) n c ∧ e = .nilIface ∧ Blk w' g 3 cs ∧ IAt cs m' ∧ m'.length = n ∧ n ≤ cs.size ∧ base ≤ g
  | none => v = .slice none 0 0 ∧ e = noHom ea
theorem ExdPost.low {w w' : World} {mb n base : Nat} {ea : Addr} {o : Option (List Int)} {v e : Value} (h : ExdPost w mb n ea o (.returned (.tuple #[v, e])) w') (h1 : base ≤ mb) (h2 : base ≤ w.heap.size) : ExdLow base n ea o v e w' := by
  cases o with
  | none =>
    have h : Ending.returned (.tuple #[v, e]) = Ending.returned (.tuple #[.slice Option.none 0 0, noHom ea]) := h
    simp only [Ending.returned.injEq, Value.tuple.injEq, Array.mk.injEq, List.cons.injEq, and_true] at h
    exact h
  | some m' =>
    obtain ⟨g, c, cs, h, h3, h4, h5, h6, h7⟩ := h
    simp only [Ending.returned.injEq, Value.tuple.injEq, Array.mk.injEq, List.cons.injEq, and_true] at h
    exact ⟨g, c, cs, h.1, h.2, h3, h4, h5, h6, by omega⟩
/-- The values of a row that is being filled. -/
def Fil (w : World) (g n k : Nat) (wr : World) : Prop := ∃ cs, Blk wr g 3 cs ∧ cs.size = n ∧ (∀ i, i < k → cs[i]? = some (.int .i64 (-1))) ∧ Ch (· = g) w wr
/-- The values of a row that are raised to 0. -/
def Rai (w : World) (g sz : Nat) (m : List Int) (k : Nat) (wr : World) : Prop := ∃ cs, Blk wr g 3 cs ∧ cs.size = sz ∧ IAt cs ((m.take k).map (fun x => max x 0) ++ m.drop k) ∧ Ch (· = g) w wr
theorem rai_set {m : List Int} {k : Nat} (hk : k < m.length) : ((m.take k).map (fun x => max x 0) ++ m.drop k).set k (max m[k] 0) = (m.take (k + 1)).map (fun x => max x 0) ++ m.drop (k + 1) := by
  rw [List.drop_eq_getElem_cons hk, List.take_succ_eq_append_getElem hk, List.map_append, List.set_append_right _ _ (by simp; omega)]
  rw [show k - ((m.take k).map (fun x => max x 0)).length = 0 by simp; omega, List.set_cons_zero, List.append_assoc]
  rfl
theorem rai_at {m : List Int} {k : Nat} (hk : k < m.length) (h : k < ((m.take k).map (fun x => max x 0) ++ m.drop k).length) : ((m.take k).map (fun x => max x 0) ++ m.drop k)[k] = m[k] := by
  rw [List.getElem_append_right (by simp; omega)]
  simp [show k - min k m.length = 0 by omega]
set_option maxRecDepth 100000 in
set_option maxHeartbeats 4000000 in
theorem implHomW (q1 q2 : Int) (A0 A1 B0 B1 : Option Addr) (c0 c1 d0 d1 : Nat) (hd1 hd2 : List Int) (bd1 bd2 : List Atom) (ei ea : Addr) (w : World)
    (hx0 : RdSl rdInt w.cell? 1 A0 hd1) (hx1 : RdSl rdAtom w.cell? 3 A1 bd1) (hy0 : RdSl rdInt w.cell? 1 B0 hd2) (hy1 : RdSl rdAtom w.cell? 3 B1 bd2) (hl0 : hd1.length ≤ 1048576) (hl1 : bd1.length ≤ 1048576) (hl2 : hd2.length ≤ 1048576) (hl3 : bd2.length ≤ 1048576)
    (hc : bd1.length ≤ c1) (hc2 : c1 ≤ maxLen) (he0 : w.cell? ⟨0, 0, none⟩ = some (noHom ei)) (he1 : w.cell? ⟨1, 0, none⟩ = some (noHom ea)) :
    Calls Tryz.prog 25 #[.agg #[.int .i64 q1, .slice A0 hd1.length c0, .slice A1 bd1.length c1], .agg #[.int .i64 q2, .slice B0 hd2.length d0, .slice B1 bd2.length d1]] w fun r w' => HgPost w ei ea (vrule q1 hd1 bd1 && vrule q2 hd2 bd2) (homO q1 hd1 bd1 hd2 bd2) r w' ∧ Fr w w' := by
  have HX0 := hid hx0
  have HX1 := hid hx1
  have HY0 := hid hy0
  have HY1 := hid hy1
  clear hx0 hx1 hy0 hy1
  have B0' := (Blk.new w 26 #[.int .i64 q1, .slice A0 hd1.length c0, .slice A1 bd1.length c1]).alloc (.cells #[.int .i64 q2, .slice B0 hd2.length d0, .slice B1 bd2.length d1] 26)
  have B1' := Blk.new (w.alloc (.cells #[.int .i64 q1, .slice A0 hd1.length c0, .slice A1 bd1.length c1] 26)) 26 #[.int .i64 q2, .slice B0 hd2.length d0, .slice B1 bd2.length d1]
  rw [World.size_alloc] at B1'
  have F1 : Fr w ((w.alloc (.cells #[.int .i64 q1, .slice A0 hd1.length c0, .slice A1 bd1.length c1] 26)).alloc (.cells #[.int .i64 q2, .slice B0 hd2.length d0, .slice B1 bd2.length d1] 26)) := by (repeat (first | with_reducible exact Fr.refl _ | with_reducible assumption | with_reducible refine Fr.alloc ?_ _ | with_reducible refine Fr.drew ?_ | with_reducible refine Fr.drewN ?_ _ | (with_reducible refine Fr.setNew2 ?_ ?_ _; · (simp <;> omega)) | with_reducible refine Fr.trans ?_ (by assumption)))
  have V1 := fun W (h : Fr w W) => implValidRule q1 A0 c0 hd1 A1 c1 bd1 W (HX0.out.fr rdInt_mono h) (HX1.out.fr rdAtom_mono h) hl0 hl1
  have V2 := fun W (h : Fr w W) => implValidRule q2 B0 d0 hd2 B1 d1 bd2 W (HY0.out.fr rdInt_mono h) (HY1.out.fr rdAtom_mono h) hl2 hl3
  have HV1 := hid V1
  have HV2 := hid V2
  clear V1 V2
  go_enter Tryz.func25, Tryz.ntmps25
  go_wp2_with fail
  generalize (w.alloc (.cells #[.int .i64 q1, .slice A0 hd1.length c0, .slice A1 bd1.length c1] 26)).alloc (.cells #[.int .i64 q2, .slice B0 hd2.length d0, .slice B1 bd2.length d1] 26) = w1 at B0' B1' F1 ⊢
  refine (HV1.out w1 F1).mono ?_
  rintro _ w2 ⟨rfl, hF2⟩
  have F2 := F1.trans hF2
  replace B0' := B0'.fr hF2
  replace B1' := B1'.fr hF2
  clear hF2 F1
  cases hv1 : vrule q1 hd1 bd1
  · have RES : Hid (∀ w3, HgPost w ei ea (vrule q1 hd1 bd1 && vrule q2 hd2 bd2) (homO q1 hd1 bd1 hd2 bd2) (.returned (.tuple #[.slice none 0 0, noHom ei])) w3) := hid fun w3 => by rw [hv1]; exact rfl
    have g0 := F2.cell he0
    clear hv1
    go_wp2_with fail
    (refine wp_region_quietC (fun w' => Fr _ w') (by kernel_rfl) (by kernel_rfl) (Fr.refl _).drew ?_; (repeat go_big_quiet_step (first | exact fun _ => rfl | exact fun _ => ⟨rfl, rfl⟩ | (intro hw'; replace g0 := hw'.cell g0; go_simp; first | done | exact rfl | exact ⟨rfl, rfl⟩) )); refine wpQuiet_nil ?_; intro wq hq)
    go_wp2
    go_ret2
    exact ⟨RES.out _, F2.trans hq⟩
  obtain ⟨b0, b1, b2, _⟩ := B0'.three
  obtain ⟨e0, e1, e2, _⟩ := B1'.three
  go_wp2_with fail
  refine (HV2.out w2 F2).mono ?_
  rintro _ w3 ⟨rfl, hF3⟩
  have F3 := F2.trans hF3
  replace B0' := B0'.fr hF3
  replace B1' := B1'.fr hF3
  clear hF3 F2 b0 b1 b2 e0 e1 e2
  cases hv2 : vrule q2 hd2 bd2
  · have RES : Hid (∀ w3, HgPost w ei ea (vrule q1 hd1 bd1 && vrule q2 hd2 bd2) (homO q1 hd1 bd1 hd2 bd2) (.returned (.tuple #[.slice none 0 0, noHom ei])) w3) := hid fun w3 => by rw [hv1, hv2]; exact rfl
    have g0 := F3.cell he0
    clear hv1
    go_wp2_with fail
    (refine wp_region_quietC (fun w' => Fr _ w') (by kernel_rfl) (by kernel_rfl) (Fr.refl _).drew ?_; (repeat go_big_quiet_step (first | exact fun _ => rfl | exact fun _ => ⟨rfl, rfl⟩ | (intro hw'; replace g0 := hw'.cell g0; go_simp; first | done | exact rfl | exact ⟨rfl, rfl⟩) )); refine wpQuiet_nil ?_; intro wq hq)
    go_wp2
    go_ret2
    exact ⟨RES.out _, F3.trans hq⟩
  obtain ⟨q1a, q1b, hh6, hb1, hb6, ha1, hh1⟩ := vrule_parts hv1
  obtain ⟨q2a, q2b, hh62, hb12, hb62, ha2, hh2⟩ := vrule_parts hv2
  obtain ⟨n, rfl⟩ : ∃ n : Nat, q1 = n := ⟨q1.toNat, by omega⟩
  obtain ⟨b0, b1, b2, _⟩ := B0'.three
  have hmk := mk_row (P := Tryz.prog) 23 3 (.int .i64 0) 1 8 Tryz.underlying23 (by kernel_rfl) n (by omega) (by omega)
  have HVV := hid (show (vrule n hd1 bd1 && vrule q2 hd2 bd2) = true by rw [hv1, hv2]; rfl)
  have HA1 := hid ha1
  have HA2 := hid ha2
  have HH1 := hid hh1
  have HH2 := hid hh2
  clear hv1 hv2 ha1 ha2 hh1 hh2
  have BN : Blk (w3.alloc (.cells (madeCells #[Value.int .i64 0] n) 3)) w3.heap.size 3 (madeCells #[Value.int .i64 0] n) := Blk.new w3 3 _
  have F4 : Fr w3 (w3.alloc (.cells (madeCells #[Value.int .i64 0] n) 3)) := by (repeat (first | with_reducible exact Fr.refl _ | with_reducible assumption | with_reducible refine Fr.alloc ?_ _ | with_reducible refine Fr.drew ?_ | with_reducible refine Fr.drewN ?_ _ | (with_reducible refine Fr.setNew2 ?_ ?_ _; · (simp <;> omega)) | with_reducible refine Fr.trans ?_ (by assumption)))
  go_wp2_with fail
  have hsz4 : (madeCells #[Value.int .i64 0] n).size = n := made_size _ n
  have hw3 := F3.size
  have hw13 := B1'.lt
  generalize w3.alloc (.cells (madeCells #[Value.int .i64 0] n) 3) = w4 at BN F4 ⊢
  have FIL0 : Hid (Fil w4 w3.heap.size n 0 w4) := hid ⟨_, BN, hsz4, fun i h => absurd h (by omega), Ch.refl _⟩
  clear hsz4 BN
  replace B0' := B0'.fr F4
  replace B1' := B1'.fr F4
  replace F4 := F3.trans F4
  clear b0 b1 b2 hmk F3
  go_loopw [24] (fun t wr => ∃ k : Nat, k ≤ n ∧ t = .int .i64 k ∧ Hid (Fil w4 w3.heap.size n k wr)) (fun t _ => n - (intOf t).toNat)
  case atStart => exact ⟨0, by omega, rfl, FIL0⟩
  case round =>
    obtain ⟨k, hk, rfl, HFI⟩ := hrel
    obtain ⟨cs, hB, hs, hc', hC⟩ := HFI.out
    by_cases hlt : k < n
    · have hcell : ∃ u, wr.cell? ⟨w3.heap.size, k, none⟩ = some u := hB.cell_some (by omega)
      obtain ⟨u, hu⟩ := hcell
      have hfz := hB.frozen k
      have NX := hid (show Fil w4 w3.heap.size n (k + 1) (wr.setCell ⟨w3.heap.size, k, none⟩ (.int .i64 (-1))) from ⟨_, hB.set_ k _, by simp [hs], fun i hi => by
        rw [Array.getElem?_setIfInBounds]
        by_cases e : k = i
        · rw [if_pos e, if_pos (by omega)]
        · rw [if_neg e]; exact hc' i (by omega), hC.set (.inl rfl) _⟩)
      clear hB hc' hC
      go_wp2
      go_roundw
      case rel => exact ⟨k + 1, by omega, by go_num, NX⟩
      case measure => simp [intOf]; omega
    · obtain rfl : k = n := by omega
      clear hlt FIL0 HFI
      have FW : Fr w wr := hC.fr (fun j hj => by have : j = w3.heap.size := hj; omega) F4
      have hI0 : IAt cs (List.replicate k (-1)) := fun i hi => by
        rw [List.getElem_replicate]; exact hc' i (by simpa using hi)
      obtain ⟨m0, em0⟩ : ∃ m0 : List Int, List.replicate k (-1) = m0 := ⟨_, rfl⟩
      have hm0 : m0.length = k := by rw [← em0]; simp
      have hR0 : Rng q2 m0 := by rw [← em0]; exact rng_new (by omega) k
      rw [em0] at hI0
      have MP := mapToW w3.heap.size k cs A0 B0 c0 d0 m0 hd1 hd2 q2 wr hB hI0 (by omega) (by omega) (HX0.out.mono rdInt_mono (noB_old FW (by omega))) (HY0.out.mono rdInt_mono (noB_old FW (by omega))) (by omega) (by omega) (by rw [hm0]; exact HH1.out) hR0 HH2.out
      rw [hm0] at MP
      have b0 : wr.cell? ⟨w.heap.size, 1, none⟩ = some (.slice A0 hd1.length c0) := hC.cell (by show ¬ (w.heap.size = w3.heap.size); omega) (B0'.cell 1)
      have b1 : wr.cell? ⟨w.heap.size + 1, 1, none⟩ = some (.slice B0 hd2.length d0) := hC.cell (by show ¬ (w.heap.size + 1 = w3.heap.size); omega) (B1'.cell 1)
      clear hB hc' hI0
      go_wp2_with fail
      refine MP.mono ?_
      rintro _ w5 ⟨rfl, hC5, m5, cs5, hB5, hI5, hs5, hl5, hm5⟩
      have CC := hC.trans hC5
      have FW5 : Fr w w5 := hC5.fr (fun j hj => by have : j = w3.heap.size := hj; omega) FW
      clear MP b0 b1 hC hC5
      cases hbb : bindH hd1 hd2 m0 with
      | none =>
        have hom : homO k hd1 bd1 hd2 bd2 = none := by
          unfold homO hom1
          rw [Int.toNat_natCast, em0, hbb]; rfl
        have RES : Hid (∀ w3, HgPost w ei ea (vrule k hd1 bd1 && vrule q2 hd2 bd2) (homO k hd1 bd1 hd2 bd2) (.returned (.tuple #[.slice none 0 0, noHom ea])) w3) := hid fun w3 => by rw [HVV.out, hom]; exact rfl
        have g1 := FW5.cell he1
        clear hm5 hbb hom hB5 hI5 hs5 hl5
        go_wp2_with fail
        (refine wp_region_quietC (fun w' => Fr _ w') (by kernel_rfl) (by kernel_rfl) (Fr.refl _).drew ?_; (repeat go_big_quiet_step (first | exact fun _ => rfl | exact fun _ => ⟨rfl, rfl⟩ | (intro hw'; replace g1 := hw'.cell g1; go_simp; first | done | exact rfl | exact ⟨rfl, rfl⟩) )); refine wpQuiet_nil ?_; intro wq hq)
        go_wp2
        go_ret2
        exact ⟨RES.out _, FW5.trans hq⟩
      | some m1 =>
        obtain rfl := hm5 m1 hbb
        have hR5 : Rng q2 m5 := bindH_rng hbb hR0 HH2.out
        have b2 : w5.cell? ⟨w.heap.size, 2, none⟩ = some (.slice A1 bd1.length c1) := CC.cell (by show ¬ (w.heap.size = w3.heap.size); omega) (B0'.cell 2)
        have e2 : w5.cell? ⟨w.heap.size + 1, 2, none⟩ = some (.slice B1 bd2.length d1) := CC.cell (by show ¬ (w.heap.size + 1 = w3.heap.size); omega) (B1'.cell 2)
        have FRZ := hid (fun W (h : Fr w5 W) => frozenW (w.heap.size + 1) B1 d1 bd2 W (h.cell e2) (HY1.out.fr rdAtom_mono (FW5.trans h)) (by omega) (by omega))
        have EXD := hid (fun W (h : Fr w5 W) (F : Option Addr) (fc : Nat) (hF : RdSl rdFact W.cell? 3 F (frz bd2)) => extendedW k q2 (frz bd2) F fc ea (by omega) (by omega) (by have := frz_len bd2; omega) (frz_rng (fun a ha => (HA2.out a ha).2.2)) bd1 A1 c1 w3.heap.size k cs5 m5 W hc hc2 (hB5.fr h) hI5 (by omega) (by omega) hR5 (HX1.out.fr rdAtom_mono (FW5.trans h)) hF (fun a ha => (HA1.out a ha).2.2) ((FW5.trans h).cell he1))
        have hsz5 := hB5.lt
        have hom : homO k hd1 bd1 hd2 bd2 = ((mts bd1 (frz bd2) m5).head?).map (List.map (fun x => max x 0)) := by
          unfold homO hom1
          rw [Int.toNat_natCast, em0, hbb]; rfl
        have HOM := hid hom
        clear hm5 hbb hom hB5 hI5 hs5 hl5 hR5
        go_wp2_with fail
        have keepL : ∀ W' : World, Fr w5 W' → (Fr w5 W' ∧ W'.cell? ⟨w.heap.size, 2, none⟩ = some (.slice A1 bd1.length c1)) := fun W' F => ⟨F, F.cell b2⟩
        go_region_held3 (fun W' => Fr w5 W' ∧ W'.cell? ⟨w.heap.size, 2, none⟩ = some (.slice A1 bd1.length c1)) ((refine keepL _ ?_; (repeat (first | with_reducible exact Fr.refl _ | with_reducible assumption | with_reducible refine Fr.alloc ?_ _ | with_reducible refine Fr.drew ?_ | with_reducible refine Fr.drewN ?_ _ | (with_reducible refine Fr.setNew2 ?_ ?_ _; · (simp <;> omega)) | with_reducible refine Fr.trans ?_ (by assumption))); done))
          (first
            | (go_at_call 38; (with_reducible refine (FRZ.out _ ?_).mono ?_); (· (repeat (first | with_reducible exact Fr.refl _ | with_reducible assumption | with_reducible refine Fr.alloc ?_ _ | with_reducible refine Fr.drew ?_ | with_reducible refine Fr.drewN ?_ _ | (with_reducible refine Fr.setNew2 ?_ ?_ _; · (simp <;> omega)) | with_reducible refine Fr.trans ?_ (by assumption)))); rintro r6 w6 ⟨hp6, hF6⟩; obtain ⟨FA, fcap, rfl, hFR, _⟩ := fcPost_out hp6; have F6 : Fr w5 w6 := Fr.trans (by (repeat (first | with_reducible exact Fr.refl _ | with_reducible assumption | with_reducible refine Fr.alloc ?_ _ | with_reducible refine Fr.drew ?_ | with_reducible refine Fr.drewN ?_ _ | (with_reducible refine Fr.setNew2 ?_ ?_ _; · (simp <;> omega)) | with_reducible refine Fr.trans ?_ (by assumption)))) hF6; have HFR := hid (hFR.mono rdFact_mono (fromB_le _ _)); clear hp6 hFR)
            | (go_at_call 52; (with_reducible refine (EXD.out _ ?_ _ _ ?_).mono ?_); (· (repeat (first | with_reducible exact Fr.refl _ | with_reducible assumption | with_reducible refine Fr.alloc ?_ _ | with_reducible refine Fr.drew ?_ | with_reducible refine Fr.drewN ?_ _ | (with_reducible refine Fr.setNew2 ?_ ?_ _; · (simp <;> omega)) | with_reducible refine Fr.trans ?_ (by assumption)))); (· exact HFR.out.fr rdFact_mono (by (repeat (first | with_reducible exact Fr.refl _ | with_reducible assumption | with_reducible refine Fr.alloc ?_ _ | with_reducible refine Fr.drew ?_ | with_reducible refine Fr.drewN ?_ _ | (with_reducible refine Fr.setNew2 ?_ ?_ _; · (simp <;> omega)) | with_reducible refine Fr.trans ?_ (by assumption))))); rintro r7 w7 ⟨hp7, hF7⟩; obtain ⟨v7, e7, rfl⟩ := hp7.form; have F7 : Fr w5 w7 := Fr.trans (by (repeat (first | with_reducible exact Fr.refl _ | with_reducible assumption | with_reducible refine Fr.alloc ?_ _ | with_reducible refine Fr.drew ?_ | with_reducible refine Fr.drewN ?_ _ | (with_reducible refine Fr.setNew2 ?_ ?_ _; · (simp <;> omega)) | with_reducible refine Fr.trans ?_ (by assumption)))) hF7; have HP7 := hid (hp7.low (base := w.heap.size) (by omega) (Nat.le_trans FW5.size (Fr.size (w := w5) (by (repeat (first | with_reducible exact Fr.refl _ | with_reducible assumption | with_reducible refine Fr.alloc ?_ _ | with_reducible refine Fr.drew ?_ | with_reducible refine Fr.drewN ?_ _ | (with_reducible refine Fr.setNew2 ?_ ?_ _; · (simp <;> omega)) | with_reducible refine Fr.trans ?_ (by assumption))))))); clear hp7)
            | fail)
        have FW7 : Fr w w7 := FW5.trans F7
        clear HFR FRZ EXD keepL b2 e2
        cases hh : (mts bd1 (frz bd2) m5).head? with
        | none =>
          rw [hh] at HP7
          obtain ⟨rfl, rfl⟩ := HP7.out
          have RES : Hid (HgPost w ei ea (vrule k hd1 bd1 && vrule q2 hd2 bd2) (homO k hd1 bd1 hd2 bd2) (.returned (.tuple #[.slice none 0 0, noHom ea])) w7) := hid (by rw [HVV.out, HOM.out, hh]; exact rfl)
          clear HP7 hh
          go_wp2
          go_ret2
          exact ⟨RES.out, FW7⟩
        | some m8 =>
          rw [hh] at HP7
          obtain ⟨g, c, cs8, rfl, rfl, hB8, hI8, hl8, hs8, hg8⟩ := HP7.out
          have RA0 : Hid (Rai w7 g cs8.size m8 0 w7) := hid ⟨cs8, hB8, rfl, by simpa using hI8, Ch.refl _⟩
          have HHH := hid hh
          clear HP7 hh hB8 hI8
          go_wp2_with fail
          go_loopw [52] (fun t wr => ∃ j : Nat, j ≤ k ∧ t = .int .i64 j ∧ Hid (Rai w7 g cs8.size m8 j wr)) (fun t _ => k - (intOf t).toNat)
          case atStart => exact ⟨0, by omega, rfl, RA0⟩
          case round =>
            obtain ⟨j, hj, rfl, HRA⟩ := hrel
            obtain ⟨cs9, hB9, hs9, hI9, hC9⟩ := HRA.out
            by_cases hjl : j < k
            · have hu := hB9.cell j
              have hjm : j < ((m8.take j).map (fun x => max x 0) ++ m8.drop j).length := by simp; omega
              rw [hI9 j hjm, rai_at (by omega)] at hu
              have hfz := hB9.frozen j
              have NX := hid (show Rai w7 g cs8.size m8 (j + 1) (wr.setCell ⟨g, j, none⟩ (.int .i64 (if m8[j] < 0 then 0 else m8[j]))) from by
                rw [show (if m8[j] < 0 then 0 else m8[j]) = max m8[j] 0 by split <;> omega]
                exact ⟨_, hB9.set_ j _, by simp [hs9], by
                rw [← rai_set (by omega)]; exact hI9.set (by simp; omega), hC9.set (.inl rfl) _⟩)
              clear hB9 hI9 hC9
              go_wp2
              go_roundw
              case rel => exact ⟨j + 1, by omega, by go_num, NX⟩
              case measure => simp [intOf]; omega
            · obtain rfl : j = k := by omega
              have RES : Hid (HgPost w ei ea (vrule j hd1 bd1 && vrule q2 hd2 bd2) (homO j hd1 bd1 hd2 bd2) (.returned (.tuple #[.slice (some ⟨g, 0, none⟩) j c, .nilIface])) wr ∧ Fr w wr) := hid (by
                rw [HVV.out, HOM.out, HHH.out]
                refine ⟨⟨g, c, cs9, by simp [hl8], hB9, ?_, by simp [hl8]; omega, hg8⟩, hC9.fr (fun i hi => by have : i = g := hi; omega) FW7⟩
                rw [List.take_of_length_le (by omega), List.drop_eq_nil_of_le (by omega), List.append_nil] at hI9
                exact hI9)
              clear hB9 hI9 hC9
              go_wp2
              go_ret2
              exact RES.out
end Go.Proofs.YtahclhldpcboeaaGreatDoor
