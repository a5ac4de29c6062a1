/- Walk of extend: the state of its loop. -/
import Derived.Test.YtahclhldpcboeaaGreatDoorExtV
import Derived.Test.YtahclhldpcboeaaGreatDoorTFact
namespace Go.Proofs.YtahclhldpcboeaaGreatDoor
open Go Go.RowKit

/-- What the loop over the facts holds at fact k. -/
def XtInv (W0 : World) (C : MC) (mb vb n : Nat) (w : World) (m : List Int) (fd : List (List Int)) (mo : Nat) (fs : List Fact) (st : Fact → List (List Int)) (k : Nat) (wr : World) : Prop :=
  k ≤ fs.length ∧ MSt W0 C mb vb n wr m ((fd ++ (fs.take k).flatMap st).take mo) ∧ Kp w wr
theorem XtInv.skip {W0 : World} {C : MC} {mb vb n : Nat} {w wr : World} {m : List Int} {fd : List (List Int)} {mo : Nat} {fs : List Fact} {st : Fact → List (List Int)} {k : Nat}
    (h : XtInv W0 C mb vb n w m fd mo fs st k wr) (hk : k < fs.length) (hs : st fs[k] = []) {w' : World} (hf : Fr wr w') : XtInv W0 C mb vb n w m fd mo fs st (k + 1) w' := by
  obtain ⟨h1, h2, h3⟩ := h
  refine ⟨by omega, ?_, h3.trans (Kp.fr hf)⟩
  rw [flat_take hk, hs, List.append_nil]
  exact h2.fr hf
theorem XtInv.found {W0 : World} {C : MC} {mb vb n : Nat} {w wr w' : World} {m : List Int} {fd : List (List Int)} {mo : Nat} {fs : List Fact} {st : Fact → List (List Int)} {k : Nat} {L : List (List Int)}
    (h : XtInv W0 C mb vb n w m fd mo fs st k wr) (hk : k < fs.length) (hs : st fs[k] = L) (h' : MSt W0 C mb vb n w' m (((fd ++ (fs.take k).flatMap st).take mo ++ L).take mo)) (hp : Kp wr w') : XtInv W0 C mb vb n w m fd mo fs st (k + 1) w' := by
  obtain ⟨h1, h2, h3⟩ := h
  refine ⟨by omega, ?_, h3.trans hp⟩
  rw [flat_take hk, hs, ← List.append_assoc, ← take_app]
  exact h'
/- Walk of extend, whole. -/
/-- The matcher, the copies of the atom and of the fact, and what the callers keep. -/
def XS (W0 : World) (C : MC) (mb vb n ga gf : Nat) (ca cf : Array Value) (wr : World) (m : List Int) (fd : List (List Int)) (w : World) : Prop :=
  MSt W0 C mb vb n w m fd ∧ Blk w ga 63 ca ∧ Blk w gf 54 cf ∧ Kp wr w
section
variable {W0 : World} {C : MC} {mb vb n ga gf : Nat} {ca cf : Array Value} {wr w w' : World} {m : List Int} {fd : List (List Int)}
theorem XS.fr (h : XS W0 C mb vb n ga gf ca cf wr m fd w) (hf : Fr w w') : XS W0 C mb vb n ga gf ca cf wr m fd w' :=
  ⟨h.1.fr hf, h.2.1.fr hf, h.2.2.1.fr hf, h.2.2.2.trans (Kp.fr hf)⟩
theorem XS.put (h : XS W0 C mb vb n ga gf ca cf wr m fd w) (j : Nat) (x : Int) : XS W0 C mb vb n ga gf ca cf wr (m.set j x) fd (w.setCell ⟨vb, j, none⟩ (.int .i64 x)) := by
  obtain ⟨FV, vc, cs, rw_, h1, h2, h3, h4⟩ := h.1
  exact ⟨h.1.setV, h.2.1.far (blk_type h.2.1 h2 (by decide)) _, h.2.2.1.far (blk_type h.2.2.1 h2 (by decide)) _, h.2.2.2.trans (Kp.set h2 (by decide) (by decide))⟩
theorem XS.call {m2 : List Int} {fd' : List (List Int)} (h : XS W0 C mb vb n ga gf ca cf wr m fd w) (h1 : MSt W0 C mb vb n w' m2 fd') (h2 : Kp w w') : XS W0 C mb vb n ga gf ca cf wr m2 fd' w' :=
  ⟨h1, (h2.2 ga ca).1 h.2.1, (h2.2 gf cf).2 h.2.2.1, h.2.2.2.trans h2⟩
theorem XS.val (h : XS W0 C mb vb n ga gf ca cf wr m fd w) : ∃ vc, w.cell? ⟨mb, 2, none⟩ = some (.slice (some ⟨vb, 0, none⟩) n vc) ∧ ∀ v : Nat, v < n → w.cell? ⟨vb, v, none⟩ = some (.int .i64 (var m v)) ∧ w.frozen? ⟨vb, v, none⟩ = false := by
  obtain ⟨FA, fcap, vc, _, _, c2, _, _, hV, _⟩ := h.1.cells
  exact ⟨vc, c2, hV⟩
end
set_option maxRecDepth 100000 in
set_option maxHeartbeats 2000000 in
theorem extendW {W0 : World} {C : MC} {mb vb n : Nat} {bd : List Atom} {fs : List Fact} (mo : Nat) (hC : C.most = mo) (hmo : mo ≤ 5000) (hn : 0 < n) (hn2 : n ≤ 5000)
    (hB : RdSl rdAtom W0.cell? 3 C.B bd) (hbl : C.bl = bd.length) (hF : RdSl rdFact W0.cell? 3 C.F fs) (hfl : C.fl = fs.length) (hb6 : bd.length ≤ 1000) (hf6 : fs.length ≤ 1000)
    (hr : ∀ a ∈ bd, 0 ≤ a.x ∧ a.x < n ∧ 0 ≤ a.y ∧ a.y < n) (d : Nat) :
    ∀ (i : Nat) (w : World) (m : List Int) (fd : List (List Int)), i + d = bd.length → MSt W0 C mb vb n w m fd → fd.length ≤ mo →
    Calls Tryz.prog 58 #[.pointer (some ⟨mb, 0, none⟩), .int .i64 i] w fun r w' => r = .returned (.tuple #[]) ∧ MSt W0 C mb vb n w' m ((fd ++ mts (bd.drop i) fs m).take mo) ∧ Kp w w' := by
  induction d using Nat.strongRecOn with
  | _ d ih =>
    intro i w m fd hid' h hf
    obtain ⟨FA, fcap, vc, c0, c1, c2, c3, c4, hV, hml, hmb, hvb⟩ := h.cells
    rw [hC] at c4
    by_cases hfull : fd.length = mo
    · have RES := hid (show MSt W0 C mb vb n w m ((fd ++ mts (bd.drop i) fs m).take mo) by rw [take_full hfull]; exact h)
      have hne : ((fd.length : Int) == (mo : Int)) = true := by simp [hfull]
      clear h hV ih
      go_enter Tryz.func58, Tryz.ntmps58
      go_wp2_with fail
      go_quiet (fail)
      go_wp2
      refine bodyPost_ret (results_none rfl _ _ _) rfl ?_
      exact ⟨rfl, RES.out.fr (by (repeat (first | with_reducible exact Fr.refl _ | with_reducible assumption | with_reducible refine Fr.alloc ?_ _ | with_reducible refine Fr.drew ?_ | with_reducible refine Fr.drewN ?_ _ | (with_reducible refine Fr.setNew2 ?_ ?_ _; · (simp <;> omega)) | with_reducible refine Fr.trans ?_ (by assumption)))), Kp.fr (by (repeat (first | with_reducible exact Fr.refl _ | with_reducible assumption | with_reducible refine Fr.alloc ?_ _ | with_reducible refine Fr.drew ?_ | with_reducible refine Fr.drewN ?_ _ | (with_reducible refine Fr.setNew2 ?_ ?_ _; · (simp <;> omega)) | with_reducible refine Fr.trans ?_ (by assumption))))⟩
    · by_cases hend : d = 0
      · obtain rfl : i = C.bl := by omega
        refine (extendEnd h mo hC hmo hn hn2 (by omega)).mono ?_
        rintro r w' ⟨rfl, h1, h2⟩
        refine ⟨rfl, ?_, h2⟩
        rw [mts_end (by omega), List.take_of_length_le (by simp; omega)]
        exact h1
      · have hi : i < bd.length := by omega
        have FW : Fr W0 w := by obtain ⟨_, _, _, _, _, _, _, _, _, _, _, _, _, _, _, h12⟩ := h; exact h12
        obtain ⟨ab, ao, hA, d0, d1, d2⟩ := hB.atom hi
        rw [hA, hbl] at c0
        rw [hfl] at c1
        replace d0 := FW.cell d0
        replace d1 := FW.cell d1
        replace d2 := FW.cell d2
        obtain ⟨x1, x2, y1, y2⟩ := hr _ (List.getElem_mem hi)
        have EST := hid (mts_at hi fs m)
        have HR := hid hr
        have HF := hid hF
        have HI := hid ih
        have HM := hid h
        obtain ⟨a, ea⟩ : ∃ a, bd[i] = a := ⟨_, rfl⟩
        rw [ea] at d0 d1 d2 x1 x2 y1 y2
        obtain ⟨ar, ax, ay⟩ := a
        simp only at d0 d1 d2 x1 x2 y1 y2
        obtain ⟨xv, rfl⟩ : ∃ v : Nat, ax = v := ⟨ax.toNat, by omega⟩
        obtain ⟨yv, rfl⟩ : ∃ v : Nat, ay = v := ⟨ay.toNat, by omega⟩
        have hne : ((fd.length : Int) == (mo : Int)) = false := by simp; omega
        have hni : ((i : Int) == (bd.length : Int)) = false := by simp; omega
        clear h hV ih hr hB hF c2
        go_enter Tryz.func58, Tryz.ntmps58
        go_wp2_with fail
        go_quiet (fail)
        have FQ : Fr w (w.drewN nq) := (Fr.refl w).drewN nq
        have KQ : Kp w (w.drewN nq) := Kp.fr FQ
        replace c0 := FQ.cell c0
        replace c1 := FQ.cell c1
        replace c3 := FQ.cell c3
        replace c4 := FQ.cell c4
        replace d0 := FQ.cell d0
        replace d1 := FQ.cell d1
        replace d2 := FQ.cell d2
        have HM1 := hid (HM.out.fr FQ)
        generalize w.drewN nq = w1 at c0 c1 c3 c4 d0 d1 d2 HM1 KQ FQ ⊢
        go_wp2_with fail
        have hW1 := hid KQ.1
        have BA := Blk.new w1 63 #[.int .i64 ar, .int .i64 xv, .int .i64 yv]
        have FA1 : Fr w1 (w1.alloc (.cells #[.int .i64 ar, .int .i64 xv, .int .i64 yv] 63)) := (Fr.refl _).alloc _
        have IV0 : XtInv W0 C mb vb n w m fd mo fs (step (bd.drop (i + 1)) fs m ⟨ar, xv, yv⟩) 0 (w1.alloc (.cells #[.int .i64 ar, .int .i64 xv, .int .i64 yv] 63)) := ⟨by omega, by simp only [List.take_zero, List.flatMap_nil, List.append_nil]; rw [List.take_of_length_le (by omega)]; exact HM1.out.fr FA1, KQ.trans (Kp.fr FA1)⟩
        go_loopw [5] (fun t wr => ∃ k : Nat, t = .int .i64 k ∧ Hid (XtInv W0 C mb vb n w m fd mo fs (step (bd.drop (i + 1)) fs m ⟨ar, xv, yv⟩) k wr) ∧ Hid (Blk wr w1.heap.size 63 #[.int .i64 ar, .int .i64 xv, .int .i64 yv])) (fun t _ => fs.length - (intOf t).toNat)
        case atStart => exact ⟨0, rfl, hid IV0, hid BA⟩
        case round =>
          obtain ⟨k, rfl, INV, BK⟩ := hrel
          obtain ⟨FA2, fcap2, vc2, e0, e1, e2, e3, e4, eV, _, emb, evb⟩ := INV.out.2.1.cells
          rw [hfl] at e1
          rw [hA, hbl] at e0
          rw [hC] at e4
          have hk := INV.out.1
          by_cases hlt : k < fs.length
          · have FWr : Fr W0 wr := by obtain ⟨_, _, _, _, _, _, _, _, _, _, _, _, _, _, _, h12⟩ := INV.out.2.1; exact h12
            obtain ⟨fb, fo, hFA, f0, f1, f2⟩ := HF.out.fact hlt
            rw [hFA] at e1
            replace f0 := FWr.cell f0
            replace f1 := FWr.cell f1
            replace f2 := FWr.cell f2
            obtain ⟨f, ef⟩ : ∃ f, fs[k] = f := ⟨_, rfl⟩
            rw [ef] at f0 f1 f2
            obtain ⟨r, x, y⟩ := f
            simp only at f0 f1 f2
            have a0 := BK.out.cell 0
            have a1 := BK.out.cell 1
            have a2 := BK.out.cell 2
            have hbk := BK.out.lt
            have F2 : Fr wr (wr.alloc (.cells #[.int .i64 r, .int .i64 x, .int .i64 y] 54)) := (Fr.refl _).alloc _
            have BK2 := hid (BK.out.fr F2)
            clear eV
            by_cases hrel : r = ar
            · subst hrel
              have hne2 : (r == r) = true := by simp
              have HX := hid (INV.out.2.1.fr F2)
              go_wp2_with fail
              refine (fitsW HX.out xv x (by omega)).mono ?_
              rintro _ _ ⟨rfl, rfl⟩
              cases hfx : fitV ((m)) xv x
              · have RES := hid (INV.out.skip hlt (by rw [ef]; exact step_none (by unfold fit; rw [if_neg (fun h => by rw [hfx] at h; exact absurd h.2 (by simp))])) F2)
                clear hfx
                go_wp2
                go_roundw
                case rel => exact ⟨k + 1, by go_num, RES, BK2⟩
                case measure => simp [intOf]; omega
              · have X0 : XS W0 C mb vb n w1.heap.size wr.heap.size #[.int .i64 r, .int .i64 xv, .int .i64 yv] #[.int .i64 r, .int .i64 x, .int .i64 y] wr m ((fd ++ (fs.take k).flatMap (step (bd.drop (i + 1)) fs m ⟨r, xv, yv⟩)).take mo) (wr.alloc (.cells #[.int .i64 r, .int .i64 x, .int .i64 y] 54)) :=
                  ⟨HX.out, BK2.out, Blk.new wr 54 #[.int .i64 r, .int .i64 x, .int .i64 y], Kp.fr F2⟩
                have HX0 := hid X0
                obtain ⟨L, eL⟩ : ∃ L, (fd ++ (fs.take k).flatMap (step (bd.drop (i + 1)) fs m ⟨r, xv, yv⟩)).take mo = L := ⟨_, rfl⟩
                rw [eL] at HX0
                clear HX BK2 BK f0 f1 f2 a0 a1 a2 F2 FWr e0 e1 e2 e3 e4 X0
                generalize wr.alloc (.cells #[.int .i64 r, .int .i64 x, .int .i64 y] 54) = w2 at HX0 ⊢
                obtain ⟨vc3, p2, pV⟩ := HX0.out.val
                obtain ⟨v1, v1f⟩ := pV xv (by omega)
                have a1 := HX0.out.2.1.cell 1
                clear pV
                go_wp2_with fail
                go_quiet (fail)
                have HX1 := hid (HX0.out.fr ((Fr.refl w2).drewN nq))
                clear HX0 p2 v1 v1f a1
                generalize w2.drewN nq = w3 at HX1 ⊢
                obtain ⟨vc4, p2, pV⟩ := HX1.out.val
                obtain ⟨v1, v1f⟩ := pV xv (by omega)
                have a1 := HX1.out.2.1.cell 1
                have b1 := HX1.out.2.2.1.cell 1
                clear pV
                go_wp2_with fail
                go_region
                have HX2 := hid ((HX1.out.put xv x).fr (Fr.refl _).drew)
                clear HX1 p2 v1 v1f a1 b1
                generalize (w3.setCell ⟨vb, xv, none⟩ (.int .i64 x)).drew = w4 at HX2 ⊢
                have a2 := HX2.out.2.1.cell 2
                have b2 := HX2.out.2.2.1.cell 2
                go_wp2_with fail
                refine (fitsW HX2.out.1 yv y (by omega)).mono ?_
                rintro _ _ ⟨rfl, rfl⟩
                cases hfy : fitV (m.set xv x) yv y
                · obtain ⟨vc5, p2, pV⟩ := HX2.out.val
                  obtain ⟨v1, v1f⟩ := pV xv (by omega)
                  have a1 := HX2.out.2.1.cell 1
                  clear pV a2 b2
                  go_wp2_with fail
                  go_region
                  have HX3 := hid ((HX2.out.put xv (var m xv)).fr (Fr.refl _).drew)
                  clear HX2 p2 v1 v1f a1
                  generalize (w4.setCell ⟨vb, xv, none⟩ (.int .i64 (var m xv))).drew = w5 at HX3 ⊢
                  have hback : (m.set xv x).set xv (var m xv) = m := putV_back (v := xv) (by omega) (by omega)
                  rw [hback] at HX3
                  have hst : step (bd.drop (i + 1)) fs m ⟨r, xv, yv⟩ fs[k] = [] := by
                    rw [ef]; exact step_none (by
                      unfold fit
                      rw [if_pos ⟨rfl, hfx⟩, if_neg]
                      show ¬ fitV (m.set (xv : Int).toNat x) yv y = true
                      rw [Int.toNat_natCast, hfy]; simp)
                  have RES : Hid (XtInv W0 C mb vb n w m fd mo fs (step (bd.drop (i + 1)) fs m ⟨r, xv, yv⟩) (k + 1) w5) := hid (INV.out.found hlt hst (by rw [List.append_nil, List.take_take, Nat.min_self, eL]; exact HX3.out.1) HX3.out.2.2.2)
                  have BK2 := hid HX3.out.2.1
                  clear hfx hfy hst hback HX3 INV
                  go_wp2
                  go_roundw
                  case rel => exact ⟨k + 1, by go_num, RES, BK2⟩
                  case measure => simp [intOf]; omega
                · obtain ⟨vc5, p2, pV⟩ := HX2.out.val
                  obtain ⟨v1, v1f⟩ := pV yv (by omega)
                  clear pV b2
                  go_wp2_with fail
                  go_quiet (fail)
                  have HX3 := hid (HX2.out.fr ((Fr.refl w4).drewN nq))
                  clear HX2 p2 v1 v1f a2
                  generalize w4.drewN nq = w5 at HX3 ⊢
                  obtain ⟨vc6, p2, pV⟩ := HX3.out.val
                  obtain ⟨v1, v1f⟩ := pV yv (by omega)
                  have a2 := HX3.out.2.1.cell 2
                  have b2 := HX3.out.2.2.1.cell 2
                  clear pV
                  go_wp2_with fail
                  go_region
                  have HX4 := hid ((HX3.out.put yv y).fr (Fr.refl _).drew)
                  clear HX3 p2 v1 v1f a2 b2
                  generalize (w5.setCell ⟨vb, yv, none⟩ (.int .i64 y)).drew = w6 at HX4 ⊢
                  have CALL := HI.out (d - 1) (by omega) (i + 1) w6 ((m.set xv x).set yv y) L (by omega) HX4.out.1 (by rw [← eL]; simp; omega)
                  go_wp2_with fail
                  refine CALL.mono ?_
                  rintro _ w7 ⟨rfl, hM7, hK7⟩
                  have HX5 := hid (HX4.out.call hM7 hK7)
                  clear HX4 hM7 hK7 CALL
                  obtain ⟨vc7, p2, pV⟩ := HX5.out.val
                  obtain ⟨v1, v1f⟩ := pV yv (by omega)
                  have a2 := HX5.out.2.1.cell 2
                  clear pV
                  go_wp2_with fail
                  go_region
                  have HX6 := hid ((HX5.out.put yv (var (m.set xv x) yv)).fr (Fr.refl _).drew)
                  clear HX5 p2 v1 v1f a2
                  generalize (w7.setCell ⟨vb, yv, none⟩ (.int .i64 (var (m.set xv x) yv))).drew = w8 at HX6 ⊢
                  have hback : ((m.set xv x).set yv y).set yv (var (m.set xv x) yv) = m.set xv x := putV_back (v := yv) (by omega) (by simp; omega)
                  rw [hback] at HX6
                  obtain ⟨vc8, p2, pV⟩ := HX6.out.val
                  obtain ⟨v1, v1f⟩ := pV xv (by omega)
                  have a1 := HX6.out.2.1.cell 1
                  clear pV hback
                  go_wp2_with fail
                  go_region
                  have HX7 := hid ((HX6.out.put xv (var m xv)).fr (Fr.refl _).drew)
                  clear HX6 p2 v1 v1f a1
                  generalize (w8.setCell ⟨vb, xv, none⟩ (.int .i64 (var m xv))).drew = w9 at HX7 ⊢
                  have hback : (m.set xv x).set xv (var m xv) = m := putV_back (v := xv) (by omega) (by omega)
                  rw [hback] at HX7
                  have hst : step (bd.drop (i + 1)) fs m ⟨r, xv, yv⟩ fs[k] = mts (bd.drop (i + 1)) fs ((m.set xv x).set yv y) := by
                    rw [ef]; exact step_some (by
                      unfold fit
                      rw [if_pos ⟨rfl, hfx⟩, if_pos]
                      · show some ((m.set (xv : Int).toNat x).set (yv : Int).toNat y) = _
                        rw [Int.toNat_natCast, Int.toNat_natCast]
                      · show fitV (m.set (xv : Int).toNat x) yv y = true
                        rw [Int.toNat_natCast, hfy])
                  have RES : Hid (XtInv W0 C mb vb n w m fd mo fs (step (bd.drop (i + 1)) fs m ⟨r, xv, yv⟩) (k + 1) w9) := hid (INV.out.found hlt hst (by rw [eL]; exact HX7.out.1) HX7.out.2.2.2)
                  have BK2 := hid HX7.out.2.1
                  clear hfx hfy hst hback HX7 INV
                  go_wp2
                  go_roundw
                  case rel => exact ⟨k + 1, by go_num, RES, BK2⟩
                  case measure => simp [intOf]; omega
            · have hne2 : (r == ar) = false := by simpa using hrel
              have RES := hid (INV.out.skip hlt (by rw [ef]; exact step_none (by unfold fit; rw [if_neg (fun h => hrel h.1)])) F2)
              go_wp2
              go_roundw
              case rel => exact ⟨k + 1, by go_num, RES, BK2⟩
              case measure => simp [intOf]; omega
          · obtain rfl : k = fs.length := by omega
            have hkl : decide ((fs.length : Int) < (fs.length : Int)) = false := by simp
            have RES := hid (show MSt W0 C mb vb n wr m ((fd ++ mts (bd.drop i) fs m).take mo) ∧ Kp w wr by
              rw [EST.out, ea]
              have h := INV.out.2
              rw [List.take_length] at h
              exact h)
            clear eV INV
            go_wp2
            go_end0
            exact ⟨rfl, RES.out⟩
/-- A matcher whose values are being made. -/
def MkV (W0 : World) (C : MC) (mb k : Nat) (wr : World) : Prop := ∃ V, Blk wr mb 83 #[.slice C.B C.bl C.bc, .slice C.F C.fl C.fc, V, .slice none 0 0, .int .i64 C.most] ∧ wr.ownsRow W0.heap.size 3 1 V k (List.replicate k (.int .i64 (-1))) ∧ W0.heap.size ≤ mb ∧ Fr W0 wr
theorem MkV.parts {W0 : World} {C : MC} {mb k : Nat} {wr : World} (h : MkV W0 C mb k wr) : ∃ A cap, wr.cell? ⟨mb, 2, none⟩ = some (.slice A k cap) ∧ wr.ownsRow W0.heap.size 3 1 (.slice A k cap) k (List.replicate k (.int .i64 (-1))) ∧ W0.heap.size ≤ wr.heap.size ∧ mb < wr.heap.size ∧ Fr W0 wr ∧
    ∀ w' v5 w5, Fr wr w' → w5.ownsRow W0.heap.size 3 1 v5 (k + 1) (List.replicate k (.int .i64 (-1)) ++ [.int .i64 (-1)]) → w'.grownBy w5 (Value.slice A k cap).ownBlock → w5.frozen? ⟨mb, 2, none⟩ = false ∧ (∃ u, w5.cell? ⟨mb, 2, none⟩ = some u) ∧ MkV W0 C mb (k + 1) (w5.setCell ⟨mb, 2, none⟩ v5) := by
  obtain ⟨V, hB, hO, hm, hF⟩ := h
  obtain ⟨A, cap, rfl⟩ := own_form hO
  refine ⟨A, cap, hB.cell 2, hO, hF.size, hB.lt, hF, fun w' v5 w5 hf h5 hg => ?_⟩
  have hO' := own_fr hO hf
  have B5 := mst_grown (hB.fr hf) hg (mrow_ne hO' (hB.fr hf) (by decide))
  have FW : Fr W0 w5 := Fr.grown (hF.trans hf) hg hO'
  refine ⟨B5.frozen 2, B5.cell_some (by simp), v5, by simpa using B5.set_ 2 v5, ?_, hm, FW.setNew hm _⟩
  rw [List.replicate_succ']
  exact mrow_set h5 (mrow_ne h5 B5 (by decide))
/-- Its values made, it is a matcher. -/
theorem MkV.mst {W0 : World} {C : MC} {mb n : Nat} {wr : World} (h : MkV W0 C mb n wr) (hn : 0 < n) : ∃ vb, MSt W0 C mb vb n wr (List.replicate n (-1)) [] := by
  obtain ⟨V, hB, hO, hm, hF⟩ := h
  rcases hO.2 with ⟨_, h0⟩ | ⟨g, cap, cur, rfl, hbg, hh, hnc, _, hs, ht⟩
  · omega
  · refine ⟨g, .slice none 0 0, cap, cur, [], hB, hh, fun i hi => ?_, by simp, by omega, hnc, own_nil, rfl, fun i h => absurd h (by simp), hbg, hm, hF⟩
    simp only [List.length_replicate] at hi
    rw [List.getElem_replicate]
    have h1 : (cur.toList.take (n * 1))[i]? = (List.replicate n (Value.int .i64 (-1)))[i]? := by rw [ht]
    rw [List.getElem?_take_of_lt (by omega), Array.getElem?_toList, List.getElem?_replicate, if_pos hi] at h1
    exact h1
theorem IAt.size {cs : Array Value} {m : List Int} (h : IAt cs m) : m.length ≤ cs.size := by
  rcases Nat.eq_zero_or_pos m.length with h0 | h0
  · omega
  · have h1 := h (m.length - 1) (by omega)
    have := (Array.getElem?_eq_some_iff.1 h1).1
    omega
theorem MSt.fr0 {W0 : World} {C : MC} {mb vb n : Nat} {w : World} {m : List Int} {fd : List (List Int)} (h : MSt W0 C mb vb n w m fd) : Fr W0 w := by
  obtain ⟨_, _, _, _, _, _, _, _, _, _, _, _, _, _, _, h12⟩ := h; exact h12
end Go.Proofs.YtahclhldpcboeaaGreatDoor
