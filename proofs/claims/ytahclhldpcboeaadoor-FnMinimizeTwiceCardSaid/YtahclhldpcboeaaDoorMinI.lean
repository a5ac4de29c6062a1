/- Walk of the program's Minimize. -/
import Derived.Test.YtahclhldpcboeaaDoorRedU
namespace Go.Proofs.YtahclhldpcboeaaDoor
open Go Go.RowKit

/-- The atoms that are left. -/
def minB (q : Int) (hd : List Int) (bd : List Atom) : List Atom := mini q hd bd.length bd
theorem minB_stop {q : Int} {hd : List Int} {bd : List Atom} (h : red q hd bd < 0) : minB q hd bd = bd := mini_stop h
theorem minB_step {q : Int} {hd : List Int} {bd : List Atom} {j : Nat} (h : red q hd bd = j) (hj : j < bd.length) : minB q hd bd = minB q hd (lessA bd j) := by
  unfold minB
  rw [← lessA_len hj, mini_step h]
theorem red_valid {q : Int} {hd : List Int} {bd : List Atom} {j : Nat} (h : red q hd bd = j) : j < bd.length ∧ vrule q hd (lessA bd j) = true := by
  rcases red_out (q := q) (hd := hd) (bd := bd) with h1 | ⟨i, h1, h2, h3⟩
  · omega
  · obtain rfl : i = j := by omega
    unfold redAt at h3
    rw [Bool.and_eq_true] at h3
    exact ⟨h2, h3.1⟩
/-- What Minimize answers. -/
def minR (q : Int) (hd : List Int) (bd : List Atom) : Int × List Int × List Atom := if vrule q hd bd then (q, hd, minB q hd bd) else (0, [], [])
/-- The query that is being minimized lies in block g. -/
def MnAt (w0 : World) (g : Nat) (q : Int) (hd : List Int) (L : List Atom) (wr : World) (bd : List Atom) : Prop :=
  ∃ A c B d, Blk wr g 30 #[.int .i64 q, .slice A hd.length c, .slice B bd.length d] ∧ wr.ownsRow w0.heap.size 3 1 (.slice A hd.length c) hd.length (hd.map iv) ∧ wr.ownsRow w0.heap.size 64 3 (.slice B bd.length d) bd.length (bd.flatMap cellsA) ∧
    vrule q hd bd = true ∧ minB q hd bd = L ∧ Fr w0 wr ∧ w0.heap.size ≤ g
theorem MnAt.next {w0 wr w' : World} {g j : Nat} {q : Int} {hd : List Int} {L bd : List Atom} {r : Ending} (h : MnAt w0 g q hd L wr bd) (hr : red q hd bd = j) (ho : RulOut wr.heap.size q hd (lessA bd j) r w') (hf : Fr wr w') :
    ∃ A c B d, r = .returned (.agg #[.int .i64 q, .slice A hd.length c, .slice B (lessA bd j).length d]) ∧ MnAt w0 g q hd L (((w'.setCell ⟨g, 0, none⟩ (.int .i64 q)).setCell ⟨g, 1, none⟩ (.slice A hd.length c)).setCell ⟨g, 2, none⟩ (.slice B (lessA bd j).length d)) (lessA bd j) ∧ (∃ a b c, Blk w' g 30 #[a, b, c]) := by
  obtain ⟨A0, c0, B0, d0, hB, _, _, hv, hm, hF, hg⟩ := h
  obtain ⟨A, c, B, d, rfl, h1, h2⟩ := ho
  have BG := hB.fr hf
  have e1 := mrow_ne h1 BG (by decide)
  have e2 := mrow_ne h2 BG (by decide)
  have hs := hF.size
  refine ⟨A, c, B, d, rfl, ⟨A, c, B, d, ?_, own_base (mrow_set (mrow_set (mrow_set h1 e1) e1) e1) hs, own_base (mrow_set (mrow_set (mrow_set h2 e2) e2) e2) hs, (red_valid hr).2, ?_, ?_, hg⟩, _, _, _, BG⟩
  · have := ((BG.set_ 0 (.int .i64 q)).set_ 1 (.slice A hd.length c)).set_ 2 (.slice B (lessA bd j).length d)
    simpa using this
  · rw [← minB_step hr (red_valid hr).1]; exact hm
  · exact (((hF.trans hf).setNew hg _).setNew hg _).setNew hg _
theorem MnAt.frM {w0 wr w' : World} {g : Nat} {q : Int} {hd : List Int} {L bd : List Atom} (h : MnAt w0 g q hd L wr bd) (hf : Fr wr w') : MnAt w0 g q hd L w' bd := by
  obtain ⟨A, c, B, d, h1, h2, h3, h4, h5, h6, h7⟩ := h
  exact ⟨A, c, B, d, h1.fr hf, own_fr h2 hf, own_fr h3 hf, h4, h5, h6.trans hf, h7⟩
/-- The number of atoms in block g. -/
def lenAt (g : Nat) (w : World) : Nat := match w.cell? ⟨g, 2, none⟩ with
  | some (.slice _ n _) => n
  | _ => 0
theorem MnAt.len {w0 wr : World} {g : Nat} {q : Int} {hd : List Int} {L bd : List Atom} (h : MnAt w0 g q hd L wr bd) : lenAt g wr = bd.length := by
  obtain ⟨A0, c0, B0, d0, hB, _⟩ := h
  unfold lenAt
  rw [hB.cell]; rfl
/-- What a walk reads. -/
theorem MnAt.cells {w0 wr : World} {g : Nat} {q : Int} {hd : List Int} {L bd : List Atom} (h : MnAt w0 g q hd L wr bd) : ∃ A c B d, Blk wr g 30 #[.int .i64 q, .slice A hd.length c, .slice B bd.length d] ∧ RdSl rdInt wr.cell? 1 A hd ∧ RdSl rdAtom wr.cell? 3 B bd ∧ bd.length ≤ d ∧ d ≤ maxLen ∧ (A = none → c = 0) ∧
    RulOut w0.heap.size q hd bd (.returned (.agg #[.int .i64 q, .slice A hd.length c, .slice B bd.length d])) wr := by
  obtain ⟨A, c, B, d, hB, h1, h2, _⟩ := h
  have ho : RulOut w0.heap.size q hd bd (.returned (.agg #[.int .i64 q, .slice A hd.length c, .slice B bd.length d])) wr := ⟨A, c, B, d, rfl, h1, h2⟩
  have := ho.rdN
  obtain ⟨A', c', B', d', e, k1, k2, k3, k4, k5⟩ := ho.rdN
  simp only [Ending.returned.injEq, Value.agg.injEq, Array.mk.injEq, List.cons.injEq, Value.slice.injEq, and_true, true_and] at e
  obtain ⟨⟨rfl, rfl⟩, rfl, rfl⟩ := e
  exact ⟨A, c, B, d, hB, k1, k2, k3, k4, k5, ho⟩
theorem RulOut.frR {b0 b1 : Nat} {w w' : World} {q : Int} {hd : List Int} {bd : List Atom} {r : Ending} (h : RulOut b1 q hd bd r w) (hf : Fr w w') (hb : b0 ≤ b1) : RulOut b0 q hd bd r w' := by
  obtain ⟨A, c, B, d, h1, h2, h3⟩ := h
  exact ⟨A, c, B, d, h1, own_base (own_fr h2 hf) hb, own_base (own_fr h3 hf) hb⟩
theorem RulOut.lowR {b0 b1 : Nat} {w : World} {q : Int} {hd : List Int} {bd : List Atom} {r : Ending} (h : RulOut b1 q hd bd r w) (hb : b0 ≤ b1) : RulOut b0 q hd bd r w := h.frR (Fr.refl w) hb
theorem RulOut.put3 {b0 g : Nat} {w : World} {q : Int} {hd : List Int} {bd : List Atom} {r : Ending} {cs : Array Value} (h : RulOut b0 q hd bd r w) (hB : Blk w g 30 cs) {x y z : Value} : RulOut b0 q hd bd r (((w.setCell ⟨g, 0, none⟩ x).setCell ⟨g, 1, none⟩ y).setCell ⟨g, 2, none⟩ z) := by
  obtain ⟨A, c, B, d, h1, h2, h3⟩ := h
  have e1 := mrow_ne h2 hB (by decide)
  have e2 := mrow_ne h3 hB (by decide)
  exact ⟨A, c, B, d, h1, mrow_set (mrow_set (mrow_set h2 e1) e1) e1, mrow_set (mrow_set (mrow_set h3 e2) e2) e2⟩
set_option maxRecDepth 100000 in
set_option maxHeartbeats 4000000 in
theorem implMinimize (q : Int) (A0 A1 : Option Addr) (c0 c1 : Nat) (hd : List Int) (bd : List Atom) (ei ea : Addr) (w : World) (hx0 : RdSl rdInt w.cell? 1 A0 hd) (hx1 : RdSl rdAtom w.cell? 3 A1 bd) (hl0 : hd.length ≤ 1048576) (hl1 : bd.length ≤ 1048576)
    (he0 : w.cell? ⟨0, 0, none⟩ = some (noHom ei)) (he1 : w.cell? ⟨1, 0, none⟩ = some (noHom ea)) :
    Calls Tryd.prog 25 #[.agg #[.int .i64 q, .slice A0 hd.length c0, .slice A1 bd.length c1]] w fun r w' => RulOut w.heap.size (minR q hd bd).1 (minR q hd bd).2.1 (minR q hd bd).2.2 r w' ∧ Fr w w' := by
  have B0' := (Blk.new w 30 #[.int .i64 q, .slice A0 hd.length c0, .slice A1 bd.length c1]).alloc (.cells #[.int .i64 0, .slice none 0 0, .slice none 0 0] 30)
  have B1' := Blk.new (w.alloc (.cells #[.int .i64 q, .slice A0 hd.length c0, .slice A1 bd.length c1] 30)) 30 #[.int .i64 0, .slice none 0 0, .slice none 0 0]
  rw [World.size_alloc] at B1'
  have F1 : Fr w ((w.alloc (.cells #[.int .i64 q, .slice A0 hd.length c0, .slice A1 bd.length c1] 30)).alloc (.cells #[.int .i64 0, .slice none 0 0, .slice none 0 0] 30)) := by (repeat (first | with_reducible exact Fr.refl _ | with_reducible assumption | with_reducible refine Fr.alloc ?_ _ | with_reducible refine Fr.drew ?_ | with_reducible refine Fr.drewN ?_ _ | (with_reducible refine Fr.setNew2 ?_ ?_ _; · (simp <;> omega)) | with_reducible refine Fr.trans ?_ (by assumption)))
  have VR := hid (fun W (h : Fr w W) => implValidRule q A0 c0 hd A1 c1 bd W (hx0.fr rdInt_mono h) (hx1.fr rdAtom_mono h) hl0 hl1)
  have C0 := hid (fun W (h : Fr w W) => copiedIntsO A0 c0 hd W (hx0.fr rdInt_mono h) hl0)
  have C1 := hid (fun W (h : Fr w W) => copiedAtoms A1 c1 bd W (hx1.fr rdAtom_mono h) hl1)
  clear hx0 hx1
  go_enter Tryd.func25, Tryd.ntmps25
  go_wp2_with fail
  generalize (w.alloc (.cells #[.int .i64 q, .slice A0 hd.length c0, .slice A1 bd.length c1] 30)).alloc (.cells #[.int .i64 0, .slice none 0 0, .slice none 0 0] 30) = w1 at B0' B1' F1 ⊢
  refine (VR.out w1 F1).mono ?_
  rintro _ w2 ⟨rfl, hF2⟩
  have F2 := F1.trans hF2
  replace B0' := B0'.fr hF2
  replace B1' := B1'.fr hF2
  obtain ⟨z0, z1, z2, zf0, zf1, zf2⟩ := B1'.three
  cases hv : vrule q hd bd
  · have RES : Hid (∀ W, RulOut w.heap.size (minR q hd bd).1 (minR q hd bd).2.1 (minR q hd bd).2.2 (.returned (.agg #[.int .i64 0, .slice none 0 0, .slice none 0 0])) W) := hid fun W => by
      unfold minR; rw [hv]; exact ⟨none, 0, none, 0, rfl, own_nil, own_nil⟩
    have FE : Fr w (((w2.setCell ⟨w.heap.size + 1, 0, none⟩ (.int .i64 0)).setCell ⟨w.heap.size + 1, 1, none⟩ (.slice none 0 0)).setCell ⟨w.heap.size + 1, 2, none⟩ (.slice none 0 0)) := ((F2.setNew (Nat.le_succ _) _).setNew (Nat.le_succ _) _).setNew (Nat.le_succ _) _
    have BE := ((B1'.set_ 0 (.int .i64 0)).set_ 1 (.slice none 0 0)).set_ 2 (.slice none 0 0)
    clear hv B0'
    go_wp2
    obtain ⟨u0, u1, u2, _⟩ := BE.three
    clear BE z0 z1 z2 zf0 zf1 zf2 B1'
    generalize ((w2.setCell ⟨w.heap.size + 1, 0, none⟩ (.int .i64 0)).setCell ⟨w.heap.size + 1, 1, none⟩ (.slice none 0 0)).setCell ⟨w.heap.size + 1, 2, none⟩ (.slice none 0 0) = w9 at FE u0 u1 u2 ⊢
    refine bodyPost_ret (v := .agg #[.int .i64 0, .slice none 0 0, .slice none 0 0]) (by simp [results, Tryd.results25, go_sem, u0, u1, u2]) rfl ?_
    exact ⟨RES.out _, FE⟩
  · obtain ⟨lh, lb, lb1⟩ := vrule_lens hv
    obtain ⟨b0, b1, b2, _⟩ := B0'.three
    have hw2 := F2.size
    have hlt2 := B1'.lt
    have MIN := hid (show minR q hd bd = (q, hd, minB q hd bd) by unfold minR; rw [hv]; rfl)
    have HV := hid hv
    clear hv VR z0 z1 z2 zf0 zf1 zf2
    go_wp2_with fail
    have keepL : ∀ W' : World, Fr w2 W' → (Fr w2 W' ∧ W'.cell? ⟨w.heap.size, 0, none⟩ = some (.int .i64 q) ∧ W'.cell? ⟨w.heap.size, 1, none⟩ = some (.slice A0 hd.length c0) ∧ W'.cell? ⟨w.heap.size, 2, none⟩ = some (.slice A1 bd.length c1)) := fun W' F => ⟨F, F.cell b0, F.cell b1, F.cell b2⟩
    go_region_held3 (fun W' => Fr w2 W' ∧ W'.cell? ⟨w.heap.size, 0, none⟩ = some (.int .i64 q) ∧ W'.cell? ⟨w.heap.size, 1, none⟩ = some (.slice A0 hd.length c0) ∧ W'.cell? ⟨w.heap.size, 2, none⟩ = some (.slice A1 bd.length c1)) ((refine keepL _ ?_; (repeat (first | with_reducible exact Fr.refl _ | with_reducible assumption | with_reducible refine Fr.alloc ?_ _ | with_reducible refine Fr.drew ?_ | with_reducible refine Fr.drewN ?_ _ | (with_reducible refine Fr.setNew2 ?_ ?_ _; · (simp <;> omega)) | with_reducible refine Fr.trans ?_ (by assumption))); done))
      (first
        | (go_at_call 49; (with_reducible refine (C0.out _ ?_).mono ?_); (· exact F2.trans (by (repeat (first | with_reducible exact Fr.refl _ | with_reducible assumption | with_reducible refine Fr.alloc ?_ _ | with_reducible refine Fr.drew ?_ | with_reducible refine Fr.drewN ?_ _ | (with_reducible refine Fr.setNew2 ?_ ?_ _; · (simp <;> omega)) | with_reducible refine Fr.trans ?_ (by assumption))))); rintro r5 w5 ⟨A5, k5, rfl, hO5, hF5⟩; have F5 : Fr w2 w5 := Fr.trans (by (repeat (first | with_reducible exact Fr.refl _ | with_reducible assumption | with_reducible refine Fr.alloc ?_ _ | with_reducible refine Fr.drew ?_ | with_reducible refine Fr.drewN ?_ _ | (with_reducible refine Fr.setNew2 ?_ ?_ _; · (simp <;> omega)) | with_reducible refine Fr.trans ?_ (by assumption)))) hF5; have HO5 := hid (own_base hO5 (show w2.heap.size ≤ _ from Fr.size (w := w2) (by (repeat (first | with_reducible exact Fr.refl _ | with_reducible assumption | with_reducible refine Fr.alloc ?_ _ | with_reducible refine Fr.drew ?_ | with_reducible refine Fr.drewN ?_ _ | (with_reducible refine Fr.setNew2 ?_ ?_ _; · (simp <;> omega)) | with_reducible refine Fr.trans ?_ (by assumption)))))); have hs5 := F5.size; clear hO5; (first | (have BG := (Blk.new w2 30 #[.int .i64 0, .slice none 0 0, .slice none 0 0]).drew.fr hF5; obtain ⟨g0, g1, g2, gf0, gf1, gf2⟩ := BG.three) | (have BG := (Blk.new w2 30 #[.int .i64 0, .slice none 0 0, .slice none 0 0]).fr hF5; obtain ⟨g0, g1, g2, gf0, gf1, gf2⟩ := BG.three) | skip))
        | (go_at_call 50; (with_reducible refine (C1.out _ ?_).mono ?_); (· exact F2.trans (by (repeat (first | with_reducible exact Fr.refl _ | with_reducible assumption | with_reducible refine Fr.alloc ?_ _ | with_reducible refine Fr.drew ?_ | with_reducible refine Fr.drewN ?_ _ | (with_reducible refine Fr.setNew2 ?_ ?_ _; · (simp <;> omega)) | with_reducible refine Fr.trans ?_ (by assumption))))); rintro r6 w6 ⟨A6, k6, rfl, hO6, hF6⟩; have F6 : Fr w2 w6 := Fr.trans (by (repeat (first | with_reducible exact Fr.refl _ | with_reducible assumption | with_reducible refine Fr.alloc ?_ _ | with_reducible refine Fr.drew ?_ | with_reducible refine Fr.drewN ?_ _ | (with_reducible refine Fr.setNew2 ?_ ?_ _; · (simp <;> omega)) | with_reducible refine Fr.trans ?_ (by assumption)))) hF6; have G6 : Fr w5 w6 := Fr.trans (by (repeat (first | with_reducible exact Fr.refl _ | with_reducible assumption | with_reducible refine Fr.alloc ?_ _ | with_reducible refine Fr.drew ?_ | with_reducible refine Fr.drewN ?_ _ | (with_reducible refine Fr.setNew2 ?_ ?_ _; · (simp <;> omega)) | with_reducible refine Fr.trans ?_ (by assumption)))) hF6; have HO6 := hid (own_base hO6 (show w2.heap.size ≤ _ from Fr.size (w := w2) (by (repeat (first | with_reducible exact Fr.refl _ | with_reducible assumption | with_reducible refine Fr.alloc ?_ _ | with_reducible refine Fr.drew ?_ | with_reducible refine Fr.drewN ?_ _ | (with_reducible refine Fr.setNew2 ?_ ?_ _; · (simp <;> omega)) | with_reducible refine Fr.trans ?_ (by assumption)))))); have HO56 := hid (own_fr HO5.out G6); have hs6 := F6.size; have hs56 := G6.size; clear hO6; (first | (replace BG := BG.fr G6; obtain ⟨g0', g1', g2', gf0', gf1', gf2'⟩ := BG.three) | (have BG := (Blk.new w5 30 #[.int .i64 0, .slice none 0 0, .slice none 0 0]).drew.fr hF6; obtain ⟨g0', g1', g2', gf0', gf1', gf2'⟩ := BG.three) | (have BG := (Blk.new w5 30 #[.int .i64 0, .slice none 0 0, .slice none 0 0]).fr hF6; obtain ⟨g0', g1', g2', gf0', gf1', gf2'⟩ := BG.three) | skip))
        | fail)
    all_goals clear keepL C0 C1 b0 b1 b2
    all_goals have HE0 := hid he0
    all_goals have HE1 := hid he1
    all_goals (first
      | (have BGx : Blk w6 w2.heap.size 30 #[.int .i64 0, .slice none 0 0, .slice none 0 0] := BG
         have B6 := B1'.fr F6
         have hgx : w2.heap.size ≤ w2.heap.size := Nat.le_refl _
         have e1 := mrow_ne HO56.out BGx (by decide)
         have e2 := mrow_ne HO6.out BGx (by decide)
         have M0 : MnAt w2 w2.heap.size q hd (minB q hd bd) (((w6.setCell ⟨w2.heap.size, 0, none⟩ (.int .i64 q)).setCell ⟨w2.heap.size, 1, none⟩ (.slice A5 hd.length k5)).setCell ⟨w2.heap.size, 2, none⟩ (.slice A6 bd.length k6)) bd := ⟨A5, k5, A6, k6, by simpa using ((BGx.set_ 0 (.int .i64 q)).set_ 1 (.slice A5 hd.length k5)).set_ 2 (.slice A6 bd.length k6), mrow_set (mrow_set (mrow_set HO56.out e1) e1) e1, mrow_set (mrow_set (mrow_set HO6.out e2) e2) e2, HV.out, rfl, ((F6.setNew hgx _).setNew hgx _).setNew hgx _, hgx⟩
         have hne : w.heap.size + 1 ≠ w2.heap.size := by omega
         have BZ := ((B6.far (p := ⟨w2.heap.size, 0, none⟩) hne (.int .i64 q)).far (p := ⟨w2.heap.size, 1, none⟩) hne (.slice A5 hd.length k5)).far (p := ⟨w2.heap.size, 2, none⟩) hne (.slice A6 bd.length k6)
         have HM0 := hid (And.intro M0 BZ)
         clear M0 BZ B6 HO5 HO56 HO6 e1 e2 BGx BG g0' g1' g2' gf0' gf1' gf2'
         generalize ((w6.setCell ⟨w2.heap.size, 0, none⟩ (.int .i64 q)).setCell ⟨w2.heap.size, 1, none⟩ (.slice A5 hd.length k5)).setCell ⟨w2.heap.size, 2, none⟩ (.slice A6 bd.length k6) = w7 at HM0 ⊢
         have hng : w.heap.size + 1 < w2.heap.size := by omega
         obtain ⟨g, eg⟩ : ∃ g, w2.heap.size = g := ⟨_, rfl⟩
         rw [show MnAt w2 w2.heap.size = MnAt w2 g by rw [eg]] at HM0
         rw [eg] at hng ⊢
         clear eg)
      | (have BGx : Blk w6 w5.heap.size 30 #[.int .i64 0, .slice none 0 0, .slice none 0 0] := BG
         have B6 := B1'.fr F6
         have hgx : w2.heap.size ≤ w5.heap.size := hs5
         have e1 := mrow_ne HO56.out BGx (by decide)
         have e2 := mrow_ne HO6.out BGx (by decide)
         have M0 : MnAt w2 w5.heap.size q hd (minB q hd bd) (((w6.setCell ⟨w5.heap.size, 0, none⟩ (.int .i64 q)).setCell ⟨w5.heap.size, 1, none⟩ (.slice A5 hd.length k5)).setCell ⟨w5.heap.size, 2, none⟩ (.slice A6 bd.length k6)) bd := ⟨A5, k5, A6, k6, by simpa using ((BGx.set_ 0 (.int .i64 q)).set_ 1 (.slice A5 hd.length k5)).set_ 2 (.slice A6 bd.length k6), mrow_set (mrow_set (mrow_set HO56.out e1) e1) e1, mrow_set (mrow_set (mrow_set HO6.out e2) e2) e2, HV.out, rfl, ((F6.setNew hgx _).setNew hgx _).setNew hgx _, hgx⟩
         have hne : w.heap.size + 1 ≠ w5.heap.size := by omega
         have BZ := ((B6.far (p := ⟨w5.heap.size, 0, none⟩) hne (.int .i64 q)).far (p := ⟨w5.heap.size, 1, none⟩) hne (.slice A5 hd.length k5)).far (p := ⟨w5.heap.size, 2, none⟩) hne (.slice A6 bd.length k6)
         have HM0 := hid (And.intro M0 BZ)
         clear M0 BZ B6 HO5 HO56 HO6 e1 e2 BGx BG g0' g1' g2' gf0' gf1' gf2'
         generalize ((w6.setCell ⟨w5.heap.size, 0, none⟩ (.int .i64 q)).setCell ⟨w5.heap.size, 1, none⟩ (.slice A5 hd.length k5)).setCell ⟨w5.heap.size, 2, none⟩ (.slice A6 bd.length k6) = w7 at HM0 ⊢
         have hng : w.heap.size + 1 < w5.heap.size := by omega
         obtain ⟨g, eg⟩ : ∃ g, w5.heap.size = g := ⟨_, rfl⟩
         rw [eg] at HM0 hng ⊢
         clear eg)
      | (have B6 := B1'.fr F6
         have M0 : MnAt w2 w6.heap.size q hd (minB q hd bd) (w6.alloc (.cells #[.int .i64 q, .slice A5 hd.length k5, .slice A6 bd.length k6] 30)) bd := ⟨A5, k5, A6, k6, Blk.new w6 _ _, own_fr HO56.out ((Fr.refl w6).alloc _), own_fr HO6.out ((Fr.refl w6).alloc _), HV.out, rfl, F6.alloc _, hs6⟩
         have BZ := B6.alloc (.cells #[.int .i64 q, .slice A5 hd.length k5, .slice A6 bd.length k6] 30)
         have HM0 := hid (And.intro M0 BZ)
         have hgx := hs6
         clear M0 BZ B6 HO5 HO56 HO6
         generalize w6.alloc (.cells #[.int .i64 q, .slice A5 hd.length k5, .slice A6 bd.length k6] 30) = w7 at HM0 ⊢
         have hng : w.heap.size + 1 < w6.heap.size := by omega
         obtain ⟨g, eg⟩ : ∃ g, w6.heap.size = g := ⟨_, rfl⟩
         rw [eg] at HM0 hng ⊢
         clear eg)
      | fail)
    all_goals clear hgx
    all_goals go_wp2_with fail
    all_goals (
      go_loopw [4] (fun _ wr => Hid (∃ bd', MnAt w2 g q hd (minB q hd bd) wr bd' ∧ Blk wr (w.heap.size + 1) 30 #[.int .i64 0, .slice none 0 0, .slice none 0 0])) (fun _ wr => lenAt g wr)
      case atStart => exact hid ⟨bd, HM0.out⟩
      case round =>
        obtain ⟨bd', hM, hZ⟩ := hrel.out
        obtain ⟨A, c, B, d, hG, g0, g1, gc, gm, gn, gO⟩ := hM.cells
        have hvl : vrule q hd bd' = true := by obtain ⟨_, _, _, _, _, _, _, h, _⟩ := hM; exact h
        have hmL : minB q hd bd' = minB q hd bd := by obtain ⟨_, _, _, _, _, _, _, _, h, _⟩ := hM; exact h
        have FR : Fr w2 wr := by obtain ⟨_, _, _, _, _, _, _, _, _, h, _⟩ := hM; exact h
        have FWr := F2.trans FR
        obtain ⟨lh', lb', lb1'⟩ := vrule_lens hvl
        have RD := hid (redundantAtomW g q A B c d hd bd' ei ea wr (hG.cell 0) (hG.cell 1) (hG.cell 2) g0 g1 hvl gc gm (FWr.cell HE0.out) (FWr.cell HE1.out))
        have HM := hid hM
        have HZ := hid hZ
        have HG := hid hG
        have G0 := hid g0
        have G1 := hid g1
        have GO := hid gO
        have ML := hid hmL
        have VL := hid hvl
        clear hM hZ hG g0 g1 gO hmL hvl
        go_wp2_with fail
        refine RD.out.mono ?_
        rintro _ w8 ⟨rfl, hF8⟩
        obtain ⟨rr, err⟩ : ∃ rr, red q hd bd' = rr := ⟨_, rfl⟩
        have ER := hid err
        rw [err]
        clear RD err
        by_cases hneg : rr = -1
        · subst hneg
          obtain ⟨y0, y1, y2, _⟩ := (HG.out.fr hF8).three
          have BZ8 := HZ.out.fr hF8
          obtain ⟨z0, z1, z2, zf0, zf1, zf2⟩ := BZ8.three
          have FW8 := FWr.trans hF8
          have BE := ((BZ8.set_ 0 (.int .i64 q)).set_ 1 (.slice A hd.length c)).set_ 2 (.slice B bd'.length d)
          have FE : Fr w (((w8.setCell ⟨w.heap.size + 1, 0, none⟩ (.int .i64 q)).setCell ⟨w.heap.size + 1, 1, none⟩ (.slice A hd.length c)).setCell ⟨w.heap.size + 1, 2, none⟩ (.slice B bd'.length d)) := ((FW8.setNew (Nat.le_succ _) _).setNew (Nat.le_succ _) _).setNew (Nat.le_succ _) _
          have RES := hid (show RulOut w.heap.size (minR q hd bd).1 (minR q hd bd).2.1 (minR q hd bd).2.2 (.returned (.agg #[.int .i64 q, .slice A hd.length c, .slice B bd'.length d])) (((w8.setCell ⟨w.heap.size + 1, 0, none⟩ (.int .i64 q)).setCell ⟨w.heap.size + 1, 1, none⟩ (.slice A hd.length c)).setCell ⟨w.heap.size + 1, 2, none⟩ (.slice B bd'.length d)) by
            rw [MIN.out, ← ML.out, minB_stop (by rw [ER.out]; decide)]
            exact (GO.out.frR hF8 hw2).put3 BZ8)
          clear BZ8 ER GO ML VL G0 G1 HG HZ HM
          go_wp2
          obtain ⟨u0, u1, u2, _⟩ := BE.three
          clear BE z0 z1 z2 zf0 zf1 zf2 y0 y1 y2
          generalize ((w8.setCell ⟨w.heap.size + 1, 0, none⟩ (.int .i64 q)).setCell ⟨w.heap.size + 1, 1, none⟩ (.slice A hd.length c)).setCell ⟨w.heap.size + 1, 2, none⟩ (.slice B bd'.length d) = w9 at FE RES u0 u1 u2 ⊢
          refine bodyPost_ret (v := .agg #[.int .i64 q, .slice A hd.length c, .slice B bd'.length d]) (by simp [results, Tryd.results25, go_sem, u0, u1, u2]) rfl ?_
          exact ⟨RES.out, FE⟩
        · obtain ⟨j, hj⟩ : ∃ j : Nat, red q hd bd' = j := by
            rcases red_out (q := q) (hd := hd) (bd := bd') with h | ⟨j, h, _⟩
            · exact absurd (ER.out.symm.trans h) hneg
            · exact ⟨j, h⟩
          obtain rfl : rr = j := by rw [← ER.out, hj]
          have HJ := hid hj
          have hjl := (red_valid hj).1
          have WT := hid (withoutW g q A B c d hd bd' j w8 ((HG.out.fr hF8).cell 0) ((HG.out.fr hF8).cell 1) ((HG.out.fr hF8).cell 2) (G0.out.fr rdInt_mono hF8) (G1.out.fr rdAtom_mono hF8) lh' lb' hjl gc gm)
          have hlen := HM.out.len
          have hle := lessA_len hjl
          have hn1 : ((j : Int) == -1) = false := by simp
          clear hj ER hneg
          go_wp2_with fail
          refine WT.out.mono ?_
          rintro r9 w9 ⟨ho9, hF9⟩
          obtain ⟨A', c', B', d', rfl, M9, x0, x1, x2, BG9⟩ := HM.out.next HJ.out (ho9.lowR hF8.size) (hF8.trans hF9)
          have BZ9 := HZ.out.fr (hF8.trans hF9)
          have hne : w.heap.size + 1 ≠ g := by omega
          have NX := hid (show ∃ bx, MnAt w2 g q hd (minB q hd bd) (((w9.setCell ⟨g, 0, none⟩ (.int .i64 q)).setCell ⟨g, 1, none⟩ (.slice A' hd.length c')).setCell ⟨g, 2, none⟩ (.slice B' (lessA bd' j).length d')) bx ∧ Blk (((w9.setCell ⟨g, 0, none⟩ (.int .i64 q)).setCell ⟨g, 1, none⟩ (.slice A' hd.length c')).setCell ⟨g, 2, none⟩ (.slice B' (lessA bd' j).length d')) (w.heap.size + 1) 30 #[.int .i64 0, .slice none 0 0, .slice none 0 0] from ⟨lessA bd' j, M9, ((BZ9.far (p := ⟨g, 0, none⟩) hne (.int .i64 q)).far (p := ⟨g, 1, none⟩) hne (.slice A' hd.length c')).far (p := ⟨g, 2, none⟩) hne (.slice B' (lessA bd' j).length d')⟩)
          have hlen2 := M9.len
          obtain ⟨y0, y1, y2, yf0, yf1, yf2⟩ := BG9.three
          clear ho9 M9 BZ9 GO ML VL G0 G1 HG HZ HM WT BG9
          obtain ⟨NL, eNL⟩ : ∃ n, (lessA bd' j).length = n := ⟨_, rfl⟩
          rw [eNL] at NX hlen2 hle ⊢
          clear eNL
          go_wp2
          go_roundw
          case rel => exact NX
          case measure => rw [hlen2, hlen]; omega)
/- Walk of the reference's Minimize. -/

theorem mini_len {q : Int} {hd : List Int} : ∀ {n : Nat} {bd : List Atom}, (mini q hd n bd).length ≤ bd.length
  | 0, bd => Nat.le_refl _
  | n + 1, bd => by
    unfold mini
    split
    · exact Nat.le_refl _
    · refine Nat.le_trans mini_len ?_
      unfold lessA
      simp; omega
theorem minR_len {q : Int} {hd : List Int} {bd : List Atom} : (minR q hd bd).2.1.length ≤ 2000 ∧ (minR q hd bd).2.2.length ≤ 2000 := by
  unfold minR
  split
  · rename_i h
    have := vrule_lens h
    have h2 : (minB q hd bd).length ≤ bd.length := mini_len
    exact ⟨by simp only; omega, by simp only; omega⟩
  · exact ⟨by simp, by simp⟩
set_option maxRecDepth 100000 in
set_option maxHeartbeats 4000000 in
theorem specMinimize (q : Int) (A0 A1 : Option Addr) (c0 c1 : Nat) (hd : List Int) (bd : List Atom) (w : World) (hx0 : RdSl rdInt w.cell? 1 A0 hd) (hx1 : RdSl rdAtom w.cell? 3 A1 bd) (hl0 : hd.length ≤ 1048576) (hl1 : bd.length ≤ 1048576) (hn0 : A0 = none → c0 = 0) (hn1 : A1 = none → c1 = 0) :
    Calls Tryd.prog 24 #[.agg #[.int .i64 q, .slice A0 hd.length c0, .slice A1 bd.length c1]] w fun r w' => RulOut w.heap.size (minR q hd bd).1 (minR q hd bd).2.1 (minR q hd bd).2.2 r w' ∧ Fr w w' := by
  have B0' := (Blk.new w 30 #[.int .i64 q, .slice A0 hd.length c0, .slice A1 bd.length c1]).alloc (.cells #[.int .i64 0, .slice none 0 0, .slice none 0 0] 30)
  have B1' := Blk.new (w.alloc (.cells #[.int .i64 q, .slice A0 hd.length c0, .slice A1 bd.length c1] 30)) 30 #[.int .i64 0, .slice none 0 0, .slice none 0 0]
  rw [World.size_alloc] at B1'
  have F1 : Fr w ((w.alloc (.cells #[.int .i64 q, .slice A0 hd.length c0, .slice A1 bd.length c1] 30)).alloc (.cells #[.int .i64 0, .slice none 0 0, .slice none 0 0] 30)) := by (repeat (first | with_reducible exact Fr.refl _ | with_reducible assumption | with_reducible refine Fr.alloc ?_ _ | with_reducible refine Fr.drew ?_ | with_reducible refine Fr.drewN ?_ _ | (with_reducible refine Fr.setNew2 ?_ ?_ _; · (simp <;> omega)) | with_reducible refine Fr.trans ?_ (by assumption)))
  have VR := hid (fun W (h : Fr w W) => specVRule q A0 c0 hd A1 c1 bd W (hx0.fr rdInt_mono h) (hx1.fr rdAtom_mono h) hl0 hl1)
  have CR := hid (fun W (h : Fr w W) => copyRuleW q A0 A1 c0 c1 hd bd W (hx0.fr rdInt_mono h) (hx1.fr rdAtom_mono h) hl0 hl1 hn0 hn1)
  clear hx0 hx1
  go_enter Tryd.func24, Tryd.ntmps24
  go_wp2_with fail
  generalize (w.alloc (.cells #[.int .i64 q, .slice A0 hd.length c0, .slice A1 bd.length c1] 30)).alloc (.cells #[.int .i64 0, .slice none 0 0, .slice none 0 0] 30) = w1 at B0' B1' F1 ⊢
  refine (VR.out w1 F1).mono ?_
  rintro _ w2 ⟨rfl, hF2⟩
  have F2 := F1.trans hF2
  replace B0' := B0'.fr hF2
  replace B1' := B1'.fr hF2
  obtain ⟨z0, z1, z2, zf0, zf1, zf2⟩ := B1'.three
  cases hv : vrule q hd bd
  · have RES : Hid (∀ W, RulOut w.heap.size (minR q hd bd).1 (minR q hd bd).2.1 (minR q hd bd).2.2 (.returned (.agg #[.int .i64 0, .slice none 0 0, .slice none 0 0])) W) := hid fun W => by
      unfold minR; rw [hv]; exact ⟨none, 0, none, 0, rfl, own_nil, own_nil⟩
    have FE : Fr w (((w2.setCell ⟨w.heap.size + 1, 0, none⟩ (.int .i64 0)).setCell ⟨w.heap.size + 1, 1, none⟩ (.slice none 0 0)).setCell ⟨w.heap.size + 1, 2, none⟩ (.slice none 0 0)) := ((F2.setNew (Nat.le_succ _) _).setNew (Nat.le_succ _) _).setNew (Nat.le_succ _) _
    have BE := ((B1'.set_ 0 (.int .i64 0)).set_ 1 (.slice none 0 0)).set_ 2 (.slice none 0 0)
    clear hv B0'
    go_wp2
    obtain ⟨u0, u1, u2, _⟩ := BE.three
    clear BE z0 z1 z2 zf0 zf1 zf2 B1'
    generalize ((w2.setCell ⟨w.heap.size + 1, 0, none⟩ (.int .i64 0)).setCell ⟨w.heap.size + 1, 1, none⟩ (.slice none 0 0)).setCell ⟨w.heap.size + 1, 2, none⟩ (.slice none 0 0) = w9 at FE u0 u1 u2 ⊢
    refine bodyPost_ret (v := .agg #[.int .i64 0, .slice none 0 0, .slice none 0 0]) (by simp [results, Tryd.results24, go_sem, u0, u1, u2]) rfl ?_
    exact ⟨RES.out _, FE⟩
  · obtain ⟨lh, lb, lb1⟩ := vrule_lens hv
    obtain ⟨b0, b1, b2, _⟩ := B0'.three
    have hw2 := F2.size
    have hlt2 := B1'.lt
    have MIN := hid (show minR q hd bd = (q, hd, minB q hd bd) by unfold minR; rw [hv]; rfl)
    have CRC := hid (CR.out w2 F2)
    have HV := hid hv
    clear hv VR CR z0 z1 z2 zf0 zf1 zf2
    go_wp2_with fail
    refine CRC.out.mono ?_
    rintro r3 w3 ⟨⟨A3, k3, B3, j3, rfl, hO3, hO3'⟩, hF3⟩
    have M0 : MnAt w2 w3.heap.size q hd (minB q hd bd) (w3.alloc (.cells #[.int .i64 q, .slice A3 hd.length k3, .slice B3 bd.length j3] 30)) bd := ⟨A3, k3, B3, j3, Blk.new w3 _ _, own_fr hO3 ((Fr.refl w3).alloc _), own_fr hO3' ((Fr.refl w3).alloc _), HV.out, rfl, hF3.alloc _, hF3.size⟩
    have BZ := (B1'.fr hF3).alloc (.cells #[.int .i64 q, .slice A3 hd.length k3, .slice B3 bd.length j3] 30)
    have BG0 := Blk.new w3 30 #[.int .i64 q, .slice A3 hd.length k3, .slice B3 bd.length j3]
    have hng : w.heap.size + 1 < w3.heap.size := by have := hF3.size; omega
    have FA : Fr w2 (w3.alloc (.cells #[.int .i64 q, .slice A3 hd.length k3, .slice B3 bd.length j3] 30)) := hF3.alloc _
    have HM0 := hid (And.intro M0 BZ)
    obtain ⟨A, c, B, d, hG, g0, g1, gc, gm, gn, gO⟩ := M0.cells
    have RD := hid (fun (L : List Atom) (A B : Option Addr) (c d : Nat) W (g0 : RdSl rdInt W.cell? 1 A hd) (g1 : RdSl rdAtom W.cell? 3 B L) (hv : vrule q hd L = true) (gn : A = none → c = 0) (gc : L.length ≤ d) (gm : d ≤ maxLen) => redundantS q A B c d hd L W g0 g1 hv gn gc gm)
    have RD0 := hid (RD.out bd A B c d _ g0 g1 HV.out gn gc gm)
    have hEQ := hG
    unfold Blk at hEQ
    have hEQ2 := BG0
    unfold Blk at hEQ2
    rw [hEQ] at hEQ2
    simp only [Option.some.injEq, Obj.cells.injEq, Array.mk.injEq, List.cons.injEq, Value.slice.injEq, and_true, true_and] at hEQ2
    obtain ⟨⟨rfl, rfl⟩, rfl, rfl⟩ := hEQ2
    clear hEQ M0 BZ hO3 hO3' CRC hG g0 g1 gO b0 b1 b2
    go_wp2_with fail
    generalize w3.alloc (.cells #[.int .i64 q, .slice A hd.length c, .slice B bd.length d] 30) = w4 at HM0 RD0 BG0 FA ⊢
    obtain ⟨g, eg⟩ : ∃ g, w3.heap.size = g := ⟨_, rfl⟩
    rw [eg] at HM0 hng BG0 ⊢
    clear eg
    refine RD0.out.mono ?_
    rintro _ w5 ⟨rfl, hF5⟩
    have HM5 : Hid (∃ bx, red q hd bd = red q hd bx ∧ MnAt w2 g q hd (minB q hd bd) w5 bx ∧ Blk w5 (w.heap.size + 1) 30 #[.int .i64 0, .slice none 0 0, .slice none 0 0]) := hid ⟨bd, rfl, HM0.out.1.frM hF5, HM0.out.2.fr hF5⟩
    clear RD0 HM0 BG0 FA
    go_wp2_with fail
    go_loopw [4] (fun t wr => Hid (∃ bx, t = .int .i64 (red q hd bx) ∧ MnAt w2 g q hd (minB q hd bd) wr bx ∧ Blk wr (w.heap.size + 1) 30 #[.int .i64 0, .slice none 0 0, .slice none 0 0])) (fun _ wr => lenAt g wr)
    case atStart =>
      obtain ⟨bx, e, h1, h2⟩ := HM5.out
      exact hid ⟨bx, by rw [e], h1, h2⟩
    case round =>
      clear HM5
      obtain ⟨bx, rfl, hM, hZ⟩ := hrel.out
      obtain ⟨A, c, B, d, hG, g0, g1, gc, gm, gn, gO⟩ := hM.cells
      have hvl : vrule q hd bx = true := by obtain ⟨_, _, _, _, _, _, _, h, _⟩ := hM; exact h
      have hmL : minB q hd bx = minB q hd bd := by obtain ⟨_, _, _, _, _, _, _, _, h, _⟩ := hM; exact h
      have FR : Fr w2 wr := by obtain ⟨_, _, _, _, _, _, _, _, _, h, _⟩ := hM; exact h
      have FWr := F2.trans FR
      obtain ⟨lh', lb', lb1'⟩ := vrule_lens hvl
      obtain ⟨y0, y1, y2, yf0, yf1, yf2⟩ := hG.three
      have HM := hid hM
      have HZ := hid hZ
      have G0 := hid g0
      have G1 := hid g1
      have GO := hid gO
      have ML := hid hmL
      have VL := hid hvl
      clear hM g0 g1 gO hmL hvl hrel
      by_cases hneg : red q hd bx < 0
      · have BE := ((hZ.set_ 0 (.int .i64 q)).set_ 1 (.slice A hd.length c)).set_ 2 (.slice B bx.length d)
        obtain ⟨z0, z1, z2, zf0, zf1, zf2⟩ := hZ.three
        have FE : Fr w (((wr.setCell ⟨w.heap.size + 1, 0, none⟩ (.int .i64 q)).setCell ⟨w.heap.size + 1, 1, none⟩ (.slice A hd.length c)).setCell ⟨w.heap.size + 1, 2, none⟩ (.slice B bx.length d)) := ((FWr.setNew (Nat.le_succ _) _).setNew (Nat.le_succ _) _).setNew (Nat.le_succ _) _
        have RES := hid (show RulOut w.heap.size (minR q hd bd).1 (minR q hd bd).2.1 (minR q hd bd).2.2 (.returned (.agg #[.int .i64 q, .slice A hd.length c, .slice B bx.length d])) (((wr.setCell ⟨w.heap.size + 1, 0, none⟩ (.int .i64 q)).setCell ⟨w.heap.size + 1, 1, none⟩ (.slice A hd.length c)).setCell ⟨w.heap.size + 1, 2, none⟩ (.slice B bx.length d)) by
          rw [MIN.out, ← ML.out, minB_stop hneg]
          exact (GO.out.lowR hw2).put3 hZ)
        have hge : decide ((0 : Int) ≤ red q hd bx) = false := by simp; omega
        clear GO ML VL G0 G1 HZ HM hZ hG
        go_wp2
        obtain ⟨u0, u1, u2, _⟩ := BE.three
        clear BE z0 z1 z2 zf0 zf1 zf2 y0 y1 y2 yf0 yf1 yf2
        generalize ((wr.setCell ⟨w.heap.size + 1, 0, none⟩ (.int .i64 q)).setCell ⟨w.heap.size + 1, 1, none⟩ (.slice A hd.length c)).setCell ⟨w.heap.size + 1, 2, none⟩ (.slice B bx.length d) = w9 at FE RES u0 u1 u2 ⊢
        refine bodyPost_ret (v := .agg #[.int .i64 q, .slice A hd.length c, .slice B bx.length d]) (by simp [results, Tryd.results24, go_sem, u0, u1, u2]) rfl ?_
        exact ⟨RES.out, FE⟩
      · obtain ⟨j, hj⟩ : ∃ j : Nat, red q hd bx = j := ⟨(red q hd bx).toNat, by omega⟩
        have HJ := hid hj
        have hjl := (red_valid hj).1
        have hvj := (red_valid hj).2
        have WT := hid (withoutS q A B c d hd bx j wr G0.out G1.out lh' lb' hjl gn gc gm)
        have hlen := HM.out.len
        have hle := lessA_len hjl
        rw [hj]
        clear hj hneg
        go_wp2_with fail
        refine WT.out.mono ?_
        rintro r9 w9 ⟨ho9, hF9⟩
        obtain ⟨A', c', B', d', rfl, M9, x0, x1, x2, BG9⟩ := HM.out.next HJ.out ho9 hF9
        have BZ9 := HZ.out.fr hF9
        have hne : w.heap.size + 1 ≠ g := by omega
        have MZ : Blk (((w9.setCell ⟨g, 0, none⟩ (.int .i64 q)).setCell ⟨g, 1, none⟩ (.slice A' hd.length c')).setCell ⟨g, 2, none⟩ (.slice B' (lessA bx j).length d')) (w.heap.size + 1) 30 #[.int .i64 0, .slice none 0 0, .slice none 0 0] := ((BZ9.far (p := ⟨g, 0, none⟩) hne (.int .i64 q)).far (p := ⟨g, 1, none⟩) hne (.slice A' hd.length c')).far (p := ⟨g, 2, none⟩) hne (.slice B' (lessA bx j).length d')
        obtain ⟨y0', y1', y2', yf0', yf1', yf2'⟩ := BG9.three
        have BGF : Blk (((w9.setCell ⟨g, 0, none⟩ (.int .i64 q)).setCell ⟨g, 1, none⟩ (.slice A' hd.length c')).setCell ⟨g, 2, none⟩ (.slice B' (lessA bx j).length d')) g 30 #[.int .i64 q, .slice A' hd.length c', .slice B' (lessA bx j).length d'] := by
          simpa using ((BG9.set_ 0 (.int .i64 q)).set_ 1 (.slice A' hd.length c')).set_ 2 (.slice B' (lessA bx j).length d')
        clear ho9 BZ9 GO ML VL G0 G1 HZ HM WT BG9 y0 y1 y2 yf0 yf1 yf2 hZ hG
        obtain ⟨bn, ebn⟩ : ∃ x, lessA bx j = x := ⟨_, rfl⟩
        rw [ebn] at M9 MZ BGF hle hvj ⊢
        clear ebn
        have HM9 := hid M9
        have HMZ := hid MZ
        have HBG := hid BGF
        clear M9 MZ BGF
        go_wp2_with fail
        generalize ((w9.setCell ⟨g, 0, none⟩ (.int .i64 q)).setCell ⟨g, 1, none⟩ (.slice A' hd.length c')).setCell ⟨g, 2, none⟩ (.slice B' bn.length d') = w10 at HM9 HMZ HBG ⊢
        obtain ⟨A2, c2, B2, d2, hG2, g0, g1, gc2, gm2, gn2, gO2⟩ := HM9.out.cells
        have RD2 := hid (RD.out bn A2 B2 c2 d2 _ g0 g1 hvj gn2 gc2 gm2)
        have hEQ := hG2
        unfold Blk at hEQ
        have hEQ2 := HBG.out
        unfold Blk at hEQ2
        rw [hEQ] at hEQ2
        simp only [Option.some.injEq, Obj.cells.injEq, Array.mk.injEq, List.cons.injEq, Value.slice.injEq, and_true, true_and] at hEQ2
        obtain ⟨⟨rfl, rfl⟩, rfl, rfl⟩ := hEQ2
        have hlen2 := HM9.out.len
        clear hEQ hG2 g0 g1 gO2 HBG
        refine RD2.out.mono ?_
        rintro _ w11 ⟨rfl, hF11⟩
        have NX := hid (show ∃ bz, red q hd bn = red q hd bz ∧ MnAt w2 g q hd (minB q hd bd) w11 bz ∧ Blk w11 (w.heap.size + 1) 30 #[.int .i64 0, .slice none 0 0, .slice none 0 0] from ⟨bn, rfl, HM9.out.frM hF11, HMZ.out.fr hF11⟩)
        have hlen3 := (HM9.out.frM hF11).len
        clear HM9 HMZ RD2
        go_wp2
        go_roundw
        case rel =>
          obtain ⟨bz, e, h1, h2⟩ := NX.out
          exact hid ⟨bz, by rw [e], h1, h2⟩
        case measure => rw [hlen3, hlen]; omega
end Go.Proofs.YtahclhldpcboeaaDoor
