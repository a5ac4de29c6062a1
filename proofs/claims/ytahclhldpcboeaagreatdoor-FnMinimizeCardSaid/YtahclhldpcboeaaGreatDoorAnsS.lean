/- Walk of the reference's assignments. -/
import Derived.Test.YtahclhldpcboeaaGreatDoorExtJ
import Derived.Test.YtahclhldpcboeaaGreatDoorAnsL
import Derived.Test.YtahclhldpcboeaaGreatDoorHomW
import Derived.Test.YtahclhldpcboeaaGreatDoorFrzW
import Derived.Test.YtahclhldpcboeaaGreatDoorHeldT
import Derived.Test.YtahclhldpcboeaaGreatDoorRuleW
import Derived.Test.YtahclhldpcboeaaGreatDoorFactW
namespace Go.Proofs.YtahclhldpcboeaaGreatDoor
open Go Go.RowKit

/-- A list of ints in a cell. -/
def rdIL : Rd (List Int) := fun m c xs => ∃ A cap, c 0 = some (.slice A xs.length cap) ∧ RdSl rdInt m 1 A xs
theorem rdIL_mono : RdMono rdIL := fun m m' c c' x hm hc h => by
  obtain ⟨A, cap, h1, h2⟩ := h
  exact ⟨A, cap, hc _ _ h1, h2.mono rdInt_mono hm⟩
/-- A slice of lists of ints. -/
def ILPost (L : List (List Int)) (r : Ending) (w' : World) : Prop := ∃ A cap, r = .returned (.slice A L.length cap) ∧ RdSl rdIL w'.cell? 1 A L ∧ L.length ≤ cap
theorem MSt.il {W0 : World} {C : MC} {mb vb n : Nat} {w : World} {m : List Int} {fd : List (List Int)} (h : MSt W0 C mb vb n w m fd) : ∃ FA fcap, w.cell? ⟨mb, 3, none⟩ = some (.slice FA fd.length fcap) ∧ RdSl rdIL w.cell? 1 FA fd ∧ fd.length ≤ fcap := by
  obtain ⟨FV, vc, cs, rw_, h1, h2, h3, h4, h5, h6, h7, h8, h9, h10, h11, h12⟩ := h
  obtain ⟨FA, fcap, rfl⟩ := own_form h7
  have hcap : rw_.length ≤ fcap := by
    rcases h7.2 with ⟨h, h0⟩ | ⟨g, cap, cur, hv, _, _, hnc, _⟩
    · omega
    · injection hv with _ _ hc; omega
  refine ⟨FA, fcap, by rw [h1.cell, ← h8]; rfl, fun hne => ?_, by omega⟩
  have hpos : 0 < fd.length := List.length_pos_iff.2 hne
  rcases h7.2 with ⟨_, h0⟩ | ⟨g, cap, cur, hv, hg, hh, hnc, _, hs, ht⟩
  · omega
  · injection hv with hA _ _
    refine ⟨g, 0, hA, fun i hi => ?_⟩
    obtain ⟨⟨cs2, k1, k2⟩, _, k3, k4, _⟩ := h9 i (by omega) hi
    have hcell : w.cell? ⟨g, 0 + i * 1 + 0, none⟩ = some (cellsR n (rw_[i]'(by omega))) := by
      rw [(show Blk w g 23 cur from hh).cell]
      have h2 : cur.toList[0 + i * 1 + 0]? = (rw_.map (cellsR n))[i]? := by rw [← ht, List.getElem?_take_of_lt (by omega)]; congr 1; omega
      rw [Array.getElem?_toList, List.getElem?_map, List.getElem?_eq_getElem (by omega)] at h2
      exact h2
    unfold cellsR at hcell
    refine ⟨some ⟨(rw_[i]'(by omega)).1, 0, none⟩, (rw_[i]'(by omega)).2, by rw [k3]; exact hcell, fun _ => ⟨_, 0, rfl, fun j hj => ?_⟩⟩
    show w.cell? ⟨(rw_[i]'(by omega)).1, 0 + j * 1 + 0, none⟩ = _
    rw [k1.cell]
    have := k2 j hj
    simpa using this
set_option maxRecDepth 100000 in
set_option maxHeartbeats 2000000 in
theorem specAssign (q : Int) (A0 A1 F : Option Addr) (c0 c1 fc : Nat) (hd : List Int) (bd : List Atom) (fs : List Fact) (w : World) (hx1 : RdSl rdAtom w.cell? 3 A1 bd) (hxf : RdSl rdFact w.cell? 3 F fs) (hv : vrule q hd bd = true) (hf9 : fs.length ≤ 900) :
    Calls Tryz.prog 69 #[.agg #[.int .i64 q, .slice A0 hd.length c0, .slice A1 bd.length c1], .slice F fs.length fc, .int .i64 2000] w fun r w' => ILPost ((mts bd fs (List.replicate q.toNat (-1))).take 2000) r w' ∧ Fr w w' := by
  have HX1 := hid hx1
  have HXF := hid hxf
  obtain ⟨p1, p2, p3, p4, p5, p6, p7⟩ := vrule_parts hv
  obtain ⟨n, rfl⟩ : ∃ n : Nat, q = n := ⟨q.toNat, by omega⟩
  have HP := hid p6
  clear hv hx1 hxf p6 p7
  have hn0 : 0 < n := by omega
  have BQ := (Blk.new w 26 #[.int .i64 n, .slice A0 hd.length c0, .slice A1 bd.length c1]).alloc (.cells #[.slice A1 bd.length c1, .slice F fs.length fc, .slice none 0 0, .slice none 0 0, .int .i64 2000] 83)
  have BM := Blk.new (w.alloc (.cells #[.int .i64 n, .slice A0 hd.length c0, .slice A1 bd.length c1] 26)) 83 #[.slice A1 bd.length c1, .slice F fs.length fc, .slice none 0 0, .slice none 0 0, .int .i64 2000]
  rw [World.size_alloc] at BM
  have F1 : Fr w ((w.alloc (.cells #[.int .i64 n, .slice A0 hd.length c0, .slice A1 bd.length c1] 26)).alloc (.cells #[.slice A1 bd.length c1, .slice F fs.length fc, .slice none 0 0, .slice none 0 0, .int .i64 2000] 83)) := by (repeat (first | with_reducible exact Fr.refl _ | with_reducible assumption | with_reducible refine Fr.alloc ?_ _ | with_reducible refine Fr.drew ?_ | with_reducible refine Fr.drewN ?_ _ | (with_reducible refine Fr.setNew2 ?_ ?_ _; · (simp <;> omega)) | with_reducible refine Fr.trans ?_ (by assumption)))
  go_enter Tryz.func69, Tryz.ntmps69
  go_wp2
  generalize (w.alloc (.cells #[.int .i64 n, .slice A0 hd.length c0, .slice A1 bd.length c1] 26)).alloc (.cells #[.slice A1 bd.length c1, .slice F fs.length fc, .slice none 0 0, .slice none 0 0, .int .i64 2000] 83) = w1 at BQ BM F1 ⊢
  obtain ⟨C, eC⟩ : ∃ C : MC, C = ⟨A1, bd.length, c1, F, fs.length, fc, 2000⟩ := ⟨_, rfl⟩
  obtain ⟨qb, eqb⟩ : ∃ g, w.heap.size = g := ⟨_, rfl⟩
  have HV0 : Hid (MkV w C (w.heap.size + 1) 0 w1) := by subst eC; exact hid ⟨_, BM, own_nil, by omega, F1⟩
  have HQ0 := hid BQ
  have EXT := hid (show ∀ (vb : Nat) (W : World) (m : List Int), MSt w C (w.heap.size + 1) vb n W m [] → Calls Tryz.prog 58 #[.pointer (some ⟨w.heap.size + 1, 0, none⟩), .int .i64 (0 : Int)] W fun r w' => r = .returned (.tuple #[]) ∧ MSt w C (w.heap.size + 1) vb n w' m ((mts bd fs m).take 2000) from fun vb W m hM => by
    have h := extendW (W0 := w) (C := C) (mb := w.heap.size + 1) (vb := vb) (n := n) (bd := bd) (fs := fs) 2000 (by rw [eC]; rfl) (by omega) hn0 (by omega) (by rw [eC]; exact HX1.out) (by rw [eC]) (by rw [eC]; exact HXF.out) (by rw [eC]) (by omega) (by omega) (fun a ha => (HP.out a ha).2.2) bd.length 0 W m [] (by omega) hM (by simp)
    exact h.mono fun r w' ⟨h1, h2, _⟩ => ⟨h1, by simpa using h2⟩)
  rw [eqb] at HV0 HQ0 EXT ⊢
  clear BQ BM F1
  go_loopw [8] (fun t wr => ∃ k : Nat, k ≤ n ∧ t = .int .i64 k ∧ Hid (MkV w C (qb + 1) k wr) ∧ Hid (Blk wr qb 26 #[.int .i64 n, .slice A0 hd.length c0, .slice A1 bd.length c1])) (fun t _ => n - (intOf t).toNat)
  case atStart => exact ⟨0, by omega, rfl, HV0, HQ0⟩
  case round =>
    clear HV0 HQ0
    obtain ⟨k, hk, rfl, HMV, BQ⟩ := hrel
    obtain ⟨A, cap, h2, hO, hs0, hmb, FWr, NX⟩ := HMV.out.parts
    have b0 := BQ.out.cell 0
    have hqb := BQ.out.lt
    by_cases hlt : k < n
    · have HO := hid hO
      have HNX := hid NX
      clear hO NX
      have FA := (Fr.refl wr).alloc (.cells #[.int .i64 (-1)] 3)
      go_wp2_with (first | (at_builtin; refine wp_app1 rfl _ _ 23 rfl w.heap.size 3 (.int .i64 0) 1 8 Tryz.underlying23 (by kernel_rfl) rfl (by decide) (by decide) _ _ _ rfl (own_fr HO.out FA) (by omega) (by simp; omega) wr.heap.size [.int .i64 (-1)] rfl (blk_new rfl) rfl rfl ?_; intro v5 w5 hO5 hg5; obtain ⟨A5, cap5, rfl⟩ := own_form hO5; obtain ⟨fz5, ⟨u5, c5⟩, NX5⟩ := HNX.out _ _ w5 FA hO5 hg5; have HN5 := hid NX5; have BQ5 := hid ((mst_grown (BQ.out.fr FA) hg5 (mrow_ne (own_fr HO.out FA) (BQ.out.fr FA) (by decide))).far (p := ⟨qb + 1, 2, none⟩) (by show qb ≠ qb + 1; omega) (.slice A5 (k + 1) cap5)); clear NX5 hO5 hg5) | fail)
      go_roundw
      case rel => exact ⟨k + 1, by omega, by go_num, HN5, BQ5⟩
      case measure => simp [intOf]; omega
    · obtain rfl : k = n := by omega
      clear NX hO A cap h2
      obtain ⟨vb, HM0⟩ := HMV.out.mst hn0
      have CALL := EXT.out vb wr _ HM0
      clear HM0 HMV
      go_wp2_with fail
      refine CALL.mono ?_
      rintro r w9 ⟨rfl, hM⟩
      obtain ⟨FA, fcap, f0, f1, f2⟩ := hM.il
      have hF := hM.fr0
      have RES := hid (And.intro f1 f2)
      clear hM f1 f2 CALL
      obtain ⟨L, eL⟩ : ∃ L, (mts bd fs (List.replicate k (-1))).take 2000 = L := ⟨_, rfl⟩
      rw [eL] at f0 RES
      have hmb9 := cell_lt f0
      go_wp2
      go_ret
      rw [Int.toNat_natCast, eL]
      exact ⟨⟨FA, fcap, rfl, RES.out.1, RES.out.2⟩, hF⟩
/- Walks of the reference's addInts, answers, Answers. -/

/-- Values that are slices of ints. -/
def VLs (w : World) (vs : List Value) (L : List (List Int)) : Prop := vs.length = L.length ∧ ∀ i (h : i < L.length) (h' : i < vs.length), ∃ A c, vs[i] = .slice A L[i].length c ∧ RdSl rdInt w.cell? 1 A L[i]
section
variable {w w' : World} {vs us : List Value} {L M : List (List Int)}
theorem VLs.fr (h : VLs w vs L) (hf : Fr w w') : VLs w' vs L := ⟨h.1, fun i a b => by obtain ⟨A, c, k1, k2⟩ := h.2 i a b; exact ⟨A, c, k1, k2.fr rdInt_mono hf⟩⟩
theorem VLs.one (h : VLs w vs L) : vs.all (·.oneCell') = true := by
  rw [List.all_eq_true]
  intro v hv
  obtain ⟨i, hi, rfl⟩ := List.getElem_of_mem hv
  obtain ⟨A, c, k1, _⟩ := h.2 i (by rw [← h.1]; exact hi) hi
  rw [k1]; rfl
theorem VLs.take (h : VLs w vs L) (k : Nat) : VLs w (vs.take k) (L.take k) := by
  refine ⟨by rw [List.length_take, List.length_take, h.1], fun i a b => ?_⟩
  rw [List.length_take] at a b
  obtain ⟨A, c, k1, k2⟩ := h.2 i (by omega) (by omega)
  exact ⟨A, c, by rw [List.getElem_take, List.getElem_take]; exact k1, by rw [List.getElem_take]; exact k2⟩
theorem VLs.drop (h : VLs w vs L) (k : Nat) : VLs w (vs.drop k) (L.drop k) := by
  refine ⟨by rw [List.length_drop, List.length_drop, h.1], fun i a b => ?_⟩
  rw [List.length_drop] at a b
  obtain ⟨A, c, k1, k2⟩ := h.2 (k + i) (by omega) (by omega)
  exact ⟨A, c, by rw [List.getElem_drop, List.getElem_drop]; exact k1, by rw [List.getElem_drop]; exact k2⟩
theorem VLs.app (h : VLs w vs L) (h2 : VLs w us M) : VLs w (vs ++ us) (L ++ M) := by
  refine ⟨by rw [List.length_append, List.length_append, h.1, h2.1], fun i a b => ?_⟩
  rcases Nat.lt_or_ge i L.length with hi | hi
  · have hi' : i < vs.length := by rw [h.1]; exact hi
    obtain ⟨A, c, k1, k2⟩ := h.2 i hi hi'
    exact ⟨A, c, by rw [List.getElem_append_left hi', List.getElem_append_left hi]; exact k1, by rw [List.getElem_append_left hi]; exact k2⟩
  · have hi' : vs.length ≤ i := by rw [h.1]; exact hi
    rw [List.length_append] at a b
    obtain ⟨A, c, k1, k2⟩ := h2.2 (i - L.length) (by omega) (by have := h.1; omega)
    have e : i - vs.length = i - L.length := by rw [h.1]
    refine ⟨A, c, ?_, by rw [List.getElem_append_right hi]; exact k2⟩
    rw [List.getElem_append_right hi', List.getElem_append_right hi]
    simp only [e]
    exact k1
theorem VLs.single {X : Option Addr} {x : List Int} {c : Nat} (h : RdSl rdInt w.cell? 1 X x) : VLs w [.slice X x.length c] [x] := ⟨rfl, fun i a b => by
  have : i = 0 := by simpa using a
  subst this
  exact ⟨X, c, rfl, h⟩⟩
theorem rdIL_vs {b o : Nat} (h : RdSl rdIL w.cell? 1 (some ⟨b, o, none⟩) L) : ∃ vs, VLs w vs L ∧ ∀ (j : Nat) u, vs[j]? = some u → w.cell? ⟨b, o + j, none⟩ = some u := by
  have key : ∀ i (hi : i < L.length), ∃ A c, w.cell? ⟨b, o + i, none⟩ = some (.slice A L[i].length c) ∧ RdSl rdInt w.cell? 1 A L[i] := fun i hi => by
    obtain ⟨b', o', hA, hc⟩ := h.at_ hi
    cases hA
    obtain ⟨A, c, k1, k2⟩ := hc
    exact ⟨A, c, by simpa using k1, k2⟩
  refine ⟨(List.range L.length).map fun i => (w.cell? ⟨b, o + i, none⟩).getD undef, ⟨by simp, fun i a b' => ?_⟩, fun j u hu => ?_⟩
  · obtain ⟨A, c, k1, k2⟩ := key i a
    exact ⟨A, c, by rw [List.getElem_map, List.getElem_range, k1]; rfl, k2⟩
  · rw [List.getElem?_map] at hu
    rcases Nat.lt_or_ge j L.length with hj | hj
    · rw [List.getElem?_range hj] at hu
      obtain ⟨A, c, k1, _⟩ := key j hj
      rw [k1]
      rw [Option.map_some, k1] at hu
      exact hu
    · rw [List.getElem?_eq_none (by simpa using hj)] at hu; cases hu
theorem own_IL {base n c : Nat} {A : Option Addr} (h : w.ownsRow base 23 1 (.slice A n c) n vs) (hv : VLs w vs L) (hn : n = L.length) : RdSl rdIL w.cell? 1 A L := fun hne => by
  have hpos : 0 < L.length := List.length_pos_iff.2 hne
  rcases h.2 with ⟨_, h0⟩ | ⟨g, cap, cur, hvv, hg, hh, hnc, _, hs, ht⟩
  · omega
  · injection hvv with hA _ _
    refine ⟨g, 0, hA, fun i hi => ?_⟩
    have hi' : i < vs.length := by rw [hv.1]; exact hi
    obtain ⟨A', c', k1, k2⟩ := hv.2 i hi hi'
    refine ⟨A', c', ?_, k2⟩
    show w.cell? ⟨g, 0 + i * 1 + 0, none⟩ = _
    rw [(show Blk w g 23 cur from hh).cell]
    have h2 : cur.toList[0 + i * 1 + 0]? = vs[i]? := by rw [← ht, List.getElem?_take_of_lt (by omega)]; congr 1; omega
    rw [Array.getElem?_toList, List.getElem?_eq_getElem hi', k1] at h2
    exact h2
end
/-- Small numbers. -/
def Sm (xs : List Int) : Prop := ∀ v ∈ xs, -100000 ≤ v ∧ v ≤ 100000
/-- A slice of lists of ints, at an address. -/
def ILSome (L : List (List Int)) (r : Ending) (w' : World) : Prop := ∃ b o cap, r = .returned (.slice (some ⟨b, o, none⟩) L.length cap) ∧ RdSl rdIL w'.cell? 1 (some ⟨b, o, none⟩) L ∧ L.length ≤ cap
set_option maxRecDepth 100000 in
set_option maxHeartbeats 4000000 in
theorem addIntsW (b o cap cx : Nat) (X : Option Addr) (xs : List (List Int)) (f : List Int) (w : World) (hx : RdSl rdIL w.cell? 1 (some ⟨b, o, none⟩) xs) (hX : RdSl rdInt w.cell? 1 X f) (hl : xs.length ≤ 2000) (hc : xs.length ≤ cap) (hf : f.length ≤ 1000) (hs : Sm f) (hin : ∀ y ∈ xs, y.length = f.length ∧ Sm y) :
    Calls Tryz.prog 70 #[.slice (some ⟨b, o, none⟩) xs.length cap, .slice X f.length cx] w fun r w' => ILSome (insX xs f) r w' ∧ Fr w w' := by
  have HX := hid hx
  have HF := hid hX
  have HS := hid hs
  have HIN := hid hin
  clear hx hX hs hin
  go_enter Tryz.func70, Tryz.ntmps70
  go_wp2
  go_loopw [5] (fun t wr => ∃ (k : Nat), k ≤ xs.length ∧ t = .int .i64 k ∧ Hid (Fr w wr) ∧ Hid (∀ i (h : i < xs.length), i < k → lx xs[i] f < 0)) (fun t _ => xs.length - (intOf t).toNat)
  case atStart => exact ⟨0, by omega, rfl, hid (Fr.refl _), hid (fun i _ h => absurd h (by omega))⟩
  case round =>
    obtain ⟨k, hk, rfl, hF, hv⟩ := hrel
    by_cases hlt : k < xs.length
    · obtain ⟨b', o', hA, A, c, c0, rA⟩ := HX.out.at_ hlt
      cases hA
      replace c0 := hF.out.cell c0
      simp only [Nat.mul_one, Nat.add_zero] at c0
      have el : decide ((k : Int) < (xs.length : Int)) = true := decide_eq_true (by omega)
      obtain ⟨hyl, hys⟩ := HIN.out _ (List.getElem_mem hlt)
      have hcm := cmpI_lx hyl
      have hcz := cmpI_zero hyl
      obtain ⟨y, ey⟩ : ∃ y, xs[k] = y := ⟨_, rfl⟩
      rw [ey] at c0 rA hyl hys hcm hcz
      have RA := hid rA
      have HYS := hid hys
      have EY := hid ey
      obtain ⟨z, ez⟩ : ∃ z, cmpI y f = z := ⟨_, rfl⟩
      rw [ez] at hcm hcz
      have EZ := hid ez
      have HYL := hid hyl
      have hy9 : y.length ≤ 1000 := by omega
      have hlb := cell_lt c0
      clear rA hys ey ez hyl
      go_wp2_with fail
      refine (compareInts A X c cx y f _ (RA.out.fr rdInt_mono hF.out) (HF.out.fr rdInt_mono hF.out) (by omega) HYL.out.symm HYS.out HS.out).mono ?_
      rw [EZ.out]
      rintro e w1 ⟨rfl, b1⟩
      have F1 := hF.out.trans b1
      have hlb1 := Nat.lt_of_lt_of_le hlb b1.size
      replace c0 := b1.cell c0
      by_cases hz : z < 0
      · have ed : decide (z < 0) = true := decide_eq_true hz
        have HV := hid (show ∀ i (h : i < xs.length), i < k + 1 → lx xs[i] f < 0 from fun i h hi => by
          by_cases q : i = k
          · subst q; rw [EY.out]; exact hcm.1 hz
          · exact hv.out i h (by omega))
        have HF1 := hid F1
        clear hcm hcz hz hv F1 hF b1 c0
        go_wp2
        go_roundw
        case rel => exact ⟨k + 1, by omega, by go_num, HF1, HV⟩
        case measure => simp [intOf]; omega
      · have ed : decide (z < 0) = false := decide_eq_false hz
        have HNL := hid (show ¬ lx y f < 0 from fun h => hz (hcm.2 h))
        go_wp2_with fail
        refine (compareInts A X c cx y f _ (RA.out.fr rdInt_mono F1) (HF.out.fr rdInt_mono F1) (by omega) HYL.out.symm HYS.out HS.out).mono ?_
        rw [EZ.out]
        rintro e w2 ⟨rfl, b2⟩
        have F2 := F1.trans b2
        by_cases hz0 : z = 0
        · have R := hid (insX_same hlt hv.out (by rw [EY.out]; exact hcz.1 hz0))
          have e0 : (z == 0) = true := by rw [hz0]; rfl
          clear hcm hcz hz hz0 F1 b1 b2 c0
          go_wp2
          go_ret
          rw [R.out]
          exact ⟨⟨b, o, cap, rfl, HX.out.fr rdIL_mono F2, hc⟩, F2⟩
        · have R := hid (insX_new (f := f) hk hv.out (fun _ => by rw [EY.out]; exact ⟨by have := HNL.out; omega, fun e => hz0 (hcz.2 e)⟩))
          have e0 : (z == 0) = false := by rw [beq_eq_false_iff_ne]; exact hz0
          clear hcm hcz hz hz0 b1 b2 c0 F1 hF hv HNL
          have FQ1 := F2
          clear F2
          obtain ⟨vs, hvs, hvc⟩ := rdIL_vs HX.out
          have hvl := hvs.1
          have VV := hid hvs
          have VC := hid hvc
          have hO0 := hid (own_empty (w := w2) (base := w.heap.size) (e := 23) (sz := 1) FQ1.size)
          have hsq := FQ1.size
          clear hvs hvc
          go_wp2_with (first
            | (at_builtin; refine wp_appS rfl _ _ 32 rfl w.heap.size 23 (.slice none 0 0) 1 24 Tryz.underlying32 (by kernel_rfl) rfl (by decide) (by decide) _ 0 [] rfl hO0.out (by omega) (by simp; omega) b o k cap (vs.take k) rfl (by rw [List.length_take]; omega) (fun j u hu => (FQ1.alloc _).cell (VC.out j u (by rw [List.getElem?_take] at hu; split at hu; (· exact hu); (· cases hu)))) (by omega) (VV.out.take k).one ?_; intro v5 w5 hO5 hg5; have F5 : Fr w w5 := Fr.grown (FQ1.alloc _) hg5 hO0.out; have hs5 := F5.size; simp only [Nat.zero_add, List.nil_append] at hO5)
            | (at_builtin; refine wp_appS rfl _ _ 32 rfl w.heap.size 23 (.slice none 0 0) 1 24 Tryz.underlying32 (by kernel_rfl) rfl (by decide) (by decide) _ _ _ rfl (own_fr hO5 ((Fr.refl w5).alloc _)) (by omega) (by simp; omega) w5.heap.size 0 1 1 [.slice X f.length cx] rfl rfl (fun j u hu => by rw [Nat.zero_add, (Blk.new w5 _ _).cell]; simpa using hu) (by omega) rfl ?_; intro v6 w6 hO6 hg6; have F6 : Fr w w6 := Fr.grown (F5.alloc _) hg6 (own_fr hO5 ((Fr.refl w5).alloc _)); have hs6 := F6.size)
            | (at_builtin; refine wp_appS rfl _ _ 32 rfl w.heap.size 23 (.slice none 0 0) 1 24 Tryz.underlying32 (by kernel_rfl) rfl (by decide) (by decide) _ _ _ rfl hO6 (by omega) (by omega) b (o + k) (xs.length - k) (cap - k) (vs.drop k) rfl (by rw [List.length_drop]; omega) (fun j u hu => F6.cell (by rw [Nat.add_assoc]; exact VC.out (k + j) u (by rw [List.getElem?_drop] at hu; exact hu))) (by omega) (VV.out.drop k).one ?_; intro v7 w7 hO7 hg7; have F7 : Fr w w7 := Fr.grown F6 hg7 hO6)
            | fail)
          obtain ⟨g7, cap7, rfl, hg7', hc7⟩ := own_formF hO7 (by omega)
          have HO7 := hid hO7
          clear hO7
          go_wp2
          go_ret
          have hlen : k + 1 + (xs.length - k) = (xs.take k ++ f :: xs.drop k).length := by simp; omega
          rw [R.out]
          refine ⟨⟨g7, 0, cap7, by rw [hlen]; rfl, ?_, by omega⟩, F7⟩
          have hVL := (((VV.out.take k).app (VLs.single (c := cx) HF.out)).app (VV.out.drop k)).fr F7
          rw [List.append_assoc, List.singleton_append] at hVL
          rw [List.append_assoc] at hVL
          exact own_IL HO7.out (by simpa using hVL) hlen
    · have R := hid (insX_new (f := f) hk hv.out (fun h => absurd h hlt))
      have el : decide ((k : Int) < (xs.length : Int)) = false := decide_eq_false (by omega)
      have FQ1 := hF.out
      clear hF hv
      by_cases hcap : k = cap
      · subst hcap
        obtain ⟨vs, hvs, hvc⟩ := rdIL_vs HX.out
        have hvl := hvs.1
        have VV := hid hvs
        have VC := hid hvc
        have hO0 := hid (own_empty (w := wr) (base := w.heap.size) (e := 23) (sz := 1) FQ1.size)
        have hsq := FQ1.size
        clear hvs hvc
        go_wp2_with (first
          | (at_builtin; refine wp_appS rfl _ _ 32 rfl w.heap.size 23 (.slice none 0 0) 1 24 Tryz.underlying32 (by kernel_rfl) rfl (by decide) (by decide) _ 0 [] rfl hO0.out (by omega) (by simp; omega) b o k k (vs.take k) rfl (by rw [List.length_take]; omega) (fun j u hu => (FQ1.alloc _).cell (VC.out j u (by rw [List.getElem?_take] at hu; split at hu; (· exact hu); (· cases hu)))) (by omega) (VV.out.take k).one ?_; intro v5 w5 hO5 hg5; have F5 : Fr w w5 := Fr.grown (FQ1.alloc _) hg5 hO0.out; have hs5 := F5.size; simp only [Nat.zero_add, List.nil_append] at hO5)
          | (at_builtin; refine wp_appS rfl _ _ 32 rfl w.heap.size 23 (.slice none 0 0) 1 24 Tryz.underlying32 (by kernel_rfl) rfl (by decide) (by decide) _ _ _ rfl (own_fr hO5 ((Fr.refl w5).alloc _)) (by omega) (by simp; omega) w5.heap.size 0 1 1 [.slice X f.length cx] rfl rfl (fun j u hu => by rw [Nat.zero_add, (Blk.new w5 _ _).cell]; simpa using hu) (by omega) rfl ?_; intro v6 w6 hO6 hg6; have F6 : Fr w w6 := Fr.grown (F5.alloc _) hg6 (own_fr hO5 ((Fr.refl w5).alloc _)); have hs6 := F6.size)
          | (at_builtin; refine wp_appS rfl _ _ 32 rfl w.heap.size 23 (.slice none 0 0) 1 24 Tryz.underlying32 (by kernel_rfl) rfl (by decide) (by decide) _ _ _ rfl hO6 (by omega) (by omega) b o 0 0 [] rfl rfl (fun j u hu => by simp at hu) (by omega) rfl ?_; intro v7 w7 hO7' hg7; have hO7 : w7.ownsRow w.heap.size 23 1 v7 (k + 1 + (xs.length - k)) (vs.take k ++ [.slice X f.length cx] ++ vs.drop k) := (by rw [List.drop_eq_nil_of_le (show vs.length ≤ k by omega), show xs.length - k = 0 by omega]; simpa using hO7'); have F7 : Fr w w7 := Fr.grown F6 hg7 hO6)
          | fail)
        obtain ⟨g7, cap7, rfl, hg7', hc7⟩ := own_formF hO7 (by omega)
        have HO7 := hid hO7
        clear hO7
        go_wp2
        go_ret
        have hlen : k + 1 + (xs.length - k) = (xs.take k ++ f :: xs.drop k).length := by simp; omega
        rw [R.out]
        refine ⟨⟨g7, 0, cap7, by rw [hlen]; rfl, ?_, by omega⟩, F7⟩
        have hVL := (((VV.out.take k).app (VLs.single (c := cx) HF.out)).app (VV.out.drop k)).fr F7
        rw [List.append_assoc, List.singleton_append] at hVL
        rw [List.append_assoc] at hVL
        exact own_IL HO7.out (by simpa using hVL) hlen
      · have hcap' : ¬ cap = k := fun e => hcap e.symm
        obtain ⟨vs, hvs, hvc⟩ := rdIL_vs HX.out
        have hvl := hvs.1
        have VV := hid hvs
        have VC := hid hvc
        have hO0 := hid (own_empty (w := wr) (base := w.heap.size) (e := 23) (sz := 1) FQ1.size)
        have hsq := FQ1.size
        clear hvs hvc
        go_wp2_with (first
          | (at_builtin; refine wp_appS rfl _ _ 32 rfl w.heap.size 23 (.slice none 0 0) 1 24 Tryz.underlying32 (by kernel_rfl) rfl (by decide) (by decide) _ 0 [] rfl hO0.out (by omega) (by simp; omega) b o k cap (vs.take k) rfl (by rw [List.length_take]; omega) (fun j u hu => (FQ1.alloc _).cell (VC.out j u (by rw [List.getElem?_take] at hu; split at hu; (· exact hu); (· cases hu)))) (by omega) (VV.out.take k).one ?_; intro v5 w5 hO5 hg5; have F5 : Fr w w5 := Fr.grown (FQ1.alloc _) hg5 hO0.out; have hs5 := F5.size; simp only [Nat.zero_add, List.nil_append] at hO5)
          | (at_builtin; refine wp_appS rfl _ _ 32 rfl w.heap.size 23 (.slice none 0 0) 1 24 Tryz.underlying32 (by kernel_rfl) rfl (by decide) (by decide) _ _ _ rfl (own_fr hO5 ((Fr.refl w5).alloc _)) (by omega) (by simp; omega) w5.heap.size 0 1 1 [.slice X f.length cx] rfl rfl (fun j u hu => by rw [Nat.zero_add, (Blk.new w5 _ _).cell]; simpa using hu) (by omega) rfl ?_; intro v6 w6 hO6 hg6; have F6 : Fr w w6 := Fr.grown (F5.alloc _) hg6 (own_fr hO5 ((Fr.refl w5).alloc _)); have hs6 := F6.size)
          | (at_builtin; refine wp_appS rfl _ _ 32 rfl w.heap.size 23 (.slice none 0 0) 1 24 Tryz.underlying32 (by kernel_rfl) rfl (by decide) (by decide) _ _ _ rfl hO6 (by omega) (by omega) b (o + k) (xs.length - k) (cap - k) (vs.drop k) rfl (by rw [List.length_drop]; omega) (fun j u hu => F6.cell (by rw [Nat.add_assoc]; exact VC.out (k + j) u (by rw [List.getElem?_drop] at hu; exact hu))) (by omega) (VV.out.drop k).one ?_; intro v7 w7 hO7 hg7; have F7 : Fr w w7 := Fr.grown F6 hg7 hO6)
          | fail)
        obtain ⟨g7, cap7, rfl, hg7', hc7⟩ := own_formF hO7 (by omega)
        have HO7 := hid hO7
        clear hO7
        go_wp2
        go_ret
        have hlen : k + 1 + (xs.length - k) = (xs.take k ++ f :: xs.drop k).length := by simp; omega
        rw [R.out]
        refine ⟨⟨g7, 0, cap7, by rw [hlen]; rfl, ?_, by omega⟩, F7⟩
        have hVL := (((VV.out.take k).app (VLs.single (c := cx) HF.out)).app (VV.out.drop k)).fr F7
        rw [List.append_assoc, List.singleton_append] at hVL
        rw [List.append_assoc] at hVL
        exact own_IL HO7.out (by simpa using hVL) hlen
/- Walks of the reference's answers, Answers. -/

theorem addIntsN (b o cap cx n : Nat) (X : Option Addr) (xs : List (List Int)) (f : List Int) (w : World) (hn : f.length = n) (hx : RdSl rdIL w.cell? 1 (some ⟨b, o, none⟩) xs) (hX : RdSl rdInt w.cell? 1 X f) (hl : xs.length ≤ 2000) (hc : xs.length ≤ cap) (hf : f.length ≤ 1000) (hs : Sm f) (hin : ∀ y ∈ xs, y.length = f.length ∧ Sm y) :
    Calls Tryz.prog 70 #[.slice (some ⟨b, o, none⟩) xs.length cap, .slice X n cx] w fun r w' => ILSome (insX xs f) r w' ∧ Fr w w' := by
  subst hn
  exact addIntsW b o cap cx X xs f w hx hX hl hc hf hs hin
theorem rng_sm {hd m : List Int} (hm : Rng 10000 m) (hh : ∀ v ∈ hd, 0 ≤ v ∧ v < m.length) : Sm (hdV hd m) := fun x hx => by
  obtain ⟨v, hv, rfl⟩ := List.mem_map.1 hx
  obtain ⟨h1, h2⟩ := hh v hv
  have := hm.var h1 h2
  omega
set_option maxRecDepth 100000 in
set_option maxHeartbeats 4000000 in
theorem specAnsW (q : Int) (A0 A1 F : Option Addr) (c0 c1 fc : Nat) (hd : List Int) (bd : List Atom) (fs : List Fact) (w : World) (hx0 : RdSl rdInt w.cell? 1 A0 hd) (hx1 : RdSl rdAtom w.cell? 3 A1 bd) (hxf : RdSl rdFact w.cell? 3 F fs) (hv : vrule q hd bd = true) (hf : ∀ f ∈ fs, (0 ≤ f.x ∧ f.x < 10000) ∧ 0 ≤ f.y ∧ f.y < 10000) (hf9 : fs.length ≤ 900) :
    Calls Tryz.prog 40 #[.agg #[.int .i64 q, .slice A0 hd.length c0, .slice A1 bd.length c1], .slice F fs.length fc] w fun r w' => ILSome (ans q hd bd fs) r w' ∧ Fr w w' := by
  obtain ⟨p1, p2, p3, p4, p5, p6, p7⟩ := vrule_parts hv
  have HX0 := hid hx0
  have BQ := (Blk.new w 26 #[.int .i64 q, .slice A0 hd.length c0, .slice A1 bd.length c1]).alloc (.cells #[] 23)
  have F1 : Fr w ((w.alloc (.cells #[.int .i64 q, .slice A0 hd.length c0, .slice A1 bd.length c1] 26)).alloc (.cells #[] 23)) := by (repeat (first | with_reducible exact Fr.refl _ | with_reducible assumption | with_reducible refine Fr.alloc ?_ _ | with_reducible refine Fr.drew ?_ | with_reducible refine Fr.drewN ?_ _ | (with_reducible refine Fr.setNew2 ?_ ?_ _; · (simp <;> omega)) | with_reducible refine Fr.trans ?_ (by assumption)))
  have ASG := hid (fun W (h : Fr w W) => specAssign q A0 A1 F c0 c1 fc hd bd fs W (hx1.fr rdAtom_mono h) (hxf.fr rdFact_mono h) hv hf9)
  obtain ⟨L, eL⟩ : ∃ L, (mts bd fs (List.replicate q.toNat (-1))).take 2000 = L := ⟨_, rfl⟩
  have hLl : L.length ≤ 2000 := by rw [← eL, List.length_take]; omega
  have HLm := hid (show ∀ m ∈ L, m.length = q.toNat ∧ Rng 10000 m from fun m hm => by
    rw [← eL] at hm
    have h1 := List.mem_of_mem_take hm
    exact ⟨by rw [mts_len h1, List.length_replicate], mts_rng h1 (rng_new (by omega) _) hf⟩)
  have HA := hid (show ans q hd bd fs = srtX (L.map (hdV hd)) by rw [← eL]; rfl)
  have HP7 := hid p7
  have EL := hid eL
  clear eL hv p6 p7 hx0 hx1 hxf hf
  go_enter Tryz.func40, Tryz.ntmps40
  go_wp2_with fail
  refine (ASG.out _ F1).mono ?_
  rw [EL.out]
  rintro e w2 ⟨⟨FA, fcap, rfl, hRL, hfc⟩, hF2⟩
  have B2 := BQ.fr hF2
  have F2 := F1.trans hF2
  have HRL := hid hRL
  clear BQ F1 ASG hRL hfc
  have I0 : ILSome [] (.returned (.slice (some ⟨w.heap.size + 1, 0, none⟩) 0 0)) w2 := ⟨_, 0, 0, rfl, RdSl.nil, Nat.le_refl _⟩
  go_wp2_with fail
  obtain ⟨qb, eqb⟩ : ∃ g, w.heap.size = g := ⟨_, rfl⟩
  rw [eqb] at B2 ⊢
  go_loopw [5, 7] (fun s t wr => ∃ (k b o cap : Nat) (out : List (List Int)), k ≤ L.length ∧ t = .int .i64 k ∧ s = .slice (some ⟨b, o, none⟩) out.length cap ∧ out.length ≤ cap ∧ Hid (out = srtX ((L.take k).map (hdV hd))) ∧ Hid (RdSl rdIL wr.cell? 1 (some ⟨b, o, none⟩) out) ∧ Hid (Fr w2 wr)) (fun _ t _ => L.length - (intOf t).toNat)
  case atStart => exact ⟨0, _, 0, 0, [], by omega, rfl, rfl, by simp, hid rfl, hid RdSl.nil, hid (Fr.refl _)⟩
  case round =>
    obtain ⟨k, b, o, cap, out, hk, rfl, rfl, hoc, HO, HR, hF⟩ := hrel
    by_cases hlt : k < L.length
    · obtain ⟨fb, fo, hFA, A, c, g0, rA⟩ := HRL.out.at_ hlt
      subst hFA
      replace g0 := hF.out.cell g0
      simp only [Nat.mul_one, Nat.add_zero] at g0
      have e1 := (B2.fr hF.out).cell 1
      obtain ⟨hml, hmr⟩ := HLm.out _ (List.getElem_mem hlt)
      have hT := hid (srtX_take (xs := L.map (hdV hd)) (k := k) (by simpa using hlt))
      obtain ⟨m, em⟩ : ∃ m, L[k] = m := ⟨_, rfl⟩
      have EM := hid em
      rw [em] at g0 rA hml hmr
      have RA := hid rA
      have HML := hid hml
      have HMR := hid hmr
      clear em rA hml hmr
      go_wp2_with fail
      refine wp_region_T (fun W => W.cell? ⟨fb, fo + k, none⟩ = some (.slice A m.length c) ∧ W.cell? ⟨qb, 1, none⟩ = some (.slice A0 hd.length c0)) 9 (by kernel_rfl) ?_
      have FQ := hF.out.trans (Fr.refl wr).drew
      replace g0 := (Fr.refl wr).drew.cell g0
      replace e1 := (Fr.refl wr).drew.cell e1
      have HR0 := hid (HR.out.fr rdIL_mono (Fr.refl wr).drew)
      clear HR
      generalize wr.drew = W5 at FQ g0 e1 HR0 ⊢
      have HS : W5.cell? ⟨fb, fo + k, none⟩ = some (.slice A m.length c) ∧ W5.cell? ⟨qb, 1, none⟩ = some (.slice A0 hd.length c0) := ⟨g0, e1⟩
      have hkn : (k : Int) < (L.length : Int) := by omega
      ((refine wpAnyT_take 0 (v := ?_) rfl (by kernel_rfl) (fun _ _ _ h => h) (Or.inl ⟨by rfl, ?_⟩) (by assumption) ?_; rotate_left; (focus (intro W hSw; (try dsimp only at hSw); go_simp; (try with_reducible rfl); done)); (try simp only [Act.put, List.setIfInBounds_toArray, List.set_cons_zero, List.set_cons_succ])); (refine wpAnyT_take 1 (v := ?_) rfl (by kernel_rfl) (fun _ _ _ h => h) (Or.inl ⟨by rfl, ?_⟩) (by assumption) ?_; rotate_left; (focus (intro W hSw; (try dsimp only at hSw); go_simp; (try with_reducible rfl); done)); (try simp only [Act.put, List.setIfInBounds_toArray, List.set_cons_zero, List.set_cons_succ])); (refine wpAnyT_take 2 (v := ?_) rfl (by kernel_rfl) (fun _ _ _ h => h) (Or.inl ⟨by rfl, ?_⟩) (by assumption) ?_; rotate_left; (focus (intro W hSw; (try dsimp only at hSw); go_simp; (try with_reducible rfl); done)); (try simp only [Act.put, List.setIfInBounds_toArray, List.set_cons_zero, List.set_cons_succ])); (refine wpAnyT_take 3 (v := ?_) rfl (by kernel_rfl) (fun _ _ _ h => h) (Or.inl ⟨by rfl, ?_⟩) (by assumption) ?_; rotate_left; (focus (intro W hSw; (try dsimp only at hSw); go_simp; (try with_reducible rfl); done)); (try simp only [Act.put, List.setIfInBounds_toArray, List.set_cons_zero, List.set_cons_succ])); (refine wpAnyT_take 4 (v := ?_) rfl (by kernel_rfl) (fun _ _ _ h => h) (Or.inl ⟨by rfl, ?_⟩) (by assumption) ?_; rotate_left; (focus (intro W hSw; (try dsimp only at hSw); go_simp; (try with_reducible rfl); done)); (try simp only [Act.put, List.setIfInBounds_toArray, List.set_cons_zero, List.set_cons_succ])); (refine wpAnyT_take 5 (v := ?_) rfl (by kernel_rfl) (fun _ _ _ h => h) (Or.inl ⟨by rfl, ?_⟩) (by assumption) ?_; rotate_left; (focus (intro W hSw; (try dsimp only at hSw); go_simp; (try with_reducible rfl); done)); (try simp only [Act.put, List.setIfInBounds_toArray, List.set_cons_zero, List.set_cons_succ])); (refine wpAnyT_take 6 (v := ?_) rfl (by kernel_rfl) (fun _ _ _ h => h) (Or.inl ⟨by rfl, ?_⟩) (by assumption) ?_; rotate_left; (focus (intro W hSw; (try dsimp only at hSw); go_simp; (try with_reducible rfl); done)); (try simp only [Act.put, List.setIfInBounds_toArray, List.set_cons_zero, List.set_cons_succ])))
      ((refine wpAnyT_one 7 rfl (by kernel_rfl) (fun K hK => ?_); go_simp))
      refine (headOf A0 A c0 c hd m _ (HX0.out.fr rdInt_mono (F2.trans FQ)) (RA.out.fr rdInt_mono FQ) (by omega) (fun v hv => by have := HP7.out v hv; have := HML.out; omega)).mono ?_
      rintro e w5 ⟨A', c', rfl, hR5, hF5⟩
      have F5 := FQ.trans hF5
      have HS : w5.cell? ⟨fb, fo + k, none⟩ = some (.slice A m.length c) ∧ w5.cell? ⟨qb, 1, none⟩ = some (.slice A0 hd.length c0) := ⟨hF5.cell g0, hF5.cell e1⟩
      ((try dsimp only); refine hK.out _ _ (fun _ => HS) (fun _ => ?_); clear hK K; (try simp only [Act.put, List.setIfInBounds_toArray, List.set_cons_zero, List.set_cons_succ]))
      have hsm : Sm (hdV hd m) := rng_sm HMR.out fun v hv => by have := HP7.out v hv; have := HML.out; omega
      have hlen : (hdV hd m).length = hd.length := by unfold hdV; simp
      have hin : ∀ y ∈ out, y.length = (hdV hd m).length ∧ Sm y := fun y hy => by
        rw [HO.out, mem_srtX] at hy
        obtain ⟨m', hm', rfl⟩ := List.mem_map.1 hy
        obtain ⟨q1, q2⟩ := HLm.out m' (List.mem_of_mem_take hm')
        exact ⟨by unfold hdV; simp, rng_sm q2 fun v hv => by have := HP7.out v hv; omega⟩
      have hol : out.length ≤ 2000 := by
        rw [HO.out]
        refine Nat.le_trans (srtX_len _) ?_
        rw [List.length_map, List.length_take]; omega
      have ADD := hid (addIntsN b o cap c' hd.length A' out (hdV hd m) w5 hlen (HR0.out.fr rdIL_mono hF5) (hR5.mono rdInt_mono (fromB_le _ _)) hol hoc (by omega) hsm hin)
      have HF5 := hid F5
      clear hR5 FQ hsm hlen hin F5
      ((refine wpAnyT_one 8 rfl (by kernel_rfl) (fun K hK => ?_); go_simp))
      refine ADD.out.mono ?_
      rintro e w6 ⟨⟨b6, o6, cap6, rfl, hR6, hc6⟩, hF6⟩
      have HS : w6.cell? ⟨fb, fo + k, none⟩ = some (.slice A m.length c) ∧ w6.cell? ⟨qb, 1, none⟩ = some (.slice A0 hd.length c0) := ⟨(hF5.trans hF6).cell g0, (hF5.trans hF6).cell e1⟩
      obtain ⟨out6, eo6⟩ : ∃ l, insX out (hdV hd m) = l := ⟨_, rfl⟩
      rw [eo6] at hR6 hc6 ⊢
      have HO6 := hid (show out6 = srtX ((L.take (k + 1)).map (hdV hd)) by
        have h := hT.out
        rw [← List.map_take, ← List.map_take, List.getElem_map, EM.out, ← HO.out, eo6] at h
        exact h.symm)
      have HR6 := hid hR6
      have HF6 := hid (HF5.out.trans hF6)
      ((try dsimp only); refine hK.out _ _ (fun _ => HS) (fun _ => ?_); clear hK K; (try simp only [Act.put, List.setIfInBounds_toArray, List.set_cons_zero, List.set_cons_succ]))
      clear eo6 hR6 hF6 ADD HF5 hF5 g0 e1 HS
      ((refine wpAnyT_one 9 rfl (by kernel_rfl) (fun K hK => ?_); go_simp))
      ((try dsimp only); refine hK.out _ _ (fun h => absurd rfl h) (fun _ => ?_); clear hK K; (try simp only [Act.put, List.setIfInBounds_toArray, List.set_cons_zero, List.set_cons_succ]); refine wpAnyT_done (by kernel_rfl) ?_ _)
      go_wp2
      go_roundw
      case rel => exact ⟨k + 1, b6, o6, cap6, out6, by omega, by go_num, rfl, hc6, HO6, HR6, HF6⟩
      case measure => simp [intOf]; omega
    · obtain rfl : k = L.length := by omega
      have RES := hid (show ILSome (ans q hd bd fs) (.returned (.slice (some ⟨b, o, none⟩) out.length cap)) wr ∧ Fr w wr from by
        have e : out = ans q hd bd fs := by rw [HA.out, HO.out, List.take_length]
        rw [← e]
        exact ⟨⟨b, o, cap, rfl, HR.out, hoc⟩, F2.trans hF.out⟩)
      clear HO HR hF
      go_wp2
      go_ret
      exact RES.out
set_option maxRecDepth 100000 in
set_option maxHeartbeats 2000000 in
theorem specAnswers (q : Int) (A0 : Option Addr) (c0 : Nat) (hd : List Int) (A1 : Option Addr) (c1 : Nat) (bd : List Atom) (F : Option Addr) (fc : Nat) (fs : List Fact) (w : World) (hx0 : RdSl rdInt w.cell? 1 A0 hd) (hx1 : RdSl rdAtom w.cell? 3 A1 bd) (hxf : RdSl rdFact w.cell? 3 F fs) (hl0 : hd.length ≤ 1048576) (hl1 : bd.length ≤ 1048576) (hl2 : fs.length ≤ 1048576) :
    Calls Tryz.prog 17 #[.agg #[.int .i64 q, .slice A0 hd.length c0, .slice A1 bd.length c1], .slice F fs.length fc] w fun r w' => ILPost (ansO q hd bd fs) r w' ∧ Fr w w' := by
  have HX0 := hid hx0
  have HX1 := hid hx1
  have HXF := hid hxf
  clear hx0 hx1 hxf
  have BA := Blk.new w 26 #[.int .i64 q, .slice A0 hd.length c0, .slice A1 bd.length c1]
  have F1 : Fr w (w.alloc (.cells #[.int .i64 q, .slice A0 hd.length c0, .slice A1 bd.length c1] 26)) := (Fr.refl _).alloc _
  have nilP : ∀ W, ILPost [] (.returned (.slice none 0 0)) W := fun W => ⟨none, 0, rfl, RdSl.nil, Nat.le_refl _⟩
  go_enter Tryz.func17, Tryz.ntmps17
  go_wp2_with fail
  refine (specVRule _ _ _ _ _ _ _ _ (HX0.out.fr rdInt_mono F1) (HX1.out.fr rdAtom_mono F1) hl0 hl1).mono ?_
  rintro r w1 ⟨rfl, b1⟩
  have F2 := F1.trans b1
  cases hv : vrule q hd bd
  · have R := hid (show ansO q hd bd fs = [] by unfold ansO; rw [hv]; rfl)
    go_wp2
    go_ret
    rw [R.out]
    exact ⟨nilP _, F2⟩
  · go_wp2_with fail
    refine (specVFacts F fc fs _ (HXF.out.fr rdFact_mono F2) hl2).mono ?_
    rintro r w2 ⟨rfl, b2⟩
    have F3 := F2.trans b2
    replace BA := BA.fr (b1.trans b2)
    cases hvf : vfacts fs
    · have R := hid (show ansO q hd bd fs = [] by unfold ansO; rw [hv, hvf]; rfl)
      go_wp2
      go_ret
      rw [R.out]
      exact ⟨nilP _, F3⟩
    · have R0 := hid (show ansO q hd bd fs = ans q hd bd fs by unfold ansO; rw [hv, hvf]; rfl)
      obtain ⟨v1, v2, _⟩ := vfacts_parts hvf
      obtain ⟨x0, x1, x2, _⟩ := BA.three
      have hlt := BA.lt
      have CALL := hid (specAnsW q A0 A1 F c0 c1 fc hd bd fs w2 (HX0.out.fr rdInt_mono F3) (HX1.out.fr rdAtom_mono F3) (HXF.out.fr rdFact_mono F3) hv (fun f hf => by have := v2 f hf; omega) (by omega))
      clear hv hvf v2
      go_wp2_with fail
      refine CALL.out.mono ?_
      rintro r w4 ⟨⟨b, o, cap, rfl, hR, hc⟩, b4⟩
      have RES := hid (show ILPost (ansO q hd bd fs) (.returned (.slice (some ⟨b, o, none⟩) (ans q hd bd fs).length cap)) w4 from by rw [R0.out]; exact ⟨_, cap, rfl, hR, hc⟩)
      have HF4 := hid (F3.trans b4)
      clear hR hc b4 CALL
      go_wp2
      go_ret
      exact ⟨RES.out, HF4.out⟩
end Go.Proofs.YtahclhldpcboeaaGreatDoor
