/- Walks of the frozen atoms on both sides. -/
import Derived.Test.YtahclhldpcboeaaGreatDoorSrtJ
import Derived.Test.YtahclhldpcboeaaGreatDoorCptI
import Derived.Test.YtahclhldpcboeaaGreatDoorFrzW
import Derived.Test.YtahclhldpcboeaaGreatDoorRuleI
import Derived.Test.YtahclhldpcboeaaGreatDoorMark
namespace Go.Proofs.YtahclhldpcboeaaGreatDoor
open Go Go.RowKit

theorem fat_rd {w : World} {g base : Nat} {t : TypeId} {cs : Array Value} {xs : List Fact} (h : RdSl rdFact (fromB w base) 3 (some ⟨g, 0, none⟩) xs) (hB : Blk w g t cs) : FAt cs xs := fun i hi => by
  obtain ⟨b, o, hA, c0, c1, c2⟩ := h.fact hi
  injection hA with hA
  injection hA with h1 h2 _
  subst h1 h2
  replace c0 := fromB_le _ _ _ _ c0
  replace c1 := fromB_le _ _ _ _ c1
  replace c2 := fromB_le _ _ _ _ c2
  rw [Nat.zero_add, hB.cell] at c0 c1 c2
  exact ⟨c0, c1, c2⟩
theorem rd_fat {w : World} {g base : Nat} {t : TypeId} {cs : Array Value} {xs : List Fact} (h : FAt cs xs) (hB : Blk w g t cs) (hg : base ≤ g) : RdSl rdFact (fromB w base) 3 (some ⟨g, 0, none⟩) xs := fun _ => ⟨g, 0, rfl, fun i hi => by
  obtain ⟨h0, h1, h2⟩ := h i hi
  have e : ∀ j, (fun j => fromB w base ⟨g, 0 + i * 3 + j, none⟩) j = cs[i * 3 + j]? := fun j => by
    show (if base ≤ g then _ else none) = _
    rw [if_pos hg, hB.cell, Nat.zero_add]
  exact ⟨(e 0).trans h0, (e 1).trans h1, (e 2).trans h2⟩⟩
/-- An owned row of facts, with elements in it: its block. -/
theorem own_blkF {w : World} {base n : Nat} {v : Value} {xs : List Fact} (h : w.ownsRow base 54 3 v n (xs.flatMap cellsF)) (hn : n = xs.length) (h0 : 0 < n) : ∃ g cap cs, v = .slice (some ⟨g, 0, none⟩) n cap ∧ base ≤ g ∧ Blk w g 54 cs ∧ n ≤ cap ∧ n * 3 ≤ cs.size ∧ FAt cs xs := by
  have h' := h
  rcases h.2 with ⟨_, h1⟩ | ⟨g, cap, cur, hv, hg, hh, hnc, _, hs, _⟩
  · omega
  · subst hv
    exact ⟨g, cap, cur, rfl, hg, hh, hnc, by rw [hs]; exact Nat.mul_le_mul_right _ hnc, fat_rd (own_F h' hn) hh⟩
/-- A slice of facts of the call's own. -/
def FcPost (base : Nat) (L : List Fact) (e : Ending) (w' : World) : Prop := ∃ A' cap', e = .returned (.slice A' L.length cap') ∧ RdSl rdFact (fromB w' base) 3 A' L ∧ Mk w' A' (L.length * 3) ∧ (∀ k, AtB A' k → base ≤ k) ∧ L.length ≤ cap'
theorem fcPost_out {base : Nat} {L : List Fact} {e : Ending} {w' : World} (h : FcPost base L e w') : ∃ A' cap', e = .returned (.slice A' L.length cap') ∧ RdSl rdFact (fromB w' base) 3 A' L ∧ Mk w' A' (L.length * 3) ∧ ∀ k, AtB A' k → base ≤ k := by
  obtain ⟨A', c', h1, h2, h3, h4, _⟩ := h
  exact ⟨A', c', h1, h2, h3, h4⟩
theorem fcPost_nil {base : Nat} {w' : World} : FcPost base [] (.returned (.slice none 0 0)) w' := ⟨none, 0, rfl, RdSl.nil, fun h => absurd rfl h, fun k ⟨_, h, _⟩ => (by cases h), Nat.le_refl _⟩
set_option maxRecDepth 100000 in
set_option maxHeartbeats 2000000 in
theorem frozenW (b : Nat) (A1 : Option Addr) (c1 : Nat) (bd : List Atom) (w : World) (hb : w.cell? ⟨b, 2, none⟩ = some (.slice A1 bd.length c1)) (hx1 : RdSl rdAtom w.cell? 3 A1 bd) (h1 : 1 ≤ bd.length) (h6 : bd.length ≤ 6) :
    Calls Tryz.prog 38 #[.pointer (some ⟨b, 0, none⟩)] w fun r w' => FcPost w.heap.size (frz bd) r w' ∧ Fr w w' := by
  have HX := hid hx1
  clear hx1
  go_enter Tryz.func38, Tryz.ntmps38
  go_wp2
  go_loopw [3, 11] (fun s t wr => ∃ (k : Nat) (v : Value), k ≤ bd.length ∧ t = .int .i64 k ∧ v = s ∧ Fr w wr ∧ Hid (wr.ownsRow w.heap.size 54 3 v k (((bd.take k).map Atom.fact).flatMap cellsF))) (fun _ t _ => bd.length - (intOf t).toNat)
  case atStart => exact ⟨0, _, by omega, rfl, rfl, Fr.refl _, hid own_nil⟩
  case round =>
    clear hb
    obtain ⟨k, v, hk, rfl, rfl, hf, hO⟩ := hrel
    have hsr := hf.size
    by_cases hlt : k < bd.length
    · obtain ⟨ab, ao, hA, d0, d1, d2⟩ := HX.out.atom hlt
      subst hA
      replace d0 := hf.cell d0
      replace d1 := hf.cell d1
      replace d2 := hf.cell d2
      have HT := hid (show ((bd.take (k + 1)).map Atom.fact).flatMap cellsF = ((bd.take k).map Atom.fact).flatMap cellsF ++ [.int .i64 bd[k].rel, .int .i64 bd[k].x, .int .i64 bd[k].y] by rw [List.take_succ_eq_append_getElem hlt, List.map_append, List.flatMap_append]; rfl)
      have F2 : Fr wr ((wr.alloc (.cells #[.int .i64 bd[k].rel, .int .i64 bd[k].x, .int .i64 bd[k].y] 63)).alloc (.cells #[.int .i64 bd[k].rel, .int .i64 bd[k].x, .int .i64 bd[k].y] 54)) := by (repeat (first | with_reducible exact Fr.refl _ | with_reducible assumption | with_reducible refine Fr.alloc ?_ _ | with_reducible refine Fr.drew ?_ | with_reducible refine Fr.drewN ?_ _ | (with_reducible refine Fr.setNew2 ?_ ?_ _; · (simp <;> omega)) | with_reducible refine Fr.trans ?_ (by assumption)))
      have hB2 : ∃ e', Blk ((wr.alloc (.cells #[.int .i64 bd[k].rel, .int .i64 bd[k].x, .int .i64 bd[k].y] 63)).alloc (.cells #[.int .i64 bd[k].rel, .int .i64 bd[k].x, .int .i64 bd[k].y] 54)) (wr.heap.size + 1) e' [Value.int .i64 bd[k].rel, .int .i64 bd[k].x, .int .i64 bd[k].y].toArray := blk_new (by simp)
      go_wp2_with (at_builtin; refine wp_app1 rfl _ _ 27 rfl w.heap.size 54 (.agg #[.int .i64 0, .int .i64 0, .int .i64 0]) 3 24 Tryz.underlying27 (by kernel_rfl) rfl (by decide) (by decide) _ _ _ rfl (own_fr hO.out F2) (by omega) (by simp; omega) (wr.heap.size + 1) [.int .i64 bd[k].rel, .int .i64 bd[k].x, .int .i64 bd[k].y] rfl hB2 rfl rfl ?_; intro v5 w5 hO5 hg5)
      have F5 : Fr w w5 := Fr.grown (hf.trans F2) hg5 (own_fr hO.out F2)
      have HO5 := hid hO5
      clear hO5 d0 d1 d2 hB2
      go_wp2
      go_roundw
      case rel => exact ⟨k + 1, v5, by omega, by go_num, rfl, F5, hid (by rw [HT.out]; exact HO5.out)⟩
      case measure => simp [intOf]; omega
    · obtain rfl : k = bd.length := by omega
      have hO1 : wr.ownsRow w.heap.size 54 3 v bd.length ((bd.map Atom.fact).flatMap cellsF) := by have h := hO.out; rwa [List.take_length] at h
      obtain ⟨g, cap, cs, rfl, hg, hB, hnc, hs, hF⟩ := own_blkF hO1 (by simp) (by omega)
      clear hO hO1 hlt hk
      obtain ⟨xs, ex⟩ : ∃ xs, bd.map Atom.fact = xs := ⟨_, rfl⟩
      have EX := hid ex
      have hxl : bd.length = xs.length := by rw [← ex]; simp
      rw [ex] at hF
      have HB := hid hB
      have HF := hid hF
      clear hB hF ex
      rw [hxl] at h1 h6 hnc hs ⊢
      obtain ⟨sz, hsz⟩ : ∃ sz, cs.size = sz := ⟨_, rfl⟩
      rw [hsz] at hs
      have hgl := HB.out.lt
      have h12 : xs.length ≤ 12 := by omega
      have KS := hid (sortFacts g cap sz xs cs wr HB.out hsz HF.out h1 h12 hs)
      go_wp2_with fail
      refine KS.out.mono ?_
      rintro r w1 ⟨rfl, ys, ⟨hyl, hym, ⟨cs1, hB1, hz1, hF1⟩, hC1⟩, hS1⟩
      have S1 := hid hS1
      have HB1 := hid hB1
      have HF1 := hid hF1
      clear hB1 hF1 hS1
      rw [← hyl] at h1 h6 hnc hs
      have h1000 : ys.length ≤ 1000 := by omega
      have KC := hid (compactF g cap sz ys cs1 w1 HB1.out hz1 HF1.out h1 h1000 hs hnc S1.out)
      rw [hyl] at KC
      have HYL := hid hyl
      clear hyl
      go_wp2_with fail
      with_reducible refine KC.out.mono ?_
      rintro r w2 hC
      obtain ⟨ds, rfl, hd1, hd2, hd3, ⟨cs2, hB2, hz2, hF2⟩, hC2⟩ := hC
      have e : ds = frz bd := frz_eq hd1 fun x => by rw [hd2, hym, EX.out]
      subst e
      have hC3 : Ch (· = g) wr w2 := hC1.trans hC2
      have RES := hid (show FcPost w.heap.size (frz bd) (.returned (.slice (some ⟨g, 0, none⟩) (frz bd).length cap)) w2 ∧ Fr w w2 from ⟨⟨_, cap, rfl, rd_fat hF2 hB2 hg, fun _ => ⟨g, 54, cs2, rfl, hB2, by omega⟩, fun k ⟨ad, h, h'⟩ => by injection h with h; subst h; rw [← h']; exact hg, by omega⟩, hC3.fr (fun k hk => by have : k = g := hk; omega) hf⟩)
      clear hB2 hF2 hC3 hC2 hC1 hd1 hd2 hym
      go_wp2
      go_ret
      exact RES.out
/-- What Freeze answers. -/
def frzOf (q : Int) (hd : List Int) (bd : List Atom) : List Fact := if vrule q hd bd then frz bd else []
theorem vrule_bd {q : Int} {hd : List Int} {bd : List Atom} (h : vrule q hd bd = true) : 1 ≤ bd.length ∧ bd.length ≤ 6 := by
  unfold vrule at h
  simp only [Bool.and_eq_true, decide_eq_true_eq] at h
  exact ⟨by omega, by omega⟩
theorem frzOf_len {q : Int} {hd : List Int} {bd : List Atom} : (frzOf q hd bd).length ≤ 2000 := by
  unfold frzOf
  split
  · rename_i h
    have := vrule_bd h
    have := frz_len bd
    omega
  · simp
set_option maxHeartbeats 1000000 in
theorem implFreeze (q : Int) (A0 : Option Addr) (c0 : Nat) (hd : List Int) (A1 : Option Addr) (c1 : Nat) (bd : List Atom) (w : World) (hx0 : RdSl rdInt w.cell? 1 A0 hd) (hx1 : RdSl rdAtom w.cell? 3 A1 bd) (hl0 : hd.length ≤ 1048576) (hl1 : bd.length ≤ 1048576) :
    Calls Tryz.prog 14 #[.agg #[.int .i64 q, .slice A0 hd.length c0, .slice A1 bd.length c1]] w fun r w' => FcPost w.heap.size (frzOf q hd bd) r w' ∧ Fr w w' := by
  have HX0 := hid hx0
  have HX1 := hid hx1
  clear hx0 hx1
  have BA := Blk.new w 26 #[.int .i64 q, .slice A0 hd.length c0, .slice A1 bd.length c1]
  have F1 : Fr w (w.alloc (.cells #[.int .i64 q, .slice A0 hd.length c0, .slice A1 bd.length c1] 26)) := (Fr.refl _).alloc _
  go_enter Tryz.func14, Tryz.ntmps14
  go_wp2_with fail
  refine (implValidRule _ _ _ _ _ _ _ _ (HX0.out.fr rdInt_mono F1) (HX1.out.fr rdAtom_mono F1) hl0 hl1).mono ?_
  rintro r w1 ⟨rfl, b1⟩
  have F2 := F1.trans b1
  have hs := F2.size
  cases hv : vrule q hd bd
  · have R := hid (show frzOf q hd bd = [] by unfold frzOf; rw [hv]; rfl)
    go_wp2
    go_ret
    rw [R.out]
    exact ⟨fcPost_nil, F2⟩
  · have R := hid (show frzOf q hd bd = frz bd by unfold frzOf; rw [hv]; rfl)
    obtain ⟨v1, v2⟩ := vrule_bd hv
    clear hv
    go_wp2_with fail
    refine (frozenW w.heap.size A1 c1 bd _ ((BA.fr b1).cell 2) (HX1.out.fr rdAtom_mono F2) v1 v2).mono ?_
    rintro r w2 ⟨hp, b2⟩
    obtain ⟨A', c', rfl, k1, k2, k3, k4⟩ := hp
    have RES := hid (show FcPost w.heap.size (frz bd) (.returned (.slice A' (frz bd).length c')) w2 ∧ Fr w w2 from ⟨⟨A', c', rfl, k1.mono rdFact_mono (fromB_lo hs), k2, fun k hk => Nat.le_trans hs (k3 k hk), k4⟩, F2.trans b2⟩)
    clear k1 k2 k3 k4
    go_wp2
    go_ret
    rw [R.out]
    exact RES.out
/-- A slice of facts, wherever it lies. -/
def SpPost (L : List Fact) (e : Ending) (w' : World) : Prop := ∃ A' cap', e = .returned (.slice A' L.length cap') ∧ RdSl rdFact (fromB w' 0) 3 A' L
theorem spPost_out {L : List Fact} {e : Ending} {w' : World} (h : SpPost L e w') : ∃ A' cap', e = .returned (.slice A' L.length cap') ∧ RdSl rdFact (fromB w' 0) 3 A' L := h
end Go.Proofs.YtahclhldpcboeaaGreatDoor
