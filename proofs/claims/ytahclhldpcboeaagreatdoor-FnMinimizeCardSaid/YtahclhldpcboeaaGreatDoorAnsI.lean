/- Walk of the program's Answers. -/
import Derived.Test.YtahclhldpcboeaaGreatDoorSrtA
import Derived.Test.YtahclhldpcboeaaGreatDoorRuleI
import Derived.Test.YtahclhldpcboeaaGreatDoorFactW
namespace Go.Proofs.YtahclhldpcboeaaGreatDoor
open Go Go.RowKit

/-- Lists of ints that a call has made: each in a block of its own. -/
def AnPost (base : Nat) (L : List (List Int)) (e : Ending) (w : World) : Prop := ∃ (ds : List (Nat × List Int)) (A : Option Addr) (cap : Nat), e = .returned (.slice A ds.length cap) ∧ ds.map (·.2) = L ∧ AR w base ds ∧ (ds ≠ [] → ∃ g cs, A = some ⟨g, 0, none⟩ ∧ base ≤ g ∧ Blk w g 23 cs ∧ RAt cs ds)
theorem anPost_nil {base : Nat} {w : World} : AnPost base [] (.returned (.slice none 0 0)) w := ⟨[], none, 0, rfl, rfl, ⟨(fun r hr => by cases hr), List.nodup_nil⟩, fun h => absurd rfl h⟩
theorem AR.fr {w w' : World} {base : Nat} {R : List (Nat × List Int)} (h : AR w base R) (hf : Fr w w') : AR w' base R := ⟨fun r hr => ⟨(h.blk r hr).1, (h.blk r hr).2.fr hf⟩, h.nd⟩
theorem AR.ch {w w' : World} {base g : Nat} {R : List (Nat × List Int)} (h : AR w base R) (hc : Ch (· = g) w w') (hg : ∀ r ∈ R, r.1 ≠ g) : AR w' base R := ⟨fun r hr => ⟨(h.blk r hr).1, (h.blk r hr).2.ch hc (hg r hr)⟩, h.nd⟩
theorem AR.perm {w : World} {base : Nat} {R R' : List (Nat × List Int)} (h : AR w base R) (hp : R'.Perm R) : AR w base R' := ⟨fun r hr => h.blk r (hp.mem_iff.1 hr), ((hp.map (·.1)).nodup_iff).2 h.nd⟩
theorem AR.sub {w : World} {base : Nat} {R R' : List (Nat × List Int)} (h : AR w base R) (hp : R'.Sublist R) : AR w base R' := ⟨fun r hr => h.blk r (hp.subset hr), List.Nodup.sublist (hp.map (·.1)) h.nd⟩
set_option maxRecDepth 100000 in
set_option maxHeartbeats 2000000 in
theorem compactA0 (A : Option Addr) (cap : Nat) (fv : Value) (w : World) : Calls Tryz.prog 33 #[.slice A 0 cap, fv] w fun r w' => r = .returned (.slice A 0 cap) ∧ w' = w := by
  go_enter Tryz.func33, Tryz.ntmps33
  go_wp2
  go_ret
  exact ⟨rfl, rfl⟩
set_option maxRecDepth 100000 in
set_option maxHeartbeats 4000000 in
theorem implAnswers (q : Int) (A0 : Option Addr) (c0 : Nat) (hd : List Int) (A1 : Option Addr) (c1 : Nat) (bd : List Atom) (F : Option Addr) (fc : Nat) (fs : List Fact) (w : World) (hx0 : RdSl rdInt w.cell? 1 A0 hd) (hx1 : RdSl rdAtom w.cell? 3 A1 bd) (hxf : RdSl rdFact w.cell? 3 F fs) (hl0 : hd.length ≤ 1048576) (hl1 : bd.length ≤ 1048576) (hl2 : fs.length ≤ 1048576) :
    Calls Tryz.prog 10 #[.agg #[.int .i64 q, .slice A0 hd.length c0, .slice A1 bd.length c1], .slice F fs.length fc] w fun r w' => AnPost w.heap.size (ansO q hd bd fs) r w' ∧ Fr w w' := by
  have HX0 := hid hx0
  have HX1 := hid hx1
  have HXF := hid hxf
  clear hx0 hx1 hxf
  have BA := Blk.new w 26 #[.int .i64 q, .slice A0 hd.length c0, .slice A1 bd.length c1]
  have F1 : Fr w (w.alloc (.cells #[.int .i64 q, .slice A0 hd.length c0, .slice A1 bd.length c1] 26)) := (Fr.refl _).alloc _
  have hmf : ∀ (fn : Fn) (first cap : Array Value) (w : World), (Instr.makeFunc fn first cap).run Tryz.prog w = .ok (.func fn first cap) w := fun _ _ _ _ => rfl
  go_enter Tryz.func10, Tryz.ntmps10
  go_wp2_with fail
  refine (implValidRule _ _ _ _ _ _ _ _ (HX0.out.fr rdInt_mono F1) (HX1.out.fr rdAtom_mono F1) hl0 hl1).mono ?_
  rintro r w1 ⟨rfl, b1⟩
  have F2 := F1.trans b1
  replace BA := BA.fr b1
  cases hv : vrule q hd bd
  · have R := hid (show ansO q hd bd fs = [] by unfold ansO; rw [hv]; rfl)
    go_wp2
    go_ret
    rw [R.out]
    exact ⟨anPost_nil, F2⟩
  · go_wp2_with fail
    refine (implVFacts F fc fs _ (HXF.out.fr rdFact_mono F2) hl2).mono ?_
    rintro r w2 ⟨rfl, b2⟩
    have F3 := F2.trans b2
    replace BA := BA.fr b2
    clear F1 F2 b1 b2
    cases hvf : vfacts fs
    · have R := hid (show ansO q hd bd fs = [] by unfold ansO; rw [hv, hvf]; rfl)
      go_wp2
      go_ret
      rw [R.out]
      exact ⟨anPost_nil, F3⟩
    · have R0 := hid (show ansO q hd bd fs = ans q hd bd fs by unfold ansO; rw [hv, hvf]; rfl)
      obtain ⟨p1, p2, p3, p4, p5, p6, p7⟩ := vrule_parts hv
      obtain ⟨v1, v2, _⟩ := vfacts_parts hvf
      have hqb := BA.lt
      have BL := (Blk.new w2 32 #[.slice none 0 0]).alloc (.cells #[.int .i64 0] 3)
      have BM := Blk.new (w2.alloc (.cells #[.slice none 0 0] 32)) 3 #[.int .i64 0]
      rw [World.size_alloc] at BM
      have G3 : Fr w2 ((w2.alloc (.cells #[.slice none 0 0] 32)).alloc (.cells #[.int .i64 0] 3)) := by (repeat (first | with_reducible exact Fr.refl _ | with_reducible assumption | with_reducible refine Fr.alloc ?_ _ | with_reducible refine Fr.drew ?_ | with_reducible refine Fr.drewN ?_ _ | (with_reducible refine Fr.setNew2 ?_ ?_ _; · (simp <;> omega)) | with_reducible refine Fr.trans ?_ (by assumption)))
      have hs2 := F3.size
      go_wp2_with fail
      generalize (w2.alloc (.cells #[.slice none 0 0] 32)).alloc (.cells #[.int .i64 0] 3) = W3 at BL BM G3 ⊢
      obtain ⟨lsb, els⟩ : ∃ g, w2.heap.size = g := ⟨_, rfl⟩
      rw [els] at BL BM hqb hs2 ⊢
      refine (matchW q A0 A1 F c0 c1 fc w.heap.size lsb (lsb + 1) hd bd fs w W3 (F3.trans G3) (BA.fr G3) BL BM (by omega) (by omega) HX0.out HX1.out HXF.out hv (fun f hf => by have := v2 f hf; omega) (by omega)).mono ?_
      rintro r w4 ⟨rfl, R, V, r1, r2, r3, r4, hF4⟩
      obtain ⟨A, cap, rfl⟩ := own_form r2
      have hR2 : R.length ≤ 2000 := by
        have := congrArg List.length r4
        rw [List.length_map, List.length_map, List.length_take] at this
        omega
      have hr9 : ∀ r ∈ R, r.2.length ≤ 1000 := fun r hr => by
        have hm : r.2 ∈ R.map (·.2) := List.mem_map_of_mem hr
        rw [r4] at hm
        obtain ⟨m, _, hm⟩ := List.mem_map.1 hm
        rw [← hm]
        unfold hdV
        rw [List.length_map]
        omega
      have hans : ans q hd bd fs = srtX (R.map (·.2)) := by rw [r4]; rfl
      have HANS := hid hans
      have t0 := r1.cell 0
      have hl4 := r1.lt
      have HF4 := hid hF4
      clear hans r4 hF4 BA BL BM G3 F3 els hv hvf
      by_cases hR : R = []
      · subst hR
        have t1 : w4.cell? ⟨lsb, 0, none⟩ = some (.slice A 0 cap) := t0
        have RES := hid (show ans q hd bd fs = [] from HANS.out)
        clear t0
        go_wp2_with fail
        refine (sortA0 A cap _ _).mono ?_
        rintro r w5 ⟨rfl, rfl⟩
        go_wp2_with fail
        refine (compactA0 A cap _ _).mono ?_
        rintro r w6 ⟨rfl, rfl⟩
        go_wp2
        go_ret
        rw [R0.out, RES.out]
        exact ⟨⟨[], A, cap, rfl, rfl, ⟨(fun r hr => by cases hr), List.nodup_nil⟩, fun h => absurd rfl h⟩, HF4.out⟩
      · have hpos : 0 < R.length := List.length_pos_iff.2 hR
        rcases r2.2 with ⟨_, h1⟩ | ⟨g, c, cur, hvv, hg, hh, hnc, hcm, hcs, htk⟩
        · rw [h1] at hpos; exact absurd hpos (by omega)
        · injection hvv with hA _ hc
          subst hA hc
          have hB : Blk w4 g 23 cur := hh
          have hRA : RAt cur R := fun i hi => by
            have h2 : cur.toList[i]? = (R.map rowV)[i]? := by rw [← htk, List.getElem?_take_of_lt (by omega)]
            rw [Array.getElem?_toList, List.getElem?_map, List.getElem?_eq_getElem hi] at h2
            exact h2
          have hgr : ∀ r ∈ R, r.1 ≠ g := fun r hr => blk_type (r3.blk r hr).2 hB (by decide)
          have hlg : lsb ≠ g := blk_type r1 hB (by decide)
          have SORT := hid (sortA g cap w.heap.size R cur w4 hB hRA r3 hgr hR2 hr9 hR)
          have HR3 := hid r3
          have HGR := hid hgr
          have HBB := hid r1
          have t1 : w4.cell? ⟨lsb, 0, none⟩ = some (.slice (some ⟨g, 0, none⟩) R.length cap) := t0
          obtain ⟨n, hn⟩ : ∃ n, R.length = n := ⟨_, rfl⟩
          have HN := hid hn
          rw [hn] at t1
          clear r2 hh htk hB hRA r3 hgr t0 r1 hn
          go_wp2_with fail
          rw [HN.out] at SORT
          refine SORT.out.mono ?_
          rintro r w5 ⟨rfl, R', cs', hperm, hsrt, hB5, hz5, hRA5, hC5⟩
          have t5 : w5.cell? ⟨lsb, 0, none⟩ = some (.slice (some ⟨g, 0, none⟩) n cap) := hC5.cell (by exact hlg) t1
          have hn5 : R'.length = n := by rw [hperm.length_eq]; exact HN.out
          have hl5 : lsb < w5.heap.size := Nat.lt_of_lt_of_le hl4 hC5.size
          have hgr5 : ∀ r ∈ R', r.1 ≠ g := fun r hr => HGR.out r (hperm.mem_iff.1 hr)
          have AR5 := (HR3.out.perm hperm).ch hC5 hgr5
          have COMP := hid (compactA g cap cs'.size w.heap.size R' cs' w5 hB5 rfl hRA5 AR5 hgr5 (by have := HN.out; omega) (by have := HN.out; omega) (fun r hr => hr9 r (hperm.mem_iff.1 hr)) (by have := HN.out; omega) (by have := HN.out; omega) hsrt)
          rw [hn5] at COMP
          have HAR := hid AR5
          have HG5 := hid hgr5
          have HP := hid hperm
          have HF5 := hid (hC5.fr (a := w) (fun j hj => by have : j = g := hj; omega) HF4.out)
          clear hperm hsrt hB5 hRA5 hC5 AR5 hgr5 t1 hn5 SORT
          go_wp2_with fail
          refine COMP.out.mono ?_
          rintro r w6 ⟨ds, rfl, q1, q2, q3, ⟨cs6, k1, k2, k3⟩, hC6⟩
          have RES := hid (show AnPost w.heap.size (ans q hd bd fs) (.returned (.slice (some ⟨g, 0, none⟩) ds.length cap)) w6 from
            ⟨ds, _, cap, rfl, by
              rw [HANS.out]
              refine srtX_eq q2 fun x => ?_
              rw [q3]
              exact (HP.out.map (·.2)).mem_iff, (HAR.out.ch hC6 HG5.out).sub q1, fun _ => ⟨g, cs6, rfl, hg, k1, k3⟩⟩)
          have HF6 := hid (hC6.fr (a := w) (fun j hj => by have : j = g := hj; omega) HF5.out)
          clear q1 q2 q3 k1 k2 k3 hC6 COMP
          go_wp2
          go_ret
          rw [R0.out]
          exact ⟨RES.out, HF6.out⟩
end Go.Proofs.YtahclhldpcboeaaGreatDoor
