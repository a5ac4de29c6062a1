/- FindHomomorphism and IsContained on both sides, as the exact laws take them. -/
import Derived.Test.YtahclhldpcboeaaDoorHmgW
import Derived.Test.YtahclhldpcboeaaDoorMark
namespace Go.Proofs.YtahclhldpcboeaaDoor
open Go Go.RowKit

/-- A slice of ints of the call's own, and a bool. -/
def FhPost (base : Nat) (L : List Int) (b : Bool) (r : Ending) (w' : World) : Prop := ∃ A' cap', r = .returned (.tuple #[.slice A' L.length cap', .bool b]) ∧ RdSl rdInt (fromB w' base) 1 A' L ∧ Mk w' A' L.length ∧ ∀ k, AtB A' k → base ≤ k
theorem fhPost_out {base : Nat} {L : List Int} {b : Bool} {r : Ending} {w' : World} (h : FhPost base L b r w') : ∃ A' cap', r = .returned (.tuple #[.slice A' L.length cap', .bool b]) ∧ RdSl rdInt (fromB w' base) 1 A' L ∧ Mk w' A' L.length ∧ ∀ k, AtB A' k → base ≤ k := h
theorem HsPost.fh {w w' : World} {o : Option (List Int)} {r : Ending} (h : HsPost w o r w') : FhPost w.heap.size (o.getD []) o.isSome r w' := by
  cases o with
  | none => exact ⟨none, 0, h, RdSl.nil, fun h => absurd rfl h, fun k ⟨_, h, _⟩ => by cases h⟩
  | some m =>
    obtain ⟨g, c, cs, h, hB, hI, hs, hg⟩ := h
    refine ⟨some ⟨g, 0, none⟩, c, h, fun _ => ⟨g, 0, rfl, fun i hi => ?_⟩, fun _ => ⟨g, _, cs, rfl, hB, hs⟩, fun k ⟨ad, h1, h2⟩ => by cases h1; rw [← h2]; exact hg⟩
    show fromB w' w.heap.size ⟨g, 0 + i * 1 + 0, none⟩ = _
    unfold fromB
    rw [if_pos hg, hB.cell]
    have h1 := hI i hi
    simpa using h1
section
variable (q1 q2 : Int) (A0 A1 B0 B1 : Option Addr) (c0 c1 d0 d1 : Nat) (hd1 hd2 : List Int) (bd1 bd2 : List Atom)
theorem fndL_len {q1 q2 : Int} {hd1 hd2 : List Int} {bd1 bd2 : List Atom} : ((fndO q1 hd1 bd1 q2 hd2 bd2).getD []).length ≤ 2000 := by
  unfold fndO
  split
  · rename_i h
    cases ho : homO q1 hd1 bd1 hd2 bd2 with
    | none => simp
    | some m =>
      unfold homO at ho
      obtain ⟨m0, h0, rfl⟩ := Option.map_eq_some_iff.1 ho
      have := hom1_len h0
      rw [Bool.and_eq_true] at h
      have := vrule_parts h.1
      simp; omega
  · simp
theorem specFH (w : World) (hx0 : RdSl rdInt w.cell? 1 A0 hd1) (hx1 : RdSl rdAtom w.cell? 3 A1 bd1) (hy0 : RdSl rdInt w.cell? 1 B0 hd2) (hy1 : RdSl rdAtom w.cell? 3 B1 bd2) (hl0 : hd1.length ≤ 1048576) (hl1 : bd1.length ≤ 1048576) (hl2 : hd2.length ≤ 1048576) (hl3 : bd2.length ≤ 1048576) :
    Calls Tryd.prog 16 #[.agg #[.int .i64 q1, .slice A0 hd1.length c0, .slice A1 bd1.length c1], .agg #[.int .i64 q2, .slice B0 hd2.length d0, .slice B1 bd2.length d1]] w fun r w' => FhPost w.heap.size ((fndO q1 hd1 bd1 q2 hd2 bd2).getD []) (fndO q1 hd1 bd1 q2 hd2 bd2).isSome r w' ∧ Fr w w' :=
  (specFindHom q1 q2 A0 A1 B0 B1 c0 c1 d0 d1 hd1 hd2 bd1 bd2 w hx0 hx1 hy0 hy1 hl0 hl1 hl2 hl3).mono fun _ _ ⟨h, k⟩ => ⟨h.fh, k⟩
theorem implFH (ei ea : Addr) (w : World) (hx0 : RdSl rdInt w.cell? 1 A0 hd1) (hx1 : RdSl rdAtom w.cell? 3 A1 bd1) (hy0 : RdSl rdInt w.cell? 1 B0 hd2) (hy1 : RdSl rdAtom w.cell? 3 B1 bd2) (hl0 : hd1.length ≤ 1048576) (hl1 : bd1.length ≤ 1048576) (hl2 : hd2.length ≤ 1048576) (hl3 : bd2.length ≤ 1048576)
    (hc : bd1.length ≤ c1) (hc2 : c1 ≤ maxLen) (he0 : w.cell? ⟨0, 0, none⟩ = some (noHom ei)) (he1 : w.cell? ⟨1, 0, none⟩ = some (noHom ea)) :
    Calls Tryd.prog 17 #[.agg #[.int .i64 q1, .slice A0 hd1.length c0, .slice A1 bd1.length c1], .agg #[.int .i64 q2, .slice B0 hd2.length d0, .slice B1 bd2.length d1]] w fun r w' => FhPost w.heap.size ((fndO q1 hd1 bd1 q2 hd2 bd2).getD []) (fndO q1 hd1 bd1 q2 hd2 bd2).isSome r w' ∧ Fr w w' :=
  (implFindHom q1 q2 A0 A1 B0 B1 c0 c1 d0 d1 hd1 hd2 bd1 bd2 ei ea w hx0 hx1 hy0 hy1 hl0 hl1 hl2 hl3 hc hc2 he0 he1).mono fun _ _ ⟨h, k⟩ => ⟨h.fh, k⟩
set_option maxRecDepth 100000 in
set_option maxHeartbeats 2000000 in
/-- IsContained(a, b): is there a homomorphism from b to a? -/
theorem specIsC (w : World) (hx0 : RdSl rdInt w.cell? 1 A0 hd1) (hx1 : RdSl rdAtom w.cell? 3 A1 bd1) (hy0 : RdSl rdInt w.cell? 1 B0 hd2) (hy1 : RdSl rdAtom w.cell? 3 B1 bd2) (hl0 : hd1.length ≤ 1048576) (hl1 : bd1.length ≤ 1048576) (hl2 : hd2.length ≤ 1048576) (hl3 : bd2.length ≤ 1048576) :
    Calls Tryd.prog 12 #[.agg #[.int .i64 q1, .slice A0 hd1.length c0, .slice A1 bd1.length c1], .agg #[.int .i64 q2, .slice B0 hd2.length d0, .slice B1 bd2.length d1]] w fun r w' => r = .returned (.bool (fndO q2 hd2 bd2 q1 hd1 bd1).isSome) ∧ Fr w w' := by
  have B0' := (Blk.new w 30 #[.int .i64 q1, .slice A0 hd1.length c0, .slice A1 bd1.length c1]).alloc (.cells #[.int .i64 q2, .slice B0 hd2.length d0, .slice B1 bd2.length d1] 30)
  have B1' := Blk.new (w.alloc (.cells #[.int .i64 q1, .slice A0 hd1.length c0, .slice A1 bd1.length c1] 30)) 30 #[.int .i64 q2, .slice B0 hd2.length d0, .slice B1 bd2.length d1]
  rw [World.size_alloc] at B1'
  have F1 : Fr w ((w.alloc (.cells #[.int .i64 q1, .slice A0 hd1.length c0, .slice A1 bd1.length c1] 30)).alloc (.cells #[.int .i64 q2, .slice B0 hd2.length d0, .slice B1 bd2.length d1] 30)) := by (repeat (first | with_reducible exact Fr.refl _ | with_reducible assumption | with_reducible refine Fr.alloc ?_ _ | with_reducible refine Fr.drew ?_ | with_reducible refine Fr.drewN ?_ _ | (with_reducible refine Fr.setNew2 ?_ ?_ _; · (simp <;> omega)) | with_reducible refine Fr.trans ?_ (by assumption)))
  have V1 := hid (fun W (h : Fr w W) => specVRule q1 A0 c0 hd1 A1 c1 bd1 W (hx0.fr rdInt_mono h) (hx1.fr rdAtom_mono h) hl0 hl1)
  have V2 := hid (fun W (h : Fr w W) => specVRule q2 B0 d0 hd2 B1 d1 bd2 W (hy0.fr rdInt_mono h) (hy1.fr rdAtom_mono h) hl2 hl3)
  have HM := hid (fun W (h : Fr w W) (e1 : vrule q1 hd1 bd1 = true) (e2 : vrule q2 hd2 bd2 = true) => specHomW q2 q1 B0 B1 A0 A1 d0 d1 c0 c1 hd2 hd1 bd2 bd1 W (hy0.fr rdInt_mono h) (hy1.fr rdAtom_mono h) (hx0.fr rdInt_mono h) (hx1.fr rdAtom_mono h) e2 e1)
  clear hx0 hx1 hy0 hy1
  go_enter Tryd.func12, Tryd.ntmps12
  go_wp2_with fail
  generalize (w.alloc (.cells #[.int .i64 q1, .slice A0 hd1.length c0, .slice A1 bd1.length c1] 30)).alloc (.cells #[.int .i64 q2, .slice B0 hd2.length d0, .slice B1 bd2.length d1] 30) = w1 at B0' B1' F1 ⊢
  refine (V1.out w1 F1).mono ?_
  rintro _ w2 ⟨rfl, hF2⟩
  have F2 := F1.trans hF2
  replace B0' := B0'.fr hF2
  replace B1' := B1'.fr hF2
  clear hF2 F1
  cases hv1 : vrule q1 hd1 bd1
  · have RES : Hid ((fndO q2 hd2 bd2 q1 hd1 bd1).isSome = false) := hid (by unfold fndO; rw [hv1, Bool.and_false]; rfl)
    clear hv1
    go_wp2
    go_ret
    exact ⟨ret_bool RES.out.symm, F2⟩
  obtain ⟨b0, b1, b2, _⟩ := B0'.three
  obtain ⟨e0, e1, e2, _⟩ := B1'.three
  go_wp2_with fail
  refine (V2.out w2 F2).mono ?_
  rintro _ w3 ⟨rfl, hF3⟩
  have F3 := F2.trans hF3
  replace B0' := B0'.fr hF3
  replace B1' := B1'.fr hF3
  clear hF3 F2 b0 b1 b2 e0 e1 e2
  cases hv2 : vrule q2 hd2 bd2
  · have RES : Hid ((fndO q2 hd2 bd2 q1 hd1 bd1).isSome = false) := hid (by unfold fndO; rw [hv2]; rfl)
    clear hv1
    go_wp2
    go_ret
    exact ⟨ret_bool RES.out.symm, F3⟩
  obtain ⟨b0, b1, b2, _⟩ := B0'.three
  obtain ⟨e0, e1, e2, _⟩ := B1'.three
  have HMC := hid (HM.out w3 F3 hv1 hv2)
  have EQ := hid (show fndO q2 hd2 bd2 q1 hd1 bd1 = homO q2 hd2 bd2 hd1 bd1 by unfold fndO; rw [hv1, hv2]; rfl)
  clear hv1 hv2 V1 V2 HM
  go_wp2_with fail
  refine HMC.out.mono ?_
  rintro r w4 ⟨hP, hF4⟩
  obtain ⟨v, rfl⟩ := hP.form
  clear hP HMC
  go_wp2
  go_ret
  exact ⟨ret_bool (by rw [EQ.out]), F3.trans hF4⟩
set_option maxRecDepth 100000 in
set_option maxHeartbeats 2000000 in
theorem implIsC (ei ea : Addr) (w : World) (hx0 : RdSl rdInt w.cell? 1 A0 hd1) (hx1 : RdSl rdAtom w.cell? 3 A1 bd1) (hy0 : RdSl rdInt w.cell? 1 B0 hd2) (hy1 : RdSl rdAtom w.cell? 3 B1 bd2) (hl0 : hd1.length ≤ 1048576) (hl1 : bd1.length ≤ 1048576) (hl2 : hd2.length ≤ 1048576) (hl3 : bd2.length ≤ 1048576)
    (hc : bd2.length ≤ d1) (hc2 : d1 ≤ maxLen) (he0 : w.cell? ⟨0, 0, none⟩ = some (noHom ei)) (he1 : w.cell? ⟨1, 0, none⟩ = some (noHom ea)) :
    Calls Tryd.prog 14 #[.agg #[.int .i64 q1, .slice A0 hd1.length c0, .slice A1 bd1.length c1], .agg #[.int .i64 q2, .slice B0 hd2.length d0, .slice B1 bd2.length d1]] w fun r w' => r = .returned (.bool (fndO q2 hd2 bd2 q1 hd1 bd1).isSome) ∧ Fr w w' := by
  have F1 : Fr w ((w.alloc (.cells #[.int .i64 q1, .slice A0 hd1.length c0, .slice A1 bd1.length c1] 30)).alloc (.cells #[.int .i64 q2, .slice B0 hd2.length d0, .slice B1 bd2.length d1] 30)) := by (repeat (first | with_reducible exact Fr.refl _ | with_reducible assumption | with_reducible refine Fr.alloc ?_ _ | with_reducible refine Fr.drew ?_ | with_reducible refine Fr.drewN ?_ _ | (with_reducible refine Fr.setNew2 ?_ ?_ _; · (simp <;> omega)) | with_reducible refine Fr.trans ?_ (by assumption)))
  have HM := hid (fun W (h : Fr w W) => implHomW q2 q1 B0 B1 A0 A1 d0 d1 c0 c1 hd2 hd1 bd2 bd1 ei ea W (hy0.fr rdInt_mono h) (hy1.fr rdAtom_mono h) (hx0.fr rdInt_mono h) (hx1.fr rdAtom_mono h) hl2 hl3 hl0 hl1 hc hc2 (h.cell he0) (h.cell he1))
  clear hx0 hx1 hy0 hy1 he0 he1
  go_enter Tryd.func14, Tryd.ntmps14
  go_wp2_with fail
  generalize (w.alloc (.cells #[.int .i64 q1, .slice A0 hd1.length c0, .slice A1 bd1.length c1] 30)).alloc (.cells #[.int .i64 q2, .slice B0 hd2.length d0, .slice B1 bd2.length d1] 30) = w1 at F1 ⊢
  refine (HM.out w1 F1).mono ?_
  rintro r w4 ⟨hP, hF4⟩
  rcases hP.form with ⟨v, rfl, hok, hso, hs⟩ | ⟨v, a, rfl, hno⟩
  · have RES := hid (show (fndO q2 hd2 bd2 q1 hd1 bd1).isSome = true by unfold fndO; rw [hok]; exact hso)
    clear hP HM hs hok hso
    go_wp2
    go_ret
    exact ⟨ret_bool RES.out.symm, F1.trans hF4⟩
  · have RES := hid (show (fndO q2 hd2 bd2 q1 hd1 bd1).isSome = false by
      unfold fndO
      cases hok : (vrule q2 hd2 bd2 && vrule q1 hd1 bd1)
      · rfl
      · rw [hok, Bool.true_and] at hno
        exact hno)
    clear hP HM hno
    go_wp2
    go_ret
    exact ⟨ret_bool RES.out.symm, F1.trans hF4⟩
end
end Go.Proofs.YtahclhldpcboeaaDoor
