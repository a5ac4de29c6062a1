/- Walks of FindHomomorphism and IsContained on both sides. -/
import Derived.Test.YtahclhldpcboeaaDoorHmgS
namespace Go.Proofs.YtahclhldpcboeaaDoor
open Go Go.RowKit

/-- What FindHomomorphism answers. -/
def fndO (q1 : Int) (hd1 : List Int) (bd1 : List Atom) (q2 : Int) (hd2 : List Int) (bd2 : List Atom) : Option (List Int) := if vrule q1 hd1 bd1 && vrule q2 hd2 bd2 then homO q1 hd1 bd1 hd2 bd2 else none
section
variable (q1 q2 : Int) (A0 A1 B0 B1 : Option Addr) (c0 c1 d0 d1 : Nat) (hd1 hd2 : List Int) (bd1 bd2 : List Atom)
theorem HsPost.form {w w' : World} {o : Option (List Int)} {r : Ending} (h : HsPost w o r w') : ∃ v, r = .returned (.tuple #[v, .bool o.isSome]) := by
  cases o with
  | none => exact ⟨_, h⟩
  | some m' => obtain ⟨g, c, cs, h, _⟩ := h; exact ⟨_, h⟩
theorem HsPost.low {w w0 w' : World} {o : Option (List Int)} {r : Ending} (h : HsPost w o r w') (h1 : w0.heap.size ≤ w.heap.size) : HsPost w0 o r w' := by
  cases o with
  | none => exact h
  | some m' => obtain ⟨g, c, cs, h, h2, h3, h4, h5⟩ := h; exact ⟨g, c, cs, h, h2, h3, h4, by omega⟩
theorem HgPost.form {w w' : World} {ei ea : Addr} {ok : Bool} {o : Option (List Int)} {r : Ending} (h : HgPost w ei ea ok o r w') :
    (∃ v, r = .returned (.tuple #[v, .nilIface]) ∧ ok = true ∧ o.isSome = true ∧ HsPost w o (.returned (.tuple #[v, .bool true])) w') ∨ ∃ v a, r = .returned (.tuple #[v, noHom a]) ∧ (ok && o.isSome) = false := by
  cases ok with
  | false => exact .inr ⟨_, _, h, rfl⟩
  | true =>
    cases o with
    | none => exact .inr ⟨_, _, h, rfl⟩
    | some m' =>
      obtain ⟨g, c, cs, h, h2⟩ := h
      exact .inl ⟨_, h, rfl, rfl, g, c, cs, rfl, h2⟩
theorem HgPost.pair {w w' : World} {ei ea : Addr} {ok : Bool} {o : Option (List Int)} {r : Ending} (h : HgPost w ei ea ok o r w') :
    ∃ v e, r = .returned (.tuple #[v, e]) ∧ ((e = .nilIface ∧ (ok && o.isSome) = true) ∨ ∃ a, e = noHom a ∧ (ok && o.isSome) = false) := by
  rcases h.form with ⟨v, h1, h2, h3, _⟩ | ⟨v, a, h1, h2⟩
  · exact ⟨v, _, h1, .inl ⟨rfl, by rw [h2, h3]; rfl⟩⟩
  · exact ⟨v, _, h1, .inr ⟨a, rfl, h2⟩⟩
set_option maxRecDepth 100000 in
set_option maxHeartbeats 2000000 in
theorem specFindHom (w : World) (hx0 : RdSl rdInt w.cell? 1 A0 hd1) (hx1 : RdSl rdAtom w.cell? 3 A1 bd1) (hy0 : RdSl rdInt w.cell? 1 B0 hd2) (hy1 : RdSl rdAtom w.cell? 3 B1 bd2) (hl0 : hd1.length ≤ 1048576) (hl1 : bd1.length ≤ 1048576) (hl2 : hd2.length ≤ 1048576) (hl3 : bd2.length ≤ 1048576) :
    Calls Tryd.prog 16 #[.agg #[.int .i64 q1, .slice A0 hd1.length c0, .slice A1 bd1.length c1], .agg #[.int .i64 q2, .slice B0 hd2.length d0, .slice B1 bd2.length d1]] w fun r w' => HsPost w (fndO q1 hd1 bd1 q2 hd2 bd2) r w' ∧ Fr w w' := by
  have B0' := (Blk.new w 30 #[.int .i64 q1, .slice A0 hd1.length c0, .slice A1 bd1.length c1]).alloc (.cells #[.int .i64 q2, .slice B0 hd2.length d0, .slice B1 bd2.length d1] 30)
  have B1' := Blk.new (w.alloc (.cells #[.int .i64 q1, .slice A0 hd1.length c0, .slice A1 bd1.length c1] 30)) 30 #[.int .i64 q2, .slice B0 hd2.length d0, .slice B1 bd2.length d1]
  rw [World.size_alloc] at B1'
  have F1 : Fr w ((w.alloc (.cells #[.int .i64 q1, .slice A0 hd1.length c0, .slice A1 bd1.length c1] 30)).alloc (.cells #[.int .i64 q2, .slice B0 hd2.length d0, .slice B1 bd2.length d1] 30)) := by (repeat (first | with_reducible exact Fr.refl _ | with_reducible assumption | with_reducible refine Fr.alloc ?_ _ | with_reducible refine Fr.drew ?_ | with_reducible refine Fr.drewN ?_ _ | (with_reducible refine Fr.setNew2 ?_ ?_ _; · (simp <;> omega)) | with_reducible refine Fr.trans ?_ (by assumption)))
  have V1 := hid (fun W (h : Fr w W) => specVRule q1 A0 c0 hd1 A1 c1 bd1 W (hx0.fr rdInt_mono h) (hx1.fr rdAtom_mono h) hl0 hl1)
  have V2 := hid (fun W (h : Fr w W) => specVRule q2 B0 d0 hd2 B1 d1 bd2 W (hy0.fr rdInt_mono h) (hy1.fr rdAtom_mono h) hl2 hl3)
  have HM := hid (fun W (h : Fr w W) (e1 : vrule q1 hd1 bd1 = true) (e2 : vrule q2 hd2 bd2 = true) => specHomW q1 q2 A0 A1 B0 B1 c0 c1 d0 d1 hd1 hd2 bd1 bd2 W (hx0.fr rdInt_mono h) (hx1.fr rdAtom_mono h) (hy0.fr rdInt_mono h) (hy1.fr rdAtom_mono h) e1 e2)
  clear hx0 hx1 hy0 hy1
  go_enter Tryd.func16, Tryd.ntmps16
  go_wp2_with fail
  generalize (w.alloc (.cells #[.int .i64 q1, .slice A0 hd1.length c0, .slice A1 bd1.length c1] 30)).alloc (.cells #[.int .i64 q2, .slice B0 hd2.length d0, .slice B1 bd2.length d1] 30) = w1 at B0' B1' F1 ⊢
  refine (V1.out w1 F1).mono ?_
  rintro _ w2 ⟨rfl, hF2⟩
  have F2 := F1.trans hF2
  replace B0' := B0'.fr hF2
  replace B1' := B1'.fr hF2
  clear hF2 F1
  cases hv1 : vrule q1 hd1 bd1
  · have RES : Hid (HsPost w (fndO q1 hd1 bd1 q2 hd2 bd2) (.returned (.tuple #[.slice none 0 0, .bool false])) w2) := hid (by unfold fndO; rw [hv1]; exact rfl)
    clear hv1
    go_wp2
    go_ret2
    exact ⟨RES.out, F2⟩
  obtain ⟨b0, b1, b2, _⟩ := B0'.three
  obtain ⟨e0, e1, e2, _⟩ := B1'.three
  go_wp2_with fail
  refine (V2.out w2 F2).mono ?_
  rintro _ w3 ⟨rfl, hF3⟩
  have F3 := F2.trans hF3
  replace B0' := B0'.fr hF3
  replace B1' := B1'.fr hF3
  clear hF3 F2 b0 b1 b2 e0 e1 e2
  cases hv2 : vrule q2 hd2 bd2
  · have RES : Hid (HsPost w (fndO q1 hd1 bd1 q2 hd2 bd2) (.returned (.tuple #[.slice none 0 0, .bool false])) w3) := hid (by unfold fndO; rw [hv1, hv2]; exact rfl)
    clear hv1
    go_wp2
    go_ret2
    exact ⟨RES.out, F3⟩
  obtain ⟨b0, b1, b2, _⟩ := B0'.three
  obtain ⟨e0, e1, e2, _⟩ := B1'.three
  have HMC := hid (HM.out w3 F3 hv1 hv2)
  have EQ := hid (show fndO q1 hd1 bd1 q2 hd2 bd2 = homO q1 hd1 bd1 hd2 bd2 by unfold fndO; rw [hv1, hv2]; rfl)
  clear hv1 hv2 V1 V2 HM
  go_wp2_with fail
  refine HMC.out.mono ?_
  rintro r w4 ⟨hP, hF4⟩
  obtain ⟨v, rfl⟩ := hP.form
  have RES := hid (And.intro (show HsPost w (fndO q1 hd1 bd1 q2 hd2 bd2) _ w4 by rw [EQ.out]; exact hP.low F3.size) (F3.trans hF4))
  clear hP HMC
  go_wp2
  go_ret2
  exact RES.out
set_option maxRecDepth 100000 in
set_option maxHeartbeats 2000000 in
theorem implFindHom (ei ea : Addr) (w : World) (hx0 : RdSl rdInt w.cell? 1 A0 hd1) (hx1 : RdSl rdAtom w.cell? 3 A1 bd1) (hy0 : RdSl rdInt w.cell? 1 B0 hd2) (hy1 : RdSl rdAtom w.cell? 3 B1 bd2) (hl0 : hd1.length ≤ 1048576) (hl1 : bd1.length ≤ 1048576) (hl2 : hd2.length ≤ 1048576) (hl3 : bd2.length ≤ 1048576)
    (hc : bd1.length ≤ c1) (hc2 : c1 ≤ maxLen) (he0 : w.cell? ⟨0, 0, none⟩ = some (noHom ei)) (he1 : w.cell? ⟨1, 0, none⟩ = some (noHom ea)) :
    Calls Tryd.prog 17 #[.agg #[.int .i64 q1, .slice A0 hd1.length c0, .slice A1 bd1.length c1], .agg #[.int .i64 q2, .slice B0 hd2.length d0, .slice B1 bd2.length d1]] w fun r w' => HsPost w (fndO q1 hd1 bd1 q2 hd2 bd2) r w' ∧ Fr w w' := by
  have F1 : Fr w ((w.alloc (.cells #[.int .i64 q1, .slice A0 hd1.length c0, .slice A1 bd1.length c1] 30)).alloc (.cells #[.int .i64 q2, .slice B0 hd2.length d0, .slice B1 bd2.length d1] 30)) := by (repeat (first | with_reducible exact Fr.refl _ | with_reducible assumption | with_reducible refine Fr.alloc ?_ _ | with_reducible refine Fr.drew ?_ | with_reducible refine Fr.drewN ?_ _ | (with_reducible refine Fr.setNew2 ?_ ?_ _; · (simp <;> omega)) | with_reducible refine Fr.trans ?_ (by assumption)))
  have HM := hid (fun W (h : Fr w W) => implHomW q1 q2 A0 A1 B0 B1 c0 c1 d0 d1 hd1 hd2 bd1 bd2 ei ea W (hx0.fr rdInt_mono h) (hx1.fr rdAtom_mono h) (hy0.fr rdInt_mono h) (hy1.fr rdAtom_mono h) hl0 hl1 hl2 hl3 hc hc2 (h.cell he0) (h.cell he1))
  clear hx0 hx1 hy0 hy1 he0 he1
  go_enter Tryd.func17, Tryd.ntmps17
  go_wp2_with fail
  generalize (w.alloc (.cells #[.int .i64 q1, .slice A0 hd1.length c0, .slice A1 bd1.length c1] 30)).alloc (.cells #[.int .i64 q2, .slice B0 hd2.length d0, .slice B1 bd2.length d1] 30) = w1 at F1 ⊢
  refine (HM.out w1 F1).mono ?_
  rintro r w4 ⟨hP, hF4⟩
  rcases hP.form with ⟨v, rfl, hok, hso, hs⟩ | ⟨v, a, rfl, hno⟩
  · have RES := hid (And.intro (show HsPost w (fndO q1 hd1 bd1 q2 hd2 bd2) (.returned (.tuple #[v, .bool true])) w4 by unfold fndO; rw [hok]; exact hs.low F1.size) (F1.trans hF4))
    clear hP HM hs hok hso
    go_wp2
    go_ret2
    exact RES.out
  · have RES := hid (And.intro (show HsPost w (fndO q1 hd1 bd1 q2 hd2 bd2) (.returned (.tuple #[.slice none 0 0, .bool false])) w4 by
      unfold fndO
      cases hok : (vrule q1 hd1 bd1 && vrule q2 hd2 bd2)
      · exact rfl
      · rw [hok, Bool.true_and] at hno
        cases ho : homO q1 hd1 bd1 hd2 bd2 with
        | none => exact rfl
        | some => rw [ho] at hno; cases hno) (F1.trans hF4))
    clear hP HM hno
    go_wp2
    go_ret2
    exact RES.out
end
end Go.Proofs.YtahclhldpcboeaaDoor
