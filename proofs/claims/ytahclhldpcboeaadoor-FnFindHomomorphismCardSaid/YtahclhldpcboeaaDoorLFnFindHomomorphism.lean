/- Walk of the law FnFindHomomorphism. -/
import Derived.Test.YtahclhldpcboeaaDoorQryT
import Derived.Test.YtahclhldpcboeaaDoorHmgX
import Derived.Test.YtahclhldpcboeaaDoorHmC
import Derived.Test.YtahclhldpcboeaaDoorHomW
import Derived.Test.YtahclhldpcboeaaDoorInts
import Derived.Test.YtahclhldpcboeaaDoorLawD
namespace Go.Proofs.YtahclhldpcboeaaDoor
open Go Go.RowKit
theorem fnd_len {q1 q2 : Int} {hd1 hd2 : List Int} {bd1 bd2 : List Atom} : ((fndO q1 hd1 bd1 q2 hd2 bd2).getD []).length ≤ 6 := by
  cases e : fndO q1 hd1 bd1 q2 hd2 bd2 with
  | none => simp
  | some M =>
    have h := chk_fnd e
    unfold chkHom at h
    simp only [Bool.and_eq_true, decide_eq_true_eq] at h
    obtain ⟨⟨⟨h1, _⟩, h3⟩, _⟩ := h
    have := vrule_parts h1
    show M.length ≤ 6
    omega
set_option maxRecDepth 100000 in
set_option maxHeartbeats 2000000 in
theorem walkFnFindHomomorphism (A : Option Addr) (c : Nat) (xs : List Nat) (ei ea : Addr) (w : World) (hx : RdSl rdByte w.cell? 1 A xs) (_ : xs.length ≤ maxLen) (hc : xs.length ≤ c) (he0 : w.cell? ⟨0, 0, none⟩ = some (noHom ei)) (he1 : w.cell? ⟨1, 0, none⟩ = some (noHom ea)) :
    Calls Tryd.prog 8 #[.slice A xs.length c] w fun r w' => r = .returned (.bool true) ∧ Fr w w' := by
  have HX := hid hx
  clear hx
  by_cases hlen : (1048576 : Int) < xs.length
  · have e0 : decide ((1048576 : Int) < (xs.length : Int)) = true := by simp; omega
    go_enter Tryd.func8, Tryd.ntmps8
    go_wp2
    go_ret
    exact ⟨rfl, Fr.refl _⟩
  have e0 : decide ((1048576 : Int) < (xs.length : Int)) = false := by simp; omega
  have hl : xs.length ≤ 1048576 := by omega
  clear hlen
  go_enter Tryd.func8, Tryd.ntmps8
  go_wp2_with fail
  refine (drawFindHomomorphism A c xs _ HX.out hl hc).mono ?_
  rintro r w1 ⟨qa, ha, ba, qb, hb, bb, A0, a0, A1, a1, B0, b0, B1, b1, rfl, QA, QB, ⟨l1, l2, l3, l4, _⟩, F1⟩
  have BA1 := hid ((Blk.new w1 30 #[.int .i64 qa, .slice A0 ha.length a0, .slice A1 ba.length a1]).alloc (.cells #[.int .i64 qb, .slice B0 hb.length b0, .slice B1 bb.length b1] 30))
  have BB1 := hid (blk_new1 w1 (.cells #[.int .i64 qa, .slice A0 ha.length a0, .slice A1 ba.length a1] 30) 30 #[.int .i64 qb, .slice B0 hb.length b0, .slice B1 bb.length b1])
  have G1 : Fr w1 ((w1.alloc (.cells #[.int .i64 qa, .slice A0 ha.length a0, .slice A1 ba.length a1] 30)).alloc (.cells #[.int .i64 qb, .slice B0 hb.length b0, .slice B1 bb.length b1] 30)) := by (repeat (first | with_reducible exact Fr.refl _ | with_reducible assumption | with_reducible refine Fr.alloc ?_ _ | with_reducible refine Fr.drew ?_ | with_reducible refine Fr.drewN ?_ _ | (with_reducible refine Fr.setNew2 ?_ ?_ _; · (simp <;> omega)) | with_reducible refine Fr.trans ?_ (by assumption)))
  have HQA := hid QA
  have HQB := hid QB
  clear QA QB HX
  go_wp2_with fail
  refine absW fun W2 hW2 => ?_
  rw [← hW2] at BA1 BB1 G1
  obtain ⟨g3, eg3⟩ : ∃ g, w1.heap.size = g := ⟨_, rfl⟩
  rw [eg3] at BA1 BB1 ⊢
  clear hW2 eg3
  have QA2 := hid (HQA.out.fr G1)
  have QB2 := hid (HQB.out.fr G1)
  have F2 := F1.trans G1
  clear HQA HQB G1
  obtain ⟨L, ok, eL, eok⟩ : ∃ L b, (fndO qa ha ba qb hb bb).getD [] = L ∧ (fndO qa ha ba qb hb bb).isSome = b := ⟨_, _, rfl, rfl⟩
  have hL : L.length ≤ 6 := by rw [← eL]; exact fnd_len
  have CK : ok = true → chkHom qa ha ba qb hb bb L = true := fun h => by
    rw [h, Option.isSome_iff_exists] at eok
    obtain ⟨M, hM⟩ := eok
    rw [← eL, hM]
    exact chk_fnd hM
  have EL := hid eL
  have EOK := hid eok
  have HCK := hid CK
  clear eL eok CK
  refine (implFH qa qb A0 A1 B0 B1 a0 a1 b0 b1 ha hb ba bb ei ea _ QA2.out.r0 QA2.out.r1 QB2.out.r0 QB2.out.r1 (by omega) (by omega) (by omega) (by omega) QA2.out.l1 QA2.out.m1 (F2.cell he0) (F2.cell he1)).mono ?_
  rw [EL.out, EOK.out]
  rintro r w3 ⟨⟨M, cm, rfl, hM, _⟩, b3⟩
  have HM := hid (hM.mono rdInt_mono (fromB_le _ _))
  clear hM
  obtain ⟨x0, x1, x2, _⟩ := (BA1.out.fr b3).three
  obtain ⟨y0, y1, y2, _⟩ := (BB1.out.fr b3).three
  go_wp2_with fail
  refine (specFH qa qb A0 A1 B0 B1 a0 a1 b0 b1 ha hb ba bb _ (QA2.out.fr b3).r0 (QA2.out.fr b3).r1 (QB2.out.fr b3).r0 (QB2.out.fr b3).r1 (by omega) (by omega) (by omega) (by omega)).mono ?_
  rw [EL.out, EOK.out]
  rintro r w4 ⟨⟨S, cs, rfl, hS, _⟩, b4⟩
  have HS := hid (hS.mono rdInt_mono (fromB_le _ _))
  clear hS x0 x1 x2 y0 y1 y2
  have F4 := b3.trans b4
  go_wp2_with fail
  refine (equalInts M S cm cs L L _ (HM.out.fr rdInt_mono b4) HS.out (by unfold maxLen; omega) (by unfold maxLen; omega)).mono ?_
  rintro r w5 ⟨rfl, b5⟩
  simp only [decide_true]
  have F5 := F4.trans b5
  obtain ⟨x0, x1, x2, _⟩ := (BA1.out.fr F5).three
  go_wp2_with fail
  refine (implValidRule qa A0 a0 ha A1 a1 ba _ (QA2.out.fr F5).r0 (QA2.out.fr F5).r1 (by omega) (by omega)).mono ?_
  rintro r w6 ⟨rfl, b6⟩
  have F6 := F5.trans b6
  clear x0 x1 x2
  have K6 : Fr w4 w6 := b5.trans b6
  cases hv : vrule qa ha ba
  · go_wp2_with fail
    refine (equalInts M S cm cs L L _ (HM.out.fr rdInt_mono (b4.trans K6)) (HS.out.fr rdInt_mono K6) (by unfold maxLen; omega) (by unfold maxLen; omega)).mono ?_
    rintro r w9 ⟨rfl, b9⟩
    simp only [decide_true]
    go_wp2
    go_ret
    exact ⟨by simp, (F2.trans F6).trans b9⟩
  · obtain ⟨y0, y1, y2, _⟩ := (BB1.out.fr F6).three
    go_wp2_with fail
    refine (implValidRule qb B0 b0 hb B1 b1 bb _ (QB2.out.fr F6).r0 (QB2.out.fr F6).r1 (by omega) (by omega)).mono ?_
    rintro r w7 ⟨rfl, b7⟩
    have F7 := F6.trans b7
    have K7 : Fr w4 w7 := K6.trans b7
    clear y0 y1 y2
    cases hv2 : vrule qb hb bb
    · go_wp2_with fail
      refine (equalInts M S cm cs L L _ (HM.out.fr rdInt_mono (b4.trans K7)) (HS.out.fr rdInt_mono K7) (by unfold maxLen; omega) (by unfold maxLen; omega)).mono ?_
      rintro r w9 ⟨rfl, b9⟩
      simp only [decide_true]
      go_wp2
      go_ret
      exact ⟨by simp, (F2.trans F7).trans b9⟩
    · obtain ⟨x0, x1, x2, _⟩ := (BA1.out.fr F7).three
      obtain ⟨y0, y1, y2, _⟩ := (BB1.out.fr F7).three
      go_wp2_with fail
      refine (implIsC qb qa B0 B1 A0 A1 b0 b1 a0 a1 hb ha bb ba ei ea _ (QB2.out.fr F7).r0 (QB2.out.fr F7).r1 (QA2.out.fr F7).r0 (QA2.out.fr F7).r1 (by omega) (by omega) (by omega) (by omega) QA2.out.l1 QA2.out.m1 ((F2.trans F7).cell he0) ((F2.trans F7).cell he1)).mono ?_
      rw [EOK.out]
      rintro r w8 ⟨rfl, b8⟩
      have F8 := F7.trans b8
      clear x0 x1 x2 y0 y1 y2
      obtain ⟨x0, x1, x2, _⟩ := (BA1.out.fr F8).three
      obtain ⟨y0, y1, y2, _⟩ := (BB1.out.fr F8).three
      cases ok
      · go_wp2
        go_ret
        exact ⟨by simp, F2.trans F8⟩
      · go_wp2_with fail
        refine (implCheckHom qa qb A0 A1 B0 B1 M a0 a1 b0 b1 cm ha hb L ba bb _ (QA2.out.fr F8).r0 (QA2.out.fr F8).r1 (QB2.out.fr F8).r0 (QB2.out.fr F8).r1 (HM.out.fr rdInt_mono (b4.trans (K7.trans b8))) (by omega) (by omega) (by omega) (by omega) (by omega)).mono ?_
        rw [HCK.out trivial]
        rintro r w9 ⟨rfl, b9⟩
        go_wp2
        go_ret
        exact ⟨by simp, (F2.trans F8).trans b9⟩
end Go.Proofs.YtahclhldpcboeaaDoor
