/- Walk of the law FnContainmentOrder. -/
import Derived.Test.YtahclhldpcboeaaDoorQryT
import Derived.Test.YtahclhldpcboeaaDoorHmgX
import Derived.Test.YtahclhldpcboeaaDoorHmC
import Derived.Test.YtahclhldpcboeaaDoorLawD
namespace Go.Proofs.YtahclhldpcboeaaDoor
open Go Go.RowKit
set_option maxRecDepth 100000 in
set_option maxHeartbeats 2000000 in
theorem walkFnContainmentOrder (A : Option Addr) (c : Nat) (xs : List Nat) (A' : Option Addr) (c' : Nat) (ys : List Nat) (ei ea : Addr) (w : World) (hx : RdSl rdByte w.cell? 1 A xs) (_ : xs.length ≤ maxLen) (hc : xs.length ≤ c) (_ : RdSl rdByte w.cell? 1 A' ys) (hly : ys.length ≤ maxLen) (_ : ys.length ≤ c') (he0 : w.cell? ⟨0, 0, none⟩ = some (noHom ei)) (he1 : w.cell? ⟨1, 0, none⟩ = some (noHom ea)) :
    Calls Tryd.prog 7 #[.slice A xs.length c, .slice A' ys.length c'] w fun r w' => r = .returned (.bool true) ∧ Fr w w' := by
  have HX := hid hx
  clear hx
  by_cases hlen : (1048576 : Int) < xs.length
  · have e0 : decide ((1048576 : Int) < (xs.length : Int)) = true := by simp; omega
    go_enter Tryd.func7, Tryd.ntmps7
    go_wp2
    go_ret
    exact ⟨rfl, Fr.refl _⟩
  have e0 : decide ((1048576 : Int) < (xs.length : Int)) = false := by simp; omega
  have hl : xs.length ≤ 1048576 := by omega
  clear hlen
  by_cases hlen : (1048576 : Int) < ys.length
  · have e1 : decide ((1048576 : Int) < (ys.length : Int)) = true := by simp; omega
    go_enter Tryd.func7, Tryd.ntmps7
    go_wp2
    go_ret
    exact ⟨rfl, Fr.refl _⟩
  have e1 : decide ((1048576 : Int) < (ys.length : Int)) = false := by simp; omega
  clear hlen hly
  go_enter Tryd.func7, Tryd.ntmps7
  go_wp2_with fail
  refine (drawIsContained A c xs _ HX.out hl hc).mono ?_
  rintro r w1 ⟨qa, ha, ba, qb, hb, bb, A0, a0, A1, a1, B0, b0, B1, b1, rfl, QA, QB, ⟨l1, l2, l3, l4, _⟩, F1⟩
  have BA1 := hid ((Blk.new w1 30 #[.int .i64 qa, .slice A0 ha.length a0, .slice A1 ba.length a1]).alloc (.cells #[.int .i64 qb, .slice B0 hb.length b0, .slice B1 bb.length b1] 30))
  have BB1 := hid (blk_new1 w1 (.cells #[.int .i64 qa, .slice A0 ha.length a0, .slice A1 ba.length a1] 30) 30 #[.int .i64 qb, .slice B0 hb.length b0, .slice B1 bb.length b1])
  have G1 : Fr w1 ((w1.alloc (.cells #[.int .i64 qa, .slice A0 ha.length a0, .slice A1 ba.length a1] 30)).alloc (.cells #[.int .i64 qb, .slice B0 hb.length b0, .slice B1 bb.length b1] 30)) := by (repeat (first | with_reducible exact Fr.refl _ | with_reducible assumption | with_reducible refine Fr.alloc ?_ _ | with_reducible refine Fr.drew ?_ | with_reducible refine Fr.drewN ?_ _ | (with_reducible refine Fr.setNew2 ?_ ?_ _; · (simp <;> omega)) | with_reducible refine Fr.trans ?_ (by assumption)))
  have HQA := hid QA
  have HQB := hid QB
  clear QA QB HX
  go_wp2_with fail
  refine absW fun W2 hW2 => ?_
  rw [← hW2] at BA1 BB1 G1
  obtain ⟨g3, eg3⟩ : ∃ g, w1.heap.size = g := ⟨_, rfl⟩
  rw [eg3] at BA1 BB1 ⊢
  clear hW2 eg3
  have QA2 := hid (HQA.out.fr G1)
  have QB2 := hid (HQB.out.fr G1)
  have F2 := F1.trans G1
  clear HQA HQB G1
  obtain ⟨ok, eok⟩ : ∃ b, (fndO qb hb bb qa ha ba).isSome = b := ⟨_, rfl⟩
  have EOK := hid eok
  clear eok
  refine (implIsC qa qb A0 A1 B0 B1 a0 a1 b0 b1 ha hb ba bb ei ea _ QA2.out.r0 QA2.out.r1 QB2.out.r0 QB2.out.r1 (by omega) (by omega) (by omega) (by omega) QB2.out.l1 QB2.out.m1 (F2.cell he0) (F2.cell he1)).mono ?_
  rw [EOK.out]
  rintro r w3 ⟨rfl, b3⟩
  obtain ⟨x0, x1, x2, _⟩ := (BA1.out.fr b3).three
  obtain ⟨y0, y1, y2, _⟩ := (BB1.out.fr b3).three
  go_wp2_with fail
  refine (specIsC qa qb A0 A1 B0 B1 a0 a1 b0 b1 ha hb ba bb _ (QA2.out.fr b3).r0 (QA2.out.fr b3).r1 (QB2.out.fr b3).r0 (QB2.out.fr b3).r1 (by omega) (by omega) (by omega) (by omega)).mono ?_
  rw [EOK.out]
  rintro r w4 ⟨rfl, b4⟩
  have F4 := b3.trans b4
  clear x0 x1 x2 y0 y1 y2
  obtain ⟨x0, x1, x2, _⟩ := (BA1.out.fr F4).three
  obtain ⟨y0, y1, y2, _⟩ := (BB1.out.fr F4).three
  go_wp2_with fail
  refine (implValidRule qa A0 a0 ha A1 a1 ba _ (QA2.out.fr F4).r0 (QA2.out.fr F4).r1 (by omega) (by omega)).mono ?_
  rintro r w5 ⟨rfl, b5⟩
  have F5 := F4.trans b5
  clear x0 x1 x2 y0 y1 y2
  obtain ⟨x0, x1, x2, _⟩ := (BA1.out.fr F5).three
  obtain ⟨y0, y1, y2, _⟩ := (BB1.out.fr F5).three
  cases hv : vrule qa ha ba
  · go_wp2_with fail
    refine (specIsC qa qb A0 A1 B0 B1 a0 a1 b0 b1 ha hb ba bb _ (QA2.out.fr F5).r0 (QA2.out.fr F5).r1 (QB2.out.fr F5).r0 (QB2.out.fr F5).r1 (by omega) (by omega) (by omega) (by omega)).mono ?_
    rw [EOK.out]
    rintro r w6 ⟨rfl, b6⟩
    go_wp2
    go_ret
    exact ⟨by simp, (F2.trans F5).trans b6⟩
  · obtain ⟨_, _, _, hb1, _, _⟩ := vrule_parts hv
    obtain ⟨j, hj, hjm⟩ : ∃ j : Nat, j < ba.length ∧ (ys.length : Int).tmod (ba.length : Int) = (j : Int) := ⟨ys.length % ba.length, Nat.mod_lt _ (by omega), by rw [← Int.ofNat_tmod]⟩
    have hn0 : ((ba.length : Int) == 0) = false := by rw [beq_eq_false_iff_ne]; omega
    have hn0' : ¬ ((ba.length : Int) = 0) := by omega
    have hnil : ¬ (ba = []) := by intro e; rw [e] at hb1; simp at hb1
    have hcap := QA2.out.l1
    have q1 : (0 : Int) ≤ 1 + (j : Int) := by omega
    have q2 : 1 + (j : Int) ≤ (a1 : Int) := by omega
    have q3 : IntKind.i64.wrap (1 + (j : Int)) = 1 + (j : Int) := by rw [IntKind.wrap_i64]; omega
    have keepQ : ∀ W, Fr W2 W → W.cell? ⟨g3, 0, none⟩ = some (.int .i64 qa) ∧ W.cell? ⟨g3, 1, none⟩ = some (.slice A0 ha.length a0) ∧ W.cell? ⟨g3, 2, none⟩ = some (.slice A1 ba.length a1) := fun W h => by
      obtain ⟨x0, x1, x2, _⟩ := (BA1.out.fr h).three
      exact ⟨x0, x1, x2⟩
    have HV := hid hv
    clear hv x0 x1 x2 y0 y1 y2
    go_wp2_with fail
    refine wp_region_T (fun W => W.cell? ⟨g3, 0, none⟩ = some (.int .i64 qa) ∧ W.cell? ⟨g3, 1, none⟩ = some (.slice A0 ha.length a0) ∧ W.cell? ⟨g3, 2, none⟩ = some (.slice A1 ba.length a1)) 16 (by kernel_rfl) ?_
    have D5 : Fr W2 w5.drew := F5.drew
    have HS := keepQ _ D5
    ((refine wpAnyT_take 0 (v := ?_) rfl (by kernel_rfl) (fun _ _ _ h => h) (Or.inl ⟨by rfl, ?_⟩) (by assumption) ?_; rotate_left; (focus (intro W hSw; (try dsimp only at hSw); go_simp; (try with_reducible rfl); done)); (try simp only [Act.put, List.setIfInBounds_toArray, List.set_cons_zero, List.set_cons_succ])); (refine wpAnyT_take 1 (v := ?_) rfl (by kernel_rfl) (fun _ _ _ h => h) (Or.inl ⟨by rfl, ?_⟩) (by assumption) ?_; rotate_left; (focus (intro W hSw; (try dsimp only at hSw); go_simp; (try with_reducible rfl); done)); (try simp only [Act.put, List.setIfInBounds_toArray, List.set_cons_zero, List.set_cons_succ])); (refine wpAnyT_take 2 (v := ?_) rfl (by kernel_rfl) (fun _ _ _ h => h) (Or.inl ⟨by rfl, ?_⟩) (by assumption) ?_; rotate_left; (focus (intro W hSw; (try dsimp only at hSw); go_simp; (try with_reducible rfl); done)); (try simp only [Act.put, List.setIfInBounds_toArray, List.set_cons_zero, List.set_cons_succ])); (refine wpAnyT_take 3 (v := ?_) rfl (by kernel_rfl) (fun _ _ _ h => h) (Or.inl ⟨by rfl, ?_⟩) (by assumption) ?_; rotate_left; (focus (intro W hSw; (try dsimp only at hSw); go_simp; (try with_reducible rfl); done)); (try simp only [Act.put, List.setIfInBounds_toArray, List.set_cons_zero, List.set_cons_succ])); (refine wpAnyT_take 4 (v := ?_) rfl (by kernel_rfl) (fun _ _ _ h => h) (Or.inl ⟨by rfl, ?_⟩) (by assumption) ?_; rotate_left; (focus (intro W hSw; (try dsimp only at hSw); go_simp; (try with_reducible rfl); done)); (try simp only [Act.put, List.setIfInBounds_toArray, List.set_cons_zero, List.set_cons_succ])); (refine wpAnyT_take 5 (v := ?_) rfl (by kernel_rfl) (fun _ _ _ h => h) (Or.inl ⟨by rfl, ?_⟩) (by assumption) ?_; rotate_left; (focus (intro W hSw; (try dsimp only at hSw); go_simp; (try with_reducible rfl); done)); (try simp only [Act.put, List.setIfInBounds_toArray, List.set_cons_zero, List.set_cons_succ])); (refine wpAnyT_take 6 (v := ?_) rfl (by kernel_rfl) (fun _ _ _ h => h) (Or.inl ⟨by rfl, ?_⟩) (by assumption) ?_; rotate_left; (focus (intro W hSw; (try dsimp only at hSw); go_simp; (try with_reducible rfl); done)); (try simp only [Act.put, List.setIfInBounds_toArray, List.set_cons_zero, List.set_cons_succ])); (refine wpAnyT_take 7 (v := ?_) rfl (by kernel_rfl) (fun _ _ _ h => h) (Or.inl ⟨by rfl, ?_⟩) (by assumption) ?_; rotate_left; (focus (intro W hSw; (try dsimp only at hSw); go_simp; (try with_reducible rfl); done)); (try simp only [Act.put, List.setIfInBounds_toArray, List.set_cons_zero, List.set_cons_succ])); (refine wpAnyT_take 8 (v := ?_) rfl (by kernel_rfl) (fun _ _ _ h => h) (Or.inl ⟨by rfl, ?_⟩) (by assumption) ?_; rotate_left; (focus (intro W hSw; (try dsimp only at hSw); go_simp; (try with_reducible rfl); done)); (try simp only [Act.put, List.setIfInBounds_toArray, List.set_cons_zero, List.set_cons_succ])); (refine wpAnyT_take 9 (v := ?_) rfl (by kernel_rfl) (fun _ _ _ h => h) (Or.inl ⟨by rfl, ?_⟩) (by assumption) ?_; rotate_left; (focus (intro W hSw; (try dsimp only at hSw); go_simp; (try with_reducible rfl); done)); (try simp only [Act.put, List.setIfInBounds_toArray, List.set_cons_zero, List.set_cons_succ])); (refine wpAnyT_take 10 (v := ?_) rfl (by kernel_rfl) (fun _ _ _ h => h) (Or.inl ⟨by rfl, ?_⟩) (by assumption) ?_; rotate_left; (focus (intro W hSw; (try dsimp only at hSw); go_simp; (try with_reducible rfl); done)); (try simp only [Act.put, List.setIfInBounds_toArray, List.set_cons_zero, List.set_cons_succ])))
    ((refine wpAnyT_take 11 (v := ?_) rfl (by kernel_rfl) (fun _ _ _ h => h) (Or.inl ⟨by rfl, ?_⟩) (by assumption) ?_; rotate_left; (focus (intro W hSw; (try dsimp only at hSw); go_simp; (try with_reducible rfl); done)); (try simp only [Act.put, List.setIfInBounds_toArray, List.set_cons_zero, List.set_cons_succ])); (refine wpAnyT_take 12 (v := ?_) rfl (by kernel_rfl) (fun _ _ _ h => h) (Or.inl ⟨by rfl, ?_⟩) (by assumption) ?_; rotate_left; (focus (intro W hSw; (try dsimp only at hSw); go_simp; (try with_reducible rfl); done)); (try simp only [Act.put, List.setIfInBounds_toArray, List.set_cons_zero, List.set_cons_succ])); (refine wpAnyT_take 13 (v := ?_) rfl (by kernel_rfl) (fun _ _ _ h => h) (Or.inl ⟨by rfl, ?_⟩) (by assumption) ?_; rotate_left; (focus (intro W hSw; (try dsimp only at hSw); go_simp; (try with_reducible rfl); done)); (try simp only [Act.put, List.setIfInBounds_toArray, List.set_cons_zero, List.set_cons_succ])); (refine wpAnyT_take 14 (v := ?_) rfl (by kernel_rfl) (fun _ _ _ h => h) (Or.inl ⟨by rfl, ?_⟩) (by assumption) ?_; rotate_left; (focus (intro W hSw; (try dsimp only at hSw); go_simp; (try with_reducible rfl); done)); (try simp only [Act.put, List.setIfInBounds_toArray, List.set_cons_zero, List.set_cons_succ])))
    ((refine wpAnyT_one 15 rfl (by kernel_rfl) (fun K hK => ?_); go_simp))
    have HS := keepQ _ (D5.alloc (.cells #[.int .i64 0, .slice none 0 0, .slice none 0 0] 30))
    ((try dsimp only); refine hK.out _ _ (fun _ => HS) (fun _ => ?_); clear hK K; (try simp only [Act.put, List.setIfInBounds_toArray, List.set_cons_zero, List.set_cons_succ]))
    ((refine wpAnyT_one 16 rfl (by kernel_rfl) (fun K hK => ?_); go_simp))
    ((try dsimp only); refine hK.out _ _ (fun h => absurd rfl h) (fun _ => ?_); clear hK K; (try simp only [Act.put, List.setIfInBounds_toArray, List.set_cons_zero, List.set_cons_succ]); refine wpAnyT_done (by kernel_rfl) ?_ _)
    obtain ⟨x0, x1, x2, _⟩ := (BA1.out.fr F5).three
    have hg3 := (BA1.out.fr F5).lt
    go_wp2_with fail
    refine absW fun W8 hW8 => ?_
    have BP8 : Blk W8 w5.heap.size 30 #[.int .i64 qa, .slice A0 ha.length a0, .slice A1 (1 + j) a1] := by rw [hW8]; exact (Blk.new w5 _ _).fr (Fr.refl _).drew
    have G8 : Fr w5 W8 := by rw [hW8]; exact ((Fr.refl _).alloc _).drew
    clear hW8 x0 x1 x2 HS keepQ D5 hg3
    obtain ⟨g8, eg8⟩ : ∃ g, w5.heap.size = g := ⟨_, rfl⟩
    rw [eg8] at BP8 ⊢
    clear eg8
    have F8 := F5.trans G8
    obtain ⟨P, eP⟩ : ∃ P, ba.take (1 + j) = P := ⟨_, rfl⟩
    have lP : P.length = 1 + j := by rw [← eP]; simp; omega
    have RP := hid (fun W (h : Fr W2 W) => rd_take (k := 1 + j) (QA2.out.fr h).r1)
    rw [eP] at RP
    have HSUB := hid (fun a (h : a ∈ P) => List.mem_of_mem_take (by rw [eP]; exact h : a ∈ ba.take (1 + j)))
    have VR := hid (fun W (h : Fr W2 W) => implValidRule qa A0 a0 ha A1 a1 P W (QA2.out.fr h).r0 (RP.out W h) (by omega) (by omega))
    have IC := hid (fun W (h : Fr W2 W) => implIsC qa qa A0 A1 A0 A1 a0 a1 a0 a1 ha ha ba P ei ea W (QA2.out.fr h).r0 (QA2.out.fr h).r1 (QA2.out.fr h).r0 (RP.out W h) (by omega) (by omega) (by omega) (by omega) (by omega) QA2.out.m1 ((F2.trans h).cell he0) ((F2.trans h).cell he1))
    rw [lP] at VR IC
    clear eP
    refine (implIsC qa qa A0 A1 A0 A1 a0 a1 a0 a1 ha ha ba ba ei ea _ (QA2.out.fr F8).r0 (QA2.out.fr F8).r1 (QA2.out.fr F8).r0 (QA2.out.fr F8).r1 (by omega) (by omega) (by omega) (by omega) QA2.out.l1 QA2.out.m1 ((F2.trans F8).cell he0) ((F2.trans F8).cell he1)).mono ?_
    rw [fndO_sub HV.out HV.out (fun a h => h)]
    rintro r w9 ⟨rfl, b9⟩
    have F9 := F8.trans b9
    obtain ⟨y0, y1, y2, _⟩ := (BP8.fr b9).three
    go_wp2_with fail
    refine (VR.out _ F9).mono ?_
    rintro r w10 ⟨rfl, b10⟩
    have F10 := F9.trans b10
    clear y0 y1 y2
    cases hv2 : vrule qa ha P
    · go_wp2
      go_ret
      exact ⟨rfl, F2.trans F10⟩
    · have H2 := hid hv2
      clear hv2
      obtain ⟨x0, x1, x2, _⟩ := (BA1.out.fr F10).three
      obtain ⟨y0, y1, y2, _⟩ := ((BP8.fr b9).fr b10).three
      go_wp2_with fail
      refine (IC.out _ F10).mono ?_
      rw [fndO_sub H2.out HV.out HSUB.out]
      rintro r w11 ⟨rfl, b11⟩
      go_wp2
      go_ret
      exact ⟨rfl, F2.trans (F10.trans b11)⟩
end Go.Proofs.YtahclhldpcboeaaDoor
