/- Walk of the law FnConjoin. -/
import Derived.Test.YtfillcjpdnpaiaaConI
import Derived.Test.YtfillcjpdnpaiaaCjnI
import Derived.Test.YtfillcjpdnpaiaaCjnL
import Derived.Test.YtfillcjpdnpaiaaEqL
import Derived.Test.YtfillcjpdnpaiaaLaw
namespace Go.Proofs.Ytfillcjpdnpaiaa
open Go Go.RowKit

attribute [-go_sem] Builtin.append_
set_option maxRecDepth 100000 in
set_option maxHeartbeats 4000000 in
theorem walkFnConjoin (A0 : Option Addr) (c0 : Nat) (xs : List Nat) (A1 : Option Addr) (c1 : Nat) (ys : List Nat) (w : World) (hx : RdSl rdByte w.cell? 1 A0 xs) (_ : xs.length ≤ maxLen) (hc : xs.length ≤ c0) (_ : RdSl rdByte w.cell? 1 A1 ys) (_ : ys.length ≤ maxLen) (_ : ys.length ≤ c1) :
    Calls Try.prog 8 #[.slice A0 xs.length c0, .slice A1 ys.length c1] w fun r w' => r = .returned (.bool true) ∧ Fr w w' := by
  have H := hid hx
  clear hx
  by_cases hlen : (1048576 : Int) < xs.length
  · have e0 : decide ((1048576 : Int) < (xs.length : Int)) = true := by simp; omega
    go_enter Try.func8, Try.ntmps8
    go_wp2
    go_ret
    exact ⟨rfl, Fr.refl _⟩
  have e0 : decide ((1048576 : Int) < (xs.length : Int)) = false := by simp; omega
  by_cases hlen2 : (1048576 : Int) < ys.length
  · have e1 : decide ((1048576 : Int) < (ys.length : Int)) = true := by simp; omega
    go_enter Try.func8, Try.ntmps8
    go_wp2
    go_ret
    exact ⟨rfl, Fr.refl _⟩
  have e1 : decide ((1048576 : Int) < (ys.length : Int)) = false := by simp; omega
  go_enter Try.func8, Try.ntmps8
  go_wp2_with fail
  refine (drawConjoin _ _ _ _ H.out (by omega) hc).mono ?_
  rintro r w1 ⟨v, q, rfl, ⟨lo, hRow⟩, hS, hl, bw1⟩
  obtain ⟨VA, vc, rfl⟩ := own_form hRow.own
  obtain ⟨L, eL⟩ : ∃ L, q.map (·.1) = L := ⟨_, rfl⟩
  have hql : q.length = L.length := by rw [← eL, List.length_map]
  have hRd := hRow.rd
  rw [eL] at hRd
  obtain ⟨n, hn⟩ : ∃ n : Nat, 4 = n := ⟨_, rfl⟩
  rw [hn] at hRd
  have HRd := hid (hRd.mono (rdEx_mono _) (fromB_le _ _))
  have HLS : Hid (exSm (n + 1) L) := hid ⟨by omega, fun i hi => by
    have h1 : i < q.length := by omega
    have h2 := (hS q[i] (List.getElem_mem h1)).1
    rw [hn] at h2
    have h3 : L[i] = q[i].1 := by simp only [← eL, List.getElem_map]
    rw [h3]; exact h2⟩
  rw [hql] at hl ⊢
  clear hRow hRd hS hql eL hn e0 e1 H
  have hDp : Hid (∀ x ∈ L, Dp n x) := hid fun x hx => by
    obtain ⟨i, hi, rfl⟩ := List.getElem_of_mem hx
    obtain ⟨_, _, _, _, _, _, _, _, _, _, hK⟩ := HRd.out.exc hi
    exact dp_of n hK.1
  go_wp2_with fail
  refine (implConjoin n L VA vc _ HRd.out HLS.out).mono ?_
  rintro r w2 ⟨A, c, rfl, hK, hS, b2⟩
  obtain ⟨e, ee⟩ : ∃ e, xcjn n L = e := ⟨_, rfl⟩
  rw [ee] at hK hS ⊢
  have EE := hid ee
  have HK := hid hK
  have HS := hid hS
  clear hK hS ee
  have B1 := Blk.new w2 33 #[.int .i64 e.kind, .int .i64 e.col, .bool e.val.null, .int .i64 e.val.n, .slice A e.kids.length c]
  have FW : Fr w2 (w2.alloc (.cells #[.int .i64 e.kind, .int .i64 e.col, .bool e.val.null, .int .i64 e.val.n, .slice A e.kids.length c] 33)) := (Fr.refl _).alloc _
  go_wp2_with fail
  generalize hRA : w2.alloc (.cells #[.int .i64 e.kind, .int .i64 e.col, .bool e.val.null, .int .i64 e.val.n, .slice A e.kids.length c] 33) = RA at B1 FW ⊢
  clear hRA
  have F1 : Fr w1 RA := b2.trans FW
  have KE := hid ((HK.out.mono (fromB_le _ _)).fr FW)
  have CSP : Hid (∀ W : World, Fr RA W → Calls Try.prog 24 #[.slice VA L.length vc] W (ResE (n + 9) e W)) := hid fun W hW => by rw [← EE.out]; exact specConjoin n L VA vc W (HRd.out.fr (rdEx_mono _) (F1.trans hW)) HLS.out
  have CEQ : Hid (∀ (W3 W : World) (lo : Nat) (SA : Option Addr) (sc : Nat), Fr RA W → Fr W3 W → KidsOk (n + 9) (fromB W3 lo) (e, SA, sc) → Calls Try.prog 38 #[.agg #[.int .i64 e.kind, .int .i64 e.col, .bool e.val.null, .int .i64 e.val.n, .slice A e.kids.length c], .agg #[.int .i64 e.kind, .int .i64 e.col, .bool e.val.null, .int .i64 e.val.n, .slice SA e.kids.length sc]] W fun r w' => r = .returned (.bool true) ∧ Fr W w') := hid fun W3 W lo SA sc hW h3 hk => eqExQ (eqExL (n + 9)) e A SA c sc W (KE.out.fr hW).1 ((hk.mono (fromB_le _ _)).fr h3).1 HS.out
  have CVA : Hid (∀ W : World, Fr RA W → Calls Try.prog 35 #[.agg #[.int .i64 e.kind, .int .i64 e.col, .bool e.val.null, .int .i64 e.val.n, .slice A e.kids.length c], .int .i64 3] W fun r w' => r = .returned (.bool (vexpr 3 (n + 9) e)) ∧ Fr W w') := hid fun W hW => implValidExpr (n + 9) e A c 3 W (KE.out.fr hW).1 HS.out KE.out.2.2
  obtain ⟨a0, a1, a2, a3, a4, _⟩ := B1.five
  obtain ⟨vb, hv⟩ : ∃ b, vexpr 3 (n + 9) e = b := ⟨_, rfl⟩
  rw [hv] at CVA
  have HV := hid hv
  clear hv
  clear HK
  first | (go_region_with (first
    | (go_at_call 24; refine (CSP.out _ ?_).mono ?_; (· (repeat (first | with_reducible exact Fr.refl _ | with_reducible assumption | with_reducible refine Fr.alloc ?_ _ | with_reducible refine Fr.drew ?_ | with_reducible refine Fr.drewN ?_ _ | (with_reducible refine Fr.setNew2 ?_ ?_ _; · (simp <;> omega)) | with_reducible refine Fr.trans ?_ (by assumption)))); rintro r w3 ⟨SA, sc, rfl, hSp, _, b3⟩; have HSp := hid hSp; clear hSp; have F3 : Fr RA w3 := Fr.trans (by (repeat (first | with_reducible exact Fr.refl _ | with_reducible assumption | with_reducible refine Fr.alloc ?_ _ | with_reducible refine Fr.drew ?_ | with_reducible refine Fr.drewN ?_ _ | (with_reducible refine Fr.setNew2 ?_ ?_ _; · (simp <;> omega)) | with_reducible refine Fr.trans ?_ (by assumption)))) b3; obtain ⟨x0, x1, x2, x3, x4, _⟩ := (B1.fr F3).five)
    | (go_at_call 38; refine (CEQ.out w3 _ _ _ _ ?_ ?_ HSp.out).mono ?_; (· (repeat (first | with_reducible exact Fr.refl _ | with_reducible assumption | with_reducible refine Fr.alloc ?_ _ | with_reducible refine Fr.drew ?_ | with_reducible refine Fr.drewN ?_ _ | (with_reducible refine Fr.setNew2 ?_ ?_ _; · (simp <;> omega)) | with_reducible refine Fr.trans ?_ (by assumption)))); (· (repeat (first | with_reducible exact Fr.refl _ | with_reducible assumption | with_reducible refine Fr.alloc ?_ _ | with_reducible refine Fr.drew ?_ | with_reducible refine Fr.drewN ?_ _ | (with_reducible refine Fr.setNew2 ?_ ?_ _; · (simp <;> omega)) | with_reducible refine Fr.trans ?_ (by assumption)))); rintro r w4 ⟨rfl, b4⟩; have F4 : Fr RA w4 := Fr.trans (by (repeat (first | with_reducible exact Fr.refl _ | with_reducible assumption | with_reducible refine Fr.alloc ?_ _ | with_reducible refine Fr.drew ?_ | with_reducible refine Fr.drewN ?_ _ | (with_reducible refine Fr.setNew2 ?_ ?_ _; · (simp <;> omega)) | with_reducible refine Fr.trans ?_ (by assumption)))) b4; obtain ⟨y0, y1, y2, y3, y4, _⟩ := (B1.fr F4).five)
    | (go_at_call 35; refine (CVA.out _ ?_).mono ?_; (· (repeat (first | with_reducible exact Fr.refl _ | with_reducible assumption | with_reducible refine Fr.alloc ?_ _ | with_reducible refine Fr.drew ?_ | with_reducible refine Fr.drewN ?_ _ | (with_reducible refine Fr.setNew2 ?_ ?_ _; · (simp <;> omega)) | with_reducible refine Fr.trans ?_ (by assumption)))); rintro r w5 ⟨rfl, b5⟩; have F5 : Fr RA w5 := Fr.trans (by (repeat (first | with_reducible exact Fr.refl _ | with_reducible assumption | with_reducible refine Fr.alloc ?_ _ | with_reducible refine Fr.drew ?_ | with_reducible refine Fr.drewN ?_ _ | (with_reducible refine Fr.setNew2 ?_ ?_ _; · (simp <;> omega)) | with_reducible refine Fr.trans ?_ (by assumption)))) b5)
    | fail)) | fail
  all_goals clear a0 a1 a2 a3 a4 x0 x1 x2 x3 x4 y0 y1 y2 y3 y4
  all_goals obtain ⟨z0, z1, z2, z3, z4, _⟩ := (B1.fr F5).five
  all_goals replace CSP := hid (fun W (hW : Fr w5 W) => CSP.out W (F5.trans hW))
  all_goals replace CEQ := hid (fun W3 W lo SA sc (hW : Fr w5 W) => CEQ.out W3 W lo SA sc (F5.trans hW))
  all_goals
    cases vb
    · go_wp2_with fail
      first | (go_region_with (first
        | (go_at_call 24; refine (CSP.out _ ?_).mono ?_; (· (repeat (first | with_reducible exact Fr.refl _ | with_reducible assumption | with_reducible refine Fr.alloc ?_ _ | with_reducible refine Fr.drew ?_ | with_reducible refine Fr.drewN ?_ _ | (with_reducible refine Fr.setNew2 ?_ ?_ _; · (simp <;> omega)) | with_reducible refine Fr.trans ?_ (by assumption)))); rintro r w6 ⟨SB, sd, rfl, hSp, _, b6⟩; have HSq := hid hSp; clear hSp; have F6 : Fr w5 w6 := Fr.trans (by (repeat (first | with_reducible exact Fr.refl _ | with_reducible assumption | with_reducible refine Fr.alloc ?_ _ | with_reducible refine Fr.drew ?_ | with_reducible refine Fr.drewN ?_ _ | (with_reducible refine Fr.setNew2 ?_ ?_ _; · (simp <;> omega)) | with_reducible refine Fr.trans ?_ (by assumption)))) b6; obtain ⟨x0, x1, x2, x3, x4, _⟩ := (B1.fr (F5.trans F6)).five)
        | (go_at_call 38; refine (CEQ.out w6 _ _ _ _ ?_ ?_ HSq.out).mono ?_; (· (repeat (first | with_reducible exact Fr.refl _ | with_reducible assumption | with_reducible refine Fr.alloc ?_ _ | with_reducible refine Fr.drew ?_ | with_reducible refine Fr.drewN ?_ _ | (with_reducible refine Fr.setNew2 ?_ ?_ _; · (simp <;> omega)) | with_reducible refine Fr.trans ?_ (by assumption)))); (· (repeat (first | with_reducible exact Fr.refl _ | with_reducible assumption | with_reducible refine Fr.alloc ?_ _ | with_reducible refine Fr.drew ?_ | with_reducible refine Fr.drewN ?_ _ | (with_reducible refine Fr.setNew2 ?_ ?_ _; · (simp <;> omega)) | with_reducible refine Fr.trans ?_ (by assumption)))); rintro r w7 ⟨rfl, b7⟩; have F7 : Fr w5 w7 := Fr.trans (by (repeat (first | with_reducible exact Fr.refl _ | with_reducible assumption | with_reducible refine Fr.alloc ?_ _ | with_reducible refine Fr.drew ?_ | with_reducible refine Fr.drewN ?_ _ | (with_reducible refine Fr.setNew2 ?_ ?_ _; · (simp <;> omega)) | with_reducible refine Fr.trans ?_ (by assumption)))) b7)
        | fail)) | fail
      all_goals go_wp2
      all_goals go_ret
      all_goals exact ⟨rfl, bw1.trans (F1.trans (F5.trans F7))⟩
    · clear z0 z1 z2 z3 z4 CEQ CSP CVA HSp
      obtain ⟨n1, h1⟩ : ∃ n1, (ys.length : Int) % 4 = n1 := ⟨_, rfl⟩
      obtain ⟨n2, h2⟩ : ∃ n2, (ys.length : Int) / 4 % 4 = n2 := ⟨_, rfl⟩
      obtain ⟨b3, h3⟩ : ∃ b3, ((ys.length : Int) % 3 == 0) = b3 := ⟨_, rfl⟩
      have hn1 : 0 ≤ n1 ∧ n1 < 4 := by omega
      have hn2 : 0 ≤ n2 ∧ n2 < 4 := by omega
      obtain ⟨row, erow⟩ : ∃ row : List V, [⟨false, n1⟩, ⟨false, n2⟩, ⟨b3, 0⟩] = row := ⟨_, rfl⟩
      have hvr : vrow row = true := by
        subst erow
        cases b3 <;> (simp [vrow, V.valid]; omega)
      have hrl : row.length = 3 := by subst erow; rfl
      have hdp := hDp.out
      obtain ⟨q1, q2, q3, q4, q5⟩ := xcjn_law (row := row) hvr hdp (by rw [hrl, EE.out]; exact HV.out)
      rw [EE.out] at q1
      rw [← q1] at q3 q4
      have LX : Hid (∀ x ∈ L, xconj n x = cnj n x ∧ 1 ≤ (cnj n x).length ∧ (cnj n x).length ≤ 256) := hid fun x hx => by
        obtain ⟨d, hd, hv⟩ := q5 x hx
        rw [hrl] at hv
        have hv6 := vE_mono n d 8 x (vE_wide (b := 6) (by omega) hv) hd
        refine ⟨?_, (cnj_len hv6).1, (cnj_len hv6).2⟩
        unfold xconj
        rw [if_pos]
        show (wid 6 && vE 6 n ((8 : Nat) : Int) x) = true
        rw [hv6]; rfl
      have EX : Hid (L ≠ [] → xconj (n + 9) e = L.flatMap (cnj n)) := hid fun hne => by
        rw [← q4 hne]
        unfold xconj
        rw [vexpr_wide (by omega) (by omega) HV.out]; rfl
      have XF := hid (xconj_facts (dp_of (n + 9) KE.out.1))
      have LAW := hid q3
      have L9 := hid q2
      clear hn1 hn2 hvr hdp q1 q2 q3 q4 q5 HV EE
      go_wp2
      have K6 : Fr w5 (w5.alloc (.cells #[.bool false, .int .i64 n1, .bool false, .int .i64 n2, .bool b3, .int .i64 0] 30)) := (Fr.refl _).alloc _
      have hRow : RdSl rdV (w5.alloc (.cells #[.bool false, .int .i64 n1, .bool false, .int .i64 n2, .bool b3, .int .i64 0] 30)).cell? 2 (some ⟨w5.heap.size, 0, none⟩) row := fun _ => ⟨_, 0, rfl, fun i hi => by
        subst erow
        have hB := Blk.new w5 30 #[.bool false, .int .i64 n1, .bool false, .int .i64 n2, .bool b3, .int .i64 0]
        rcases (by simp at hi; omega : i = 0 ∨ i = 1 ∨ i = 2) with rfl | rfl | rfl
        all_goals exact ⟨(hB.cell _).trans rfl, (hB.cell _).trans rfl⟩⟩
      have HROW := hid hRow
      have HRL := hid hrl
      have s6 : (w5.alloc (.cells #[.bool false, .int .i64 n1, .bool false, .int .i64 n2, .bool b3, .int .i64 0] 30)).heap.size = w5.heap.size + 1 := World.size_alloc _ _
      have CIT : Hid (∀ (N : Nat) (x : Ex) (X : Option Addr) (cx : Nat) (W : World), Fr (w5.alloc (.cells #[.bool false, .int .i64 n1, .bool false, .int .i64 n2, .bool b3, .int .i64 0] 30)) W → KidsOk N W.cell? (x, X, cx) → exSm N x.kids → Calls Try.prog 36 #[.agg #[.int .i64 x.kind, .int .i64 x.col, .bool x.val.null, .int .i64 x.val.n, .slice X x.kids.length cx], .slice (some ⟨w5.heap.size, 0, none⟩) 3 3] W fun r w' => r = .returned (.bool (isT row N x)) ∧ Fr W w') := hid fun N x X cx W hW hK hS => by
        have h := isTrueC N x X cx row (some ⟨w5.heap.size, 0, none⟩) 3 W hK hS (HROW.out.fr rdV_mono hW) (by rw [HRL.out]; omega)
        rw [HRL.out] at h
        exact h
      clear hRow h1 h2 h3 hrl erow HROW HRL
      generalize w5.alloc (.cells #[.bool false, .int .i64 n1, .bool false, .int .i64 n2, .bool b3, .int .i64 0] 30) = W6 at K6 CIT s6 ⊢
      rw [← s6]
      have K7 : Fr W6 (W6.alloc (.cells #[] 33)) := (Fr.refl _).alloc _
      have PR : Hid (RowE n (W6.alloc (.cells #[] 33)) W6.heap.size (.slice (some ⟨W6.heap.size, 0, none⟩) 0 0) []) := hid ⟨own_lit (w := W6) (t := 33) (base := W6.heap.size) (sz := 5) (n := 0) (xs := []) (Nat.le_refl _) (by simp) (by omega), fun x hx => by simp at hx⟩
      clear s6
      go_loopw [8, 9, 10] (fun s v t wr => ∃ (k : Nat) (b : Bool) (q : List (Ex × Option Addr × Nat)), k ≤ L.length ∧ t = .int .i64 k ∧ s = .bool b ∧ Fr W6 wr ∧ Hid ((L.take k).all (isT row n) = b) ∧ Hid (RowE n wr W6.heap.size v q) ∧ Hid (q.map (·.1) = (L.take k).flatMap (cnj n)) ∧ q.length ≤ 256 * k) (fun _ _ t _ => L.length - (intOf t).toNat)
      case atStart => exact ⟨0, true, [], by omega, rfl, rfl, K7, hid (by simp), PR, hid (by simp), by simp⟩
      case round =>
        obtain ⟨k, b, p, hk, rfl, rfl, hf, hb, hP, hp, hpl⟩ := hrel
        have FF := (F5.trans K6).trans hf
        have GG := F1.trans FF
        have hWs := hf.size
        obtain ⟨PA, pc, rfl⟩ := own_form hP.out.own
        by_cases hlt : k < L.length
        · obtain ⟨lb, lo', K, kc, hVA, d0, d1, d2, d3, d4, hKk⟩ := HRd.out.exc hlt
          subst hVA
          replace d0 := GG.cell d0
          replace d1 := GG.cell d1
          replace d2 := GG.cell d2
          replace d3 := GG.cell d3
          replace d4 := GG.cell d4
          have HKk := hid (hKk.fr GG)
          have LK := hid (LX.out L[k] (List.getElem_mem hlt))
          have HT := hid (show (L.take (k + 1)).all (isT row n) = (b && isT row n L[k]) by
            rw [List.take_succ_eq_append_getElem hlt, List.all_append, hb.out]; simp)
          clear hKk
          cases b
          · have f0 := Fr.refl wr
            go_wp2_with fail
            refine (implConjuncts n L[k] K kc _ (HKk.out.fr f0).1 (HLS.out.2 k hlt) HKk.out.2.2).mono ?_
            rintro r w8 ⟨v2, p2, rfl, hR2, hp2, b8⟩
            rw [LK.out.1] at hp2
            have HP2 := hid hp2
            have l2 : p2.length = (cnj n L[k]).length := by rw [← hp2, List.length_map]
            have L2 := hid LK.out.2
            have l3 : 1 ≤ p2.length ∧ p2.length ≤ 256 := by rw [l2]; exact L2.out
            clear hp2 l2
            obtain ⟨gq, cq, _, rfl, _⟩ := own_form2 hR2.own (by omega)
            have HR2 := hid hR2
            have HPW := hid (hP.out.fr f0)
            clear hR2
            have s7 : wr.heap.size ≤ wr.heap.size := Fr.size f0
            have s8 := b8.size
            go_wp2_with fail
            refine upon_appW W6.heap.size (.slice PA p.length pc) p.length (p.flatMap cellsE) ?own ?n1 ?base gq p2.length cq p2 rfl ?n2 ?hB ?_
            case own => exact own_fr HPW.out.own b8
            case n1 => omega
            case base => omega
            case n2 => omega
            case hB => exact fun j u hu => by rw [Nat.zero_add]; exact own_cells HR2.out.own j u hu
            intro v5 w9 hO5 hg5 hw5
            have RR := hid (RowE.app HPW.out HR2.out (by omega) b8 hO5 hg5 hw5)
            have F8 : Fr W6 w9 := Below.grown ((hf.trans f0).trans b8) hg5 ((hf.trans f0).trans b8).size (fun j hj => (own_lt HPW.out.own j hj).1)
            have HMP := hid (show (p ++ p2).map (·.1) = (L.take (k + 1)).flatMap (cnj n) by rw [List.map_append, hp.out, HP2.out, List.take_succ_eq_append_getElem hlt, List.flatMap_append, List.flatMap_cons, List.flatMap_nil, List.append_nil])
            have hl5 : (p ++ p2).length ≤ 256 * (k + 1) := by rw [List.length_append]; omega
            clear hO5 HR2 HPW hP hp hb
            go_wp2
            go_roundw
            case rel => exact ⟨k + 1, false, p ++ p2, by omega, by go_num, rfl, F8, hid (by rw [HT.out]; rfl), RR, HMP, hl5⟩
            case measure => simp [intOf]; omega
          · go_wp2_with fail
            refine (CIT.out n L[k] K kc _ hf HKk.out (HLS.out.2 k hlt)).mono ?_
            rintro r w7 ⟨rfl, b7⟩
            replace d0 := b7.cell d0
            replace d1 := b7.cell d1
            replace d2 := b7.cell d2
            replace d3 := b7.cell d3
            replace d4 := b7.cell d4
            go_wp2_with fail
            refine (implConjuncts n L[k] K kc _ (HKk.out.fr b7).1 (HLS.out.2 k hlt) HKk.out.2.2).mono ?_
            rintro r w8 ⟨v2, p2, rfl, hR2, hp2, b8⟩
            rw [LK.out.1] at hp2
            have HP2 := hid hp2
            have l2 : p2.length = (cnj n L[k]).length := by rw [← hp2, List.length_map]
            have L2 := hid LK.out.2
            have l3 : 1 ≤ p2.length ∧ p2.length ≤ 256 := by rw [l2]; exact L2.out
            clear hp2 l2
            obtain ⟨gq, cq, _, rfl, _⟩ := own_form2 hR2.own (by omega)
            have HR2 := hid hR2
            have HPW := hid (hP.out.fr b7)
            clear hR2
            have s7 : wr.heap.size ≤ w7.heap.size := Fr.size b7
            have s8 := b8.size
            go_wp2_with fail
            refine upon_appW W6.heap.size (.slice PA p.length pc) p.length (p.flatMap cellsE) ?own ?n1 ?base gq p2.length cq p2 rfl ?n2 ?hB ?_
            case own => exact own_fr HPW.out.own b8
            case n1 => omega
            case base => omega
            case n2 => omega
            case hB => exact fun j u hu => by rw [Nat.zero_add]; exact own_cells HR2.out.own j u hu
            intro v5 w9 hO5 hg5 hw5
            have RR := hid (RowE.app HPW.out HR2.out (by omega) b8 hO5 hg5 hw5)
            have F8 : Fr W6 w9 := Below.grown ((hf.trans b7).trans b8) hg5 ((hf.trans b7).trans b8).size (fun j hj => (own_lt HPW.out.own j hj).1)
            have HMP := hid (show (p ++ p2).map (·.1) = (L.take (k + 1)).flatMap (cnj n) by rw [List.map_append, hp.out, HP2.out, List.take_succ_eq_append_getElem hlt, List.flatMap_append, List.flatMap_cons, List.flatMap_nil, List.append_nil])
            have hl5 : (p ++ p2).length ≤ 256 * (k + 1) := by rw [List.length_append]; omega
            clear hO5 HR2 HPW hP hp hb
            go_wp2
            go_roundw
            case rel => exact ⟨k + 1, _, p ++ p2, by omega, by go_num, rfl, F8, hid (by rw [HT.out]; simp), RR, HMP, hl5⟩
            case measure => simp [intOf]; omega
        · obtain rfl : k = L.length := by omega
          have HB := hid (show b = isT row (n + 9) e by rw [LAW.out, ← hb.out, List.take_of_length_le (Nat.le_refl _)])
          have HQ := hid (show p.map (·.1) = L.flatMap (cnj n) by rw [hp.out, List.take_of_length_le (Nat.le_refl _)])
          clear hb hp
          obtain ⟨z0, z1, z2, z3, z4, _⟩ := (B1.fr FF).five
          have eb : (b == b) = true := by simp
          by_cases h0 : L.length = 0
          · have el : (((L.length : Nat) : Int) == 0) = true := by simp [h0]
            go_wp2_with fail
            refine (CIT.out (n + 9) e A c _ hf (KE.out.fr FF) HS.out).mono ?_
            rintro r w7 ⟨rfl, b7⟩
            rw [← HB.out]
            go_wp2
            go_ret
            exact ⟨rfl, bw1.trans (GG.trans b7)⟩
          · have el : (((L.length : Nat) : Int) == 0) = false := beq_eq_false_iff_ne.2 (by omega)
            have LN := hid (EX.out (fun e => h0 (by rw [e]; rfl)))
            go_wp2_with fail
            refine (CIT.out (n + 9) e A c _ hf (KE.out.fr FF) HS.out).mono ?_
            rintro r w7 ⟨rfl, b7⟩
            rw [← HB.out]
            clear z0 z1 z2 z3 z4
            obtain ⟨z0, z1, z2, z3, z4, _⟩ := (B1.fr (FF.trans b7)).five
            go_wp2_with fail
            refine (implConjuncts (n + 9) e A c _ ((KE.out.fr FF).fr b7).1 HS.out KE.out.2.2).mono ?_
            rintro r w8 ⟨v2, p2, rfl, hR2, hp2, b8⟩
            rw [LN.out] at hp2
            obtain ⟨QA, qc, rfl⟩ := own_form hR2.own
            obtain ⟨PL, ePL⟩ : ∃ P, L.flatMap (cnj n) = P := ⟨_, rfl⟩
            have hp1 := HQ.out
            have xf := XF.out
            rw [LN.out] at xf
            rw [ePL] at hp1 hp2 xf
            have e2 : p2.length = PL.length := by rw [← hp2, List.length_map]
            have e1 : p.length = PL.length := by rw [← hp1, List.length_map]
            have r2 := hR2.rd
            have r1 := hP.out.rd
            rw [hp2] at r2
            rw [hp1] at r1
            have CQ := hid (eqExL (n + 9 + 1) QA PA qc pc PL w8 (r2.mono (rdEx_mono _) (fromB_le _ _)) ((rd_up (m := n + 1) (n := n + 9 + 1) (by omega) (r1.mono (rdEx_mono _) (fromB_le _ _))).fr (rdEx_mono _) (b7.trans b8)) xf.2.1)
            rw [e2, e1]
            clear r1 r2 e1 e2 hp1 hp2 hR2 hP xf HQ ePL
            go_wp2_with fail
            refine CQ.out.mono ?_
            rintro r w9 ⟨rfl, b9⟩
            go_wp2
            go_ret
            exact ⟨rfl, bw1.trans (GG.trans (b7.trans (b8.trans b9)))⟩
end Go.Proofs.Ytfillcjpdnpaiaa
