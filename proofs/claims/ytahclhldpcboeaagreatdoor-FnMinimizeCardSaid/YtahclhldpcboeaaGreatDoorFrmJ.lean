/- The walk of the program's search over the atoms, whole. -/
import Derived.Test.YtahclhldpcboeaaGreatDoorFndI
namespace Go.Proofs.YtahclhldpcboeaaGreatDoor
open Go Go.RowKit
theorem take_big {X : Type} {a b : List X} {k : Nat} (h : k ≤ a.length) : (a ++ b).take k = a.take k := by
  rw [List.take_append_of_le_length h]
theorem flat_upto {X Y Z : Type} {f : X → List Y} {g : Y → Z} {xs : List X} {k : Nat} (h : k < xs.length) (fd : List Z) : fd ++ ((xs.take (k + 1)).flatMap f).map g = (fd ++ ((xs.take k).flatMap f).map g) ++ (f xs[k]).map g := by
  rw [flat_take h, List.map_append, List.append_assoc]
theorem flat_all {X Y Z : Type} {f : X → List Y} {g : Y → Z} {xs : List X} {k : Nat} (fd : List Z) : fd ++ (xs.flatMap f).map g = (fd ++ ((xs.take k).flatMap f).map g) ++ ((xs.drop k).flatMap f).map g := by
  rw [List.append_assoc, ← List.map_append, ← List.flatMap_append, List.take_append_drop]
set_option maxRecDepth 100000 in
set_option maxHeartbeats 8000000 in
theorem fromW {C : FC} (k : FK C) (d : Nat) : ∀ (i : Nat) (w : World) (m vs : List Int) (bs : List Bool) (fd : List (List Int)), i + d = C.bd.length → FS C w vs bs fd → VB m vs bs → m.length = C.n → fd.length < 2000 → (∀ a ∈ C.bd.take i, 0 ≤ var m a.x ∧ 0 ≤ var m a.y) →
    Calls Tryz.prog 62 #[.int .i64 i, .pointer (some ⟨C.qpb, 0, none⟩), .pointer (some ⟨C.fdb, 0, none⟩), .pointer (some ⟨C.vxb, 0, none⟩), .pointer (some ⟨C.bxb, 0, none⟩), .pointer (some ⟨C.lxb, 0, none⟩), .pointer (some ⟨C.frb, 0, none⟩)] w
      (FrPost C w m (fd ++ (mtl (C.bd.drop i) (C.L.drop i) m).map (hdV C.hd))) := by
  induction d with
  | zero =>
    intro i w m vs bs fd hi h hV hm hlt hp
    obtain rfl : i = C.bd.length := by omega
    rw [mtl_end (Nat.le_refl _)]
    exact fromEnd k h hV hm hlt fun a ha => hp a (by rw [List.take_length]; exact ha)
  | succ d ih =>
    intro i w m vs bs fd hid' h hV hm hlt hp
    have hi : i < C.bd.length := by omega
    rw [mtl_at hi k.len]
    obtain ⟨A, c, ROW⟩ := k.row hi
    have c1 := h.cell k.n1 k.k1
    have c4 := h.cell k.n4 k.k4
    have c5 := h.cell k.n5 k.k5
    have q2 := h.cell k.n7 k.q2
    obtain ⟨r0, _⟩ := ROW h
    have l1 := cell_lt c1
    have l4 := cell_lt c4
    have l5 := cell_lt c5
    have l7 := cell_lt q2
    have lr := cell_lt r0
    obtain ⟨x1, x2, y1, y2⟩ := k.hx _ (List.getElem_mem hi)
    obtain ⟨A1, eA1⟩ : ∃ A, C.A1 = A := ⟨_, rfl⟩
    rw [eA1] at q2
    have RB := k.rB
    rw [eA1] at RB
    obtain ⟨ab, ao, hA, d0, d1, d2⟩ := RB.atom hi
    subst hA
    have FA := h.frA k
    replace d0 := FA.cell d0
    replace d1 := FA.cell d1
    replace d2 := FA.cell d2
    have lab := cell_lt d0
    have hcnd := fun f hf => k.hL i hi f hf
    have hrow9 := k.b4 i
    have hb1 := k.b1
    have hi9 : i < 900 := by omega
    obtain ⟨a, ea⟩ : ∃ a, C.bd[i] = a := ⟨_, rfl⟩
    rw [ea] at d0 d1 d2 x1 x2 y1 y2 hcnd
    have EA := hid ea
    have PFX := hid hp
    rw [ea]
    obtain ⟨ar, ax, ay⟩ := a
    simp only at d0 d1 d2 x1 x2 y1 y2
    obtain ⟨x, rfl⟩ : ∃ v : Nat, ax = v := ⟨ax.toNat, by omega⟩
    obtain ⟨y, rfl⟩ : ∃ v : Nat, ay = v := ⟨ay.toNat, by omega⟩
    have hxn : x < C.n := by omega
    have hyn : y < C.n := by omega
    have e0 : ((i : Int) == (C.bd.length : Int)) = false := by rw [beq_eq_false_iff_ne]; omega
    obtain ⟨px, epx⟩ : ∃ b, decide (0 ≤ m.getD x 0) = b := ⟨_, rfl⟩
    obtain ⟨py, epy⟩ : ∃ b, decide (0 ≤ m.getD y 0) = b := ⟨_, rfl⟩
    have bx : w.cell? ⟨C.bb, x, none⟩ = some (.bool px) := by rw [h.mark hxn, (hV.2.2 x (by omega)).1, epx]
    have bY : w.cell? ⟨C.bb, y, none⟩ = some (.bool py) := by rw [h.mark hyn, (hV.2.2 y (by omega)).1, epy]
    have lbx := cell_lt bx
    obtain ⟨xs, exs⟩ : ∃ xs, C.L.getD i [] = xs := ⟨_, rfl⟩
    rw [exs] at hcnd hrow9 r0
    obtain ⟨ST, eST⟩ : ∃ f, stepL (C.bd.drop (i + 1)) (C.L.drop (i + 1)) m ⟨ar, x, y⟩ = f := ⟨_, rfl⟩
    have HST := hid eST
    rw [exs, eST]
    have HROW := hid (show ∀ w vs bs fd, FS C w vs bs fd → w.cell? ⟨C.lb, i, none⟩ = some (.slice A xs.length c) ∧ RdSl rdFact w.cell? 3 A xs from fun w vs bs fd h => by have h2 := ROW h; rw [exs] at h2; exact h2)
    have HPX := hid epx
    have HPY := hid epy
    have HC := hid hcnd
    have HI := hid ih
    have HK0 := hid k
    have BA := Blk.new w 63 #[.int .i64 ar, .int .i64 x, .int .i64 y]
    have F1 : Fr w (w.alloc (.cells #[.int .i64 ar, .int .i64 x, .int .i64 y] 63)) := (Fr.refl _).alloc _
    have S1 := hid (h.fr F1)
    have V1 := hid (hV.vw x y)
    have L0 := hid (show (fd ++ ((xs.take 0).flatMap ST).map (hdV C.hd)) = fd by simp)
    clear ROW RB ea hp ih hcnd eA1 epx epy eST exs hV h k
    go_enter Tryz.func62, Tryz.ntmps62
    go_wp2_with fail
    replace c4 := F1.cell c4
    replace c5 := F1.cell c5
    replace r0 := F1.cell r0
    replace bx := F1.cell bx
    replace bY := F1.cell bY
    obtain ⟨ga, ega⟩ : ∃ g, w.heap.size = g := ⟨_, rfl⟩
    have KP1 : Kp w (w.alloc (.cells #[.int .i64 ar, .int .i64 x, .int .i64 y] 63)) := Kp.fr F1
    generalize w.alloc (.cells #[.int .i64 ar, .int .i64 x, .int .i64 y] 63) = W1 at S1 BA c4 c5 r0 bx bY KP1 ⊢
    rw [ega] at BA ⊢
    clear d0 d1 d2 q2 c1 F1 l1 l4 l5 l7 lr lab lbx FA
    obtain ⟨a0, a1, a2, _⟩ := BA.three
    go_quiet (fail)
    have FQ : Fr W1 (W1.drewN nq) := (Fr.refl _).drewN nq
    replace S1 := hid (S1.out.fr FQ)
    replace BA := BA.fr FQ
    replace c5 := FQ.cell c5
    replace r0 := FQ.cell r0
    replace KP1 := KP1.trans (Kp.fr FQ)
    clear c4 bx bY a0 a1 a2 FQ
    generalize W1.drewN nq = W2 at S1 BA c5 r0 KP1 ⊢
    go_wp2
    go_loopw [46] (fun t wr => ∃ (j : Nat) (vs : List Int) (bs : List Bool), t = .int .i64 j ∧ j ≤ xs.length ∧ Hid (FS C wr vs bs (fd ++ ((xs.take j).flatMap ST).map (hdV C.hd))) ∧ Hid (VW m x y vs bs) ∧ Hid ((fd ++ ((xs.take j).flatMap ST).map (hdV C.hd)).length < 2000) ∧ Hid (Blk wr ga 63 #[.int .i64 ar, .int .i64 x, .int .i64 y]) ∧ Hid (Kp w wr)) (fun t _ => xs.length - (intOf t).toNat)
    case atStart => exact ⟨0, vs, bs, rfl, by omega, hid (by rw [L0.out]; exact S1.out), V1, hid (by rw [L0.out]; exact hlt), hid BA, hid KP1⟩
    case round =>
      clear S1 V1 L0 BA KP1 c5 r0
      obtain ⟨j, vs, bs, rfl, hj, S, V, HLT, BA, KP⟩ := hrel
      by_cases hjl : j < xs.length
      · obtain ⟨r0, RF⟩ := HROW.out _ _ _ _ S.out
        obtain ⟨fb, fo, hFA, f0, f1, f2⟩ := RF.fact hjl
        subst hFA
        obtain ⟨hc, hf0, hf1⟩ := HC.out _ (List.getElem_mem hjl)
        have hup := hid (flat_upto (f := ST) (g := hdV C.hd) hjl fd)
        obtain ⟨cur, ecur⟩ : ∃ l, fd ++ ((xs.take j).flatMap ST).map (hdV C.hd) = l := ⟨_, rfl⟩
        have HALL := hid (flat_all (f := ST) (g := hdV C.hd) (xs := xs) (k := j + 1) fd)
        rw [ecur] at S HLT hup
        obtain ⟨f, ef⟩ : ∃ f, xs[j] = f := ⟨_, rfl⟩
        rw [ef] at f0 f1 f2 hc hf0 hf1 hup
        obtain ⟨fr, fx, fy⟩ := f
        simp only at f0 f1 f2 hf0 hf1
        have TF := hid (tst_fit V.out (a := ⟨ar, x, y⟩) (f := ⟨fr, fx, fy⟩) rfl rfl (by omega) (by omega) hc)
        have hfxy : x = y → fx = fy := fun e => by
          subst e
          unfold cnd at hc
          simp at hc
          exact hc.2
        have HFXY := hid hfxy
        obtain ⟨vx, evx⟩ : ∃ v, vs.getD x 0 = v := ⟨_, rfl⟩
        obtain ⟨vy, evy⟩ : ∃ v, vs.getD y 0 = v := ⟨_, rfl⟩
        have g1 := S.out.val hxn
        have g2 := S.out.val hyn
        rw [evx] at g1
        rw [evy] at g2
        have c3 := S.out.cell HK0.out.n3 HK0.out.k3
        have c4 := S.out.cell HK0.out.n4 HK0.out.k4
        have c6 := S.out.cell HK0.out.n6 HK0.out.k6
        obtain ⟨a0, a1, a2, _⟩ := BA.out.three
        have l3 := cell_lt c3
        have l4 := cell_lt c4
        have l6 := cell_lt c6
        have lv := cell_lt g1
        have la := BA.out.lt
        have lfb := cell_lt f0
        obtain ⟨nx, E1⟩ : ∃ b, (vx != fx) = b := ⟨_, rfl⟩
        obtain ⟨ny, E2⟩ : ∃ b, (vy != fy) = b := ⟨_, rfl⟩
        have ET := hid (show tst m vs x y ⟨fr, fx, fy⟩ = ((px && nx) || (py && ny)) by
          unfold tst
          rw [HPX.out, HPY.out, evx, evy, ← E1, ← E2]
          have e1 : ∀ x y : Int, (!decide (x = y)) = (x != y) := fun x y => by by_cases h : x = y <;> simp [h]
          rw [e1 vx fx, e1 vy fy])
        have F2 : Fr wr (wr.alloc (.cells #[.int .i64 fr, .int .i64 fx, .int .i64 fy] 54)) := (Fr.refl _).alloc _
        have BF := Blk.new wr 54 #[.int .i64 fr, .int .i64 fx, .int .i64 fy]
        have S2 := hid (S.out.fr F2)
        have BA2 := hid (BA.out.fr F2)
        have KP2 := hid (KP.out.trans (Kp.fr F2))
        have EC := hid ecur
        have EF := hid ef
        clear hc hfxy RF evx evy ecur ef S BA KP r0
        have hways : ((px = true ∧ nx = true) ∨ ((px = false ∨ (px = true ∧ nx = false)) ∧ py = true ∧ ny = true)) ∨ ((px = false ∨ (px = true ∧ nx = false)) ∧ (py = false ∨ (py = true ∧ ny = false))) := by
          cases px <;> cases nx <;> cases py <;> cases ny <;> simp
        rcases hways with hways | hways
        · have hfn := TF.out.1 (by rw [ET.out]; revert hways; cases px <;> cases nx <;> cases py <;> cases ny <;> simp)
          have hnil : ST ⟨fr, fx, fy⟩ = [] := by rw [← HST.out]; exact stepL_none hfn
          replace hup := hid (show fd ++ ((xs.take (j + 1)).flatMap ST).map (hdV C.hd) = cur by have h := hup.out; rw [hnil, List.map_nil, List.append_nil] at h; exact h)
          rcases hways with ⟨rfl, rfl⟩ | ⟨(rfl | ⟨rfl, rfl⟩), rfl, rfl⟩
          all_goals (
            go_wp2_with fail
            replace c3 := F2.cell c3
            replace a1 := F2.cell a1
            replace a2 := F2.cell a2
            replace g1 := F2.cell g1
            replace g2 := F2.cell g2
            obtain ⟨z0, z1, z2, _⟩ := BF.three
            obtain ⟨gf, egf⟩ : ∃ g, wr.heap.size = g := ⟨_, rfl⟩
            clear F2 BF a0 c4 c6
            generalize wr.alloc (.cells #[.int .i64 fr, .int .i64 fx, .int .i64 fy] 54) = W5 at S2 BA2 KP2 c3 a1 a2 g1 g2 z0 z1 z2 ⊢
            rw [egf] at z0 z1 z2 ⊢
            go_quiet (fail)
            have FQ : Fr W5 (W5.drewN nq) := (Fr.refl _).drewN nq
            have S9 := hid (S2.out.fr FQ)
            have BA9 := hid (BA2.out.fr FQ)
            have KP9 := hid (KP2.out.trans (Kp.fr FQ))
            clear c3 a1 a2 g1 g2 z0 z1 z2 FQ S2 BA2 KP2 E1 E2
            generalize W5.drewN nq = W6 at S9 BA9 KP9 ⊢
            go_wp2
            go_roundw
            case rel => exact ⟨j + 1, vs, bs, by go_num, by omega, hid (by rw [hup.out]; exact S9.out), V, hid (by rw [hup.out]; exact HLT.out), BA9, KP9⟩
            case measure => simp [intOf]; omega)
        · have hft := TF.out.2 (by rw [ET.out]; revert hways; cases px <;> cases nx <;> cases py <;> cases ny <;> simp)
          have hsome : ST ⟨fr, fx, fy⟩ = mtl (C.bd.drop (i + 1)) (C.L.drop (i + 1)) ((m.set x fx).set y fy) := by rw [← HST.out]; exact stepL_some hft
          obtain ⟨hext, hfact⟩ := fit_ext hft (show (x : Int).toNat < m.length by omega) (show (y : Int).toNat < m.length by omega) hf0 hf1
          have HEXT := hid hext
          have HVB := hid (V.out.put (fx := fx) (fy := fy) (by omega) (by omega) hf0 hf1)
          have HPF := hid (show ∀ b ∈ C.bd.take (i + 1), 0 ≤ var ((m.set x fx).set y fy) b.x ∧ 0 ≤ var ((m.set x fx).set y fy) b.y from fun b hb => by
            rw [List.take_succ_eq_append_getElem hi, List.mem_append] at hb
            rcases hb with hb | hb
            · obtain ⟨p1, p2⟩ := PFX.out b hb
              obtain ⟨k1, k2, k3, k4⟩ := HK0.out.hx b (List.mem_of_mem_take hb)
              rw [hext.var (by omega) p1, hext.var (by omega) p2]
              exact ⟨p1, p2⟩
            · simp only [List.mem_cons, List.not_mem_nil, or_false] at hb
              rw [hb, EA.out]
              have v1 : var ((m.set x fx).set y fy) (x : Int) = fx := congrArg Fact.x hfact
              have v2 : var ((m.set x fx).set y fy) (y : Int) = fy := congrArg Fact.y hfact
              show 0 ≤ var _ (x : Int) ∧ 0 ≤ var _ (y : Int)
              rw [v1, v2]
              exact ⟨hf0, hf1⟩)
          have CALL := hid (fun W (hS : FS C W ((vs.set x fx).set y fy) ((bs.set x true).set y true) cur) => HI.out (i + 1) W ((m.set x fx).set y fy) ((vs.set x fx).set y fy) ((bs.set x true).set y true) cur (by omega) hS HVB.out (by simp; omega) HLT.out HPF.out)
          have hxi : (x : Int) < (C.n : Int) := by omega
          have hyi : (y : Int) < (C.n : Int) := by omega
          rw [hsome] at hup
          obtain ⟨res, eres⟩ : ∃ l, cur ++ (mtl (C.bd.drop (i + 1)) (C.L.drop (i + 1)) ((m.set x fx).set y fy)).map (hdV C.hd) = l := ⟨_, rfl⟩
          rw [eres] at hup CALL
          have HUP := hid hup
          clear hup eres hsome hfact hext TF ET HPF hft
          rcases hways with ⟨(rfl | ⟨rfl, rfl⟩), (rfl | ⟨rfl, rfl⟩)⟩
          all_goals (
            go_wp2_with fail
            replace c3 := F2.cell c3
            replace a1 := F2.cell a1
            replace a2 := F2.cell a2
            replace g1 := F2.cell g1
            replace g2 := F2.cell g2
            obtain ⟨z0, z1, z2, _⟩ := BF.three
            obtain ⟨gf, egf⟩ : ∃ g, wr.heap.size = g := ⟨_, rfl⟩
            clear F2 a0 c4 c6
            generalize wr.alloc (.cells #[.int .i64 fr, .int .i64 fx, .int .i64 fy] 54) = W5 at S2 BA2 KP2 BF c3 a1 a2 g1 g2 z0 z1 z2 ⊢
            rw [egf] at z0 z1 z2 BF ⊢
            go_quiet (fail)
            have FQ : Fr W5 (W5.drewN nq).drew := ((Fr.refl _).drewN nq).drew
            have S6 := S2.out.fr FQ
            have BA6 := BA2.out.fr FQ
            have BF6 := BF.fr FQ
            have KP6 := KP2.out.trans (Kp.fr FQ)
            clear c3 a1 a2 g1 g2 z0 z1 z2 FQ S2 BA2 KP2 E1 E2 BF
            go_wp2_with fail
            refine wp_region_T (fun W => W.cell? ⟨C.vxb, 0, none⟩ = some (.slice (some ⟨C.vb, 0, none⟩) C.n C.n) ∧ (W.cell? ⟨ga, 1, none⟩ = some (.int .i64 x) ∧ W.cell? ⟨ga, 2, none⟩ = some (.int .i64 y)) ∧ (W.cell? ⟨gf, 1, none⟩ = some (.int .i64 fx) ∧ W.cell? ⟨gf, 2, none⟩ = some (.int .i64 fy))) 13 (by kernel_rfl) ?_
            have keepQ : ∀ (W : World) (vs : List Int) (bs : List Bool), FS C W vs bs cur → Blk W ga 63 #[.int .i64 ar, .int .i64 x, .int .i64 y] → Blk W gf 54 #[.int .i64 fr, .int .i64 fx, .int .i64 fy] → W.cell? ⟨C.vxb, 0, none⟩ = some (.slice (some ⟨C.vb, 0, none⟩) C.n C.n) ∧ (W.cell? ⟨ga, 1, none⟩ = some (.int .i64 x) ∧ W.cell? ⟨ga, 2, none⟩ = some (.int .i64 y)) ∧ (W.cell? ⟨gf, 1, none⟩ = some (.int .i64 fx) ∧ W.cell? ⟨gf, 2, none⟩ = some (.int .i64 fy)) := fun W vs bs s b c => ⟨s.cell HK0.out.n3 HK0.out.k3, ⟨b.cell 1, b.cell 2⟩, c.cell 1, c.cell 2⟩
            generalize (W5.drewN nq).drew = W6 at S6 BA6 BF6 KP6 ⊢
            have HS := keepQ _ _ _ S6 BA6 BF6
            have g1 := S6.val hxn
            have fz1 := S6.freeV x
            ((refine wpAnyT_take 0 (v := ?_) rfl (by kernel_rfl) (fun _ _ _ h => h) (Or.inl ⟨by rfl, ?_⟩) (by assumption) ?_; rotate_left; (focus (intro W hSw; (try dsimp only at hSw); go_simp; (try with_reducible rfl); done)); (try simp only [Act.put, List.setIfInBounds_toArray, List.set_cons_zero, List.set_cons_succ])); (refine wpAnyT_take 1 (v := ?_) rfl (by kernel_rfl) (fun _ _ _ h => h) (Or.inl ⟨by rfl, ?_⟩) (by assumption) ?_; rotate_left; (focus (intro W hSw; (try dsimp only at hSw); go_simp; (try with_reducible rfl); done)); (try simp only [Act.put, List.setIfInBounds_toArray, List.set_cons_zero, List.set_cons_succ])); (refine wpAnyT_take 2 (v := ?_) rfl (by kernel_rfl) (fun _ _ _ h => h) (Or.inl ⟨by rfl, ?_⟩) (by assumption) ?_; rotate_left; (focus (intro W hSw; (try dsimp only at hSw); go_simp; (try with_reducible rfl); done)); (try simp only [Act.put, List.setIfInBounds_toArray, List.set_cons_zero, List.set_cons_succ])); (refine wpAnyT_take 3 (v := ?_) rfl (by kernel_rfl) (fun _ _ _ h => h) (Or.inl ⟨by rfl, ?_⟩) (by assumption) ?_; rotate_left; (focus (intro W hSw; (try dsimp only at hSw); go_simp; (try with_reducible rfl); done)); (try simp only [Act.put, List.setIfInBounds_toArray, List.set_cons_zero, List.set_cons_succ])); (refine wpAnyT_take 4 (v := ?_) rfl (by kernel_rfl) (fun _ _ _ h => h) (Or.inl ⟨by rfl, ?_⟩) (by assumption) ?_; rotate_left; (focus (intro W hSw; (try dsimp only at hSw); go_simp; (try with_reducible rfl); done)); (try simp only [Act.put, List.setIfInBounds_toArray, List.set_cons_zero, List.set_cons_succ])); (refine wpAnyT_take 5 (v := ?_) rfl (by kernel_rfl) (fun _ _ _ h => h) (Or.inl ⟨by rfl, ?_⟩) (by assumption) ?_; rotate_left; (focus (intro W hSw; (try dsimp only at hSw); go_simp; (try with_reducible rfl); done)); (try simp only [Act.put, List.setIfInBounds_toArray, List.set_cons_zero, List.set_cons_succ])); (refine wpAnyT_take 6 (v := ?_) rfl (by kernel_rfl) (fun _ _ _ h => h) (Or.inl ⟨by rfl, ?_⟩) (by assumption) ?_; rotate_left; (focus (intro W hSw; (try dsimp only at hSw); go_simp; (try with_reducible rfl); done)); (try simp only [Act.put, List.setIfInBounds_toArray, List.set_cons_zero, List.set_cons_succ])); (refine wpAnyT_take 7 (v := ?_) rfl (by kernel_rfl) (fun _ _ _ h => h) (Or.inl ⟨by rfl, ?_⟩) (by assumption) ?_; rotate_left; (focus (intro W hSw; (try dsimp only at hSw); go_simp; (try with_reducible rfl); done)); (try simp only [Act.put, List.setIfInBounds_toArray, List.set_cons_zero, List.set_cons_succ])); (refine wpAnyT_take 8 (v := ?_) rfl (by kernel_rfl) (fun _ _ _ h => h) (Or.inl ⟨by rfl, ?_⟩) (by assumption) ?_; rotate_left; (focus (intro W hSw; (try dsimp only at hSw); go_simp; (try with_reducible rfl); done)); (try simp only [Act.put, List.setIfInBounds_toArray, List.set_cons_zero, List.set_cons_succ])); (refine wpAnyT_take 9 (v := ?_) rfl (by kernel_rfl) (fun _ _ _ h => h) (Or.inl ⟨by rfl, ?_⟩) (by assumption) ?_; rotate_left; (focus (intro W hSw; (try dsimp only at hSw); go_simp; (try with_reducible rfl); done)); (try simp only [Act.put, List.setIfInBounds_toArray, List.set_cons_zero, List.set_cons_succ])); (refine wpAnyT_take 10 (v := ?_) rfl (by kernel_rfl) (fun _ _ _ h => h) (Or.inl ⟨by rfl, ?_⟩) (by assumption) ?_; rotate_left; (focus (intro W hSw; (try dsimp only at hSw); go_simp; (try with_reducible rfl); done)); (try simp only [Act.put, List.setIfInBounds_toArray, List.set_cons_zero, List.set_cons_succ])))
            ((refine wpAnyT_one 11 rfl (by kernel_rfl) (fun K hK => ?_); go_simp))
            obtain ⟨S7, K7⟩ := S6.setV HK0.out x fx
            have BA7 := (K7.2 _ _).1 BA6
            have BF7 := (K7.2 _ _).2 BF6
            have KP7 := KP6.trans K7
            have HS := keepQ _ _ _ S7 BA7 BF7
            ((try dsimp only); refine hK.out _ _ (fun _ => HS) (fun _ => ?_); clear hK K; (try simp only [Act.put, List.setIfInBounds_toArray, List.set_cons_zero, List.set_cons_succ]))
            clear g1 fz1 S6 K7 BA6 BF6 KP6
            generalize W6.setCell ⟨C.vb, x, none⟩ (.int .i64 fx) = W7 at S7 BA7 BF7 KP7 HS ⊢
            have g1 := S7.val hyn
            have fz1 := S7.freeV y
            ((refine wpAnyT_take 12 (v := ?_) rfl (by kernel_rfl) (fun _ _ _ h => h) (Or.inl ⟨by rfl, ?_⟩) (by assumption) ?_; rotate_left; (focus (intro W hSw; (try dsimp only at hSw); go_simp; (try with_reducible rfl); done)); (try simp only [Act.put, List.setIfInBounds_toArray, List.set_cons_zero, List.set_cons_succ])))
            ((refine wpAnyT_one 13 rfl (by kernel_rfl) (fun K hK => ?_); go_simp))
            ((try dsimp only); refine hK.out _ _ (fun h => absurd rfl h) (fun _ => ?_); clear hK K; (try simp only [Act.put, List.setIfInBounds_toArray, List.set_cons_zero, List.set_cons_succ]); refine wpAnyT_done (by kernel_rfl) ?_ _)
            obtain ⟨S8, K8⟩ := S7.setV HK0.out y fy
            have BA8 := (K8.2 _ _).1 BA7
            have KP8 := KP7.trans K8
            clear g1 fz1 S7 K8 BA7 BF7 KP7 HS keepQ
            generalize W7.setCell ⟨C.vb, y, none⟩ (.int .i64 fy) = W8 at S8 BA8 KP8 ⊢
            go_wp2_with fail
            refine wp_region_T (fun W => W.cell? ⟨C.bxb, 0, none⟩ = some (.slice (some ⟨C.bb, 0, none⟩) C.n C.n) ∧ W.cell? ⟨ga, 1, none⟩ = some (.int .i64 x) ∧ W.cell? ⟨ga, 2, none⟩ = some (.int .i64 y)) 9 (by kernel_rfl) ?_
            have keepQ : ∀ (W : World) (vs : List Int) (bs : List Bool), FS C W vs bs cur → Blk W ga 63 #[.int .i64 ar, .int .i64 x, .int .i64 y] → W.cell? ⟨C.bxb, 0, none⟩ = some (.slice (some ⟨C.bb, 0, none⟩) C.n C.n) ∧ W.cell? ⟨ga, 1, none⟩ = some (.int .i64 x) ∧ W.cell? ⟨ga, 2, none⟩ = some (.int .i64 y) := fun W vs bs s b => ⟨s.cell HK0.out.n4 HK0.out.k4, b.cell 1, b.cell 2⟩
            replace S8 := S8.fr (Fr.refl _).drew
            replace BA8 := BA8.drew
            replace KP8 := KP8.trans (Kp.fr (Fr.refl _).drew)
            generalize W8.drew = W9 at S8 BA8 KP8 ⊢
            have HS := keepQ _ _ _ S8 BA8
            have g1 := S8.mark hxn
            have fz1 := S8.freeB x
            ((refine wpAnyT_take 0 (v := ?_) rfl (by kernel_rfl) (fun _ _ _ h => h) (Or.inl ⟨by rfl, ?_⟩) (by assumption) ?_; rotate_left; (focus (intro W hSw; (try dsimp only at hSw); go_simp; (try with_reducible rfl); done)); (try simp only [Act.put, List.setIfInBounds_toArray, List.set_cons_zero, List.set_cons_succ])); (refine wpAnyT_take 1 (v := ?_) rfl (by kernel_rfl) (fun _ _ _ h => h) (Or.inl ⟨by rfl, ?_⟩) (by assumption) ?_; rotate_left; (focus (intro W hSw; (try dsimp only at hSw); go_simp; (try with_reducible rfl); done)); (try simp only [Act.put, List.setIfInBounds_toArray, List.set_cons_zero, List.set_cons_succ])); (refine wpAnyT_take 2 (v := ?_) rfl (by kernel_rfl) (fun _ _ _ h => h) (Or.inl ⟨by rfl, ?_⟩) (by assumption) ?_; rotate_left; (focus (intro W hSw; (try dsimp only at hSw); go_simp; (try with_reducible rfl); done)); (try simp only [Act.put, List.setIfInBounds_toArray, List.set_cons_zero, List.set_cons_succ])); (refine wpAnyT_take 3 (v := ?_) rfl (by kernel_rfl) (fun _ _ _ h => h) (Or.inl ⟨by rfl, ?_⟩) (by assumption) ?_; rotate_left; (focus (intro W hSw; (try dsimp only at hSw); go_simp; (try with_reducible rfl); done)); (try simp only [Act.put, List.setIfInBounds_toArray, List.set_cons_zero, List.set_cons_succ])); (refine wpAnyT_take 4 (v := ?_) rfl (by kernel_rfl) (fun _ _ _ h => h) (Or.inl ⟨by rfl, ?_⟩) (by assumption) ?_; rotate_left; (focus (intro W hSw; (try dsimp only at hSw); go_simp; (try with_reducible rfl); done)); (try simp only [Act.put, List.setIfInBounds_toArray, List.set_cons_zero, List.set_cons_succ])); (refine wpAnyT_take 5 (v := ?_) rfl (by kernel_rfl) (fun _ _ _ h => h) (Or.inl ⟨by rfl, ?_⟩) (by assumption) ?_; rotate_left; (focus (intro W hSw; (try dsimp only at hSw); go_simp; (try with_reducible rfl); done)); (try simp only [Act.put, List.setIfInBounds_toArray, List.set_cons_zero, List.set_cons_succ])); (refine wpAnyT_take 6 (v := ?_) rfl (by kernel_rfl) (fun _ _ _ h => h) (Or.inl ⟨by rfl, ?_⟩) (by assumption) ?_; rotate_left; (focus (intro W hSw; (try dsimp only at hSw); go_simp; (try with_reducible rfl); done)); (try simp only [Act.put, List.setIfInBounds_toArray, List.set_cons_zero, List.set_cons_succ])))
            ((refine wpAnyT_one 7 rfl (by kernel_rfl) (fun K hK => ?_); go_simp))
            obtain ⟨S9, K9⟩ := S8.setB HK0.out x true
            have BA9 := (K9.2 _ _).1 BA8
            have KP9 := KP8.trans K9
            have HS := keepQ _ _ _ S9 BA9
            ((try dsimp only); refine hK.out _ _ (fun _ => HS) (fun _ => ?_); clear hK K; (try simp only [Act.put, List.setIfInBounds_toArray, List.set_cons_zero, List.set_cons_succ]))
            clear g1 fz1 S8 K9 BA8 KP8
            generalize W9.setCell ⟨C.bb, x, none⟩ (.bool true) = W10 at S9 BA9 KP9 HS ⊢
            have g1 := S9.mark hyn
            have fz1 := S9.freeB y
            ((refine wpAnyT_take 8 (v := ?_) rfl (by kernel_rfl) (fun _ _ _ h => h) (Or.inl ⟨by rfl, ?_⟩) (by assumption) ?_; rotate_left; (focus (intro W hSw; (try dsimp only at hSw); go_simp; (try with_reducible rfl); done)); (try simp only [Act.put, List.setIfInBounds_toArray, List.set_cons_zero, List.set_cons_succ])))
            ((refine wpAnyT_one 9 rfl (by kernel_rfl) (fun K hK => ?_); go_simp))
            ((try dsimp only); refine hK.out _ _ (fun h => absurd rfl h) (fun _ => ?_); clear hK K; (try simp only [Act.put, List.setIfInBounds_toArray, List.set_cons_zero, List.set_cons_succ]); refine wpAnyT_done (by kernel_rfl) ?_ _)
            obtain ⟨S10, K10⟩ := S9.setB HK0.out y true
            have BA10 := hid ((K10.2 _ _).1 BA9)
            have KP10 := hid (KP9.trans K10)
            clear g1 fz1 S9 K10 BA9 KP9 HS keepQ
            generalize W10.setCell ⟨C.bb, y, none⟩ (.bool true) = W11 at S10 BA10 KP10 ⊢
            have c6 := S10.cell HK0.out.n6 HK0.out.k6
            have CA := CALL.out W11 S10
            clear S10
            go_wp2_with fail
            refine CA.mono ?_
            rintro r w9 ⟨rfl, vs9, bs9, hF9, hVB9, hK9⟩
            have BA9 := hid ((hK9.2 _ _).1 BA10.out)
            have KP9 := hid (KP10.out.trans hK9)
            clear CA c6 hK9 BA10 KP10 CALL
            by_cases hres : res.length < 2000
            · have ed : decide (res.length < 2000) = true := decide_eq_true hres
              rw [List.take_of_length_le (by omega)] at hF9
              have HF9 := hid (show FS C w9 vs9 bs9 (fd ++ ((xs.take (j + 1)).flatMap ST).map (hdV C.hd)) by rw [HUP.out]; exact hF9)
              have HW9 := hid ((hVB9 hres).back rfl HEXT.out (by omega) (by omega))
              have HL9 := hid (show (fd ++ ((xs.take (j + 1)).flatMap ST).map (hdV C.hd)).length < 2000 by rw [HUP.out]; exact hres)
              rw [ed]
              clear hF9 hVB9
              go_wp2
              go_roundw
              case rel => exact ⟨j + 1, vs9, bs9, by go_num, by omega, HF9, HW9, HL9, BA9, KP9⟩
              case measure => simp [intOf]; omega
            · have ed : decide (res.length < 2000) = false := decide_eq_false hres
              have RES := hid (show FrPost C w m (fd ++ (xs.flatMap ST).map (hdV C.hd)) (.returned (.bool false)) w9 from by
                rw [HALL.out, HUP.out]
                refine ⟨?_, vs9, bs9, ?_, fun h => ?_, KP9.out⟩
                · rw [decide_eq_false (by rw [List.length_append]; omega)]
                · rw [take_big (by omega)]; exact hF9
                · rw [List.length_append] at h; omega)
              rw [ed]
              clear hF9 hVB9
              go_wp2
              go_ret
              exact RES.out)
      · obtain rfl : j = xs.length := by omega
        have EALL := hid (show fd ++ ((xs.take xs.length).flatMap ST).map (hdV C.hd) = fd ++ (xs.flatMap ST).map (hdV C.hd) by rw [List.take_length])
        obtain ⟨cur, ecur⟩ : ∃ l, fd ++ (xs.flatMap ST).map (hdV C.hd) = l := ⟨_, rfl⟩
        rw [ecur] at EALL
        rw [EALL.out] at S HLT
        have EC2 := hid ecur
        have hxi : (x : Int) < (C.n : Int) := by omega
        have hyi : (y : Int) < (C.n : Int) := by omega
        clear ecur
        go_wp2_with fail
        refine wp_region_T (fun W => W.cell? ⟨C.bxb, 0, none⟩ = some (.slice (some ⟨C.bb, 0, none⟩) C.n C.n) ∧ W.cell? ⟨ga, 1, none⟩ = some (.int .i64 x) ∧ W.cell? ⟨ga, 2, none⟩ = some (.int .i64 y)) 11 (by kernel_rfl) ?_
        have keepQ : ∀ (W : World) (vs : List Int) (bs : List Bool), FS C W vs bs cur → Blk W ga 63 #[.int .i64 ar, .int .i64 x, .int .i64 y] → W.cell? ⟨C.bxb, 0, none⟩ = some (.slice (some ⟨C.bb, 0, none⟩) C.n C.n) ∧ W.cell? ⟨ga, 1, none⟩ = some (.int .i64 x) ∧ W.cell? ⟨ga, 2, none⟩ = some (.int .i64 y) := fun W vs bs s b => ⟨s.cell HK0.out.n4 HK0.out.k4, b.cell 1, b.cell 2⟩
        have S8 := S.out.fr (Fr.refl _).drew
        have BA8 := BA.out.drew
        have KP8 := KP.out.trans (Kp.fr (Fr.refl _).drew)
        clear S BA KP
        generalize wr.drew = W9 at S8 BA8 KP8 ⊢
        have HS := keepQ _ _ _ S8 BA8
        have g1 := S8.mark hxn
        have fz1 := S8.freeB x
        ((refine wpAnyT_take 0 (v := ?_) rfl (by kernel_rfl) (fun _ _ _ h => h) (Or.inl ⟨by rfl, ?_⟩) (by assumption) ?_; rotate_left; (focus (intro W hSw; (try dsimp only at hSw); go_simp; (try with_reducible rfl); done)); (try simp only [Act.put, List.setIfInBounds_toArray, List.set_cons_zero, List.set_cons_succ])); (refine wpAnyT_take 1 (v := ?_) rfl (by kernel_rfl) (fun _ _ _ h => h) (Or.inl ⟨by rfl, ?_⟩) (by assumption) ?_; rotate_left; (focus (intro W hSw; (try dsimp only at hSw); go_simp; (try with_reducible rfl); done)); (try simp only [Act.put, List.setIfInBounds_toArray, List.set_cons_zero, List.set_cons_succ])); (refine wpAnyT_take 2 (v := ?_) rfl (by kernel_rfl) (fun _ _ _ h => h) (Or.inl ⟨by rfl, ?_⟩) (by assumption) ?_; rotate_left; (focus (intro W hSw; (try dsimp only at hSw); go_simp; (try with_reducible rfl); done)); (try simp only [Act.put, List.setIfInBounds_toArray, List.set_cons_zero, List.set_cons_succ])); (refine wpAnyT_take 3 (v := ?_) rfl (by kernel_rfl) (fun _ _ _ h => h) (Or.inl ⟨by rfl, ?_⟩) (by assumption) ?_; rotate_left; (focus (intro W hSw; (try dsimp only at hSw); go_simp; (try with_reducible rfl); done)); (try simp only [Act.put, List.setIfInBounds_toArray, List.set_cons_zero, List.set_cons_succ])); (refine wpAnyT_take 4 (v := ?_) rfl (by kernel_rfl) (fun _ _ _ h => h) (Or.inl ⟨by rfl, ?_⟩) (by assumption) ?_; rotate_left; (focus (intro W hSw; (try dsimp only at hSw); go_simp; (try with_reducible rfl); done)); (try simp only [Act.put, List.setIfInBounds_toArray, List.set_cons_zero, List.set_cons_succ])); (refine wpAnyT_take 5 (v := ?_) rfl (by kernel_rfl) (fun _ _ _ h => h) (Or.inl ⟨by rfl, ?_⟩) (by assumption) ?_; rotate_left; (focus (intro W hSw; (try dsimp only at hSw); go_simp; (try with_reducible rfl); done)); (try simp only [Act.put, List.setIfInBounds_toArray, List.set_cons_zero, List.set_cons_succ])); (refine wpAnyT_take 6 (v := ?_) rfl (by kernel_rfl) (fun _ _ _ h => h) (Or.inl ⟨by rfl, ?_⟩) (by assumption) ?_; rotate_left; (focus (intro W hSw; (try dsimp only at hSw); go_simp; (try with_reducible rfl); done)); (try simp only [Act.put, List.setIfInBounds_toArray, List.set_cons_zero, List.set_cons_succ])); (refine wpAnyT_take 7 (v := ?_) rfl (by kernel_rfl) (fun _ _ _ h => h) (Or.inl ⟨by rfl, ?_⟩) (by assumption) ?_; rotate_left; (focus (intro W hSw; (try dsimp only at hSw); go_simp; (try with_reducible rfl); done)); (try simp only [Act.put, List.setIfInBounds_toArray, List.set_cons_zero, List.set_cons_succ])); (refine wpAnyT_take 8 (v := ?_) rfl (by kernel_rfl) (fun _ _ _ h => h) (Or.inl ⟨by rfl, ?_⟩) (by assumption) ?_; rotate_left; (focus (intro W hSw; (try dsimp only at hSw); go_simp; (try with_reducible rfl); done)); (try simp only [Act.put, List.setIfInBounds_toArray, List.set_cons_zero, List.set_cons_succ])))
        ((refine wpAnyT_one 9 rfl (by kernel_rfl) (fun K hK => ?_); go_simp))
        obtain ⟨S9, K9⟩ := S8.setB HK0.out x px
        have BA9 := (K9.2 _ _).1 BA8
        have KP9 := KP8.trans K9
        have HS := keepQ _ _ _ S9 BA9
        ((try dsimp only); refine hK.out _ _ (fun _ => HS) (fun _ => ?_); clear hK K; (try simp only [Act.put, List.setIfInBounds_toArray, List.set_cons_zero, List.set_cons_succ]))
        clear g1 fz1 S8 K9 BA8 KP8
        generalize W9.setCell ⟨C.bb, x, none⟩ (.bool px) = W10 at S9 BA9 KP9 HS ⊢
        have g1 := S9.mark hyn
        have fz1 := S9.freeB y
        ((refine wpAnyT_take 10 (v := ?_) rfl (by kernel_rfl) (fun _ _ _ h => h) (Or.inl ⟨by rfl, ?_⟩) (by assumption) ?_; rotate_left; (focus (intro W hSw; (try dsimp only at hSw); go_simp; (try with_reducible rfl); done)); (try simp only [Act.put, List.setIfInBounds_toArray, List.set_cons_zero, List.set_cons_succ])))
        ((refine wpAnyT_one 11 rfl (by kernel_rfl) (fun K hK => ?_); go_simp))
        ((try dsimp only); refine hK.out _ _ (fun h => absurd rfl h) (fun _ => ?_); clear hK K; (try simp only [Act.put, List.setIfInBounds_toArray, List.set_cons_zero, List.set_cons_succ]); refine wpAnyT_done (by kernel_rfl) ?_ _)
        obtain ⟨S10, K10⟩ := S9.setB HK0.out y py
        have KP10 := KP9.trans K10
        have RES := hid (show FrPost C w m (fd ++ (xs.flatMap ST).map (hdV C.hd)) (.returned (.bool true)) (W10.setCell ⟨C.bb, y, none⟩ (.bool py)) from by
          rw [EC2.out]
          exact ⟨by rw [decide_eq_true HLT.out], vs, _, by rw [List.take_of_length_le (by have := HLT.out; omega)]; exact S10, fun _ => by
            have := V.out.close (by omega) (by omega)
            rw [HPX.out, HPY.out] at this
            exact this, KP10⟩)
        clear g1 fz1 S9 K10 BA9 KP9 HS keepQ S10 KP10
        generalize W10.setCell ⟨C.bb, y, none⟩ (.bool py) = W11 at RES ⊢
        go_wp2
        go_ret
        exact RES.out
end Go.Proofs.YtahclhldpcboeaaGreatDoor
