/- The parts of a conjunction, on the spec's side: conjuncts. -/
import Derived.Test.YtfillcjpdnpaiaaCopyS
import Derived.Deep.RegionHeld3
namespace Go.Proofs.Ytfillcjpdnpaiaa
open Go Go.RowKit

/-- The parts of a conjunction. -/
def cnj : Nat → Ex → List Ex
  | 0, e => [e]
  | n + 1, e => if e.kind = 8 then e.kids.flatMap (cnj n) else [e]
theorem cnj_succ (n : Nat) (e : Ex) : cnj (n + 1) e = if e.kind = 8 then e.kids.flatMap (cnj n) else [e] := rfl
theorem cnj_one {n : Nat} {e : Ex} (h : e.kind ≠ 8) : cnj n e = [e] := by
  cases n with
  | zero => rfl
  | succ n => rw [cnj_succ, if_neg h]
theorem kids8 {wd : Int} {n deep : Nat} {e : Ex} (hv : vE wd n deep e = true) (hk : e.kind = 8) : ∃ a b, e.kids = [a, b] := by
  have h2 : e.kids.length = 2 := by
    have := (vE_head hv).1
    simp only [vHead, Bool.and_eq_true, decide_eq_true_eq] at this
    have h := this.1
    rw [hk] at h
    have h' : (e.kids.length : Int) = 2 := by simpa [nk] using h
    omega
  match hks : e.kids, h2 with
  | [a, b], _ => exact ⟨a, b, rfl⟩
theorem cnj_len {wd : Int} : ∀ {n deep : Nat} {e : Ex}, vE wd n deep e = true → 1 ≤ (cnj n e).length ∧ (cnj n e).length ≤ 2 ^ deep
  | 0, deep, e, _ => by simp only [cnj, List.length_singleton]; have := Nat.two_pow_pos deep; omega
  | n + 1, deep, e, hv => by
    have hp := Nat.two_pow_pos deep
    unfold cnj
    by_cases hk : e.kind = 8
    · rw [if_pos hk]
      obtain ⟨a, b, hks⟩ := kids8 hv hk
      obtain ⟨d, rfl, h0⟩ := vE_down hv (i := 0) (by rw [hks]; simp)
      obtain ⟨d', hd', h1⟩ := vE_down hv (i := 1) (by rw [hks]; simp)
      obtain rfl : d = d' := by omega
      have l0 := cnj_len h0
      have l1 := cnj_len h1
      simp only [hks, List.getElem_cons_zero, List.getElem_cons_succ] at l0 l1
      rw [hks]
      simp only [List.flatMap_cons, List.flatMap_nil, List.append_nil, List.length_append]
      have : 2 ^ (d + 1) = 2 ^ d + 2 ^ d := by rw [Nat.pow_succ]; omega
      omega
    · rw [if_neg hk]; simp only [List.length_singleton]; omega
theorem kids_up {m : Nat} {mem : Mv} {x : Ex × Option Addr × Nat} (h : KidsOk m mem x) : KidsOk (m + 1) mem x :=
  ⟨fun hne => by obtain ⟨b, o, hA, hc⟩ := h.1 hne; exact ⟨b, o, hA, fun i hi => rdEx_up m _ _ _ (hc i hi)⟩, h.2⟩
/-- A row of expressions of one's own: v, laid with all its kids from block lo on. -/
structure RowE (n : Nat) (w : World) (lo : Nat) (v : Value) (q : List (Ex × Option Addr × Nat)) : Prop where
  own : w.ownsRow lo 33 5 v q.length (q.flatMap cellsE)
  kids : ∀ x ∈ q, KidsOk n (offR w lo v) x
theorem RowE.up {n : Nat} {w : World} {lo : Nat} {v : Value} {q : List (Ex × Option Addr × Nat)} (h : RowE n w lo v q) : RowE (n + 1) w lo v q := ⟨h.own, fun x hx => kids_up (h.kids x hx)⟩
theorem RowE.fr {n : Nat} {w w' : World} {lo : Nat} {v : Value} {q : List (Ex × Option Addr × Nat)} (h : RowE n w lo v q) (hf : Fr w w') : RowE n w' lo v q := ⟨own_fr h.own hf, fun x hx => (h.kids x hx).mono (off_fr hf)⟩
theorem RowE.lo {n : Nat} {w : World} {lo lo' : Nat} {v : Value} {q : List (Ex × Option Addr × Nat)} (h : RowE n w lo v q) (hl : lo' ≤ lo) : RowE n w lo' v q := ⟨own_base h.own hl, fun x hx => (h.kids x hx).mono (off_lo hl)⟩
theorem RowE.rd {n : Nat} {w : World} {lo : Nat} {A : Option Addr} {k c : Nat} {q : List (Ex × Option Addr × Nat)} (h : RowE n w lo (.slice A k c) q) : RdSl (rdEx (n + 1)) (fromB w lo) 5 A (q.map (·.1)) := by
  obtain ⟨A', c', hv, _⟩ := own_cap h.own
  have ho := h.own
  cases hv
  exact own_E ho rfl (fun x hx => (h.kids x hx).mono off_le)
/-- Two rows, the second put behind the first. -/
theorem RowE.app {n : Nat} {w1 w2 w3 : World} {lo : Nat} {v1 v2 v3 : Value} {q1 q2 : List (Ex × Option Addr × Nat)} (h1 : RowE n w1 lo v1 q1) (h2 : RowE n w2 w1.heap.size v2 q2) (hlo : lo ≤ w1.heap.size) (hf : Fr w1 w2)
    (ho : w3.ownsRow lo 33 5 v3 (q1.length + q2.length) (q1.flatMap cellsE ++ q2.flatMap cellsE)) (hg : w2.grownBy w3 v1.ownBlock) (hw : Wh w2 v1 v3) : RowE n w3 lo v3 (q1 ++ q2) := by
  refine ⟨by rw [List.length_append, List.flatMap_append]; exact ho, fun x hx => ?_⟩
  rcases List.mem_append.1 hx with hx | hx
  · exact (h1.kids x hx).mono ((off_fr hf).trans (off_grown hg hw))
  · exact (h2.kids x hx).mono ((off_le.trans (off_from hlo (fun k hk => (own_lt h1.own k hk).2))).trans (off_grown hg hw))
/-- A row of one expression, just laid. -/
theorem RowE.one {n : Nat} {w : World} {lo : Nat} {x : Ex × Option Addr × Nat} (h : KidsOk n (fromB w lo) x) (hlo : lo ≤ w.heap.size) : RowE n (w.alloc (.cells #[.int .i64 x.1.kind, .int .i64 x.1.col, .bool x.1.val.null, .int .i64 x.1.val.n, .slice x.2.1 x.1.kids.length x.2.2] 33)) lo (.slice (some ⟨w.heap.size, 0, none⟩) 1 1) [x] := by
  refine ⟨own_lit (xs := [x].flatMap cellsE) hlo (by simp [cellsE]) (by unfold maxLen; omega), fun y hy => ?_⟩
  have hyx : y = x := by simpa using hy
  subst hyx
  refine h.mono fun p u e => ?_
  have hlt : p.block < w.heap.size := cell_lt (fromB_le _ _ _ _ e)
  unfold fromB at e
  unfold offR
  split at e
  · rename_i h'
    rw [if_pos ⟨h', by simp [Value.ownBlock]; omega⟩]
    exact ((Fr.refl w).alloc _).cell e
  · cases e
def SpecConj (n : Nat) : Prop := ∀ (e : Ex) (A : Option Addr) (c : Nat) (wd : Int) (deep : Nat) (w : World), RdSl (rdEx n) w.cell? 5 A e.kids → exSm n e.kids → vE wd n deep e = true → deep ≤ 8 →
    Calls Try.prog 44 #[.agg #[.int .i64 e.kind, .int .i64 e.col, .bool e.val.null, .int .i64 e.val.n, .slice A e.kids.length c]] w fun r w' => ∃ v q, r = .returned v ∧ RowE n w' w.heap.size v q ∧ q.map (·.1) = cnj n e ∧ Fr w w'
attribute [-go_sem] Builtin.append_
set_option maxRecDepth 100000 in
set_option maxHeartbeats 2000000 in
theorem specConj (n : Nat) : SpecConj n := by
  induction n using Nat.strongRecOn with
  | _ n ih =>
    intro e A c wd deep w hx hsm hv hd
    have HX := hid hx
    have IH := hid ih
    have SM := hid hsm
    have HV := hid hv
    have F1 : Fr w (w.alloc (.cells #[.int .i64 e.kind, .int .i64 e.col, .bool e.val.null, .int .i64 e.val.n, .slice A e.kids.length c] 33)) := (Fr.refl _).alloc _
    have BA := (Blk.new w 33 #[.int .i64 e.kind, .int .i64 e.col, .bool e.val.null, .int .i64 e.val.n, .slice A e.kids.length c])
    clear hx ih hsm hv
    by_cases hk : e.kind = 8
    · have e1 : (e.kind != 8) = false := by simp [hk]
      have h2 := (kids8 HV.out hk)
      have HK := hid hk
      clear hk
      cases n with
      | zero =>
        exfalso
        obtain ⟨a, b, h2⟩ := h2
        rw [HX.out.ex0] at h2; cases h2
      | succ n =>
        have hl2 : e.kids.length = 2 := by obtain ⟨a, b, h2⟩ := h2; rw [h2]; rfl
        have R := hid (show cnj (n + 1) e = cnj n e.kids[0] ++ cnj n e.kids[1] by
          obtain ⟨a, b, h2⟩ := h2
          rw [cnj_succ, if_pos HK.out]
          simp [h2])
        clear h2
        obtain ⟨kb, ko, K0, kc0, hA, d0, d1, d2, d3, d4, rK0, _⟩ := HX.out.ex (k := 0) (by omega)
        subst hA
        obtain ⟨kb', ko', K1, kc1, hA, g0, g1, g2, g3, g4, rK1, _⟩ := HX.out.ex (k := 1) (by omega)
        cases hA
        obtain ⟨dd, rfl, hv0⟩ := vE_down HV.out (i := 0) (by omega)
        obtain ⟨dd', hdd, hv1⟩ := vE_down HV.out (i := 1) (by omega)
        obtain rfl : dd = dd' := by omega
        clear hdd
        have L0 := cnj_len hv0
        have L1 := cnj_len hv1
        have hp : 2 ^ dd ≤ 2 ^ 8 := Nat.pow_le_pow_right (by omega) (by omega)
        obtain ⟨x0, ex0⟩ : ∃ x, e.kids[0] = x := ⟨_, rfl⟩
        obtain ⟨x1, ex1⟩ : ∃ x, e.kids[1] = x := ⟨_, rfl⟩
        have S0 := SM.out.2 0 (by omega)
        have S1 := SM.out.2 1 (by omega)
        simp only [ex0, ex1, Nat.zero_mul, Nat.add_zero, Nat.one_mul] at d0 d1 d2 d3 d4 g0 g1 g2 g3 g4 rK0 rK1 hv0 hv1 L0 L1 S0 S1
        rw [ex0, ex1] at R
        have C0 : ∀ W : World, Fr w W → Calls Try.prog 44 #[.agg #[.int .i64 x0.kind, .int .i64 x0.col, .bool x0.val.null, .int .i64 x0.val.n, .slice K0 x0.kids.length kc0]] W fun r w' => ∃ v q, r = .returned v ∧ RowE n w' W.heap.size v q ∧ q.map (·.1) = cnj n x0 ∧ Fr W w' := fun W hW => IH.out n (by omega) x0 K0 kc0 wd dd W (rK0.fr (rdEx_mono n) hW) S0 hv0 (by omega)
        have C1 : ∀ W : World, Fr w W → Calls Try.prog 44 #[.agg #[.int .i64 x1.kind, .int .i64 x1.col, .bool x1.val.null, .int .i64 x1.val.n, .slice K1 x1.kids.length kc1]] W fun r w' => ∃ v q, r = .returned v ∧ RowE n w' W.heap.size v q ∧ q.map (·.1) = cnj n x1 ∧ Fr W w' := fun W hW => IH.out n (by omega) x1 K1 kc1 wd dd W (rK1.fr (rdEx_mono n) hW) S1 hv1 (by omega)
        replace C0 := hid C0
        replace C1 := hid C1
        clear rK0 rK1 S0 S1 hv0 hv1 ex0 ex1 IH HX SM HV HK
        have hl2' := hid hl2
        obtain ⟨N, hN⟩ : ∃ N, e.kids.length = N := ⟨_, rfl⟩
        rw [hN] at BA F1 hl2
        subst hl2
        rw [hN] at *
        replace d0 := F1.cell d0
        replace d1 := F1.cell d1
        replace d2 := F1.cell d2
        replace d3 := F1.cell d3
        replace d4 := F1.cell d4
        replace g0 := F1.cell g0
        replace g1 := F1.cell g1
        replace g2 := F1.cell g2
        replace g3 := F1.cell g3
        replace g4 := F1.cell g4
        obtain ⟨a0, a1, a2, a3, a4, _⟩ := BA.five
        go_enter Try.func44, Try.ntmps44
        go_wp2_with fail
        generalize hRA : w.alloc (.cells #[.int .i64 e.kind, .int .i64 e.col, .bool e.val.null, .int .i64 e.val.n, .slice (some ⟨kb, ko, none⟩) 2 c] 33) = RA at F1 a0 a1 a2 a3 a4 d0 d1 d2 d3 d4 g0 g1 g2 g3 g4 ⊢
        clear hRA BA
        have hs1 := F1.size
        have keepL : ∀ W' : World, Fr RA W' → (Fr RA W' ∧ W'.cell? ⟨w.heap.size, 4, none⟩ = some (.slice (some ⟨kb, ko, none⟩) 2 c) ∧ W'.cell? ⟨kb, ko, none⟩ = some (.int .i64 x0.kind) ∧ W'.cell? ⟨kb, ko + 1, none⟩ = some (.int .i64 x0.col) ∧ W'.cell? ⟨kb, ko + 2, none⟩ = some (.bool x0.val.null) ∧ W'.cell? ⟨kb, ko + 3, none⟩ = some (.int .i64 x0.val.n) ∧ W'.cell? ⟨kb, ko + 4, none⟩ = some (.slice K0 x0.kids.length kc0) ∧ W'.cell? ⟨kb, ko + 5, none⟩ = some (.int .i64 x1.kind) ∧ W'.cell? ⟨kb, ko + 5 + 1, none⟩ = some (.int .i64 x1.col) ∧ W'.cell? ⟨kb, ko + 5 + 2, none⟩ = some (.bool x1.val.null) ∧ W'.cell? ⟨kb, ko + 5 + 3, none⟩ = some (.int .i64 x1.val.n) ∧ W'.cell? ⟨kb, ko + 5 + 4, none⟩ = some (.slice K1 x1.kids.length kc1)) := fun W' F => ⟨F, F.cell a4, F.cell d0, F.cell d1, F.cell d2, F.cell d3, F.cell d4, F.cell g0, F.cell g1, F.cell g2, F.cell g3, F.cell g4⟩
        go_region_held3 (fun W' => Fr RA W' ∧ W'.cell? ⟨w.heap.size, 4, none⟩ = some (.slice (some ⟨kb, ko, none⟩) 2 c) ∧ W'.cell? ⟨kb, ko, none⟩ = some (.int .i64 x0.kind) ∧ W'.cell? ⟨kb, ko + 1, none⟩ = some (.int .i64 x0.col) ∧ W'.cell? ⟨kb, ko + 2, none⟩ = some (.bool x0.val.null) ∧ W'.cell? ⟨kb, ko + 3, none⟩ = some (.int .i64 x0.val.n) ∧ W'.cell? ⟨kb, ko + 4, none⟩ = some (.slice K0 x0.kids.length kc0) ∧ W'.cell? ⟨kb, ko + 5, none⟩ = some (.int .i64 x1.kind) ∧ W'.cell? ⟨kb, ko + 5 + 1, none⟩ = some (.int .i64 x1.col) ∧ W'.cell? ⟨kb, ko + 5 + 2, none⟩ = some (.bool x1.val.null) ∧ W'.cell? ⟨kb, ko + 5 + 3, none⟩ = some (.int .i64 x1.val.n) ∧ W'.cell? ⟨kb, ko + 5 + 4, none⟩ = some (.slice K1 x1.kids.length kc1)) ((refine keepL _ ?_; (repeat (first | with_reducible exact Fr.refl _ | with_reducible assumption | with_reducible refine Fr.alloc ?_ _ | with_reducible refine Fr.drew ?_ | with_reducible refine Fr.drewN ?_ _ | (with_reducible refine Fr.setNew2 ?_ ?_ _; · (simp <;> omega)) | with_reducible refine Fr.trans ?_ (by assumption))); done))
          (first
            | (go_at_call 44; with_reducible refine (C0.out _ ?_).mono ?_; (· exact F1.trans (by (repeat (first | with_reducible exact Fr.refl _ | with_reducible assumption | with_reducible refine Fr.alloc ?_ _ | with_reducible refine Fr.drew ?_ | with_reducible refine Fr.drewN ?_ _ | (with_reducible refine Fr.setNew2 ?_ ?_ _; · (simp <;> omega)) | with_reducible refine Fr.trans ?_ (by assumption))))); rintro r wa ⟨v1, q1, rfl, hR1, hq1, bwa⟩; have Fwa : Fr RA wa := Fr.trans (by (repeat (first | with_reducible exact Fr.refl _ | with_reducible assumption | with_reducible refine Fr.alloc ?_ _ | with_reducible refine Fr.drew ?_ | with_reducible refine Fr.drewN ?_ _ | (with_reducible refine Fr.setNew2 ?_ ?_ _; · (simp <;> omega)) | with_reducible refine Fr.trans ?_ (by assumption)))) bwa; have hswa := Fwa.size; have hR1' := hR1.lo (lo' := w.heap.size) (Nat.le_trans hs1 (Fr.refl RA).drew.size); have n1 : 1 ≤ (q1.map (·.1)).length ∧ (q1.map (·.1)).length ≤ 2 ^ dd := (by rw [hq1]; exact L0); rw [List.length_map] at n1)
            | (go_at_call 44; with_reducible refine (C1.out _ ?_).mono ?_; (· exact F1.trans (by (repeat (first | with_reducible exact Fr.refl _ | with_reducible assumption | with_reducible refine Fr.alloc ?_ _ | with_reducible refine Fr.drew ?_ | with_reducible refine Fr.drewN ?_ _ | (with_reducible refine Fr.setNew2 ?_ ?_ _; · (simp <;> omega)) | with_reducible refine Fr.trans ?_ (by assumption))))); rintro r wb ⟨v2, q2, rfl, hR2, hq2, bwb⟩; have Fwb : Fr RA wb := Fr.trans (by (repeat (first | with_reducible exact Fr.refl _ | with_reducible assumption | with_reducible refine Fr.alloc ?_ _ | with_reducible refine Fr.drew ?_ | with_reducible refine Fr.drewN ?_ _ | (with_reducible refine Fr.setNew2 ?_ ?_ _; · (simp <;> omega)) | with_reducible refine Fr.trans ?_ (by assumption)))) bwb; have hswb := Fwb.size; have Gwb : Fr wa wb := bwb; have n2 : 1 ≤ (q2.map (·.1)).length ∧ (q2.map (·.1)).length ≤ 2 ^ dd := (by rw [hq2]; exact L1); rw [List.length_map] at n2; obtain ⟨gq, cq, _, rfl, _⟩ := own_form2 hR2.own (by omega))
            | (refine upon_appW w.heap.size v1 q1.length (q1.flatMap cellsE) ?own ?n1 ?base gq q2.length cq q2 rfl ?n2 ?hB ?_; (case own => exact own_fr hR1'.own Gwb); (case n1 => omega); (case base => omega); (case n2 => omega); (case hB => exact fun j u hu => by rw [Nat.zero_add]; exact own_cells hR2.own j u hu); intro v3 w3 hO3 hg3 hw3; have hRR := RowE.app hR1' hR2 (by omega) Gwb hO3 hg3 hw3; have F3' : Fr RA w3 := Below.grown Fwb hg3 Fwb.size (fun k hk => Nat.le_trans (Fr.refl RA).drew.size (own_lt hR1.own k hk).1); have F3 : Fr w w3 := Below.grown ((F1.trans Fwb)) hg3 (F1.trans Fwb).size (fun k hk => (own_lt hR1'.own k hk).1))
            | fail)
        all_goals have HRR := hid hRR.up
        all_goals clear hRR hR1 hR1' hR2 keepL hO3
        all_goals go_wp2
        all_goals go_ret
        all_goals exact ⟨_, q1 ++ q2, rfl, HRR.out, by rw [List.map_append, hq1, hq2]; exact R.out.symm, F3⟩
    · have e1 : (e.kind != 8) = true := by simp [hk]
      have R := hid (show cnj n e = [e] from cnj_one hk)
      clear hk
      have F2 := HX.out.fr (rdEx_mono n) F1
      obtain ⟨a0, a1, a2, a3, a4, _⟩ := BA.five
      go_enter Try.func44, Try.ntmps44
      go_wp2_with fail
      refine (specCopy n e A c _ F2 SM.out).mono ?_
      rintro r w2 ⟨A', c', rfl, hK, b2⟩
      have HK := hid hK
      clear hK
      go_wp2
      go_ret
      have hs := F1.size
      have hs2 := b2.size
      exact ⟨_, [(e, A', c')], rfl, RowE.one (x := (e, A', c')) (HK.out.mono (fromB_lo hs)) (by omega), by rw [R.out]; rfl, by (repeat (first | with_reducible exact Fr.refl _ | with_reducible assumption | with_reducible refine Fr.alloc ?_ _ | with_reducible refine Fr.drew ?_ | with_reducible refine Fr.drewN ?_ _ | (with_reducible refine Fr.setNew2 ?_ ?_ _; · (simp <;> omega)) | with_reducible refine Fr.trans ?_ (by assumption)))⟩
end Go.Proofs.Ytfillcjpdnpaiaa
