/- A found row is laid behind the others of a matcher. -/
import Derived.Test.YtahclhldpcboeaaGreatDoorExtW
import Derived.Deep.RegionHeld3
namespace Go.Proofs.YtahclhldpcboeaaGreatDoor
open Go Go.RowKit

theorem mst_grown {w w' : World} {g : Nat} {t : TypeId} {cs : Array Value} {r : Option Nat} (h : Blk w g t cs) (hg : w.grownBy w' r) (hn : some g ≠ r) : Blk w' g t cs := (hg.block g h.lt hn).trans h
/-- What the walk reads ahead of the append, and what stands behind it. -/
theorem MSt.add {W0 : World} {C : MC} {mb vb n : Nat} {w : World} {m : List Int} {fd : List (List Int)} (h : MSt W0 C mb vb n w m fd) (hn : 0 < n) :
    ∃ FA fcap vc R, w.cell? ⟨mb, 3, none⟩ = some (.slice FA fd.length fcap) ∧ w.cell? ⟨mb, 2, none⟩ = some (.slice (some ⟨vb, 0, none⟩) n vc) ∧ w.ownsRow W0.heap.size 23 1 (.slice FA fd.length fcap) fd.length R ∧
      (∀ (j : Nat) u, (m.map iv)[j]? = some u → w.cell? ⟨vb, 0 + j, none⟩ = some u) ∧ W0.heap.size ≤ w.heap.size ∧ (m.map iv).length = n ∧
      ∀ v2 w2 v4 w4, Fr w w2 → w2.ownsRow w.heap.size 3 1 v2 n (m.map iv) → w4.ownsRow W0.heap.size 23 1 v4 (fd.length + 1) (R ++ [v2]) → (w2.alloc (.cells #[v2] 23)).grownBy w4 (Value.slice FA fd.length fcap).ownBlock →
        w4.frozen? ⟨mb, 3, none⟩ = false ∧ (∃ u, w4.cell? ⟨mb, 3, none⟩ = some u) ∧ (∃ cs, Blk w4 mb 83 cs) ∧ MSt W0 C mb vb n (w4.setCell ⟨mb, 3, none⟩ v4) m (fd ++ [m]) := by
  obtain ⟨FV, vc, cs, rw_, h1, h2, h3, h4, h5, h6, h7, h8, h9, h10, h11, h12⟩ := h
  obtain ⟨FA, fcap, rfl⟩ := own_form h7
  rw [h8] at h1 h7
  refine ⟨FA, fcap, vc, _, h1.cell 3, h1.cell 2, h7, fun j u hu => ?_, h12.size, by simpa using h4, ?_⟩
  · rw [Nat.zero_add, h2.cell]
    rw [List.getElem?_map] at hu
    cases hj : m[j]? with
    | none => rw [hj] at hu; simp at hu
    | some x =>
      rw [hj] at hu
      obtain ⟨hlt, rfl⟩ := List.getElem?_eq_some_iff.1 hj
      rw [h3 j hlt]
      exact hu
  · intro v2 w2 v4 w4 hf hO2 hO4 hg4
    have F3 : Fr w (w2.alloc (.cells #[v2] 23)) := hf.alloc _
    have h7' := own_fr h7 F3
    have B1 := mst_grown (h1.fr F3) hg4 (mrow_ne h7' (h1.fr F3) (by decide))
    have B2 := mst_grown (h2.fr F3) hg4 (mrow_ne h7' (h2.fr F3) (by decide))
    have FW : Fr W0 w4 := Fr.grown (h12.trans F3) hg4 h7'
    rcases hO2.2 with ⟨_, h0⟩ | ⟨g, cap, cur, rfl, hbg, hh, hnc, hcm, hcs, htake⟩
    · omega
    · have BG : Blk w2 g 3 cur := hh
      have B3 := BG.alloc (.cells #[Value.slice (some ⟨g, 0, none⟩) n cap] 23)
      have B4 := mst_grown B3 hg4 (mrow_ne h7' B3 (by decide))
      have hI : IAt cur m := fun i hi => by
        have := own_cells hO2 i (.int .i64 m[i]) (by rw [List.getElem?_map, List.getElem?_eq_getElem hi]; rfl)
        rwa [BG.cell] at this
      have hmg : mb ≠ g := blk_type B1 B4 (by decide)
      have hmv : mb ≠ vb := blk_type B1 B2 (by decide)
      have hvlt := h2.lt
      refine ⟨B1.frozen 3, B1.cell_some (by simp), ⟨_, B1⟩, ⟨v4, vc, cs, rw_ ++ [(g, cap)], ?_, B2.far (fun e => hmv e.symm) _, h3, h4, h5, h6, ?_, by simp [h8], ?_, h10, h11, FW.setNew h11 _⟩⟩
      · have := B1.set_ 3 v4
        simpa using this
      · have := mrow_set (o := 3) (u := v4) hO4 (mrow_ne hO4 B1 (by decide))
        rw [List.length_append, List.map_append, h8]
        exact this
      · intro i hi hi'
        by_cases e : i < rw_.length
        · rw [List.getElem_append_left e, List.getElem_append_left (by omega)]
          obtain ⟨⟨c, k1, k2⟩, k3, k4, k5⟩ := h9 i e (by omega)
          have K4 := mst_grown (k1.fr F3) hg4 (mrow_ne h7' (k1.fr F3) (by decide))
          exact ⟨⟨c, K4.far (fun e => blk_type B1 K4 (by decide) e.symm) _, k2⟩, k3, k4, k5⟩
        · have ei : i = rw_.length := by simp at hi; omega
          subst ei
          rw [List.getElem_append_right (by omega), List.getElem_append_right (by omega)]
          simp only [h8, Nat.sub_self, List.getElem_cons_zero]
          exact ⟨⟨cur, B4.far (fun e => hmg e.symm) _, hI⟩, by show g ≠ vb; omega, h4, hnc, by show W0.heap.size ≤ g; have := h12.size; omega⟩
set_option maxRecDepth 100000 in
/-- append, as go_region_with meets it where 'Builtin.append_' is taken out of go_sem: the news by their cells. -/
theorem upon_appC {P : Program} {o : Oper} {a : Act} {K : Act → World → Prop} {Q : Exit → Act → World → Prop} {w : World} (t e : TypeId) (z : Value) (size bytes : Nat) (ht : P.underlying t = some (.slice e)) (hinfo : (P.info? e).map (fun i => (i.zero, i.size, i.bytes)) = some (some z, size, bytes))
    (hzs : z.cells.size = size) (hsz : 0 < size) (hby : bytes ≤ 64) (base : Nat) (v : Value) (n : Nat) (xs : List Value) (hown : w.ownsRow base e size v n xs) (hn : n ≤ 10000) (hbase : base ≤ w.heap.size)
    (g m cap : Nat) (news : List Value) (hl : news.length = m * size) (hm2 : m ≤ 10000) (hB : ∀ (j : Nat) u, news[j]? = some u → w.cell? ⟨g, 0 + j, none⟩ = some u) (h1 : news.all (·.oneCell') = true)
    (h : ∀ v' w', w'.ownsRow base e size v' (n + m) (xs ++ news) → w.grownBy w' v.ownBlock → K (a.put o.dst v') w') :
    Oper.upon P o a K Q ((Sem.run P (Builtin.append_ #[t, t] t #[v, .slice (some ⟨g, 0, none⟩) m cap]) w).andThen fun a w' => .ok (.value a) w') := by
  obtain ⟨i, hi, hz, hsi, hb⟩ := info_parts hinfo
  have hmm : (n + m) * bytes ≤ (n + m) * 64 := Nat.mul_le_mul_left _ hby
  obtain ⟨v', w', hr, h2, h3, h4⟩ := app_where (P := P) w base t t e i z size bytes ht hi hz hsi hb hzs hsz v n xs hown ⟨g, 0, none⟩ m cap news hl (cells_add hB) (by simpa [List.all_eq_true] using h1) (by unfold maxLen; omega) (by omega) hbase
  rw [hr]
  exact h v' w' h2 h3
theorem all_iv (m : List Int) : (m.map iv).all (·.oneCell') = true := by
  rw [List.all_eq_true]
  intro x hx
  obtain ⟨y, _, rfl⟩ := List.mem_map.1 hx
  rfl
theorem one_cell {w : World} {t : TypeId} {u : Value} {g : Nat} (h : g = w.heap.size) : ∀ (j : Nat) x, [u][j]? = some x → (w.alloc (.cells #[u] t)).cell? ⟨g, 0 + j, none⟩ = some x := fun j x hx => by
  subst h
  rw [Nat.zero_add, (Blk.new w t #[u]).cell]
  simpa using hx
/- Walks of extend: the end of a body. -/

/-- What a call of extend leaves of the callers' own. -/
def Kp (w w' : World) : Prop := w.heap.size ≤ w'.heap.size ∧ ∀ g cs, (Blk w g 63 cs → Blk w' g 63 cs) ∧ (Blk w g 54 cs → Blk w' g 54 cs)
theorem Kp.refl (w : World) : Kp w w := ⟨Nat.le_refl _, fun _ _ => ⟨id, id⟩⟩
theorem Kp.trans {w w' w'' : World} (h : Kp w w') (k : Kp w' w'') : Kp w w'' := ⟨Nat.le_trans h.1 k.1, fun g cs => ⟨fun x => (k.2 g cs).1 ((h.2 g cs).1 x), fun x => (k.2 g cs).2 ((h.2 g cs).2 x)⟩⟩
theorem Kp.fr {w w' : World} (h : Fr w w') : Kp w w' := ⟨h.size, fun _ _ => ⟨fun x => x.fr h, fun x => x.fr h⟩⟩
theorem Kp.set {w : World} {g o : Nat} {t : TypeId} {cs : Array Value} {u : Value} (h : Blk w g t cs) (h1 : t ≠ 63) (h2 : t ≠ 54) : Kp w (w.setCell ⟨g, o, none⟩ u) :=
  ⟨by simp, fun g' cs' => ⟨fun x => x.far (blk_type x h (Ne.symm h1)) u, fun x => x.far (blk_type x h (Ne.symm h2)) u⟩⟩
theorem Kp.grown {w w' : World} {base n : Nat} {v : Value} {xs : List Value} (hg : w.grownBy w' v.ownBlock) (ho : w.ownsRow base 23 1 v n xs) : Kp w w' :=
  ⟨hg.size, fun g' cs' => ⟨fun x => mst_grown x hg (mrow_ne ho x (by decide)), fun x => mst_grown x hg (mrow_ne ho x (by decide))⟩⟩
attribute [-go_sem] Builtin.append_
set_option maxRecDepth 100000 in
set_option maxHeartbeats 2000000 in
theorem extendEnd {W0 : World} {C : MC} {mb vb n : Nat} {w : World} {m : List Int} {fd : List (List Int)} (h : MSt W0 C mb vb n w m fd) (mo : Nat) (hC : C.most = mo) (hmo : mo ≤ 5000) (hn : 0 < n) (hn2 : n ≤ 5000) (hf : fd.length < mo) :
    Calls Tryz.prog 58 #[.pointer (some ⟨mb, 0, none⟩), .int .i64 C.bl] w fun r w' => r = .returned (.tuple #[]) ∧ MSt W0 C mb vb n w' m (fd ++ [m]) ∧ Kp w w' := by
  have c0 : w.cell? ⟨mb, 0, none⟩ = some (.slice C.B C.bl C.bc) := by obtain ⟨_, _, _, c0, _⟩ := h.cells; exact c0
  have c4 : w.cell? ⟨mb, 4, none⟩ = some (.int .i64 C.most) := by obtain ⟨_, _, _, _, _, _, _, c4, _⟩ := h.cells; exact c4
  have hmb : mb < w.heap.size := by obtain ⟨_, _, _, _, _, _, _, _, _, _, hm, _⟩ := h.cells; exact hm
  obtain ⟨FA, fcap, vc, R, c3, c2, hO, hV, hs0, hml, ADD⟩ := h.add hn
  rw [hC] at c4
  have hne : ((fd.length : Int) == (mo : Int)) = false := by simp; omega
  have HO := hid hO
  have HA := hid ADD
  have HV := hid hV
  have HH := hid h
  clear h ADD hO hV
  go_enter Tryz.func58, Tryz.ntmps58
  go_wp2_with fail
  go_quiet (fail)
  go_wp2_with fail
  have k2 : ((w.drewN (nq + 1)).alloc (.cells #[] 3)).cell? ⟨mb, 2, none⟩ = some (.slice (some ⟨vb, 0, none⟩) n vc) := (show Fr w _ by (repeat (first | with_reducible exact Fr.refl _ | with_reducible assumption | with_reducible refine Fr.alloc ?_ _ | with_reducible refine Fr.drew ?_ | with_reducible refine Fr.drewN ?_ _ | (with_reducible refine Fr.setNew2 ?_ ?_ _; · (simp <;> omega)) | with_reducible refine Fr.trans ?_ (by assumption)))).cell c2
  have k3 : ((w.drewN (nq + 1)).alloc (.cells #[] 3)).cell? ⟨mb, 3, none⟩ = some (.slice FA fd.length fcap) := (show Fr w _ by (repeat (first | with_reducible exact Fr.refl _ | with_reducible assumption | with_reducible refine Fr.alloc ?_ _ | with_reducible refine Fr.drew ?_ | with_reducible refine Fr.drewN ?_ _ | (with_reducible refine Fr.setNew2 ?_ ?_ _; · (simp <;> omega)) | with_reducible refine Fr.trans ?_ (by assumption)))).cell c3
  have OL : ((w.drewN (nq + 1)).alloc (.cells #[] 3)).ownsRow w.heap.size 3 1 (.slice (some ⟨w.heap.size, 0, none⟩) 0 0) 0 [] := own_lit (w := w.drewN (nq + 1)) (n := 0) (xs := []) (sz := 1) (by simp) rfl (by decide)
  have F1 : Fr w ((w.drewN (nq + 1)).alloc (.cells #[] 3)) := by (repeat (first | with_reducible exact Fr.refl _ | with_reducible assumption | with_reducible refine Fr.alloc ?_ _ | with_reducible refine Fr.drew ?_ | with_reducible refine Fr.drewN ?_ _ | (with_reducible refine Fr.setNew2 ?_ ?_ _; · (simp <;> omega)) | with_reducible refine Fr.trans ?_ (by assumption)))
  have ARM : ∀ (o : Oper) (a : Act) (K : Act → World → Prop) (Q : Exit → Act → World → Prop), (∀ v' w', w'.ownsRow w.heap.size 3 1 v' n (m.map iv) → Fr w w' → K (a.put o.dst v') w') →
      Oper.upon Tryz.prog o a K Q ((Sem.run Tryz.prog (Builtin.append_ #[23, 23] 23 #[.slice (some ⟨w.heap.size, 0, none⟩) 0 0, .slice (some ⟨vb, 0, none⟩) n vc]) ((w.drewN (nq + 1)).alloc (.cells #[] 3))).andThen fun a w' => .ok (.value a) w') := by
    intro o a K Q H
    refine upon_appC 23 3 (.int .i64 0) 1 8 Tryz.underlying23 (by kernel_rfl) rfl (by decide) (by decide) w.heap.size _ 0 [] OL (by omega) F1.size vb n vc (m.map iv) (by rw [hml, Nat.mul_one]) (by omega) (fun j u hu => F1.cell (HV.out j u hu)) (all_iv m) ?_
    intro v2 w2 hO2 hg2
    rw [Nat.zero_add, List.nil_append] at hO2
    exact H v2 w2 hO2 (Fr.grown F1 hg2 OL)
  have HARM := hid ARM
  clear ARM
  go_region_with (first
    | (refine HARM.out _ _ _ _ ?_; intro v2 w2 hO2 F2; obtain ⟨A2, cap2, rfl⟩ := own_form hO2; have d3 := F2.cell c3; have d2 := F2.cell c2; have j3 : (w2.alloc (.cells #[.slice A2 n cap2] 23)).cell? ⟨mb, 3, none⟩ = some (.slice FA fd.length fcap) := (F2.alloc _).cell c3)
    | (refine upon_appC 32 23 (.slice none 0 0) 1 24 Tryz.underlying32 (by kernel_rfl) rfl (by decide) (by decide) W0.heap.size (.slice FA fd.length fcap) fd.length R (own_fr HO.out (F2.alloc (.cells #[.slice A2 n cap2] 23))) (by omega) (Nat.le_trans hs0 (F2.alloc (.cells #[.slice A2 n cap2] 23)).size) w2.heap.size 1 1 [.slice A2 n cap2] rfl (by omega) (one_cell rfl) rfl ?_; intro v4 w4 hO4 hg4; obtain ⟨A4, cap4, rfl⟩ := own_form hO4; obtain ⟨e3, ⟨u3, e4⟩, ⟨ecs, EB⟩, FIN⟩ := HA.out _ _ _ _ F2 hO2 hO4 hg4; have KP := ((Kp.fr (F2.alloc (.cells #[.slice A2 n cap2] 23))).trans (Kp.grown hg4 (own_fr HO.out (F2.alloc (.cells #[.slice A2 n cap2] 23))))); clear hO4)
    | fail)
  all_goals have KP' := KP.trans (Kp.set (o := 3) (u := .slice A4 (fd.length + 1) cap4) EB (by decide) (by decide))
  all_goals have RES := hid (And.intro FIN KP')
  all_goals clear KP KP' EB FIN
  all_goals go_wp2
  all_goals (refine bodyPost_ret (results_none rfl _ _ _) rfl ?_)
  all_goals exact ⟨rfl, RES.out⟩
end Go.Proofs.YtahclhldpcboeaaGreatDoor
