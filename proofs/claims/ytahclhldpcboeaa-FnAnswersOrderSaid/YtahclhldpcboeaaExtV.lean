/- A found row is laid behind the others of a matcher. -/
import Derived.Test.YtahclhldpcboeaaExtW
import Derived.Deep.RegionHeld3
namespace Go.Proofs.Ytahclhldpcboeaa
open Go Go.RowKit

theorem mst_grown {w w' : World} {g : Nat} {t : TypeId} {cs : Array Value} {r : Option Nat} (h : Blk w g t cs) (hg : w.grownBy w' r) (hn : some g ≠ r) : Blk w' g t cs := (hg.block g h.lt hn).trans h
/-- What the walk reads ahead of the append, and what stands behind it. -/
theorem MSt.add {W0 : World} {C : MC} {mb vb n : Nat} {w : World} {m : List Int} {fd : List (List Int)} (h : MSt W0 C mb vb n w m fd) (hn : 0 < n) :
    ∃ FA fcap vc R, w.cell? ⟨mb, 3, none⟩ = some (.slice FA fd.length fcap) ∧ w.cell? ⟨mb, 2, none⟩ = some (.slice (some ⟨vb, 0, none⟩) n vc) ∧ w.ownsRow W0.heap.size 22 1 (.slice FA fd.length fcap) fd.length R ∧
      (∀ (j : Nat) u, (m.map iv)[j]? = some u → w.cell? ⟨vb, 0 + j, none⟩ = some u) ∧ W0.heap.size ≤ w.heap.size ∧ (m.map iv).length = n ∧
      ∀ v2 w2 v4 w4, Fr w w2 → w2.ownsRow w.heap.size 3 1 v2 n (m.map iv) → w4.ownsRow W0.heap.size 22 1 v4 (fd.length + 1) (R ++ [v2]) → (w2.alloc (.cells #[v2] 22)).grownBy w4 (Value.slice FA fd.length fcap).ownBlock →
        w4.frozen? ⟨mb, 3, none⟩ = false ∧ (∃ u, w4.cell? ⟨mb, 3, none⟩ = some u) ∧ (∃ cs, Blk w4 mb 114 cs) ∧ MSt W0 C mb vb n (w4.setCell ⟨mb, 3, none⟩ v4) m (fd ++ [m]) := by
  obtain ⟨FV, vc, cs, rw_, h1, h2, h3, h4, h5, h6, h7, h8, h9, h10, h11, h12⟩ := h
  obtain ⟨FA, fcap, rfl⟩ := own_form h7
  rw [h8] at h1 h7
  refine ⟨FA, fcap, vc, _, h1.cell 3, h1.cell 2, h7, fun j u hu => ?_, h12.size, by simpa using h4, ?_⟩
  · rw [Nat.zero_add, h2.cell]
    rw [List.getElem?_map] at hu
    cases hj : m[j]? with
    | none => rw [hj] at hu; simp at hu
    | some x =>
      rw [hj] at hu
      obtain ⟨hlt, rfl⟩ := List.getElem?_eq_some_iff.1 hj
      rw [h3 j hlt]
      exact hu
  · intro v2 w2 v4 w4 hf hO2 hO4 hg4
    have F3 : Fr w (w2.alloc (.cells #[v2] 22)) := hf.alloc _
    have h7' := own_fr h7 F3
    have B1 := mst_grown (h1.fr F3) hg4 (mrow_ne h7' (h1.fr F3) (by decide))
    have B2 := mst_grown (h2.fr F3) hg4 (mrow_ne h7' (h2.fr F3) (by decide))
    have FW : Fr W0 w4 := Fr.grown (h12.trans F3) hg4 h7'
    rcases hO2.2 with ⟨_, h0⟩ | ⟨g, cap, cur, rfl, hbg, hh, hnc, hcm, hcs, htake⟩
    · omega
    · have BG : Blk w2 g 3 cur := hh
      have B3 := BG.alloc (.cells #[Value.slice (some ⟨g, 0, none⟩) n cap] 22)
      have B4 := mst_grown B3 hg4 (mrow_ne h7' B3 (by decide))
      have hI : IAt cur m := fun i hi => by
        have := own_cells hO2 i (.int .i64 m[i]) (by rw [List.getElem?_map, List.getElem?_eq_getElem hi]; rfl)
        rwa [BG.cell] at this
      have hmg : mb ≠ g := blk_type B1 B4 (by decide)
      have hmv : mb ≠ vb := blk_type B1 B2 (by decide)
      have hvlt := h2.lt
      refine ⟨B1.frozen 3, B1.cell_some (by simp), ⟨_, B1⟩, ⟨v4, vc, cs, rw_ ++ [(g, cap)], ?_, B2.far (fun e => hmv e.symm) _, h3, h4, h5, h6, ?_, by simp [h8], ?_, h10, h11, FW.setNew h11 _⟩⟩
      · have := B1.set_ 3 v4
        simpa using this
      · have := mrow_set (o := 3) (u := v4) hO4 (mrow_ne hO4 B1 (by decide))
        rw [List.length_append, List.map_append, h8]
        exact this
      · intro i hi hi'
        by_cases e : i < rw_.length
        · rw [List.getElem_append_left e, List.getElem_append_left (by omega)]
          obtain ⟨⟨c, k1, k2⟩, k3, k4, k5⟩ := h9 i e (by omega)
          have K4 := mst_grown (k1.fr F3) hg4 (mrow_ne h7' (k1.fr F3) (by decide))
          exact ⟨⟨c, K4.far (fun e => blk_type B1 K4 (by decide) e.symm) _, k2⟩, k3, k4, k5⟩
        · have ei : i = rw_.length := by simp at hi; omega
          subst ei
          rw [List.getElem_append_right (by omega), List.getElem_append_right (by omega)]
          simp only [h8, Nat.sub_self, List.getElem_cons_zero]
          exact ⟨⟨cur, B4.far (fun e => hmg e.symm) _, hI⟩, by show g ≠ vb; omega, h4, hnc, by show W0.heap.size ≤ g; have := h12.size; omega⟩
set_option maxRecDepth 100000 in
/-- append, as go_region_with meets it where 'Builtin.append_' is taken out of go_sem: the news by their cells. -/
theorem upon_appC {P : Program} {o : Oper} {a : Act} {K : Act → World → Prop} {Q : Exit → Act → World → Prop} {w : World} (t e : TypeId) (z : Value) (size bytes : Nat) (ht : P.underlying t = some (.slice e)) (hinfo : (P.info? e).map (fun i => (i.zero, i.size, i.bytes)) = some (some z, size, bytes))
    (hzs : z.cells.size = size) (hsz : 0 < size) (hby : bytes ≤ 64) (base : Nat) (v : Value) (n : Nat) (xs : List Value) (hown : w.ownsRow base e size v n xs) (hn : n ≤ 10000) (hbase : base ≤ w.heap.size)
    (g m cap : Nat) (news : List Value) (hl : news.length = m * size) (hm2 : m ≤ 10000) (hB : ∀ (j : Nat) u, news[j]? = some u → w.cell? ⟨g, 0 + j, none⟩ = some u) (h1 : news.all (·.oneCell') = true)
    (h : ∀ v' w', w'.ownsRow base e size v' (n + m) (xs ++ news) → w.grownBy w' v.ownBlock → K (a.put o.dst v') w') :
    Oper.upon P o a K Q ((Sem.run P (Builtin.append_ #[t, t] t #[v, .slice (some ⟨g, 0, none⟩) m cap]) w).andThen fun a w' => .ok (.value a) w') := by
  obtain ⟨i, hi, hz, hsi, hb⟩ := info_parts hinfo
  have hmm : (n + m) * bytes ≤ (n + m) * 64 := Nat.mul_le_mul_left _ hby
  obtain ⟨v', w', hr, h2, h3, h4⟩ := app_where (P := P) w base t t e i z size bytes ht hi hz hsi hb hzs hsz v n xs hown ⟨g, 0, none⟩ m cap news hl (cells_add hB) (by simpa [List.all_eq_true] using h1) (by unfold maxLen; omega) (by omega) hbase
  rw [hr]
  exact h v' w' h2 h3
theorem all_iv (m : List Int) : (m.map iv).all (·.oneCell') = true := by
  rw [List.all_eq_true]
  intro x hx
  obtain ⟨y, _, rfl⟩ := List.mem_map.1 hx
  rfl
theorem one_cell {w : World} {t : TypeId} {u : Value} {g : Nat} (h : g = w.heap.size) : ∀ (j : Nat) x, [u][j]? = some x → (w.alloc (.cells #[u] t)).cell? ⟨g, 0 + j, none⟩ = some x := fun j x hx => by
  subst h
  rw [Nat.zero_add, (Blk.new w t #[u]).cell]
  simpa using hx
end Go.Proofs.Ytahclhldpcboeaa
