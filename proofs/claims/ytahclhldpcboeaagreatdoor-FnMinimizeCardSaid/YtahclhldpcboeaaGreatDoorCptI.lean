/- Walk of slices.Compact at facts. -/
import Derived.Test.YtahclhldpcboeaaGreatDoorSrtI
namespace Go.Proofs.YtahclhldpcboeaaGreatDoor
open Go Go.RowKit

theorem f3 (a b : Fact) : (a = b ∧ (a.rel == b.rel) = true ∧ (a.x == b.x) = true ∧ (a.y == b.y) = true) ∨ (a ≠ b ∧ ∃ e1 e2 e3, (a.rel == b.rel) = e1 ∧ (a.x == b.x) = e2 ∧ (a.y == b.y) = e3 ∧ (e1 = false ∨ e1 = true ∧ e2 = false ∨ e1 = true ∧ e2 = true ∧ e3 = false)) := by
  by_cases h : a = b
  · subst h; exact .inl ⟨rfl, by simp, by simp, by simp⟩
  · refine .inr ⟨h, _, _, _, rfl, rfl, rfl, ?_⟩
    rcases a with ⟨r, x, y⟩
    rcases b with ⟨r', x', y'⟩
    simp only [Fact.mk.injEq, not_and] at h
    by_cases q1 : r = r'
    · by_cases q2 : x = x'
      · exact .inr (.inr ⟨by simp [q1], by simp [q2], by simpa using h q1 q2⟩)
      · exact .inr (.inl ⟨by simp [q1], by simpa using q2⟩)
    · exact .inl (by simpa using q1)
theorem blk_setCells {t : TypeId} {b : Nat} : ∀ (vs : List Value) (o : Nat) (w : World) (cs : Array Value), Blk w b t cs → ∃ cs', Blk (w.setCells b o vs) b t cs' ∧ cs'.size = cs.size ∧ (∀ i, i < o → cs'[i]? = cs[i]?) ∧ Ch (· = b) w (w.setCells b o vs)
  | [], _, _, cs, h => ⟨cs, h, rfl, fun _ _ => rfl, Ch.refl _⟩
  | v :: r, o, w, cs, h => by
    obtain ⟨cs', h1, h2, h3, h4⟩ := blk_setCells r (o + 1) _ _ (h.set_ o v)
    refine ⟨cs', h1, by rw [h2]; simp, fun i hi => ?_, (Ch.set (S := (· = b)) (Ch.refl w) (p := ⟨b, o, none⟩) (.inl rfl) v).trans h4⟩
    rw [h3 i (by omega), Array.getElem?_setIfInBounds, if_neg (by omega)]
theorem run_clear3 {P : Program} (w : World) (t e : TypeId) (z : Value) (ht : P.underlying t = some (.slice e)) (hv : ∀ w, (zeroValue e).run P w = .ok z w) (hz : z.cells.size = 3) (h1 : ∀ v ∈ z.cells.toList, v.oneCell' = true) (b o n c : Nat) (hn : 0 < n) {t' : TypeId} {cs : Array Value} (hB : Blk w b t' cs) (hs : o + n * 3 ≤ cs.size) :
    ∃ w' cs', (∀ ty, (Builtin.clear_ #[t] ty #[.slice (some ⟨b, o, none⟩) n c]).run P w = .ok (.tuple #[]) w') ∧ Blk w' b t' cs' ∧ cs'.size = cs.size ∧ (∀ i, i < o → cs'[i]? = cs[i]?) ∧ Ch (· = b) w w' := by
  obtain ⟨cs', k1, k2, k3, k4⟩ := blk_setCells (Builtin.zeroCells z.cells n).toList o w cs hB
  have hl : (Builtin.zeroCells z.cells n).toList.length = n * 3 := by simp [Builtin.zeroCells, hz]
  refine ⟨_, cs', fun ty => ?_, k1, k2, k3, k4⟩
  have hst := run_storeCells_cells (P := P) b o (Builtin.zeroCells z.cells n).toList 0 w (fun j hj => by
      rw [hl] at hj
      rw [Nat.add_zero, hB.cell, Array.getElem?_eq_getElem (by omega)]; rfl) (fun j _ => hB.frozen _) (fun v hv' => by
      simp only [Builtin.zeroCells, Array.toList_map, List.mem_map, Array.toList_range, List.mem_range] at hv'
      obtain ⟨i, _, rfl⟩ := hv'
      refine h1 _ ?_
      have hlt : i % z.cells.size < z.cells.size := Nat.mod_lt _ (by omega)
      rw [getElem!_pos z.cells _ hlt]
      simp)
  simp only [Nat.add_zero] at hst
  obtain ⟨m, rfl⟩ : ∃ m, n = m + 1 := ⟨n - 1, by omega⟩
  simp [Builtin.clear_, run_underlying ht, hv, hst]
theorem fat_snoc {cs : Array Value} {ds : List Fact} {k : Nat} {a : Fact} (h : FAt cs ds) (hk : ds.length = k) (hs : k * 3 + 2 < cs.size) : FAt (put3 cs k a) (ds ++ [a]) := fun i hi => by
  simp only [List.length_append, List.length_cons, List.length_nil] at hi
  by_cases e : i = k
  · subst e
    rw [List.getElem_append_right (by omega)]
    simp only [hk, Nat.sub_self, List.getElem_cons_zero]
    exact put3_at hs
  · rw [List.getElem_append_left (by omega)]
    obtain ⟨h0, h1, h2⟩ := h i (by omega)
    exact ⟨(put3_far (q := 0) e (by omega)).trans h0, (put3_far (q := 1) e (by omega)).trans h1, (put3_far (q := 2) e (by omega)).trans h2⟩
/-- The cells from place m on hold the facts of a list. -/
def FTl (cs : Array Value) (ys : List Fact) (m : Nat) : Prop := ∀ i (h : i < ys.length), m ≤ i → cs[i * 3]? = some (.int .i64 ys[i].rel) ∧ cs[i * 3 + 1]? = some (.int .i64 ys[i].x) ∧ cs[i * 3 + 2]? = some (.int .i64 ys[i].y)
theorem FTl.cells {w : World} {g : Nat} {t : TypeId} {cs : Array Value} {ys : List Fact} {m : Nat} (h : FTl cs ys m) (hB : Blk w g t cs) {i : Nat} (hi : i < ys.length) (hm : m ≤ i) {a : Fact} (ha : fat ys i = a) {p : Nat} (hp : p = i * 3) :
    w.cell? ⟨g, p, none⟩ = some (.int .i64 a.rel) ∧ w.cell? ⟨g, p + 1, none⟩ = some (.int .i64 a.x) ∧ w.cell? ⟨g, p + 2, none⟩ = some (.int .i64 a.y) := by
  subst ha hp
  obtain ⟨h0, h1, h2⟩ := h i hi hm
  rw [fat_at hi, hB.cell, hB.cell, hB.cell]
  exact ⟨h0, h1, h2⟩
theorem ftl_put {cs : Array Value} {ys : List Fact} {m k : Nat} {a : Fact} (h : FTl cs ys m) (hk : k < m) : FTl (put3 cs k a) ys m := fun i hi hm => by
  obtain ⟨h0, h1, h2⟩ := h i hi hm
  exact ⟨(put3_far (q := 0) (by omega) (by omega)).trans h0, (put3_far (q := 1) (by omega) (by omega)).trans h1, (put3_far (q := 2) (by omega) (by omega)).trans h2⟩
/-- A row of facts while it is compacted. -/
def CSt (w0 : World) (g sz : Nat) (ys : List Fact) (m : Nat) (w : World) (ds : List Fact) : Prop := (∃ cs, Blk w g 54 cs ∧ cs.size = sz ∧ FAt cs ds ∧ FTl cs ys m) ∧ Ch (· = g) w0 w
theorem CSt.fr {w0 w w' : World} {g sz m : Nat} {ys ds : List Fact} (h : CSt w0 g sz ys m w ds) (hf : Fr w w') : CSt w0 g sz ys m w' ds := by
  obtain ⟨⟨cs, hB, hs, hF, hT⟩, hC⟩ := h
  exact ⟨⟨cs, hB.fr hf, hs, hF, hT⟩, hC.trans hf.ch⟩
theorem CSt.up {w0 w : World} {g sz m m' : Nat} {ys ds : List Fact} (h : CSt w0 g sz ys m w ds) (hm : m ≤ m') : CSt w0 g sz ys m' w ds := by
  obtain ⟨⟨cs, hB, hs, hF, hT⟩, hC⟩ := h
  exact ⟨⟨cs, hB, hs, hF, fun i hi hm' => hT i hi (by omega)⟩, hC⟩
theorem CSt.put {w0 w : World} {g sz m k : Nat} {ys ds : List Fact} {a : Fact} (h : CSt w0 g sz ys m w ds) (hk : ds.length = k) (hm : k < m) (hs : k * 3 + 2 < sz) :
    CSt w0 g sz ys m (((w.setCell ⟨g, k * 3, none⟩ (.int .i64 a.rel)).setCell ⟨g, k * 3 + 1, none⟩ (.int .i64 a.x)).setCell ⟨g, k * 3 + 2, none⟩ (.int .i64 a.y)) (ds ++ [a]) := by
  obtain ⟨⟨cs, hB, hz, hF, hT⟩, hC⟩ := h
  exact ⟨⟨put3 cs k a, blk_put hB k a, by rw [put3_size]; exact hz, fat_snoc hF hk (by omega), ftl_put hT hm⟩, ch_put hC k a⟩
def Cmp (w0 : World) (g sz cap : Nat) (ys : List Fact) (e : Ending) (w : World) : Prop := ∃ ds, e = .returned (.slice (some ⟨g, 0, none⟩) ds.length cap) ∧ Asc ds ∧ (∀ x, x ∈ ds ↔ x ∈ ys) ∧ ds.length ≤ ys.length ∧ (∃ cs, Blk w g 54 cs ∧ cs.size = sz ∧ FAt cs ds) ∧ Ch (· = g) w0 w
set_option maxRecDepth 100000 in
set_option maxHeartbeats 4000000 in
theorem compactF (g cap sz : Nat) (ys : List Fact) (cs : Array Value) (w : World) (hB : Blk w g 54 cs) (hz : cs.size = sz) (hF : FAt cs ys) (h1 : 1 ≤ ys.length) (h2 : ys.length ≤ 1000) (hs : ys.length * 3 ≤ sz) (hc : ys.length ≤ cap) (hS : Srt (fat ys) ys.length) :
    Calls Tryz.prog 67 #[.slice (some ⟨g, 0, none⟩) ys.length cap] w fun r w' => Cmp w g sz cap ys r w' := by
  have HS := hid hS
  have M0 := hid (show CSt w g sz ys 0 w ys from ⟨⟨cs, hB, hz, hF, fun i hi _ => hF i hi⟩, Ch.refl _⟩)
  clear hB hF hS
  by_cases hone : ys.length < 2
  · have d1 : decide ((ys.length : Int) < 2) = true := decide_eq_true (by omega)
    go_enter Tryz.func67, Tryz.ntmps67
    go_wp2
    go_ret
    obtain ⟨⟨cs', k1, k2, k3, _⟩, k5⟩ := M0.out
    exact ⟨ys, rfl, asc_of HS.out (fun i h0 h1 => by omega), fun x => Iff.rfl, Nat.le_refl _, ⟨cs', k1, k2, k3⟩, k5⟩
  · have d1 : decide ((ys.length : Int) < 2) = false := decide_eq_false (by omega)
    go_enter Tryz.func67, Tryz.ntmps67
    go_wp2
    go_loopw [3] (fun t wr => ∃ (k : Nat), 1 ≤ k ∧ k ≤ ys.length ∧ t = .int .i64 k ∧ Hid (CSt w g sz ys 0 wr ys ∧ ∀ i, 0 < i → i < k → fat ys i ≠ fat ys (i - 1))) (fun t _ => ys.length - (intOf t).toNat)
    case atStart => exact ⟨1, by omega, by omega, rfl, hid ⟨M0.out, fun i h0 h1 => by omega⟩⟩
    case round =>
      clear d1
      revert wr
      intro W1 hrel
      obtain ⟨K, hK1, hK, rfl, hM⟩ := hrel
      by_cases hlt : K < ys.length
      · obtain ⟨a, ea⟩ : ∃ a, fat ys K = a := ⟨_, rfl⟩
        obtain ⟨b, eb⟩ : ∃ b, fat ys (K - 1) = b := ⟨_, rfl⟩
        obtain ⟨⟨cs', hB, hz', hF, _⟩, _⟩ := hM.out.1
        obtain ⟨c0, c1, c2⟩ := hF.cells hB (i := K) hlt ea
        obtain ⟨d0, d1, d2⟩ := hF.cells hB (i := K - 1) (by omega) eb
        clear hF hB hz'
        rcases f3 a b with ⟨hab, E1, E2, E3⟩ | ⟨hab, e1, e2, e3, E1, E2, E3, hE⟩
        · have hcp := cpt_start HS.out (by omega) hlt hM.out.2 (by rw [ea, eb]; exact hab)
          have HCP := hid hcp
          have M1 := hid (show CSt w g sz ys K W1 (ys.take K) from by
            obtain ⟨⟨cs', k1, k2, k3, k4⟩, k5⟩ := hM.out.1
            refine ⟨⟨cs', k1, k2, fun i hi => ?_, fun i hi _ => k3 i hi⟩, k5⟩
            simp only [List.length_take] at hi
            rw [List.getElem_take]
            exact k3 i (by omega))
          clear hcp ea eb hab
          go_wp2_with fail
          (refine wp_region_quietC (fun w' => Fr _ w') (by kernel_rfl) (by kernel_rfl) (Fr.refl _).drew ?_; (repeat go_big_quiet_step (first | exact fun _ => rfl | exact fun _ => ⟨rfl, rfl⟩ | (intro hw'; replace c0 := hw'.cell c0; replace c1 := hw'.cell c1; replace c2 := hw'.cell c2; replace d0 := hw'.cell d0; replace d1 := hw'.cell d1; replace d2 := hw'.cell d2; go_simp; first | done | exact rfl | exact ⟨rfl, rfl⟩) )); refine wpQuiet_nil ?_; intro wq hq)
          replace M1 := hid (M1.out.fr hq)
          clear c0 c1 c2 d0 d1 d2 E1 E2 E3 hq
          go_wp2
          clear M0 hM
          go_loopw [3, 5] (fun s t wr => ∃ (k k2 : Nat) (ds : List Fact), 1 ≤ k2 ∧ K + k2 ≤ ys.length ∧ s = .int .i64 k ∧ t = .int .i64 k2 ∧ ds.length = k ∧ Hid (CSt w g sz ys (K + k2 - 1) wr ds ∧ Cpt ys (K + k2) ds)) (fun _ t _ => ys.length - (intOf t).toNat)
          case atStart => exact ⟨K, 1, ys.take K, by omega, by omega, rfl, rfl, by simp; omega, hid ⟨by simpa using M1.out, HCP.out⟩⟩
          case round =>
            clear M1 HCP
            obtain ⟨k, k2, ds, h21, h2n, rfl, rfl, hdl, hM⟩ := hrel
            have hk2 : k < K + k2 := by have := hM.out.2.2.2; omega
            by_cases hlt2 : K + k2 < ys.length
            · have dl : decide ((k2 : Int) < ((ys.length - K : Nat) : Int)) = true := decide_eq_true (by omega)
              obtain ⟨a, ea⟩ : ∃ a, fat ys (K + k2) = a := ⟨_, rfl⟩
              obtain ⟨b, eb⟩ : ∃ b, fat ys (K + k2 - 1) = b := ⟨_, rfl⟩
              obtain ⟨⟨cs', hB, hz', _, hT⟩, _⟩ := hM.out.1
              obtain ⟨c0, c1, c2⟩ := hT.cells hB (i := K + k2) hlt2 (by omega) ea (p := K * 3 + k2 * 3) (by omega)
              obtain ⟨d0, d1, d2⟩ := hT.cells hB (i := K + k2 - 1) (by omega) (by omega) eb (p := K * 3 + (k2 - 1) * 3) (by omega)
              obtain ⟨u0, v0⟩ := hB.cell_some (i := k * 3) (by omega)
              obtain ⟨u1, v1⟩ := hB.cell_some (i := k * 3 + 1) (by omega)
              obtain ⟨u2, v2⟩ := hB.cell_some (i := k * 3 + 2) (by omega)
              have f0 := hB.frozen (k * 3)
              have f1 := hB.frozen (k * 3 + 1)
              have f2 := hB.frozen (k * 3 + 2)
              clear hT hB hz'
              rcases f3 a b with ⟨hab, E1, E2, E3⟩ | ⟨hab, e1, e2, e3, E1, E2, E3, hE⟩
              · have M2 := hid (show ∀ wq, Fr wr wq → CSt w g sz ys (K + (k2 + 1) - 1) wq ds ∧ Cpt ys (K + (k2 + 1)) ds from fun wq hq => ⟨(hM.out.1.fr hq).up (by omega), cpt_same (m := K + k2) hM.out.2 (by omega) hlt2 (by rw [ea, eb]; exact hab)⟩)
                clear ea eb hab hM f0 f1 f2 v0 v1 v2
                go_wp2_with fail
                (refine wp_region_quietC (fun w' => Fr _ w') (by kernel_rfl) (by kernel_rfl) (Fr.refl _).drew ?_; (repeat go_big_quiet_step (first | exact fun _ => rfl | exact fun _ => ⟨rfl, rfl⟩ | (intro hw'; replace c0 := hw'.cell c0; replace c1 := hw'.cell c1; replace c2 := hw'.cell c2; replace d0 := hw'.cell d0; replace d1 := hw'.cell d1; replace d2 := hw'.cell d2; go_simp; first | done | exact rfl | exact ⟨rfl, rfl⟩) )); refine wpQuiet_nil ?_; intro wq hq)
                replace M2 := hid (M2.out _ hq)
                clear c0 c1 c2 d0 d1 d2 E1 E2 E3 hq
                go_wp2
                go_roundw
                case rel => exact ⟨k, k2 + 1, ds, by omega, by omega, rfl, by go_num, hdl, M2⟩
                case measure => simp [intOf]; omega
              · have M2 := hid (show ∀ wq, Fr wr wq → CSt w g sz ys (K + (k2 + 1) - 1) (((wq.setCell ⟨g, k * 3, none⟩ (.int .i64 a.rel)).setCell ⟨g, k * 3 + 1, none⟩ (.int .i64 a.x)).setCell ⟨g, k * 3 + 2, none⟩ (.int .i64 a.y)) (ds ++ [a]) ∧ Cpt ys (K + (k2 + 1)) (ds ++ [a]) from fun wq hq => ⟨((hM.out.1.fr hq).up (by omega)).put hdl (by omega) (by omega), by rw [← ea]; exact cpt_new (m := K + k2) HS.out hM.out.2 (by omega) hlt2 (by rw [ea, eb]; exact hab)⟩)
                clear ea eb hab hM
                rcases hE with rfl | ⟨rfl, rfl⟩ | ⟨rfl, rfl, rfl⟩
                all_goals go_wp2_with fail
                all_goals (
                  (refine wp_region_quietC (fun w' => Fr _ w') (by kernel_rfl) (by kernel_rfl) (Fr.refl _).drew ?_; (repeat go_big_quiet_step (first | exact fun _ => rfl | exact fun _ => ⟨rfl, rfl⟩ | (intro hw'; replace c0 := hw'.cell c0; replace c1 := hw'.cell c1; replace c2 := hw'.cell c2; replace d0 := hw'.cell d0; replace d1 := hw'.cell d1; replace d2 := hw'.cell d2; go_simp; first | done | exact rfl | exact ⟨rfl, rfl⟩) )); refine wpQuiet_nil ?_; intro wq hq)
                  replace M2 := hid (M2.out _ hq)
                  replace f0 := hq.frozen v0 f0
                  replace f1 := hq.frozen v1 f1
                  replace f2 := hq.frozen v2 f2
                  replace v0 := hq.cell v0
                  replace v1 := hq.cell v1
                  replace v2 := hq.cell v2
                  replace c0 := hq.cell c0
                  replace c1 := hq.cell c1
                  replace c2 := hq.cell c2
                  clear d0 d1 d2 E1 E2 E3 hq
                  go_wp2
                  go_roundw
                  case rel => exact ⟨k + 1, k2 + 1, ds ++ [a], by omega, by omega, by go_num, by go_num, by simp; omega, M2⟩
                  case measure => simp [intOf]; omega)
            · obtain rfl : k2 = ys.length - K := by omega
              obtain ⟨⟨cs', hB, hz', hF', _⟩, hC'⟩ := hM.out.1
              have hend : k < ys.length := by omega
              obtain ⟨w9, cs9, hcl, hB9, hz9, hk9, hC9⟩ := run_clear3 (P := Tryz.prog) wr 27 54 (.agg #[.int .i64 0, .int .i64 0, .int .i64 0]) Tryz.underlying27 (fun _ => by kernel_rfl) rfl (by decide) g (k * 3) (ys.length - k) (cap - k) (by omega) hB (by omega)
              have RES := hid (show Cmp w g sz cap ys (.returned (.slice (some ⟨g, 0, none⟩) k cap)) w9 from by
                obtain ⟨q1, q2, q3⟩ := hM.out.2
                refine ⟨ds, by rw [hdl], q1, fun x => ?_, by omega, ⟨cs9, hB9, by omega, fun i hi => ?_⟩, hC'.trans hC9⟩
                · rw [q2, List.take_of_length_le (by omega)]
                · obtain ⟨k0, k1, k2⟩ := hF' i hi
                  exact ⟨(hk9 _ (by omega)).trans k0, (hk9 _ (by omega)).trans k1, (hk9 _ (by omega)).trans k2⟩)
              clear hM hB hF' hB9 hk9 hC9 hC' hz9 hz'
              go_wp2
              go_ret
              exact RES.out
        · have M2 := hid (show ∀ wq, Fr W1 wq → (CSt w g sz ys 0 wq ys ∧ ∀ i, 0 < i → i < K + 1 → fat ys i ≠ fat ys (i - 1)) from fun wq hq => ⟨hM.out.1.fr hq, fun i h0 h1 => by
            by_cases e : i = K
            · subst e; rw [ea, eb]; exact hab
            · exact hM.out.2 i h0 (by omega)⟩)
          clear ea eb hab hM
          rcases hE with rfl | ⟨rfl, rfl⟩ | ⟨rfl, rfl, rfl⟩
          all_goals go_wp2_with fail
          all_goals (
            (refine wp_region_quietC (fun w' => Fr _ w') (by kernel_rfl) (by kernel_rfl) (Fr.refl _).drew ?_; (repeat go_big_quiet_step (first | exact fun _ => rfl | exact fun _ => ⟨rfl, rfl⟩ | (intro hw'; replace c0 := hw'.cell c0; replace c1 := hw'.cell c1; replace c2 := hw'.cell c2; replace d0 := hw'.cell d0; replace d1 := hw'.cell d1; replace d2 := hw'.cell d2; go_simp; first | done | exact rfl | exact ⟨rfl, rfl⟩) )); refine wpQuiet_nil ?_; intro wq hq)
            replace M2 := hid (M2.out _ hq)
            clear c0 c1 c2 d0 d1 d2 E1 E2 E3 hq
            go_wp2
            go_roundw
            case rel => exact ⟨K + 1, by omega, by omega, by go_num, M2⟩
            case measure => simp [intOf]; omega)
      · obtain rfl : K = ys.length := by omega
        go_wp2
        go_ret
        obtain ⟨⟨cs', k1, k2, k3, _⟩, k5⟩ := hM.out.1
        exact ⟨ys, rfl, asc_of HS.out (fun i h0 h1 => hM.out.2 i h0 h1), fun x => Iff.rfl, Nat.le_refl _, ⟨cs', k1, k2, k3⟩, k5⟩
end Go.Proofs.YtahclhldpcboeaaGreatDoor
