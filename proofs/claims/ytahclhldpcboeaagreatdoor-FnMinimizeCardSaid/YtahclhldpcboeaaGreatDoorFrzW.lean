/- Walks of the spec's frozen atoms: addFact, freeze. -/
import Derived.Test.YtahclhldpcboeaaGreatDoorHomP
import Derived.Test.YtahclhldpcboeaaGreatDoorRuleW
import Derived.Test.YtahclhldpcboeaaGreatDoorMem2
namespace Go.Proofs.YtahclhldpcboeaaGreatDoor
open Go Go.RowKit

theorem own_capF {w : World} {base e sz n : Nat} {v : Value} {xs : List Value} (h : w.ownsRow base e sz v n xs) : ∃ A cap, v = .slice A n cap ∧ n ≤ cap := by
  rcases h.2 with ⟨rfl, h0⟩ | ⟨g, cap, cur, hv, hg, hh, hnc, _⟩
  · exact ⟨none, 0, by rw [h0], by omega⟩
  · exact ⟨_, cap, hv, hnc⟩
theorem own_formF {w : World} {base e sz n : Nat} {v : Value} {xs : List Value} (h : w.ownsRow base e sz v n xs) (hn : 0 < n) : ∃ g cap, v = .slice (some ⟨g, 0, none⟩) n cap ∧ base ≤ g ∧ n ≤ cap := by
  rcases h.2 with ⟨_, h0⟩ | ⟨g, cap, cur, hv, hg, hh, hnc, _⟩
  · omega
  · exact ⟨g, cap, hv, hg, hnc⟩
def cellsF (f : Fact) : List Value := [.int .i64 f.rel, .int .i64 f.x, .int .i64 f.y]
theorem own_F {w : World} {base e n cap : Nat} {A : Option Addr} {xs : List Fact} (h : w.ownsRow base e 3 (.slice A n cap) n (xs.flatMap cellsF)) (hn : n = xs.length) : RdSl rdFact (fromB w base) 3 A xs :=
  own_rd h hn (fun _ => rfl) fun m c x hc => ⟨hc 0 (by simp [cellsF]), hc 1 (by simp [cellsF]), hc 2 (by simp [cellsF])⟩
theorem cellsF_len (xs : List Fact) : (xs.flatMap cellsF).length = xs.length * 3 := by
  induction xs with
  | nil => rfl
  | cons a r ih => rw [List.flatMap_cons, List.length_append, ih]; simp [cellsF]; omega
theorem cellsF_one (xs : List Fact) : (xs.flatMap cellsF).all (·.oneCell') = true := by
  rw [List.all_eq_true]
  intro u hu
  rw [List.mem_flatMap] at hu
  obtain ⟨x, _, hx⟩ := hu
  simp only [cellsF, List.mem_cons, List.not_mem_nil, or_false] at hx
  rcases hx with rfl | rfl | rfl <;> rfl
theorem rd_cellsF {m : Mv} {g p : Nat} {xs : List Fact} (h : RdSl rdFact m 3 (some ⟨g, p, none⟩) xs) : ∀ (j : Nat) u, (xs.flatMap cellsF)[j]? = some u → m ⟨g, p + j, none⟩ = some u := by
  intro j u hu
  have hl := cellsF_len xs
  have hj : j < xs.length * 3 := by
    rw [← hl]; exact (List.getElem?_eq_some_iff.1 hu).1
  have hi : j / 3 < xs.length := by omega
  obtain ⟨b, o, hA, hc⟩ := h (by intro e; rw [e] at hi; simp at hi)
  injection hA with hA
  injection hA with h1 h2 _
  subst h1 h2
  obtain ⟨r0, r1, r2⟩ := hc (j / 3) hi
  have h2 := flatMap_get (f := cellsF) (sz := 3) (fun _ => rfl) xs (j / 3) hi (j % 3) (Nat.mod_lt _ (by decide)) (by simp [cellsF]; omega)
  have ej : j / 3 * 3 + j % 3 = j := by omega
  rw [ej, hu] at h2
  rcases (by omega : j % 3 = 0 ∨ j % 3 = 1 ∨ j % 3 = 2) with e | e | e
  all_goals simp only [e, cellsF] at h2
  all_goals injection h2 with h2
  all_goals rw [h2]
  all_goals first
    | (rw [show p + j = p + j / 3 * 3 + 0 by omega]; exact r0)
    | (rw [show p + j = p + j / 3 * 3 + 1 by omega]; exact r1)
    | (rw [show p + j = p + j / 3 * 3 + 2 by omega]; exact r2)
theorem rd_takeF {m : Mv} {g p : Nat} {xs : List Fact} {k : Nat} (h : RdSl rdFact m 3 (some ⟨g, p, none⟩) xs) : ∀ (j : Nat) u, ((xs.take k).flatMap cellsF)[j]? = some u → m ⟨g, p + j, none⟩ = some u :=
  rd_cellsF (fun hne => ⟨g, p, rfl, fun i hi => by
    simp only [List.length_take] at hi
    obtain ⟨b, o, hA, hc⟩ := h (by intro e; rw [e] at hi; simp at hi)
    cases hA
    have := hc i (by omega)
    rw [List.getElem_take]
    exact this⟩)
theorem rd_dropF {m : Mv} {g p : Nat} {xs : List Fact} {k : Nat} (h : RdSl rdFact m 3 (some ⟨g, p, none⟩) xs) : ∀ (j : Nat) u, ((xs.drop k).flatMap cellsF)[j]? = some u → m ⟨g, p + k * 3 + j, none⟩ = some u :=
  rd_cellsF (fun hne => ⟨g, p + k * 3, rfl, fun i hi => by
    simp only [List.length_drop] at hi
    obtain ⟨b, o, hA, hc⟩ := h (by intro e; rw [e] at hi; simp at hi)
    cases hA
    obtain ⟨r0, r1, r2⟩ := hc (k + i) (by omega)
    rw [List.getElem_drop]
    have e1 : g = g := rfl
    have e : p + (k + i) * 3 = p + k * 3 + i * 3 := by rw [Nat.add_mul]; omega
    simp only [e] at r0 r1 r2
    exact ⟨r0, r1, r2⟩⟩)
theorem wp_appS {P : Program} {ops : Array Oper} {rest : List Oper} {o : Oper} {a : Act} {Q : Exit → Act → World → Prop} {w : World} (hgd : o.guard = none) (s x : Operand) (t : TypeId)
    (ho : o.op = .call { callee := .builtin .append, args := #[s, x], argTypes := #[t, t] })
    (base : Nat) (e : TypeId) (z : Value) (size bytes : Nat) (ht : P.underlying t = some (.slice e)) (hinfo : (P.info? e).map (fun i => (i.zero, i.size, i.bytes)) = some (some z, size, bytes))
    (hzs : z.cells.size = size) (hsz : 0 < size) (hby : bytes ≤ 64) (v : Value) (n : Nat) (xs : List Value) (hs : a.eval s = v) (hown : w.ownsRow base e size v n xs) (hn : n ≤ 549755813888) (hbase : base ≤ w.heap.size)
    (g p m cap : Nat) (news : List Value) (hx : a.eval x = .slice (some ⟨g, p, none⟩) m cap) (hlen : news.length = m * size) (hc : ∀ (j : Nat) u, news[j]? = some u → w.cell? ⟨g, p + j, none⟩ = some u) (hm : m ≤ 549755813888) (h1 : news.all (·.oneCell') = true)
    (h : ∀ v' w', w'.ownsRow base e size v' (n + m) (xs ++ news) → w.grownBy w' v.ownBlock → wpList P ops Q rest (a.put o.dst v') w') : wpList P ops Q (o :: rest) a w := by
  obtain ⟨i, hi, hz, hsi, hb⟩ := info_parts hinfo
  have hmm : (n + m) * bytes ≤ (n + m) * 64 := Nat.mul_le_mul_left _ hby
  refine wpList_append_own w hgd s x t ho base e i z size bytes ht hi hz hsi hb hzs hsz v n xs hs hown ⟨g, p, none⟩ m cap news hx hlen (fun j u hu => ?_) (by simpa [List.all_eq_true] using h1) (by unfold maxLen; omega) (by omega) hbase fun v' w' h2 h3 _ => h v' w' h2 h3
  have e1 : (⟨g, p, none⟩ : Addr).add j = ⟨g, p + j, none⟩ := by
    unfold Addr.add
    split
    · rename_i hj; rw [hj]; rfl
    · simp
  rw [e1]
  exact hc j u hu
theorem factLs (a b : Fact) (w : World) :
    Calls Tryz.prog 65 #[.agg #[.int .i64 a.rel, .int .i64 a.x, .int .i64 a.y], .agg #[.int .i64 b.rel, .int .i64 b.x, .int .i64 b.y]] w fun e w' => e = .returned (.bool (a.less b)) ∧ Fr w w' := by
  go_enter Tryz.func65, Tryz.ntmps65
  go_wp2
  all_goals go_ret
  all_goals exact ⟨ret_bool (by simp_all [Fact.less]), by (repeat (first | with_reducible exact Fr.refl _ | with_reducible assumption | with_reducible refine Fr.alloc ?_ _ | with_reducible refine Fr.drew ?_ | with_reducible refine Fr.drewN ?_ _ | (with_reducible refine Fr.setNew2 ?_ ?_ _; · (simp <;> omega)) | with_reducible refine Fr.trans ?_ (by assumption)))⟩
set_option maxRecDepth 100000 in
set_option maxHeartbeats 4000000 in
theorem addFact (b o cap : Nat) (xs : List Fact) (f : Fact) (w : World) (hx : RdSl rdFact w.cell? 3 (some ⟨b, o, none⟩) xs) (hl : xs.length ≤ 100) (hc : xs.length ≤ cap) :
    Calls Tryz.prog 73 #[.slice (some ⟨b, o, none⟩) xs.length cap, .agg #[.int .i64 f.rel, .int .i64 f.x, .int .i64 f.y]] w fun r w' => ∃ b' o' cap', r = .returned (.slice (some ⟨b', o', none⟩) (insF xs f).length cap') ∧ RdSl rdFact w'.cell? 3 (some ⟨b', o', none⟩) (insF xs f) ∧ (insF xs f).length ≤ cap' ∧ Fr w w' := by
  have HX := hid hx
  clear hx
  have BF := Blk.new w 54 #[.int .i64 f.rel, .int .i64 f.x, .int .i64 f.y]
  have F1 : Fr w (w.alloc (.cells #[.int .i64 f.rel, .int .i64 f.x, .int .i64 f.y] 54)) := (Fr.refl _).alloc _
  go_enter Tryz.func73, Tryz.ntmps73
  go_wp2
  generalize w.alloc (.cells #[.int .i64 f.rel, .int .i64 f.x, .int .i64 f.y] 54) = W1 at BF F1 ⊢
  go_loopw [5] (fun t wr => ∃ (k : Nat), k ≤ xs.length ∧ t = .int .i64 k ∧ Fr W1 wr ∧ ∀ i (h : i < xs.length), i < k → xs[i].less f = true) (fun t _ => xs.length - (intOf t).toNat)
  case atStart => exact ⟨0, by omega, rfl, Fr.refl _, fun i _ h => absurd h (by omega)⟩
  case round =>
    obtain ⟨k, hk, rfl, hf, hv⟩ := hrel
    have HV := hid hv
    clear hv
    obtain ⟨f0, f1, f2, _⟩ := (BF.fr hf).three
    have FF := F1.trans hf
    by_cases hlt : k < xs.length
    · obtain ⟨b', o', hA, c0, c1, c2⟩ := HX.out.fact hlt
      cases hA
      replace c0 := FF.cell c0
      replace c1 := FF.cell c1
      replace c2 := FF.cell c2
      have el : decide ((k : Int) < (xs.length : Int)) = true := by simp; omega
      cases hn : xs[k].less f
      · by_cases he : xs[k] = f
        · have R := hid (insF_same hlt HV.out hn he)
          have HN := hid hn
          have E1 : (xs[k].rel == f.rel) = true := by rw [he]; simp
          have E2 : (xs[k].x == f.x) = true := by rw [he]; simp
          have E3 : (xs[k].y == f.y) = true := by rw [he]; simp
          clear hn he
          go_wp2_with fail
          (refine wp_region_quietC (fun w' => Fr _ w') (by kernel_rfl) (by kernel_rfl) (Fr.refl _).drew ?_; (repeat go_big_quiet_step (first | exact fun _ => rfl | exact fun _ => ⟨rfl, rfl⟩ | (intro hw'; replace f0 := hw'.cell f0; replace f1 := hw'.cell f1; replace f2 := hw'.cell f2; replace c0 := hw'.cell c0; replace c1 := hw'.cell c1; replace c2 := hw'.cell c2; go_simp; first | done | exact rfl | exact ⟨rfl, rfl⟩) | (intro hw'; go_at_call 65; refine (factLs xs[k] f _).mono ?_; rintro e w1 ⟨rfl, b1⟩; rw [HN.out]; exact ⟨rfl, Fr.trans hw' b1⟩))); refine wpQuiet_nil ?_; intro wq hq)
          replace f0 := hq.cell f0
          replace f1 := hq.cell f1
          replace f2 := hq.cell f2
          replace c0 := hq.cell c0
          replace c1 := hq.cell c1
          replace c2 := hq.cell c2
          go_wp2_with fail
          have FQ := FF.trans hq
          clear hq
          (refine wp_region_quietC (fun w' => Fr _ w') (by kernel_rfl) (by kernel_rfl) (Fr.refl _).drew ?_; (repeat go_big_quiet_step (first | exact fun _ => rfl | exact fun _ => ⟨rfl, rfl⟩ | (intro hw'; replace f0 := hw'.cell f0; replace f1 := hw'.cell f1; replace f2 := hw'.cell f2; replace c0 := hw'.cell c0; replace c1 := hw'.cell c1; replace c2 := hw'.cell c2; go_simp; first | done | exact rfl | exact ⟨rfl, rfl⟩) )); refine wpQuiet_nil ?_; intro wq hq)
          go_wp2
          go_ret
          rw [R.out]
          exact ⟨b, o, cap, rfl, HX.out.fr rdFact_mono (FQ.trans hq), hc, FQ.trans hq⟩
        · have R := hid (insF_new (k := k) hk HV.out (fun _ => ⟨hn, he⟩))
          have HN := hid hn
          have HE := hid he
          clear hn he
          go_wp2_with fail
          (refine wp_region_quietC (fun w' => Fr _ w') (by kernel_rfl) (by kernel_rfl) (Fr.refl _).drew ?_; (repeat go_big_quiet_step (first | exact fun _ => rfl | exact fun _ => ⟨rfl, rfl⟩ | (intro hw'; replace f0 := hw'.cell f0; replace f1 := hw'.cell f1; replace f2 := hw'.cell f2; replace c0 := hw'.cell c0; replace c1 := hw'.cell c1; replace c2 := hw'.cell c2; go_simp; first | done | exact rfl | exact ⟨rfl, rfl⟩) | (intro hw'; go_at_call 65; refine (factLs xs[k] f _).mono ?_; rintro e w1 ⟨rfl, b1⟩; rw [HN.out]; exact ⟨rfl, Fr.trans hw' b1⟩))); refine wpQuiet_nil ?_; intro wq hq)
          replace f0 := hq.cell f0
          replace f1 := hq.cell f1
          replace f2 := hq.cell f2
          replace c0 := hq.cell c0
          replace c1 := hq.cell c1
          replace c2 := hq.cell c2
          go_wp2_with fail
          have FQ := hf.trans hq
          have D3 : ∃ e1 e2 e3, (xs[k].rel == f.rel) = e1 ∧ (xs[k].x == f.x) = e2 ∧ (xs[k].y == f.y) = e3 ∧ (e1 = false ∨ e1 = true ∧ e2 = false ∨ e1 = true ∧ e2 = true ∧ e3 = false) := by
            refine ⟨_, _, _, rfl, rfl, rfl, ?_⟩
            have := HE.out
            rcases hX : xs[k] with ⟨r, x, y⟩
            rcases f with ⟨r', x', y'⟩
            rw [hX] at this
            simp only [Fact.mk.injEq, not_and] at this
            by_cases q1 : r = r'
            · by_cases q2 : x = x'
              · exact .inr (.inr ⟨by simp [q1], by simp [q2], by simpa using this q1 q2⟩)
              · exact .inr (.inl ⟨by simp [q1], by simpa using q2⟩)
            · exact .inl (by simpa using q1)
          obtain ⟨e1, e2, e3, E1, E2, E3, hE⟩ := D3
          clear hq HE
          rcases hE with rfl | ⟨rfl, rfl⟩ | ⟨rfl, rfl, rfl⟩
          all_goals (
            (refine wp_region_quietC (fun w' => Fr _ w') (by kernel_rfl) (by kernel_rfl) (Fr.refl _).drew ?_; (repeat go_big_quiet_step (first | exact fun _ => rfl | exact fun _ => ⟨rfl, rfl⟩ | (intro hw'; replace f0 := hw'.cell f0; replace f1 := hw'.cell f1; replace f2 := hw'.cell f2; replace c0 := hw'.cell c0; replace c1 := hw'.cell c1; replace c2 := hw'.cell c2; go_simp; first | done | exact rfl | exact ⟨rfl, rfl⟩) )); refine wpQuiet_nil ?_; intro wq hq)
            have FQ1 := FQ.trans hq
            clear E1 E2 E3
            have hO0 := hid (own_empty (w := wq) (base := W1.heap.size) (e := 54) (sz := 3) FQ1.size)
            have L1 : ((xs.take k).flatMap cellsF).length = k * 3 := by rw [cellsF_len, List.length_take, Nat.min_eq_left hk]
            have L2 : ((xs.drop k).flatMap cellsF).length = (xs.length - k) * 3 := by rw [cellsF_len, List.length_drop]
            have P1 := hid (fun (W : World) (hW : Fr W1 W) => rd_takeF (k := k) (HX.out.fr rdFact_mono (F1.trans hW)))
            have P2 := hid (fun (W : World) (hW : Fr W1 W) => rd_dropF (k := k) (HX.out.fr rdFact_mono (F1.trans hW)))
            have O1 := cellsF_one (xs.take k)
            have O2 := cellsF_one (xs.drop k)
            have hsq := FQ1.size
            clear c0 c1 c2
            go_wp2_with (first
              | (at_builtin; refine wp_appS rfl _ _ 27 rfl W1.heap.size 54 (.agg #[.int .i64 0, .int .i64 0, .int .i64 0]) 3 24 Tryz.underlying27 (by kernel_rfl) rfl (by decide) (by decide) _ 0 [] rfl hO0.out (by omega) (by simp; omega) b o k cap ((xs.take k).flatMap cellsF) rfl L1 (P1.out _ (FQ1.alloc _)) (by omega) O1 ?_; intro v5 w5 hO5 hg5; have F5 : Fr W1 w5 := Fr.grown (FQ1.alloc _) hg5 hO0.out; have hs5 := F5.size; simp only [Nat.zero_add, List.nil_append] at hO5; have f0' := (BF.fr F5).three.1; have f1' := (BF.fr F5).three.2.1; have f2' := (BF.fr F5).three.2.2.1)
              | (at_builtin; refine wp_appS rfl _ _ 27 rfl W1.heap.size 54 (.agg #[.int .i64 0, .int .i64 0, .int .i64 0]) 3 24 Tryz.underlying27 (by kernel_rfl) rfl (by decide) (by decide) _ _ _ rfl (own_fr hO5 ((Fr.refl w5).alloc _)) (by omega) (by simp; omega) w5.heap.size 0 1 1 ([f].flatMap cellsF) rfl rfl (fun j u hu => by rw [Nat.zero_add, (Blk.new w5 _ _).cell]; simpa [cellsF] using hu) (by omega) rfl ?_; intro v6 w6 hO6 hg6; have F6 : Fr W1 w6 := Fr.grown (F5.alloc _) hg6 (own_fr hO5 ((Fr.refl w5).alloc _)); have hs6 := F6.size)
              | (at_builtin; refine wp_appS rfl _ _ 27 rfl W1.heap.size 54 (.agg #[.int .i64 0, .int .i64 0, .int .i64 0]) 3 24 Tryz.underlying27 (by kernel_rfl) rfl (by decide) (by decide) _ _ _ rfl hO6 (by omega) (by omega) b (o + k * 3) (xs.length - k) (cap - k) ((xs.drop k).flatMap cellsF) rfl L2 (P2.out _ F6) (by omega) O2 ?_; intro v7 w7 hO7 hg7; have F7 : Fr W1 w7 := Fr.grown F6 hg7 hO6)
              | fail)
            obtain ⟨g7, cap7, rfl, hg7', hc7⟩ := own_formF hO7 (by omega)
            have HO7 := hid hO7
            clear hO7
            go_wp2
            go_ret
            have hlen : k + 1 + (xs.length - k) = (xs.take k ++ f :: xs.drop k).length := by simp; omega
            rw [R.out]
            refine ⟨g7, 0, cap7, by rw [hlen]; rfl, ?_, by omega, F1.trans F7⟩
            have h := HO7.out
            rw [show (xs.take k).flatMap cellsF ++ [f].flatMap cellsF ++ (xs.drop k).flatMap cellsF = (xs.take k ++ f :: xs.drop k).flatMap cellsF by simp] at h
            exact (own_F h hlen).mono rdFact_mono (fromB_le _ _)
            )
      · have HN := hid hn
        clear hn
        go_wp2_with fail
        (refine wp_region_quietC (fun w' => Fr _ w') (by kernel_rfl) (by kernel_rfl) (Fr.refl _).drew ?_; (repeat go_big_quiet_step (first | exact fun _ => rfl | exact fun _ => ⟨rfl, rfl⟩ | (intro hw'; replace f0 := hw'.cell f0; replace f1 := hw'.cell f1; replace f2 := hw'.cell f2; replace c0 := hw'.cell c0; replace c1 := hw'.cell c1; replace c2 := hw'.cell c2; go_simp; first | done | exact rfl | exact ⟨rfl, rfl⟩) | (intro hw'; go_at_call 65; refine (factLs xs[k] f _).mono ?_; rintro e w1 ⟨rfl, b1⟩; rw [HN.out]; exact ⟨rfl, Fr.trans hw' b1⟩))); refine wpQuiet_nil ?_; intro wq hq)
        go_wp2
        go_roundw
        case rel => exact ⟨k + 1, by omega, by go_num, hf.trans hq, fun i h hi => by
          by_cases q : i = k
          · subst q; exact HN.out
          · exact HV.out i h (by omega)⟩
        case measure => simp [intOf]; omega
    · have R := hid (insF_new (k := k) hk HV.out (fun h => absurd h hlt))
      have el : decide ((k : Int) < (xs.length : Int)) = false := by simp; omega
      have c0 : True := trivial
      have c1 : True := trivial
      have c2 : True := trivial
      by_cases hcap : k = cap
      · subst hcap
        go_wp2_with fail
        (refine wp_region_quietC (fun w' => Fr _ w') (by kernel_rfl) (by kernel_rfl) (Fr.refl _).drew ?_; (repeat go_big_quiet_step (first | exact fun _ => rfl | exact fun _ => ⟨rfl, rfl⟩ | (intro hw'; replace f0 := hw'.cell f0; replace f1 := hw'.cell f1; replace f2 := hw'.cell f2; go_simp; first | done | exact rfl | exact ⟨rfl, rfl⟩) )); refine wpQuiet_nil ?_; intro wq hq)
        have FQ := hf.trans hq
        clear hq
        go_wp2_with fail
        (refine wp_region_quietC (fun w' => Fr _ w') (by kernel_rfl) (by kernel_rfl) (Fr.refl _).drew ?_; (repeat go_big_quiet_step (first | exact fun _ => rfl | exact fun _ => ⟨rfl, rfl⟩ | (intro hw'; replace f0 := hw'.cell f0; replace f1 := hw'.cell f1; replace f2 := hw'.cell f2; go_simp; first | done | exact rfl | exact ⟨rfl, rfl⟩) )); refine wpQuiet_nil ?_; intro wq hq)
        have FQ1 := FQ.trans hq
        have hO0 := hid (own_empty (w := wq) (base := W1.heap.size) (e := 54) (sz := 3) FQ1.size)
        have L1 : ((xs.take k).flatMap cellsF).length = k * 3 := by rw [cellsF_len, List.length_take, Nat.min_eq_left hk]
        have L2 : ((xs.drop k).flatMap cellsF).length = (xs.length - k) * 3 := by rw [cellsF_len, List.length_drop]
        have P1 := hid (fun (W : World) (hW : Fr W1 W) => rd_takeF (k := k) (HX.out.fr rdFact_mono (F1.trans hW)))
        have P2 := hid (fun (W : World) (hW : Fr W1 W) => rd_dropF (k := k) (HX.out.fr rdFact_mono (F1.trans hW)))
        have O1 := cellsF_one (xs.take k)
        have O2 := cellsF_one (xs.drop k)
        have hsq := FQ1.size
        clear c0 c1 c2
        go_wp2_with (first
          | (at_builtin; refine wp_appS rfl _ _ 27 rfl W1.heap.size 54 (.agg #[.int .i64 0, .int .i64 0, .int .i64 0]) 3 24 Tryz.underlying27 (by kernel_rfl) rfl (by decide) (by decide) _ 0 [] rfl hO0.out (by omega) (by simp; omega) b o k k ((xs.take k).flatMap cellsF) rfl L1 (P1.out _ (FQ1.alloc _)) (by omega) O1 ?_; intro v5 w5 hO5 hg5; have F5 : Fr W1 w5 := Fr.grown (FQ1.alloc _) hg5 hO0.out; have hs5 := F5.size; simp only [Nat.zero_add, List.nil_append] at hO5; have f0' := (BF.fr F5).three.1; have f1' := (BF.fr F5).three.2.1; have f2' := (BF.fr F5).three.2.2.1)
          | (at_builtin; refine wp_appS rfl _ _ 27 rfl W1.heap.size 54 (.agg #[.int .i64 0, .int .i64 0, .int .i64 0]) 3 24 Tryz.underlying27 (by kernel_rfl) rfl (by decide) (by decide) _ _ _ rfl (own_fr hO5 ((Fr.refl w5).alloc _)) (by omega) (by simp; omega) w5.heap.size 0 1 1 ([f].flatMap cellsF) rfl rfl (fun j u hu => by rw [Nat.zero_add, (Blk.new w5 _ _).cell]; simpa [cellsF] using hu) (by omega) rfl ?_; intro v6 w6 hO6 hg6; have F6 : Fr W1 w6 := Fr.grown (F5.alloc _) hg6 (own_fr hO5 ((Fr.refl w5).alloc _)); have hs6 := F6.size)
          | (at_builtin; refine wp_appS rfl _ _ 27 rfl W1.heap.size 54 (.agg #[.int .i64 0, .int .i64 0, .int .i64 0]) 3 24 Tryz.underlying27 (by kernel_rfl) rfl (by decide) (by decide) _ _ _ rfl hO6 (by omega) (by omega) b o 0 0 [] rfl rfl (fun j u hu => by simp at hu) (by omega) rfl ?_; intro v7 w7 hO7' hg7; have hO7 : w7.ownsRow W1.heap.size 54 3 v7 (k + 1 + (xs.length - k)) ((xs.take k).flatMap cellsF ++ [f].flatMap cellsF ++ (xs.drop k).flatMap cellsF) := (by rw [List.drop_eq_nil_of_le (show xs.length ≤ k by omega), show xs.length - k = 0 by omega]; simpa using hO7'); have F7 : Fr W1 w7 := Fr.grown F6 hg7 hO6)
          | fail)
        obtain ⟨g7, cap7, rfl, hg7', hc7⟩ := own_formF hO7 (by omega)
        have HO7 := hid hO7
        clear hO7
        go_wp2
        go_ret
        have hlen : k + 1 + (xs.length - k) = (xs.take k ++ f :: xs.drop k).length := by simp; omega
        rw [R.out]
        refine ⟨g7, 0, cap7, by rw [hlen]; rfl, ?_, by omega, F1.trans F7⟩
        have h := HO7.out
        rw [show (xs.take k).flatMap cellsF ++ [f].flatMap cellsF ++ (xs.drop k).flatMap cellsF = (xs.take k ++ f :: xs.drop k).flatMap cellsF by simp] at h
        exact (own_F h hlen).mono rdFact_mono (fromB_le _ _)
      · have hcap' : ¬ cap = k := fun e => hcap e.symm
        go_wp2_with fail
        (refine wp_region_quietC (fun w' => Fr _ w') (by kernel_rfl) (by kernel_rfl) (Fr.refl _).drew ?_; (repeat go_big_quiet_step (first | exact fun _ => rfl | exact fun _ => ⟨rfl, rfl⟩ | (intro hw'; replace f0 := hw'.cell f0; replace f1 := hw'.cell f1; replace f2 := hw'.cell f2; go_simp; first | done | exact rfl | exact ⟨rfl, rfl⟩) )); refine wpQuiet_nil ?_; intro wq hq)
        have FQ := hf.trans hq
        clear hq
        go_wp2_with fail
        (refine wp_region_quietC (fun w' => Fr _ w') (by kernel_rfl) (by kernel_rfl) (Fr.refl _).drew ?_; (repeat go_big_quiet_step (first | exact fun _ => rfl | exact fun _ => ⟨rfl, rfl⟩ | (intro hw'; replace f0 := hw'.cell f0; replace f1 := hw'.cell f1; replace f2 := hw'.cell f2; go_simp; first | done | exact rfl | exact ⟨rfl, rfl⟩) )); refine wpQuiet_nil ?_; intro wq hq)
        have FQ1 := FQ.trans hq
        have hO0 := hid (own_empty (w := wq) (base := W1.heap.size) (e := 54) (sz := 3) FQ1.size)
        have L1 : ((xs.take k).flatMap cellsF).length = k * 3 := by rw [cellsF_len, List.length_take, Nat.min_eq_left hk]
        have L2 : ((xs.drop k).flatMap cellsF).length = (xs.length - k) * 3 := by rw [cellsF_len, List.length_drop]
        have P1 := hid (fun (W : World) (hW : Fr W1 W) => rd_takeF (k := k) (HX.out.fr rdFact_mono (F1.trans hW)))
        have P2 := hid (fun (W : World) (hW : Fr W1 W) => rd_dropF (k := k) (HX.out.fr rdFact_mono (F1.trans hW)))
        have O1 := cellsF_one (xs.take k)
        have O2 := cellsF_one (xs.drop k)
        have hsq := FQ1.size
        clear c0 c1 c2
        go_wp2_with (first
          | (at_builtin; refine wp_appS rfl _ _ 27 rfl W1.heap.size 54 (.agg #[.int .i64 0, .int .i64 0, .int .i64 0]) 3 24 Tryz.underlying27 (by kernel_rfl) rfl (by decide) (by decide) _ 0 [] rfl hO0.out (by omega) (by simp; omega) b o k cap ((xs.take k).flatMap cellsF) rfl L1 (P1.out _ (FQ1.alloc _)) (by omega) O1 ?_; intro v5 w5 hO5 hg5; have F5 : Fr W1 w5 := Fr.grown (FQ1.alloc _) hg5 hO0.out; have hs5 := F5.size; simp only [Nat.zero_add, List.nil_append] at hO5; have f0' := (BF.fr F5).three.1; have f1' := (BF.fr F5).three.2.1; have f2' := (BF.fr F5).three.2.2.1)
          | (at_builtin; refine wp_appS rfl _ _ 27 rfl W1.heap.size 54 (.agg #[.int .i64 0, .int .i64 0, .int .i64 0]) 3 24 Tryz.underlying27 (by kernel_rfl) rfl (by decide) (by decide) _ _ _ rfl (own_fr hO5 ((Fr.refl w5).alloc _)) (by omega) (by simp; omega) w5.heap.size 0 1 1 ([f].flatMap cellsF) rfl rfl (fun j u hu => by rw [Nat.zero_add, (Blk.new w5 _ _).cell]; simpa [cellsF] using hu) (by omega) rfl ?_; intro v6 w6 hO6 hg6; have F6 : Fr W1 w6 := Fr.grown (F5.alloc _) hg6 (own_fr hO5 ((Fr.refl w5).alloc _)); have hs6 := F6.size)
          | (at_builtin; refine wp_appS rfl _ _ 27 rfl W1.heap.size 54 (.agg #[.int .i64 0, .int .i64 0, .int .i64 0]) 3 24 Tryz.underlying27 (by kernel_rfl) rfl (by decide) (by decide) _ _ _ rfl hO6 (by omega) (by omega) b (o + k * 3) (xs.length - k) (cap - k) ((xs.drop k).flatMap cellsF) rfl L2 (P2.out _ F6) (by omega) O2 ?_; intro v7 w7 hO7 hg7; have F7 : Fr W1 w7 := Fr.grown F6 hg7 hO6)
          | fail)
        obtain ⟨g7, cap7, rfl, hg7', hc7⟩ := own_formF hO7 (by omega)
        have HO7 := hid hO7
        clear hO7
        go_wp2
        go_ret
        have hlen : k + 1 + (xs.length - k) = (xs.take k ++ f :: xs.drop k).length := by simp; omega
        rw [R.out]
        refine ⟨g7, 0, cap7, by rw [hlen]; rfl, ?_, by omega, F1.trans F7⟩
        have h := HO7.out
        rw [show (xs.take k).flatMap cellsF ++ [f].flatMap cellsF ++ (xs.drop k).flatMap cellsF = (xs.take k ++ f :: xs.drop k).flatMap cellsF by simp] at h
        exact (own_F h hlen).mono rdFact_mono (fromB_le _ _)
/- The walk of the spec's freeze. -/

def FrzAt (w : World) (v : Value) (l : List Fact) : Prop := ∃ b o cap, v = .slice (some ⟨b, o, none⟩) l.length cap ∧ RdSl rdFact w.cell? 3 (some ⟨b, o, none⟩) l ∧ l.length ≤ cap
set_option maxRecDepth 100000 in
set_option maxHeartbeats 2000000 in
theorem specFreezeW (q : Int) (A0 : Option Addr) (c0 : Nat) (hd : List Int) (A1 : Option Addr) (c1 : Nat) (bd : List Atom) (w : World) (hx1 : RdSl rdAtom w.cell? 3 A1 bd) (hl : bd.length ≤ 6) :
    Calls Tryz.prog 56 #[.agg #[.int .i64 q, .slice A0 hd.length c0, .slice A1 bd.length c1]] w fun r w' => ∃ v, r = .returned v ∧ FrzAt w' v (frz bd) ∧ Fr w w' := by
  have HX := hid hx1
  clear hx1
  have BA := (Blk.new w 26 #[.int .i64 q, .slice A0 hd.length c0, .slice A1 bd.length c1]).alloc (.cells #[] 54)
  have F1 : Fr w ((w.alloc (.cells #[.int .i64 q, .slice A0 hd.length c0, .slice A1 bd.length c1] 26)).alloc (.cells #[] 54)) := ((Fr.refl _).alloc _).alloc _
  go_enter Tryz.func56, Tryz.ntmps56
  go_wp2
  generalize (w.alloc (.cells #[.int .i64 q, .slice A0 hd.length c0, .slice A1 bd.length c1] 26)).alloc (.cells #[] 54) = W1 at BA F1 ⊢
  go_loopw [3, 4] (fun s t wr => ∃ (k : Nat) (v : Value), k ≤ bd.length ∧ t = .int .i64 k ∧ v = s ∧ Fr W1 wr ∧ Hid (FrzAt wr v (frz (bd.take k)))) (fun _ t _ => bd.length - (intOf t).toNat)
  case atStart => exact ⟨0, _, by omega, rfl, rfl, Fr.refl _, hid ⟨_, _, _, rfl, RdSl.nil, by simp [frz]⟩⟩
  case round =>
    obtain ⟨k, v, hk, rfl, rfl, hf, hL⟩ := hrel
    obtain ⟨a0, a1, a2, _⟩ := (BA.fr hf).three
    by_cases hlt : k < bd.length
    · obtain ⟨ab, ao, hA, d0, d1, d2⟩ := HX.out.atom hlt
      subst hA
      replace d0 := (F1.trans hf).cell d0
      replace d1 := (F1.trans hf).cell d1
      replace d2 := (F1.trans hf).cell d2
      obtain ⟨b, o, cap, rfl, hR, hcap⟩ := hL.out
      have HR := hid hR
      have hfl := frz_len (bd.take k)
      have hfl2 : (bd.take k).length ≤ 6 := by simp; omega
      have T := hid (frz_take hlt)
      clear hR
      go_wp2_with fail
      (refine wp_region_quiet_tail (fun w' => Fr _ w') 20 (by kernel_rfl) (by kernel_rfl) (Fr.refl _).drew ?_; simp only [List.take_succ_cons, List.take_zero, List.drop_succ_cons, List.drop_zero]; (repeat go_big_quiet_step (first | exact fun _ => rfl | exact fun _ => ⟨rfl, rfl⟩ | (intro hw'; replace a2 := hw'.cell a2; replace d0 := hw'.cell d0; replace d1 := hw'.cell d1; replace d2 := hw'.cell d2; go_simp; first | done | exact rfl | exact ⟨rfl, rfl⟩) )); refine wpQuiet_nil ?_; intro wq hq)
      go_wp2_with fail
      refine (addFact b o cap (frz (bd.take k)) ⟨bd[k].rel, bd[k].x, bd[k].y⟩ _ (HR.out.fr rdFact_mono hq) (by omega) hcap).mono ?_
      rintro r w1 ⟨b', o', cap', rfl, h1, h2, b1⟩
      have H1 := hid h1
      clear h1
      go_wp2
      go_roundw
      case rel => exact ⟨k + 1, _, by omega, by go_num, rfl, (hf.trans hq).trans b1, hid ⟨b', o', cap', by rw [T.out]; rfl, by rw [T.out]; exact H1.out, by rw [T.out]; exact h2⟩⟩
      case measure => simp [intOf]; omega
    · obtain rfl : k = bd.length := by omega
      have HL := hid (show FrzAt wr v (frz bd) by have h := hL.out; rwa [List.take_of_length_le (Nat.le_refl _)] at h)
      clear hL
      go_wp2
      go_ret
      exact ⟨_, rfl, HL.out, F1.trans hf⟩
end Go.Proofs.YtahclhldpcboeaaGreatDoor
