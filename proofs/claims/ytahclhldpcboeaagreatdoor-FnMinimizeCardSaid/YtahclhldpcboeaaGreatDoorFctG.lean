/- Walks of the generators of facts. -/
import Derived.Test.YtahclhldpcboeaaGreatDoorFrzW
import Derived.Test.YtahclhldpcboeaaGreatDoorAppS
import Derived.Test.YtahclhldpcboeaaGreatDoorHeldT
import Derived.Test.YtahclhldpcboeaaGreatDoorGrfG
import Derived.Test.YtahclhldpcboeaaGreatDoorAnsL
namespace Go.Proofs.YtahclhldpcboeaaGreatDoor
open Go Go.RowKit

set_option maxRecDepth 100000 in
set_option maxHeartbeats 4000000 in
theorem addFactO (base b o cap : Nat) (xs : List Fact) (f : Fact) (w : World) (hown : w.ownsRow base 54 3 (.slice (some ⟨b, o, none⟩) xs.length cap) xs.length (xs.flatMap cellsF)) (hbase : base ≤ w.heap.size) (hl : xs.length ≤ 100) :
    Calls Tryz.prog 73 #[.slice (some ⟨b, o, none⟩) xs.length cap, .agg #[.int .i64 f.rel, .int .i64 f.x, .int .i64 f.y]] w fun r w' => ∃ b' cap', r = .returned (.slice (some ⟨b', 0, none⟩) (insF xs f).length cap') ∧ w'.ownsRow base 54 3 (.slice (some ⟨b', 0, none⟩) (insF xs f).length cap') (insF xs f).length ((insF xs f).flatMap cellsF) ∧ Fr w w' := by
  have HX := hid ((own_F hown rfl).mono rdFact_mono (fromB_le _ _))
  obtain ⟨ho, hc⟩ : o = 0 ∧ xs.length ≤ cap := by
    rcases hown.2 with ⟨h, _⟩ | ⟨g, c, cur, hv, _, _, hnc, _⟩
    · cases h
    · injection hv with hA _ hcc
      injection hA with hA
      injection hA with _ hA2 _
      exact ⟨hA2, by rw [hcc]; exact hnc⟩
  have HO0 := hid ho
  have HB := hid hbase
  have HO := hid hown
  clear hown hbase ho
  have BF := Blk.new w 54 #[.int .i64 f.rel, .int .i64 f.x, .int .i64 f.y]
  have F1 : Fr w (w.alloc (.cells #[.int .i64 f.rel, .int .i64 f.x, .int .i64 f.y] 54)) := (Fr.refl _).alloc _
  go_enter Tryz.func73, Tryz.ntmps73
  go_wp2
  generalize w.alloc (.cells #[.int .i64 f.rel, .int .i64 f.x, .int .i64 f.y] 54) = W1 at BF F1 ⊢
  go_loopw [5] (fun t wr => ∃ (k : Nat), k ≤ xs.length ∧ t = .int .i64 k ∧ Fr W1 wr ∧ ∀ i (h : i < xs.length), i < k → xs[i].less f = true) (fun t _ => xs.length - (intOf t).toNat)
  case atStart => exact ⟨0, by omega, rfl, Fr.refl _, fun i _ h => absurd h (by omega)⟩
  case round =>
    obtain ⟨k, hk, rfl, hf, hv⟩ := hrel
    have HV := hid hv
    clear hv
    obtain ⟨f0, f1, f2, _⟩ := (BF.fr hf).three
    have FF := F1.trans hf
    by_cases hlt : k < xs.length
    · obtain ⟨b', o', hA, c0, c1, c2⟩ := HX.out.fact hlt
      cases hA
      replace c0 := FF.cell c0
      replace c1 := FF.cell c1
      replace c2 := FF.cell c2
      have el : decide ((k : Int) < (xs.length : Int)) = true := by simp; omega
      cases hn : xs[k].less f
      · by_cases he : xs[k] = f
        · have R := hid (insF_same hlt HV.out hn he)
          have HN := hid hn
          have E1 : (xs[k].rel == f.rel) = true := by rw [he]; simp
          have E2 : (xs[k].x == f.x) = true := by rw [he]; simp
          have E3 : (xs[k].y == f.y) = true := by rw [he]; simp
          clear hn he
          go_wp2_with fail
          (refine wp_region_quietC (fun w' => Fr _ w') (by kernel_rfl) (by kernel_rfl) (Fr.refl _).drew ?_; (repeat go_big_quiet_step (first | exact fun _ => rfl | exact fun _ => ⟨rfl, rfl⟩ | (intro hw'; replace f0 := hw'.cell f0; replace f1 := hw'.cell f1; replace f2 := hw'.cell f2; replace c0 := hw'.cell c0; replace c1 := hw'.cell c1; replace c2 := hw'.cell c2; go_simp; first | done | exact rfl | exact ⟨rfl, rfl⟩) | (intro hw'; go_at_call 65; refine (factLs xs[k] f _).mono ?_; rintro e w1 ⟨rfl, b1⟩; rw [HN.out]; exact ⟨rfl, Fr.trans hw' b1⟩))); refine wpQuiet_nil ?_; intro wq hq)
          replace f0 := hq.cell f0
          replace f1 := hq.cell f1
          replace f2 := hq.cell f2
          replace c0 := hq.cell c0
          replace c1 := hq.cell c1
          replace c2 := hq.cell c2
          go_wp2_with fail
          have FQ := FF.trans hq
          clear hq
          (refine wp_region_quietC (fun w' => Fr _ w') (by kernel_rfl) (by kernel_rfl) (Fr.refl _).drew ?_; (repeat go_big_quiet_step (first | exact fun _ => rfl | exact fun _ => ⟨rfl, rfl⟩ | (intro hw'; replace f0 := hw'.cell f0; replace f1 := hw'.cell f1; replace f2 := hw'.cell f2; replace c0 := hw'.cell c0; replace c1 := hw'.cell c1; replace c2 := hw'.cell c2; go_simp; first | done | exact rfl | exact ⟨rfl, rfl⟩) )); refine wpQuiet_nil ?_; intro wq hq)
          go_wp2
          go_ret
          rw [R.out]
          exact ⟨b, cap, by rw [HO0.out]; rfl, by have h := own_fr HO.out (FQ.trans hq); rw [HO0.out] at h; exact h, FQ.trans hq⟩
        · have R := hid (insF_new (k := k) hk HV.out (fun _ => ⟨hn, he⟩))
          have HN := hid hn
          have HE := hid he
          clear hn he
          go_wp2_with fail
          (refine wp_region_quietC (fun w' => Fr _ w') (by kernel_rfl) (by kernel_rfl) (Fr.refl _).drew ?_; (repeat go_big_quiet_step (first | exact fun _ => rfl | exact fun _ => ⟨rfl, rfl⟩ | (intro hw'; replace f0 := hw'.cell f0; replace f1 := hw'.cell f1; replace f2 := hw'.cell f2; replace c0 := hw'.cell c0; replace c1 := hw'.cell c1; replace c2 := hw'.cell c2; go_simp; first | done | exact rfl | exact ⟨rfl, rfl⟩) | (intro hw'; go_at_call 65; refine (factLs xs[k] f _).mono ?_; rintro e w1 ⟨rfl, b1⟩; rw [HN.out]; exact ⟨rfl, Fr.trans hw' b1⟩))); refine wpQuiet_nil ?_; intro wq hq)
          replace f0 := hq.cell f0
          replace f1 := hq.cell f1
          replace f2 := hq.cell f2
          replace c0 := hq.cell c0
          replace c1 := hq.cell c1
          replace c2 := hq.cell c2
          go_wp2_with fail
          have FQ := hf.trans hq
          have D3 : ∃ e1 e2 e3, (xs[k].rel == f.rel) = e1 ∧ (xs[k].x == f.x) = e2 ∧ (xs[k].y == f.y) = e3 ∧ (e1 = false ∨ e1 = true ∧ e2 = false ∨ e1 = true ∧ e2 = true ∧ e3 = false) := by
            refine ⟨_, _, _, rfl, rfl, rfl, ?_⟩
            have := HE.out
            rcases hX : xs[k] with ⟨r, x, y⟩
            rcases f with ⟨r', x', y'⟩
            rw [hX] at this
            simp only [Fact.mk.injEq, not_and] at this
            by_cases q1 : r = r'
            · by_cases q2 : x = x'
              · exact .inr (.inr ⟨by simp [q1], by simp [q2], by simpa using this q1 q2⟩)
              · exact .inr (.inl ⟨by simp [q1], by simpa using q2⟩)
            · exact .inl (by simpa using q1)
          obtain ⟨e1, e2, e3, E1, E2, E3, hE⟩ := D3
          clear hq HE
          rcases hE with rfl | ⟨rfl, rfl⟩ | ⟨rfl, rfl, rfl⟩
          all_goals (
            (refine wp_region_quietC (fun w' => Fr _ w') (by kernel_rfl) (by kernel_rfl) (Fr.refl _).drew ?_; (repeat go_big_quiet_step (first | exact fun _ => rfl | exact fun _ => ⟨rfl, rfl⟩ | (intro hw'; replace f0 := hw'.cell f0; replace f1 := hw'.cell f1; replace f2 := hw'.cell f2; replace c0 := hw'.cell c0; replace c1 := hw'.cell c1; replace c2 := hw'.cell c2; go_simp; first | done | exact rfl | exact ⟨rfl, rfl⟩) )); refine wpQuiet_nil ?_; intro wq hq)
            have FQ1 := FQ.trans hq
            clear E1 E2 E3
            have hO0 := hid (own_empty (w := wq) (base := W1.heap.size) (e := 54) (sz := 3) FQ1.size)
            have L1 : ((xs.take k).flatMap cellsF).length = k * 3 := by rw [cellsF_len, List.length_take, Nat.min_eq_left hk]
            have L2 : ((xs.drop k).flatMap cellsF).length = (xs.length - k) * 3 := by rw [cellsF_len, List.length_drop]
            have P1 := hid (fun (W : World) (hW : Fr W1 W) => rd_takeF (k := k) (HX.out.fr rdFact_mono (F1.trans hW)))
            have P2 := hid (fun (W : World) (hW : Fr W1 W) => rd_dropF (k := k) (HX.out.fr rdFact_mono (F1.trans hW)))
            have O1 := cellsF_one (xs.take k)
            have O2 := cellsF_one (xs.drop k)
            have hsq := FQ1.size
            clear c0 c1 c2
            go_wp2_with (first
              | (at_builtin; refine wp_appS rfl _ _ 27 rfl W1.heap.size 54 (.agg #[.int .i64 0, .int .i64 0, .int .i64 0]) 3 24 Tryz.underlying27 (by kernel_rfl) rfl (by decide) (by decide) _ 0 [] rfl hO0.out (by omega) (by simp; omega) b o k cap ((xs.take k).flatMap cellsF) rfl L1 (P1.out _ (FQ1.alloc _)) (by omega) O1 ?_; intro v5 w5 hO5 hg5; have F5 : Fr W1 w5 := Fr.grown (FQ1.alloc _) hg5 hO0.out; have hs5 := F5.size; simp only [Nat.zero_add, List.nil_append] at hO5; have f0' := (BF.fr F5).three.1; have f1' := (BF.fr F5).three.2.1; have f2' := (BF.fr F5).three.2.2.1)
              | (at_builtin; refine wp_appS rfl _ _ 27 rfl W1.heap.size 54 (.agg #[.int .i64 0, .int .i64 0, .int .i64 0]) 3 24 Tryz.underlying27 (by kernel_rfl) rfl (by decide) (by decide) _ _ _ rfl (own_fr hO5 ((Fr.refl w5).alloc _)) (by omega) (by simp; omega) w5.heap.size 0 1 1 ([f].flatMap cellsF) rfl rfl (fun j u hu => by rw [Nat.zero_add, (Blk.new w5 _ _).cell]; simpa [cellsF] using hu) (by omega) rfl ?_; intro v6 w6 hO6 hg6; have F6 : Fr W1 w6 := Fr.grown (F5.alloc _) hg6 (own_fr hO5 ((Fr.refl w5).alloc _)); have hs6 := F6.size)
              | (at_builtin; refine wp_appS rfl _ _ 27 rfl W1.heap.size 54 (.agg #[.int .i64 0, .int .i64 0, .int .i64 0]) 3 24 Tryz.underlying27 (by kernel_rfl) rfl (by decide) (by decide) _ _ _ rfl hO6 (by omega) (by omega) b (o + k * 3) (xs.length - k) (cap - k) ((xs.drop k).flatMap cellsF) rfl L2 (P2.out _ F6) (by omega) O2 ?_; intro v7 w7 hO7 hg7; have F7 : Fr W1 w7 := Fr.grown F6 hg7 hO6)
              | fail)
            obtain ⟨g7, cap7, rfl, hg7', hc7⟩ := own_formF hO7 (by omega)
            have HO7 := hid hO7
            clear hO7
            go_wp2
            go_ret
            have hlen : k + 1 + (xs.length - k) = (xs.take k ++ f :: xs.drop k).length := by simp; omega
            rw [R.out]
            refine ⟨g7, cap7, by rw [hlen]; rfl, ?_, F1.trans F7⟩
            have h := HO7.out
            rw [show (xs.take k).flatMap cellsF ++ [f].flatMap cellsF ++ (xs.drop k).flatMap cellsF = (xs.take k ++ f :: xs.drop k).flatMap cellsF by simp] at h
            rw [hlen] at h; exact own_base h (Nat.le_trans HB.out F1.size)
            )
      · have HN := hid hn
        clear hn
        go_wp2_with fail
        (refine wp_region_quietC (fun w' => Fr _ w') (by kernel_rfl) (by kernel_rfl) (Fr.refl _).drew ?_; (repeat go_big_quiet_step (first | exact fun _ => rfl | exact fun _ => ⟨rfl, rfl⟩ | (intro hw'; replace f0 := hw'.cell f0; replace f1 := hw'.cell f1; replace f2 := hw'.cell f2; replace c0 := hw'.cell c0; replace c1 := hw'.cell c1; replace c2 := hw'.cell c2; go_simp; first | done | exact rfl | exact ⟨rfl, rfl⟩) | (intro hw'; go_at_call 65; refine (factLs xs[k] f _).mono ?_; rintro e w1 ⟨rfl, b1⟩; rw [HN.out]; exact ⟨rfl, Fr.trans hw' b1⟩))); refine wpQuiet_nil ?_; intro wq hq)
        go_wp2
        go_roundw
        case rel => exact ⟨k + 1, by omega, by go_num, hf.trans hq, fun i h hi => by
          by_cases q : i = k
          · subst q; exact HN.out
          · exact HV.out i h (by omega)⟩
        case measure => simp [intOf]; omega
    · have R := hid (insF_new (k := k) hk HV.out (fun h => absurd h hlt))
      have el : decide ((k : Int) < (xs.length : Int)) = false := by simp; omega
      have c0 : True := trivial
      have c1 : True := trivial
      have c2 : True := trivial
      by_cases hcap : k = cap
      · subst hcap
        go_wp2_with fail
        (refine wp_region_quietC (fun w' => Fr _ w') (by kernel_rfl) (by kernel_rfl) (Fr.refl _).drew ?_; (repeat go_big_quiet_step (first | exact fun _ => rfl | exact fun _ => ⟨rfl, rfl⟩ | (intro hw'; replace f0 := hw'.cell f0; replace f1 := hw'.cell f1; replace f2 := hw'.cell f2; go_simp; first | done | exact rfl | exact ⟨rfl, rfl⟩) )); refine wpQuiet_nil ?_; intro wq hq)
        have FQ := hf.trans hq
        clear hq
        go_wp2_with fail
        (refine wp_region_quietC (fun w' => Fr _ w') (by kernel_rfl) (by kernel_rfl) (Fr.refl _).drew ?_; (repeat go_big_quiet_step (first | exact fun _ => rfl | exact fun _ => ⟨rfl, rfl⟩ | (intro hw'; replace f0 := hw'.cell f0; replace f1 := hw'.cell f1; replace f2 := hw'.cell f2; go_simp; first | done | exact rfl | exact ⟨rfl, rfl⟩) )); refine wpQuiet_nil ?_; intro wq hq)
        have FQ1 := FQ.trans hq
        have hO0 := hid (own_empty (w := wq) (base := W1.heap.size) (e := 54) (sz := 3) FQ1.size)
        have L1 : ((xs.take k).flatMap cellsF).length = k * 3 := by rw [cellsF_len, List.length_take, Nat.min_eq_left hk]
        have L2 : ((xs.drop k).flatMap cellsF).length = (xs.length - k) * 3 := by rw [cellsF_len, List.length_drop]
        have P1 := hid (fun (W : World) (hW : Fr W1 W) => rd_takeF (k := k) (HX.out.fr rdFact_mono (F1.trans hW)))
        have P2 := hid (fun (W : World) (hW : Fr W1 W) => rd_dropF (k := k) (HX.out.fr rdFact_mono (F1.trans hW)))
        have O1 := cellsF_one (xs.take k)
        have O2 := cellsF_one (xs.drop k)
        have hsq := FQ1.size
        clear c0 c1 c2
        go_wp2_with (first
          | (at_builtin; refine wp_appS rfl _ _ 27 rfl W1.heap.size 54 (.agg #[.int .i64 0, .int .i64 0, .int .i64 0]) 3 24 Tryz.underlying27 (by kernel_rfl) rfl (by decide) (by decide) _ 0 [] rfl hO0.out (by omega) (by simp; omega) b o k k ((xs.take k).flatMap cellsF) rfl L1 (P1.out _ (FQ1.alloc _)) (by omega) O1 ?_; intro v5 w5 hO5 hg5; have F5 : Fr W1 w5 := Fr.grown (FQ1.alloc _) hg5 hO0.out; have hs5 := F5.size; simp only [Nat.zero_add, List.nil_append] at hO5; have f0' := (BF.fr F5).three.1; have f1' := (BF.fr F5).three.2.1; have f2' := (BF.fr F5).three.2.2.1)
          | (at_builtin; refine wp_appS rfl _ _ 27 rfl W1.heap.size 54 (.agg #[.int .i64 0, .int .i64 0, .int .i64 0]) 3 24 Tryz.underlying27 (by kernel_rfl) rfl (by decide) (by decide) _ _ _ rfl (own_fr hO5 ((Fr.refl w5).alloc _)) (by omega) (by simp; omega) w5.heap.size 0 1 1 ([f].flatMap cellsF) rfl rfl (fun j u hu => by rw [Nat.zero_add, (Blk.new w5 _ _).cell]; simpa [cellsF] using hu) (by omega) rfl ?_; intro v6 w6 hO6 hg6; have F6 : Fr W1 w6 := Fr.grown (F5.alloc _) hg6 (own_fr hO5 ((Fr.refl w5).alloc _)); have hs6 := F6.size)
          | (at_builtin; refine wp_appS rfl _ _ 27 rfl W1.heap.size 54 (.agg #[.int .i64 0, .int .i64 0, .int .i64 0]) 3 24 Tryz.underlying27 (by kernel_rfl) rfl (by decide) (by decide) _ _ _ rfl hO6 (by omega) (by omega) b o 0 0 [] rfl rfl (fun j u hu => by simp at hu) (by omega) rfl ?_; intro v7 w7 hO7' hg7; have hO7 : w7.ownsRow W1.heap.size 54 3 v7 (k + 1 + (xs.length - k)) ((xs.take k).flatMap cellsF ++ [f].flatMap cellsF ++ (xs.drop k).flatMap cellsF) := (by rw [List.drop_eq_nil_of_le (show xs.length ≤ k by omega), show xs.length - k = 0 by omega]; simpa using hO7'); have F7 : Fr W1 w7 := Fr.grown F6 hg7 hO6)
          | fail)
        obtain ⟨g7, cap7, rfl, hg7', hc7⟩ := own_formF hO7 (by omega)
        have HO7 := hid hO7
        clear hO7
        go_wp2
        go_ret
        have hlen : k + 1 + (xs.length - k) = (xs.take k ++ f :: xs.drop k).length := by simp; omega
        rw [R.out]
        refine ⟨g7, cap7, by rw [hlen]; rfl, ?_, F1.trans F7⟩
        have h := HO7.out
        rw [show (xs.take k).flatMap cellsF ++ [f].flatMap cellsF ++ (xs.drop k).flatMap cellsF = (xs.take k ++ f :: xs.drop k).flatMap cellsF by simp] at h
        rw [hlen] at h; exact own_base h (Nat.le_trans HB.out F1.size)
      · have hcap' : ¬ cap = k := fun e => hcap e.symm
        go_wp2_with fail
        (refine wp_region_quietC (fun w' => Fr _ w') (by kernel_rfl) (by kernel_rfl) (Fr.refl _).drew ?_; (repeat go_big_quiet_step (first | exact fun _ => rfl | exact fun _ => ⟨rfl, rfl⟩ | (intro hw'; replace f0 := hw'.cell f0; replace f1 := hw'.cell f1; replace f2 := hw'.cell f2; go_simp; first | done | exact rfl | exact ⟨rfl, rfl⟩) )); refine wpQuiet_nil ?_; intro wq hq)
        have FQ := hf.trans hq
        clear hq
        go_wp2_with fail
        (refine wp_region_quietC (fun w' => Fr _ w') (by kernel_rfl) (by kernel_rfl) (Fr.refl _).drew ?_; (repeat go_big_quiet_step (first | exact fun _ => rfl | exact fun _ => ⟨rfl, rfl⟩ | (intro hw'; replace f0 := hw'.cell f0; replace f1 := hw'.cell f1; replace f2 := hw'.cell f2; go_simp; first | done | exact rfl | exact ⟨rfl, rfl⟩) )); refine wpQuiet_nil ?_; intro wq hq)
        have FQ1 := FQ.trans hq
        have hO0 := hid (own_empty (w := wq) (base := W1.heap.size) (e := 54) (sz := 3) FQ1.size)
        have L1 : ((xs.take k).flatMap cellsF).length = k * 3 := by rw [cellsF_len, List.length_take, Nat.min_eq_left hk]
        have L2 : ((xs.drop k).flatMap cellsF).length = (xs.length - k) * 3 := by rw [cellsF_len, List.length_drop]
        have P1 := hid (fun (W : World) (hW : Fr W1 W) => rd_takeF (k := k) (HX.out.fr rdFact_mono (F1.trans hW)))
        have P2 := hid (fun (W : World) (hW : Fr W1 W) => rd_dropF (k := k) (HX.out.fr rdFact_mono (F1.trans hW)))
        have O1 := cellsF_one (xs.take k)
        have O2 := cellsF_one (xs.drop k)
        have hsq := FQ1.size
        clear c0 c1 c2
        go_wp2_with (first
          | (at_builtin; refine wp_appS rfl _ _ 27 rfl W1.heap.size 54 (.agg #[.int .i64 0, .int .i64 0, .int .i64 0]) 3 24 Tryz.underlying27 (by kernel_rfl) rfl (by decide) (by decide) _ 0 [] rfl hO0.out (by omega) (by simp; omega) b o k cap ((xs.take k).flatMap cellsF) rfl L1 (P1.out _ (FQ1.alloc _)) (by omega) O1 ?_; intro v5 w5 hO5 hg5; have F5 : Fr W1 w5 := Fr.grown (FQ1.alloc _) hg5 hO0.out; have hs5 := F5.size; simp only [Nat.zero_add, List.nil_append] at hO5; have f0' := (BF.fr F5).three.1; have f1' := (BF.fr F5).three.2.1; have f2' := (BF.fr F5).three.2.2.1)
          | (at_builtin; refine wp_appS rfl _ _ 27 rfl W1.heap.size 54 (.agg #[.int .i64 0, .int .i64 0, .int .i64 0]) 3 24 Tryz.underlying27 (by kernel_rfl) rfl (by decide) (by decide) _ _ _ rfl (own_fr hO5 ((Fr.refl w5).alloc _)) (by omega) (by simp; omega) w5.heap.size 0 1 1 ([f].flatMap cellsF) rfl rfl (fun j u hu => by rw [Nat.zero_add, (Blk.new w5 _ _).cell]; simpa [cellsF] using hu) (by omega) rfl ?_; intro v6 w6 hO6 hg6; have F6 : Fr W1 w6 := Fr.grown (F5.alloc _) hg6 (own_fr hO5 ((Fr.refl w5).alloc _)); have hs6 := F6.size)
          | (at_builtin; refine wp_appS rfl _ _ 27 rfl W1.heap.size 54 (.agg #[.int .i64 0, .int .i64 0, .int .i64 0]) 3 24 Tryz.underlying27 (by kernel_rfl) rfl (by decide) (by decide) _ _ _ rfl hO6 (by omega) (by omega) b (o + k * 3) (xs.length - k) (cap - k) ((xs.drop k).flatMap cellsF) rfl L2 (P2.out _ F6) (by omega) O2 ?_; intro v7 w7 hO7 hg7; have F7 : Fr W1 w7 := Fr.grown F6 hg7 hO6)
          | fail)
        obtain ⟨g7, cap7, rfl, hg7', hc7⟩ := own_formF hO7 (by omega)
        have HO7 := hid hO7
        clear hO7
        go_wp2
        go_ret
        have hlen : k + 1 + (xs.length - k) = (xs.take k ++ f :: xs.drop k).length := by simp; omega
        rw [R.out]
        refine ⟨g7, cap7, by rw [hlen]; rfl, ?_, F1.trans F7⟩
        have h := HO7.out
        rw [show (xs.take k).flatMap cellsF ++ [f].flatMap cellsF ++ (xs.drop k).flatMap cellsF = (xs.take k ++ f :: xs.drop k).flatMap cellsF by simp] at h
        rw [hlen] at h; exact own_base h (Nat.le_trans HB.out F1.size)
/-- Facts that have been drawn: a row of one's own, small numbers. -/
def FOwn (base : Nat) (w : World) (b cap : Nat) (fs : List Fact) : Prop := w.ownsRow base 54 3 (.slice (some ⟨b, 0, none⟩) fs.length cap) fs.length (fs.flatMap cellsF)
def SmF (fs : List Fact) : Prop := ∀ f ∈ fs, f.x < 4 ∧ f.y < 4
theorem smF_ins {fs : List Fact} {f : Fact} (h : SmF fs) (h1 : f.x < 4) (h2 : f.y < 4) : SmF (insF fs f) := fun g hg => by
  rcases mem_insF.1 hg with rfl | hg
  · exact ⟨h1, h2⟩
  · exact h g hg
def FcOut (w0 : World) (r p : Nat) (e : Ending) (w : World) : Prop := ∃ b cap fs, e = .returned (.slice (some ⟨b, 0, none⟩) fs.length cap) ∧ FOwn w0.heap.size w b cap fs ∧ fs.length ≤ 8 ∧ SmF fs ∧ Drawn 40 r p w0 w
/-- Facts that may be invalid: small, or invalid. -/
def FcAny (w0 : World) (r p : Nat) (e : Ending) (w : World) : Prop := ∃ b cap fs, e = .returned (.slice (some ⟨b, 0, none⟩) fs.length cap) ∧ FOwn w0.heap.size w b cap fs ∧ fs.length ≤ 9 ∧ (vfacts fs = true → SmF fs) ∧ Drawn 50 r p w0 w
attribute [-go_sem] Builtin.append_
set_option maxRecDepth 100000 in
set_option maxHeartbeats 4000000 in
theorem randomFacts (r p : Nat) (w : World) (hr : Rdr w r p) (hp : p ≤ 900000) :
    Calls Tryz.prog 49 #[.pointer (some ⟨r, 0, none⟩)] w (FcOut w r p) := by
  have hlt := hr.lt
  have O0 : (w.alloc (.cells #[] 54)).ownsRow w.heap.size 54 3 (.slice (some ⟨w.heap.size, 0, none⟩) 0 0) 0 [] := own_empty (Nat.le_refl _)
  have C0 : Ch (· = r) w (w.alloc (.cells #[] 54)) := (Ch.refl w).alloc _
  have hr0 := hr.alloc (.cells #[] 54)
  go_enter Tryz.func49, Tryz.ntmps49
  go_wp2_with fail
  refine absW fun W0 hW0 => ?_
  rw [← hW0] at O0 C0 hr0
  clear hW0
  refine (pick _ r p _ hr0 (by omega) (by omega)).mono ?_
  rintro e w1 ⟨v, rfl, hv, hr1, hc1⟩
  have hv9 : v < 9 := by omega
  have O1 := gown_ch O0 hc1 hlt
  have C1 := C0.trans hc1
  clear hv O0 C0 hr0 hc1
  have S1 := hid (And.intro O1 (And.intro C1 hr1))
  clear O1 C1 hr1
  go_wp2
  go_loopw [3, 4] (fun t u wr => ∃ (k b cap : Nat) (fs : List Fact), fs.length + k ≤ 8 ∧ t = .slice (some ⟨b, 0, none⟩) fs.length cap ∧ u = .int .i64 k ∧ Hid (FOwn w.heap.size wr b cap fs ∧ SmF fs ∧ Ch (· = r) w wr ∧ ∃ q', q' + 3 * k ≤ p + 30 ∧ Rdr wr r q')) (fun _ u _ => (intOf u).toNat)
  case atStart => exact ⟨v, _, 0, [], by simp; omega, rfl, rfl, hid ⟨S1.out.1, (fun _ h => by cases h), S1.out.2.1, _, by omega, S1.out.2.2⟩⟩
  case round =>
    clear S1
    obtain ⟨k, b, cap, fs, hk8, rfl, rfl, hS⟩ := hrel
    obtain ⟨hO, hsm, hC, q', hq', hrd⟩ := hS.out
    have HO := hid hO
    have HS1 := hid hsm
    have hsz := hC.size
    clear hO hsm
    by_cases hk0 : 0 < k
    · have d0 : decide ((0 : Int) < (k : Int)) = true := decide_eq_true (by omega)
      have d0' : decide (0 < k) = true := decide_eq_true hk0
      go_wp2_with fail
      refine (pick _ r q' _ hrd (by omega) (by omega)).mono ?_
      rintro e w3 ⟨y1, rfl, _, hr3, hc3⟩
      go_wp2_with fail
      refine (pick _ r (q' + 1) _ hr3 (by omega) (by omega)).mono ?_
      rintro e w4 ⟨y2, rfl, hy2, hr4, hc4⟩
      have F4 : Ch (· = r) wr w4 := Ch.trans hc3 hc4
      go_wp2_with fail
      refine (pick _ r (q' + 1 + 1) _ hr4 (by omega) (by omega)).mono ?_
      rintro e w5 ⟨y3, rfl, hy3, hr5, hc5⟩
      have F5 : Ch (· = r) wr w5 := Ch.trans F4 hc5
      have O5 := gown_ch HO.out F5 hlt
      have hs5 := F5.size
      go_wp2_with fail
      refine (addFactO w.heap.size b 0 cap fs ⟨y1, y2, y3⟩ _ O5 (by omega) (by omega)).mono ?_
      rintro e w6 ⟨b6, cap6, rfl, O6, F6⟩
      have hl6 := insF_len fs ⟨y1, y2, y3⟩
      have S6 := hid (show FOwn w.heap.size w6 b6 cap6 (insF fs ⟨y1, y2, y3⟩) ∧ SmF (insF fs ⟨y1, y2, y3⟩) ∧ Ch (· = r) w w6 ∧ ∃ q'', q'' + 3 * (k - 1) ≤ p + 30 ∧ Rdr w6 r q'' from ⟨O6, smF_ins HS1.out (show ((y2 : Nat) : Int) < 4 by omega) (show ((y3 : Nat) : Int) < 4 by omega), hC.trans (F5.trans F6.ch), _, by omega, hr5.fr F6⟩)
      clear O6 O5 F6 HO HS1
      go_wp2
      go_roundw
      · exact ⟨k - 1, b6, cap6, _, by omega, rfl, by congr 1; omega, S6⟩
      · (simp [intOf]; omega)
    · obtain rfl : k = 0 := by omega
      go_wp2
      go_ret
      exact ⟨b, cap, fs, rfl, HO.out, by omega, HS1.out, q', by omega, hrd, hC⟩
theorem own_putF {w : World} {base e sz g n cap i : Nat} {xs : List Value} (h : w.ownsRow base e sz (.slice (some ⟨g, 0, none⟩) n cap) n xs) (u : Value) : (w.setCell ⟨g, i, none⟩ u).ownsRow base e sz (.slice (some ⟨g, 0, none⟩) n cap) n (xs.set i u) := by
  obtain ⟨hl, h | ⟨g', cap', cur, hv, hg, hh, hnc, hcm, hcs, ht⟩⟩ := h
  · cases h.1
  · injection hv with hA _ hc
    injection hA with hA
    injection hA with hA _ _
    subst hA hc
    refine ⟨by rw [List.length_set]; exact hl, .inr ⟨g, cap, _, rfl, hg, (show Blk w g e cur from hh).set_ i u, hnc, hcm, by simpa using hcs, ?_⟩⟩
    rw [← ht]
    simp [List.take_set]
theorem any_x {f : Fact} {xs : List Fact} {z : Int} (h : SmF (f :: xs)) (hz : z ∈ [(-1 : Int), 10000]) : vfacts (⟨f.rel, z, f.y⟩ :: xs) = true → SmF (⟨f.rel, z, f.y⟩ :: xs) := fun hv g hg => by
  rcases List.mem_cons.1 hg with rfl | hg
  · have h1 := (vfacts_parts hv).2.1 ⟨f.rel, z, f.y⟩ (by simp)
    have h2 := h f (by simp)
    simp only [List.mem_cons, List.not_mem_nil, or_false] at hz
    exact ⟨by show z < 4; have : z ≤ 9999 := h1.2.2.2.1; omega, h2.2⟩
  · exact h g (by simp [hg])
theorem FcAny.mk {w0 w : World} {r p b cap n : Nat} {fs : List Fact} (hn : fs.length = n) (h : FOwn w0.heap.size w b cap fs) (hl : fs.length ≤ 9) (hs : vfacts fs = true → SmF fs) (hd : Drawn 50 r p w0 w) : FcAny w0 r p (.returned (.slice (some ⟨b, 0, none⟩) n cap)) w := by
  subst hn
  exact ⟨b, cap, fs, rfl, h, hl, hs, hd⟩
set_option maxRecDepth 100000 in
set_option maxHeartbeats 4000000 in
theorem anyFacts (r p : Nat) (w : World) (hr : Rdr w r p) (hp : p ≤ 900000) :
    Calls Tryz.prog 24 #[.pointer (some ⟨r, 0, none⟩)] w (FcAny w r p) := by
  have hlt := hr.lt
  go_enter Tryz.func24, Tryz.ntmps24
  go_wp2_with fail
  refine (randomFacts r p _ hr (by omega)).mono ?_
  rintro e w1 ⟨b, cap, fs, rfl, O1, hl, hsm, q', hq', hr1, hc1⟩
  have HO1 := hid O1
  have HS1 := hid hsm
  have hsz := hc1.size
  clear O1 hsm
  cases fs with
  | nil =>
    simp only [List.length_nil]
    go_wp2
    go_ret
    exact FcAny.mk (fs := []) rfl HO1.out (by simp) (fun _ => HS1.out) ⟨q', by omega, hr1, hc1⟩
  | cons f xs =>
    obtain ⟨n, hn⟩ : ∃ n, (f :: xs).length = n := ⟨_, rfl⟩
    have HN := hid hn
    have hn0 : (0 : Int) < (n : Int) := by rw [← hn]; simp
    have hn0' : 0 < n := by omega
    have hn8 : n ≤ 8 := by omega
    have dn : decide (0 < n) = true := decide_eq_true hn0'
    rw [hn]
    clear hn hl
    go_wp2_with fail
    refine (pick _ r q' _ hr1 (by omega) (by omega)).mono ?_
    rintro e w2 ⟨v, rfl, _, hr2, hc2⟩
    have C2 := hc1.trans hc2
    have O2 := hid (gown_ch HO1.out hc2 hlt)
    have hsz2 := C2.size
    clear hc1 hc2 HO1 hr1
    cases e0 : ((v : Int) == 0)
    · cases e1 : ((v : Int) == 1)
      · go_wp2
        go_ret
        exact FcAny.mk (fs := f :: xs) HN.out O2.out (by have := HN.out; omega) (fun _ => HS1.out) ⟨q' + 1, by omega, hr2, C2⟩
      · obtain ⟨hbl, hbf⟩ : w2.frozen? ⟨b, 1, none⟩ = false ∧ w.heap.size ≤ b := by
          rcases O2.out.2 with ⟨h, _⟩ | ⟨g, cap, cur, hv, hg, hh, _⟩
          · cases h
          · injection hv with hA _ hc
            injection hA with hA
            injection hA with hA1 hA2 _
            subst hA1
            exact ⟨(show Blk w2 _ 54 cur from hh).frozen 1, hg⟩
        go_wp2_with fail
        go_at_call 50
        refine (one _ _ [-1, 10000] r (q' + 1) _ (hr2.alloc _) (by omega) (lit_ints (xs := [-1, 10000]) (by have := hr2.lt; omega)) (by simp) (by simp)).mono ?_
        rintro e w4 ⟨z, hz, rfl, hr4, hc4⟩
        have F4 : Ch (· = r) w2 w4 := ((Ch.refl w2).alloc _).trans hc4
        have O4 := hid (gown_ch O2.out F4 hlt)
        have c4 : w4.cell? ⟨b, 1, none⟩ = some (.int .i64 f.x) := own_cells O4.out 1 _ rfl
        have hf4 : w4.frozen? ⟨b, 1, none⟩ = false := by
          rcases O4.out.2 with ⟨h, _⟩ | ⟨g, cap, cur, hv, hg, hh, _⟩
          · cases h
          · injection hv with hA _ hc
            injection hA with hA
            injection hA with hA1 hA2 _
            subst hA1
            exact (show Blk w4 _ 54 cur from hh).frozen 1
        have FIN := hid (FcAny.mk (w0 := w) (w := w4.setCell ⟨b, 1, none⟩ (.int .i64 z)) (r := r) (p := p) (fs := ⟨f.rel, z, f.y⟩ :: xs) HN.out (own_putF (i := 1) O4.out (.int .i64 z)) (by have : (f :: xs).length = n := HN.out; show (f :: xs).length ≤ 9; omega) (any_x HS1.out hz) ⟨q' + 1 + 1, by omega, hr4.set (by show r < b; omega) _, (C2.trans F4).setNew hbf _⟩)
        clear O2 hbl hz hr2 hc4
        go_wp2
        go_ret
        exact FIN.out
    · have c0 : w2.cell? ⟨b, 0, none⟩ = some (.int .i64 f.rel) := own_cells O2.out 0 _ rfl
      have c1 : w2.cell? ⟨b, 1, none⟩ = some (.int .i64 f.x) := own_cells O2.out 1 _ rfl
      have c2 : w2.cell? ⟨b, 2, none⟩ = some (.int .i64 f.y) := own_cells O2.out 2 _ rfl
      have O2n : w2.ownsRow w.heap.size 54 3 (.slice (some ⟨b, 0, none⟩) n cap) n ((f :: xs).flatMap cellsF) := by have := O2.out; unfold FOwn at this; rw [HN.out] at this; exact this
      have HO2 := hid O2n
      clear O2n O2
      go_wp2_with (first
        | (at_builtin; refine wp_appS rfl _ _ 27 rfl w.heap.size 54 (.agg #[.int .i64 0, .int .i64 0, .int .i64 0]) 3 24 Tryz.underlying27 (by kernel_rfl) rfl (by decide) (by decide) _ _ _ rfl (own_fr HO2.out ((Fr.refl w2).alloc _)) (by omega) (by simp; omega) w2.heap.size 0 1 1 ([f].flatMap cellsF) rfl rfl (fun j u hu => by rw [Nat.zero_add, (Blk.new w2 _ _).cell]; simpa [cellsF] using hu) (by omega) rfl ?_; intro v6 w6 hO6 hg6; obtain ⟨g6, cap6, rfl, hg6', hc6⟩ := own_formF hO6 (by omega))
        | fail)
      have FIN := hid (FcAny.mk (w0 := w) (w := w6) (r := r) (p := p) (b := g6) (cap := cap6) (n := n + 1) (fs := (f :: xs) ++ [f]) (by rw [List.length_append, HN.out]; rfl) (by unfold FOwn; rw [List.length_append, HN.out, List.flatMap_append]; exact hO6) (by rw [List.length_append, HN.out]; show n + 1 ≤ 9; omega) (fun _ g hg => by
        rcases List.mem_append.1 hg with h | h
        · exact HS1.out g h
        · exact HS1.out g (by rw [List.mem_singleton.1 h]; simp)) ⟨q' + 1, by omega, (hr2.alloc _).grown hg6 (fun k hk => by have := (HO2.out.lt k hk).1; omega), (C2.alloc _).grown hg6 (fun k hk => (HO2.out.lt k hk).1)⟩)
      clear hO6 hg6 HO2
      go_wp2
      go_ret
      exact FIN.out
/-- A query and facts, drawn anew. -/
def ADrawn (w0 : World) (e : Ending) (w : World) : Prop := ∃ (q : Int) (hd : List Int) (bd : List Atom) (fs : List Fact) (A0 : Option Addr) (c0 : Nat) (A1 : Option Addr) (c1 b cap : Nat),
  e = .returned (.tuple #[.agg #[.int .i64 q, .slice A0 hd.length c0, .slice A1 bd.length c1], .slice (some ⟨b, 0, none⟩) fs.length cap]) ∧
  (w.ownsRow w0.heap.size 3 1 (.slice A0 hd.length c0) hd.length (hd.map iv) ∧ w.ownsRow w0.heap.size 63 3 (.slice A1 bd.length c1) bd.length (bd.flatMap cellsA) ∧ FOwn w0.heap.size w b cap fs) ∧
  (0 ≤ q ∧ (q ≤ 4 ∨ q = 7) ∧ hd.length ≤ 3 ∧ bd.length ≤ 4 ∧ fs.length ≤ 9 ∧ (vfacts fs = true → SmF fs)) ∧ Fr w0 w
set_option maxRecDepth 100000 in
set_option maxHeartbeats 2000000 in
theorem drawAnswers (A : Option Addr) (cap : Nat) (xs : List Nat) (w : World) (hx : RdSl rdByte w.cell? 1 A xs) (hl : xs.length ≤ 1048576) (hc : xs.length ≤ cap) :
    Calls Tryz.prog 15 #[.slice A xs.length cap] w (ADrawn w) := by
  have HX := hid hx
  have BQ := Blk.new w 26 #[.int .i64 0, .slice none 0 0, .slice none 0 0]
  have F0 : Fr w (w.alloc (.cells #[.int .i64 0, .slice none 0 0, .slice none 0 0] 26)) := (Fr.refl w).alloc _
  clear hx
  go_enter Tryz.func15, Tryz.ntmps15
  go_wp2_with fail
  refine (newReader A cap xs _ (HX.out.fr rdByte_mono F0) hl hc).mono ?_
  rintro e w1 ⟨r, rfl, hr, hrd, hF1⟩
  rw [World.size_alloc] at hr
  have F1 := F0.trans hF1
  replace BQ := BQ.fr hF1
  clear hF1
  go_wp2_with fail
  refine (anyRule r 0 _ hrd (by omega)).mono ?_
  rintro e w2 ⟨q, hd, bd, ⟨A0, c0, A1, c1, rfl, hR, hE⟩, h0, h4, l0, l1, q', hq', hr2, hC⟩
  replace BQ := BQ.ch hC (by omega)
  have F2 : Fr w w2 := hC.fr (fun j hj => by have : j = r := hj; omega) F1
  have hsz := hC.size
  have hrl := hrd.lt
  have hw1 := F1.size
  have BG := Blk.new w2 26 #[.int .i64 q, .slice A0 hd.length c0, .slice A1 bd.length c1]
  have S3 := hid (show Blk (w2.alloc (.cells #[.int .i64 q, .slice A0 hd.length c0, .slice A1 bd.length c1] 26)) w.heap.size 26 #[.int .i64 0, .slice none 0 0, .slice none 0 0] ∧ (w2.alloc (.cells #[.int .i64 q, .slice A0 hd.length c0, .slice A1 bd.length c1] 26)).ownsRow w1.heap.size 3 1 (.slice A0 hd.length c0) hd.length (hd.map iv) ∧ (w2.alloc (.cells #[.int .i64 q, .slice A0 hd.length c0, .slice A1 bd.length c1] 26)).ownsRow w1.heap.size 63 3 (.slice A1 bd.length c1) bd.length (bd.flatMap cellsA) ∧ Rdr (w2.alloc (.cells #[.int .i64 q, .slice A0 hd.length c0, .slice A1 bd.length c1] 26)) r q' ∧ Fr w (w2.alloc (.cells #[.int .i64 q, .slice A0 hd.length c0, .slice A1 bd.length c1] 26)) from
    ⟨BQ.alloc _, own_fr hR ((Fr.refl _).alloc _), own_fr hE ((Fr.refl _).alloc _), hr2.alloc _, F2.alloc _⟩)
  have hgl := BG.lt
  clear BQ hR hE hrd hr2 hC F1 F2
  go_wp2_with fail
  obtain ⟨g, hg⟩ : ∃ g, w2.heap.size = g := ⟨_, rfl⟩
  rw [hg] at hsz
  simp only [hg] at BG hgl ⊢
  obtain ⟨W3, hW3⟩ : ∃ W3, w2.alloc (.cells #[.int .i64 q, .slice A0 hd.length c0, .slice A1 bd.length c1] 26) = W3 := ⟨_, rfl⟩
  rw [hW3] at S3 BG hgl ⊢
  clear hW3 hg
  obtain ⟨k0, k1, k2, k3, k4⟩ := S3.out
  have K0 := hid k0
  have K1 := hid k1
  have K2 := hid k2
  clear k0 k1 k2 S3
  obtain ⟨c5, c6, c7, _⟩ := BG.three
  have HB := hid BG
  have hgr : ¬ (g = r) := by omega
  clear BG
  have keepQ : ∀ W, Ch (· = r) W3 W → W.cell? ⟨g, 0, none⟩ = some (.int .i64 q) ∧ W.cell? ⟨g, 1, none⟩ = some (.slice A0 hd.length c0) ∧ W.cell? ⟨g, 2, none⟩ = some (.slice A1 bd.length c1) := fun W h => ⟨h.cell hgr c5, h.cell hgr c6, h.cell hgr c7⟩
  refine wp_region_T (fun W => W.cell? ⟨g, 0, none⟩ = some (.int .i64 q) ∧ W.cell? ⟨g, 1, none⟩ = some (.slice A0 hd.length c0) ∧ W.cell? ⟨g, 2, none⟩ = some (.slice A1 bd.length c1)) 4 (by kernel_rfl) ?_
  have HS := keepQ _ (Ch.refl W3).drew
  ((refine wpAnyT_take 0 (v := ?_) rfl (by kernel_rfl) (fun _ _ _ h => h) (Or.inl ⟨by rfl, ?_⟩) (by assumption) ?_; rotate_left; (focus (intro W hSw; (try dsimp only at hSw); go_simp; (try with_reducible rfl); done)); (try simp only [Act.put, List.setIfInBounds_toArray, List.set_cons_zero, List.set_cons_succ])); (refine wpAnyT_take 1 (v := ?_) rfl (by kernel_rfl) (fun _ _ _ h => h) (Or.inl ⟨by rfl, ?_⟩) (by assumption) ?_; rotate_left; (focus (intro W hSw; (try dsimp only at hSw); go_simp; (try with_reducible rfl); done)); (try simp only [Act.put, List.setIfInBounds_toArray, List.set_cons_zero, List.set_cons_succ])))
  ((refine wpAnyT_one 2 rfl (by kernel_rfl) (fun K hK => ?_); go_simp))
  go_at_call 24
  refine (anyFacts r q' _ (by (repeat (first | with_reducible assumption | with_reducible refine Rdr.alloc ?_ _ | with_reducible refine Rdr.drew ?_ | (with_reducible refine Rdr.set2 ?_ ?_ _; · (simp <;> omega))))) (by omega)).mono ?_
  rintro e w4 ⟨b, cap, fs, rfl, O4, l9, hsm, _, _, _, hc4⟩
  have F4 : Ch (· = r) W3 w4 := Ch.trans (show Ch (· = r) W3 _ from Fr.ch (by (repeat (first | with_reducible exact Fr.refl _ | with_reducible assumption | with_reducible refine Fr.alloc ?_ _ | with_reducible refine Fr.drew ?_ | with_reducible refine Fr.drewN ?_ _ | (with_reducible refine Fr.setNew2 ?_ ?_ _; · (simp <;> omega)) | with_reducible refine Fr.trans ?_ (by assumption))))) hc4
  have HS := keepQ _ F4
  have B4 := K0.out.ch F4 (by omega)
  have R4 := gown_ch K1.out F4 (by omega)
  have E4 := gown_ch K2.out F4 (by omega)
  have G4 := HB.out.ch F4 hgr
  have hs3 : w1.heap.size ≤ W3.heap.size := by omega
  have hs4 := F4.size
  have N1 := own_ne R4 B4 (by decide)
  have N2 := own_ne E4 B4 (by decide)
  have O4' := own_base (base' := w.heap.size) (show w4.ownsRow W3.heap.size 54 3 (.slice (some ⟨b, 0, none⟩) fs.length cap) fs.length (fs.flatMap cellsF) from O4) (by omega)
  have N3 := own_ne O4' B4 (by decide)
  obtain ⟨d0, d1, d2, f0, f1, f2⟩ := B4.three
  obtain ⟨e0, e1, e2, _⟩ := G4.three
  have hbl := B4.lt
  have hng : ¬ (w.heap.size = g) := by omega
  have hng' : ¬ (g = w.heap.size) := by omega
  have FIN := hid (show ADrawn w (.returned (.tuple #[.agg #[.int .i64 q, .slice A0 hd.length c0, .slice A1 bd.length c1], .slice (some ⟨b, 0, none⟩) fs.length cap])) (((w4.setCell ⟨w.heap.size, 0, none⟩ (.int .i64 q)).setCell ⟨w.heap.size, 1, none⟩ (.slice A0 hd.length c0)).setCell ⟨w.heap.size, 2, none⟩ (.slice A1 bd.length c1)) from
    ⟨q, hd, bd, fs, A0, c0, A1, c1, b, cap, rfl, ⟨own_base (own_set (own_set (own_set R4 N1) N1) N1) hw1, own_base (own_set (own_set (own_set E4 N2) N2) N2) hw1, own_set (own_set (own_set O4' N3) N3) N3⟩, ⟨h0, h4, l0, l1, l9, hsm⟩,
      (((F4.fr (fun j hj => by have : j = r := hj; omega) k4).setNew (Nat.le_refl _) _).setNew (Nat.le_refl _) _).setNew (Nat.le_refl _) _⟩)
  have BF := ((B4.set_ 0 (.int .i64 q)).set_ 1 (.slice A0 hd.length c0)).set_ 2 (.slice A1 bd.length c1)
  have HS9 : (((w4.setCell ⟨w.heap.size, 0, none⟩ (.int .i64 q)).setCell ⟨w.heap.size, 1, none⟩ (.slice A0 hd.length c0)).setCell ⟨w.heap.size, 2, none⟩ (.slice A1 bd.length c1)).cell? ⟨g, 0, none⟩ = some (.int .i64 q) ∧ (((w4.setCell ⟨w.heap.size, 0, none⟩ (.int .i64 q)).setCell ⟨w.heap.size, 1, none⟩ (.slice A0 hd.length c0)).setCell ⟨w.heap.size, 2, none⟩ (.slice A1 bd.length c1)).cell? ⟨g, 1, none⟩ = some (.slice A0 hd.length c0) ∧ (((w4.setCell ⟨w.heap.size, 0, none⟩ (.int .i64 q)).setCell ⟨w.heap.size, 1, none⟩ (.slice A0 hd.length c0)).setCell ⟨w.heap.size, 2, none⟩ (.slice A1 bd.length c1)).cell? ⟨g, 2, none⟩ = some (.slice A1 bd.length c1) := by
    have BG9 := ((G4.far (p := ⟨w.heap.size, 0, none⟩) hng' (.int .i64 q)).far (p := ⟨w.heap.size, 1, none⟩) hng' (.slice A0 hd.length c0)).far (p := ⟨w.heap.size, 2, none⟩) hng' (.slice A1 bd.length c1)
    exact ⟨BG9.three.1, BG9.three.2.1, BG9.three.2.2.1⟩
  clear O4 O4' R4 E4 G4 K0 K1 K2 HB k3 k4 hc4 N1 N2 N3 B4 F4
  ((try dsimp only); refine hK.out _ _ (fun _ => HS) (fun _ => ?_); clear hK K; (try simp only [Act.put, List.setIfInBounds_toArray, List.set_cons_zero, List.set_cons_succ]))
  ((refine wpAnyT_one 3 rfl (by kernel_rfl) (fun K hK => ?_); go_simp))
  have HS := HS9
  ((try dsimp only); refine hK.out _ _ (fun _ => HS) (fun _ => ?_); clear hK K; (try simp only [Act.put, List.setIfInBounds_toArray, List.set_cons_zero, List.set_cons_succ]))
  ((refine wpAnyT_one 4 rfl (by kernel_rfl) (fun K hK => ?_); go_simp))
  ((try dsimp only); refine hK.out _ _ (fun h => absurd rfl h) (fun _ => ?_); clear hK K; (try simp only [Act.put, List.setIfInBounds_toArray, List.set_cons_zero, List.set_cons_succ]); refine wpAnyT_done (by kernel_rfl) ?_ _)
  obtain ⟨u0, u1, u2, _⟩ := BF.three
  clear HS HS9 keepQ
  go_wp2
  generalize (((w4.setCell ⟨w.heap.size, 0, none⟩ (.int .i64 q)).setCell ⟨w.heap.size, 1, none⟩ (.slice A0 hd.length c0)).setCell ⟨w.heap.size, 2, none⟩ (.slice A1 bd.length c1)) = w9 at FIN u0 u1 u2 ⊢
  exact bodyPost_ret (v := .tuple #[.agg #[.int .i64 q, .slice A0 hd.length c0, .slice A1 bd.length c1], .slice (some ⟨b, 0, none⟩) fs.length cap]) (by simp [results, Tryz.results15, go_sem, u0, u1, u2]) rfl FIN.out
/-- What is known of a drawn query and of drawn facts in memory. -/
structure AIn (w : World) (A0 A1 F : Option Addr) (c0 c1 fc : Nat) (hd : List Int) (bd : List Atom) (fs : List Fact) : Prop where
  r0 : RdSl rdInt w.cell? 1 A0 hd
  r1 : RdSl rdAtom w.cell? 3 A1 bd
  rf : RdSl rdFact w.cell? 3 F fs
  l1 : bd.length ≤ c1
  m1 : c1 ≤ maxLen
  lf : fs.length ≤ fc
  mf : fc ≤ maxLen
theorem AIn.fr {w w' : World} {A0 A1 F : Option Addr} {c0 c1 fc : Nat} {hd : List Int} {bd : List Atom} {fs : List Fact} (h : AIn w A0 A1 F c0 c1 fc hd bd fs) (hf : Fr w w') : AIn w' A0 A1 F c0 c1 fc hd bd fs :=
  ⟨h.r0.fr rdInt_mono hf, h.r1.fr rdAtom_mono hf, h.rf.fr rdFact_mono hf, h.l1, h.m1, h.lf, h.mf⟩
theorem AIn.mk' {w : World} {base g : Nat} {A0 A1 : Option Addr} {c0 c1 fc : Nat} {hd : List Int} {bd : List Atom} {fs : List Fact} (h0 : w.ownsRow base 3 1 (.slice A0 hd.length c0) hd.length (hd.map iv)) (h1 : w.ownsRow base 63 3 (.slice A1 bd.length c1) bd.length (bd.flatMap cellsA)) (hf : FOwn base w g fc fs) : AIn w A0 A1 (some ⟨g, 0, none⟩) c0 c1 fc hd bd fs :=
  ⟨(own_int h0 rfl).mono rdInt_mono (fromB_le _ _), (own_A h1 rfl).mono rdAtom_mono (fromB_le _ _), (own_F hf rfl).mono rdFact_mono (fromB_le _ _), (own_capM h1).1, (own_capM h1).2, (own_capM hf).1, (own_capM hf).2⟩
/-- Valid queries and facts that are drawn are small, so no answers are left out. -/
theorem ans_small {q : Int} {hd : List Int} {bd : List Atom} {fs : List Fact} (h4 : q ≤ 4 ∨ q = 7) (hv : vrule q hd bd = true) (hvf : vfacts fs = true) (hs : vfacts fs = true → SmF fs) : fs.Nodup ∧ (∀ f ∈ fs, 0 ≤ f.x ∧ 0 ≤ f.y) ∧ Small q fs := by
  have h1 := (vrule_parts hv).2.1
  obtain ⟨_, h2, h3⟩ := vfacts_parts hvf
  exact ⟨asc_nodup h3, fun f hf => ⟨(h2 f hf).2.2.1, (h2 f hf).2.2.2.2.1⟩, by omega, hs hvf⟩
theorem ansO_yes {q : Int} {hd : List Int} {bd : List Atom} {fs : List Fact} (hv : vrule q hd bd = true) (hvf : vfacts fs = true) : ansO q hd bd fs = ans q hd bd fs := by
  unfold ansO
  rw [hv, hvf]
  rfl
theorem ansO_sub {q : Int} {hd : List Int} {bd : List Atom} {fs gs : List Fact} (hv : vrule q hd bd = true) (hs : fs.Nodup ∧ (∀ f ∈ fs, 0 ≤ f.x ∧ 0 ≤ f.y) ∧ Small q fs) (hg : gs.Sublist fs) : ∀ x ∈ ansO q hd bd gs, x ∈ ans q hd bd fs := fun x hx => by
  unfold ansO at hx
  split at hx
  · exact ans_mono hv hs.1 hs.2.1 hs.2.2 hg x hx
  · cases hx
end Go.Proofs.YtahclhldpcboeaaGreatDoor
