/- Walks of homomorphisms, on the spec's side: hasFact, headOf, compareInts, equalInts, isHomomorphism, CheckHomomorphism. -/
import Derived.Test.YtahclhldpcboeaaFrzS
namespace Go.Proofs.Ytahclhldpcboeaa
open Go Go.RowKit

theorem factEq_lit (a f : Fact) : (a = f ∧ (a.rel == f.rel) = true ∧ (a.x == f.x) = true ∧ (a.y == f.y) = true) ∨ (a ≠ f ∧ (a.rel == f.rel) = false) ∨ (a ≠ f ∧ (a.rel == f.rel) = true ∧ (a.x == f.x) = false) ∨ (a ≠ f ∧ (a.rel == f.rel) = true ∧ (a.x == f.x) = true ∧ (a.y == f.y) = false) := by
  rcases a with ⟨r, x, y⟩
  rcases f with ⟨r', x', y'⟩
  by_cases q1 : r = r'
  · by_cases q2 : x = x'
    · by_cases q3 : y = y'
      · left; simp [q1, q2, q3]
      · right; right; right; simp [q1, q2, q3]
    · right; right; left; simp [q1, q2]
  · right; left; simp [q1]
set_option maxRecDepth 100000 in
set_option maxHeartbeats 2000000 in
theorem hasFact (A : Option Addr) (cap : Nat) (xs : List Fact) (f : Fact) (w : World) (hx : RdSl rdFact w.cell? 3 A xs) (hl : xs.length ≤ 1048576) :
    Calls Try.prog 67 #[.slice A xs.length cap, .agg #[.int .i64 f.rel, .int .i64 f.x, .int .i64 f.y]] w fun r w' => r = .returned (.bool (decide (f ∈ xs))) ∧ Fr w w' := by
  have HX := hid hx
  clear hx
  have BF := Blk.new w 53 #[.int .i64 f.rel, .int .i64 f.x, .int .i64 f.y]
  have F1 : Fr w (w.alloc (.cells #[.int .i64 f.rel, .int .i64 f.x, .int .i64 f.y] 53)) := (Fr.refl _).alloc _
  go_enter Try.func67, Try.ntmps67
  go_wp2
  generalize w.alloc (.cells #[.int .i64 f.rel, .int .i64 f.x, .int .i64 f.y] 53) = W1 at BF F1 ⊢
  go_loopw [5] (fun t wr => ∃ (k : Nat), k ≤ xs.length ∧ t = .int .i64 k ∧ Fr W1 wr ∧ ∀ i (h : i < xs.length), i < k → xs[i] ≠ f) (fun t _ => xs.length - (intOf t).toNat)
  case atStart => exact ⟨0, by omega, rfl, Fr.refl _, fun i _ h => absurd h (by omega)⟩
  case round =>
    obtain ⟨k, hk, rfl, hf, hv⟩ := hrel
    have HV := hid hv
    clear hv
    obtain ⟨f0, f1, f2, _⟩ := (BF.fr hf).three
    have FF := F1.trans hf
    by_cases hlt : k < xs.length
    · obtain ⟨b', o', hA, c0, c1, c2⟩ := HX.out.fact hlt
      subst hA
      replace c0 := FF.cell c0
      replace c1 := FF.cell c1
      replace c2 := FF.cell c2
      have HE := hid (factEq_lit xs[k] f)
      obtain ⟨e1, e2, e3, E1, E2, E3⟩ : ∃ e1 e2 e3, (xs[k].rel == f.rel) = e1 ∧ (xs[k].x == f.x) = e2 ∧ (xs[k].y == f.y) = e3 := ⟨_, _, _, rfl, rfl, rfl⟩
      rw [E1, E2, E3] at HE
      rcases HE.out with ⟨he, rfl, rfl, rfl⟩ | ⟨hne, rfl⟩ | ⟨hne, rfl, rfl⟩ | ⟨hne, rfl, rfl, rfl⟩
      · have R := hid (show decide (f ∈ xs) = true by simp only [decide_eq_true_eq]; rw [← he]; exact List.getElem_mem hlt)
        clear he
        go_wp2_with fail
        (refine wp_region_quietC (fun w' => Fr _ w') (by kernel_rfl) (by kernel_rfl) (Fr.refl _).drew ?_; (repeat go_big_quiet_step (first | exact fun _ => rfl | exact fun _ => ⟨rfl, rfl⟩ | (intro hw'; replace f0 := hw'.cell f0; replace f1 := hw'.cell f1; replace f2 := hw'.cell f2; replace c0 := hw'.cell c0; replace c1 := hw'.cell c1; replace c2 := hw'.cell c2; go_simp; first | done | exact rfl | exact ⟨rfl, rfl⟩) )); refine wpQuiet_nil ?_; intro wq hq)
        go_wp2
        go_ret
        exact ⟨ret_bool R.out.symm, FF.trans hq⟩
      all_goals (
        have HN := hid hne
        clear hne
        go_wp2_with fail
        (refine wp_region_quietC (fun w' => Fr _ w') (by kernel_rfl) (by kernel_rfl) (Fr.refl _).drew ?_; (repeat go_big_quiet_step (first | exact fun _ => rfl | exact fun _ => ⟨rfl, rfl⟩ | (intro hw'; replace f0 := hw'.cell f0; replace f1 := hw'.cell f1; replace f2 := hw'.cell f2; replace c0 := hw'.cell c0; replace c1 := hw'.cell c1; replace c2 := hw'.cell c2; go_simp; first | done | exact rfl | exact ⟨rfl, rfl⟩) )); refine wpQuiet_nil ?_; intro wq hq)
        go_wp2
        go_roundw
        case rel => exact ⟨k + 1, by omega, by go_num, hf.trans hq, fun i h hi => by
          by_cases q : i = k
          · subst q; exact HN.out
          · exact HV.out i h (by omega)⟩
        case measure => simp [intOf]; omega)
    · have R := hid (show decide (f ∈ xs) = false by
        simp only [decide_eq_false_iff_not]
        intro hm
        obtain ⟨i, hi, he⟩ := List.getElem_of_mem hm
        exact HV.out i hi (by omega) he)
      go_wp2
      go_ret
      exact ⟨ret_bool R.out.symm, FF⟩
theorem rd_intF {m : Mv} {b o : Nat} {xs : List Int} (h : RdSl rdInt m 1 (some ⟨b, o, none⟩) xs) {i : Nat} (hi : i < xs.length) : m ⟨b, o + i, none⟩ = some (.int .i64 xs[i]) := by
  obtain ⟨b', o', hA, hc⟩ := h.at_ hi
  cases hA
  have hc : m ⟨b, o + i * 1 + 0, none⟩ = some (.int .i64 xs[i]) := hc
  simpa using hc
set_option maxRecDepth 100000 in
set_option maxHeartbeats 2000000 in
theorem headOf (A B : Option Addr) (c d : Nat) (hd m : List Int) (w : World) (hx : RdSl rdInt w.cell? 1 A hd) (hy : RdSl rdInt w.cell? 1 B m) (hl : hd.length ≤ 1048576) (hv : ∀ v ∈ hd, 0 ≤ v ∧ v < m.length) :
    Calls Try.prog 69 #[.slice A hd.length c, .slice B m.length d] w fun r w' => ∃ A' c', r = .returned (.slice A' hd.length c') ∧ RdSl rdInt (fromB w' w.heap.size) 1 A' (hd.map (var m)) ∧ Fr w w' := by
  have HX := hid hx
  have HY := hid hy
  have HV := hid hv
  clear hx hy hv
  have F1 : Fr w (w.alloc (.cells #[] 3)) := (Fr.refl _).alloc _
  have O1 := own_empty (w := w) (base := w.heap.size) (e := 3) (sz := 1) (Nat.le_refl _)
  go_enter Try.func69, Try.ntmps69
  go_wp2
  generalize w.alloc (.cells #[] 3) = W1 at O1 F1 ⊢
  go_loopw [5, 6] (fun s t wr => ∃ (k : Nat) (v : Value), k ≤ hd.length ∧ t = .int .i64 k ∧ v = s ∧ Fr w wr ∧ Hid (wr.ownsRow w.heap.size 3 1 v k (((hd.map (var m)).take k).map iv))) (fun _ t _ => hd.length - (intOf t).toNat)
  case atStart => exact ⟨0, _, by omega, rfl, rfl, F1, hid (by simpa using O1)⟩
  case round =>
    obtain ⟨k, v, hk, rfl, rfl, hf, hO⟩ := hrel
    have hsr := hf.size
    clear O1
    by_cases hlt : k < hd.length
    · obtain ⟨hb, ho, hA, h0⟩ := HX.out.at_ hlt
      replace h0 := hf.cell h0
      simp only [Nat.mul_one, Nat.add_zero] at h0
      subst hA
      have hvk := HV.out hd[k] (List.getElem_mem hlt)
      obtain ⟨j, hj⟩ : ∃ j : Nat, hd[k] = j := ⟨hd[k].toNat, by omega⟩
      have hjm : j < m.length := by omega
      obtain ⟨mb, mo, hB, g0⟩ := HY.out.at_ hjm
      replace g0 := hf.cell g0
      simp only [Nat.mul_one, Nat.add_zero] at g0
      subst hB
      have hvar : var m hd[k] = m[j] := var_at hj hjm
      have T := hid (show ((hd.map (var m)).take (k + 1)).map iv = ((hd.map (var m)).take k).map iv ++ [.int .i64 m[j]] by
        rw [List.take_succ_eq_append_getElem (by simpa using hlt), List.map_append, List.getElem_map, hvar]; rfl)
      rw [hj] at h0
      clear hj hvk hvar
      go_wp2_with (first | (at_builtin; refine wp_appS rfl _ _ 22 rfl w.heap.size 3 (.int .i64 0) 1 8 Try.underlying22 (by kernel_rfl) rfl (by decide) (by decide) _ _ _ rfl (own_fr hO.out ((Fr.refl wr).alloc _)) (by omega) (by simp; omega) wr.heap.size 0 1 1 [.int .i64 m[j]] rfl rfl (fun j u hu => by rw [Nat.zero_add, (Blk.new wr _ _).cell]; simpa using hu) (by omega) rfl ?_; intro v8 w8 hO8 hg8; have F8 : Fr w w8 := Fr.grown (hf.alloc _) hg8 (own_fr hO.out ((Fr.refl wr).alloc _))) | fail)
      rw [← T.out] at hO8
      have HO8 := hid hO8
      clear hO8
      go_roundw
      case rel => exact ⟨k + 1, _, by omega, by go_num, rfl, F8, HO8⟩
      case measure => simp [intOf]; omega
    · obtain rfl : k = hd.length := by omega
      obtain ⟨A', c', rfl, hc⟩ := own_capF hO.out
      go_wp2
      go_ret
      refine ⟨A', c', rfl, ?_, hf⟩
      have h := hO.out
      rw [List.take_of_length_le (by simp)] at h
      exact own_int h (by simp)
set_option maxRecDepth 100000 in
set_option maxHeartbeats 2000000 in
theorem compareInts (A B : Option Addr) (c d : Nat) (xs ys : List Int) (w : World) (hx : RdSl rdInt w.cell? 1 A xs) (hy : RdSl rdInt w.cell? 1 B ys) (hl : xs.length ≤ 1048576) (he : ys.length = xs.length) (bx : ∀ v ∈ xs, -100000 ≤ v ∧ v ≤ 100000) (byy : ∀ v ∈ ys, -100000 ≤ v ∧ v ≤ 100000) :
    Calls Try.prog 89 #[.slice A xs.length c, .slice B ys.length d] w fun r w' => r = .returned (.int .i64 (cmpI xs ys)) ∧ Fr w w' := by
  have HX := hid hx
  have HY := hid hy
  have HE := hid he
  have BX := hid bx
  have BY := hid byy
  clear hx hy he bx byy
  go_enter Try.func89, Try.ntmps89
  go_wp2
  go_loopw [5] (fun t wr => ∃ (k : Nat), k ≤ xs.length ∧ t = .int .i64 k ∧ Fr w wr ∧ ∀ i (h1 : i < xs.length) (h2 : i < ys.length), i < k → xs[i] = ys[i]) (fun t _ => xs.length - (intOf t).toNat)
  case atStart => exact ⟨0, by omega, rfl, Fr.refl _, fun i _ _ h => absurd h (by omega)⟩
  case round =>
    obtain ⟨k, hk, rfl, hf, hv⟩ := hrel
    have HV := hid hv
    clear hv
    by_cases hlt : k < xs.length
    · have hlt2 : k < ys.length := by rw [HE.out]; exact hlt
      obtain ⟨xb, xo, hA, c0⟩ := HX.out.at_ hlt
      obtain ⟨yb, yo, hB, d0⟩ := HY.out.at_ hlt2
      subst hA hB
      replace c0 := hf.cell c0
      replace d0 := hf.cell d0
      simp only [Nat.mul_one, Nat.add_zero] at c0 d0
      have h1 := BX.out xs[k] (List.getElem_mem hlt)
      have h2 := BY.out ys[k] (List.getElem_mem hlt2)
      by_cases hne : xs[k] = ys[k]
      · have e1 : (xs[k] != ys[k]) = false := by simp [hne]
        have HN := hid hne
        clear hne
        go_wp2_with fail
        (refine wp_region_quietC (fun w' => Fr _ w') (by kernel_rfl) (by kernel_rfl) (Fr.refl _).drew ?_; (repeat go_big_quiet_step (first | exact fun _ => rfl | exact fun _ => ⟨rfl, rfl⟩ | (intro hw'; replace c0 := hw'.cell c0; replace d0 := hw'.cell d0; go_simp; first | done | exact rfl | exact ⟨rfl, rfl⟩) )); refine wpQuiet_nil ?_; intro wq hq)
        go_wp2
        go_roundw
        case rel => exact ⟨k + 1, by omega, by go_num, hf.trans hq, fun i h1 h2 hi => by
          by_cases q : i = k
          · subst q; exact HN.out
          · exact HV.out i h1 h2 (by omega)⟩
        case measure => simp [intOf]; omega
      · have e1 : (xs[k] != ys[k]) = true := by simp [hne]
        have R := hid (cmpI_at hlt hlt2 HV.out hne)
        clear hne
        go_wp2_with fail
        (refine wp_region_quietC (fun w' => Fr _ w') (by kernel_rfl) (by kernel_rfl) (Fr.refl _).drew ?_; (repeat go_big_quiet_step (first | exact fun _ => rfl | exact fun _ => ⟨rfl, rfl⟩ | (intro hw'; replace c0 := hw'.cell c0; replace d0 := hw'.cell d0; go_simp; first | done | exact rfl | exact ⟨rfl, rfl⟩) )); refine wpQuiet_nil ?_; intro wq hq)
        have FF := hf.trans hq
        replace c0 := hq.cell c0
        replace d0 := hq.cell d0
        clear hq
        go_wp2_with fail
        (refine wp_region_quietC (fun w' => Fr _ w') (by kernel_rfl) (by kernel_rfl) (Fr.refl _).drew ?_; (repeat go_big_quiet_step (first | exact fun _ => rfl | exact fun _ => ⟨rfl, rfl⟩ | (intro hw'; replace c0 := hw'.cell c0; replace d0 := hw'.cell d0; go_simp; first | done | exact rfl | exact ⟨rfl, rfl⟩) )); refine wpQuiet_nil ?_; intro wq hq)
        go_wp2
        go_ret
        exact ⟨ret_int (by rw [R.out]), FF.trans hq⟩
    · have R := hid (show cmpI xs ys = 0 from (cmpI_zero HE.out.symm).2 (List.ext_getElem HE.out.symm fun i h1 h2 => HV.out i h1 h2 (by omega)))
      go_wp2
      go_ret
      exact ⟨ret_int R.out.symm, hf⟩
theorem specEqInts (A B : Option Addr) (c d : Nat) (xs ys : List Int) (w : World) (hx : RdSl rdInt w.cell? 1 A xs) (hy : RdSl rdInt w.cell? 1 B ys) (hl : xs.length ≤ 1048576) (_ : ys.length ≤ 1048576) (bx : ∀ v ∈ xs, -100000 ≤ v ∧ v ≤ 100000) (byy : ∀ v ∈ ys, -100000 ≤ v ∧ v ≤ 100000) :
    Calls Try.prog 68 #[.slice A xs.length c, .slice B ys.length d] w fun r w' => r = .returned (.bool (decide (xs = ys))) ∧ Fr w w' := by
  by_cases he : xs.length = ys.length
  · have e1 : ((xs.length : Int) == (ys.length : Int)) = true := by simp [he]
    have R := hid (show (cmpI xs ys == 0) = decide (xs = ys) by rw [Bool.eq_iff_iff]; simp [cmpI_zero he])
    have HE := hid he
    clear he
    go_enter Try.func68, Try.ntmps68
    go_wp2_with (first | (go_at_call 89; refine (compareInts A B c d xs ys _ hx hy hl HE.out.symm bx byy).mono ?_; rintro r w1 ⟨rfl, b1⟩) | fail)
    go_ret
    exact ⟨ret_bool R.out, b1⟩
  · have e1 : ((xs.length : Int) == (ys.length : Int)) = false := by simp; omega
    have R := hid (show decide (xs = ys) = false by simp only [decide_eq_false_iff_not]; intro e; exact he (by rw [e]))
    clear he
    go_enter Try.func68, Try.ntmps68
    go_wp2
    go_ret
    exact ⟨ret_bool R.out.symm, Fr.refl _⟩
theorem specEqInts' (A B : Option Addr) (c d n : Nat) (xs ys : List Int) (w : World) (hn : xs.length = n) (hx : RdSl rdInt w.cell? 1 A xs) (hy : RdSl rdInt w.cell? 1 B ys) (hl : n ≤ 1048576) (hl2 : ys.length ≤ 1048576) (bx : ∀ v ∈ xs, -100000 ≤ v ∧ v ≤ 100000) (byy : ∀ v ∈ ys, -100000 ≤ v ∧ v ≤ 100000) :
    Calls Try.prog 68 #[.slice A n c, .slice B ys.length d] w fun r w' => r = .returned (.bool (decide (xs = ys))) ∧ Fr w w' := by
  subst hn
  exact specEqInts A B c d xs ys w hx hy hl hl2 bx byy
end Go.Proofs.Ytahclhldpcboeaa
