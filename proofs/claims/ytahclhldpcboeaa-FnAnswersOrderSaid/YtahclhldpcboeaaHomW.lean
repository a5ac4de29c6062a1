/- Walks of homomorphisms, on the spec's side: hasFact, headOf, compareInts, equalInts, isHomomorphism, CheckHomomorphism. -/
import Derived.Test.YtahclhldpcboeaaFrzS
import Derived.Deep.RegionHeld3
import Derived.Test.YtahclhldpcboeaaRuleI
namespace Go.Proofs.Ytahclhldpcboeaa
open Go Go.RowKit

theorem factEq_lit (a f : Fact) : (a = f ∧ (a.rel == f.rel) = true ∧ (a.x == f.x) = true ∧ (a.y == f.y) = true) ∨ (a ≠ f ∧ (a.rel == f.rel) = false) ∨ (a ≠ f ∧ (a.rel == f.rel) = true ∧ (a.x == f.x) = false) ∨ (a ≠ f ∧ (a.rel == f.rel) = true ∧ (a.x == f.x) = true ∧ (a.y == f.y) = false) := by
  rcases a with ⟨r, x, y⟩
  rcases f with ⟨r', x', y'⟩
  by_cases q1 : r = r'
  · by_cases q2 : x = x'
    · by_cases q3 : y = y'
      · left; simp [q1, q2, q3]
      · right; right; right; simp [q1, q2, q3]
    · right; right; left; simp [q1, q2]
  · right; left; simp [q1]
set_option maxRecDepth 100000 in
set_option maxHeartbeats 2000000 in
theorem hasFact (A : Option Addr) (cap : Nat) (xs : List Fact) (f : Fact) (w : World) (hx : RdSl rdFact w.cell? 3 A xs) (hl : xs.length ≤ 1048576) :
    Calls Try.prog 67 #[.slice A xs.length cap, .agg #[.int .i64 f.rel, .int .i64 f.x, .int .i64 f.y]] w fun r w' => r = .returned (.bool (decide (f ∈ xs))) ∧ Fr w w' := by
  have HX := hid hx
  clear hx
  have BF := Blk.new w 53 #[.int .i64 f.rel, .int .i64 f.x, .int .i64 f.y]
  have F1 : Fr w (w.alloc (.cells #[.int .i64 f.rel, .int .i64 f.x, .int .i64 f.y] 53)) := (Fr.refl _).alloc _
  go_enter Try.func67, Try.ntmps67
  go_wp2
  generalize w.alloc (.cells #[.int .i64 f.rel, .int .i64 f.x, .int .i64 f.y] 53) = W1 at BF F1 ⊢
  go_loopw [5] (fun t wr => ∃ (k : Nat), k ≤ xs.length ∧ t = .int .i64 k ∧ Fr W1 wr ∧ ∀ i (h : i < xs.length), i < k → xs[i] ≠ f) (fun t _ => xs.length - (intOf t).toNat)
  case atStart => exact ⟨0, by omega, rfl, Fr.refl _, fun i _ h => absurd h (by omega)⟩
  case round =>
    obtain ⟨k, hk, rfl, hf, hv⟩ := hrel
    have HV := hid hv
    clear hv
    obtain ⟨f0, f1, f2, _⟩ := (BF.fr hf).three
    have FF := F1.trans hf
    by_cases hlt : k < xs.length
    · obtain ⟨b', o', hA, c0, c1, c2⟩ := HX.out.fact hlt
      subst hA
      replace c0 := FF.cell c0
      replace c1 := FF.cell c1
      replace c2 := FF.cell c2
      have HE := hid (factEq_lit xs[k] f)
      obtain ⟨e1, e2, e3, E1, E2, E3⟩ : ∃ e1 e2 e3, (xs[k].rel == f.rel) = e1 ∧ (xs[k].x == f.x) = e2 ∧ (xs[k].y == f.y) = e3 := ⟨_, _, _, rfl, rfl, rfl⟩
      rw [E1, E2, E3] at HE
      rcases HE.out with ⟨he, rfl, rfl, rfl⟩ | ⟨hne, rfl⟩ | ⟨hne, rfl, rfl⟩ | ⟨hne, rfl, rfl, rfl⟩
      · have R := hid (show decide (f ∈ xs) = true by simp only [decide_eq_true_eq]; rw [← he]; exact List.getElem_mem hlt)
        clear he
        go_wp2_with fail
        (refine wp_region_quietC (fun w' => Fr _ w') (by kernel_rfl) (by kernel_rfl) (Fr.refl _).drew ?_; (repeat go_big_quiet_step (first | exact fun _ => rfl | exact fun _ => ⟨rfl, rfl⟩ | (intro hw'; replace f0 := hw'.cell f0; replace f1 := hw'.cell f1; replace f2 := hw'.cell f2; replace c0 := hw'.cell c0; replace c1 := hw'.cell c1; replace c2 := hw'.cell c2; go_simp; first | done | exact rfl | exact ⟨rfl, rfl⟩) )); refine wpQuiet_nil ?_; intro wq hq)
        go_wp2
        go_ret
        exact ⟨ret_bool R.out.symm, FF.trans hq⟩
      all_goals (
        have HN := hid hne
        clear hne
        go_wp2_with fail
        (refine wp_region_quietC (fun w' => Fr _ w') (by kernel_rfl) (by kernel_rfl) (Fr.refl _).drew ?_; (repeat go_big_quiet_step (first | exact fun _ => rfl | exact fun _ => ⟨rfl, rfl⟩ | (intro hw'; replace f0 := hw'.cell f0; replace f1 := hw'.cell f1; replace f2 := hw'.cell f2; replace c0 := hw'.cell c0; replace c1 := hw'.cell c1; replace c2 := hw'.cell c2; go_simp; first | done | exact rfl | exact ⟨rfl, rfl⟩) )); refine wpQuiet_nil ?_; intro wq hq)
        go_wp2
        go_roundw
        case rel => exact ⟨k + 1, by omega, by go_num, hf.trans hq, fun i h hi => by
          by_cases q : i = k
          · subst q; exact HN.out
          · exact HV.out i h (by omega)⟩
        case measure => simp [intOf]; omega)
    · have R := hid (show decide (f ∈ xs) = false by
        simp only [decide_eq_false_iff_not]
        intro hm
        obtain ⟨i, hi, he⟩ := List.getElem_of_mem hm
        exact HV.out i hi (by omega) he)
      go_wp2
      go_ret
      exact ⟨ret_bool R.out.symm, FF⟩
theorem rd_intF {m : Mv} {b o : Nat} {xs : List Int} (h : RdSl rdInt m 1 (some ⟨b, o, none⟩) xs) {i : Nat} (hi : i < xs.length) : m ⟨b, o + i, none⟩ = some (.int .i64 xs[i]) := by
  obtain ⟨b', o', hA, hc⟩ := h.at_ hi
  cases hA
  have hc : m ⟨b, o + i * 1 + 0, none⟩ = some (.int .i64 xs[i]) := hc
  simpa using hc
set_option maxRecDepth 100000 in
set_option maxHeartbeats 2000000 in
theorem headOf (A B : Option Addr) (c d : Nat) (hd m : List Int) (w : World) (hx : RdSl rdInt w.cell? 1 A hd) (hy : RdSl rdInt w.cell? 1 B m) (hl : hd.length ≤ 1048576) (hv : ∀ v ∈ hd, 0 ≤ v ∧ v < m.length) :
    Calls Try.prog 69 #[.slice A hd.length c, .slice B m.length d] w fun r w' => ∃ A' c', r = .returned (.slice A' hd.length c') ∧ RdSl rdInt (fromB w' w.heap.size) 1 A' (hd.map (var m)) ∧ Fr w w' := by
  have HX := hid hx
  have HY := hid hy
  have HV := hid hv
  clear hx hy hv
  have F1 : Fr w (w.alloc (.cells #[] 3)) := (Fr.refl _).alloc _
  have O1 := own_empty (w := w) (base := w.heap.size) (e := 3) (sz := 1) (Nat.le_refl _)
  go_enter Try.func69, Try.ntmps69
  go_wp2
  generalize w.alloc (.cells #[] 3) = W1 at O1 F1 ⊢
  go_loopw [5, 6] (fun s t wr => ∃ (k : Nat) (v : Value), k ≤ hd.length ∧ t = .int .i64 k ∧ v = s ∧ Fr w wr ∧ Hid (wr.ownsRow w.heap.size 3 1 v k (((hd.map (var m)).take k).map iv))) (fun _ t _ => hd.length - (intOf t).toNat)
  case atStart => exact ⟨0, _, by omega, rfl, rfl, F1, hid (by simpa using O1)⟩
  case round =>
    obtain ⟨k, v, hk, rfl, rfl, hf, hO⟩ := hrel
    have hsr := hf.size
    clear O1
    by_cases hlt : k < hd.length
    · obtain ⟨hb, ho, hA, h0⟩ := HX.out.at_ hlt
      replace h0 := hf.cell h0
      simp only [Nat.mul_one, Nat.add_zero] at h0
      subst hA
      have hvk := HV.out hd[k] (List.getElem_mem hlt)
      obtain ⟨j, hj⟩ : ∃ j : Nat, hd[k] = j := ⟨hd[k].toNat, by omega⟩
      have hjm : j < m.length := by omega
      obtain ⟨mb, mo, hB, g0⟩ := HY.out.at_ hjm
      replace g0 := hf.cell g0
      simp only [Nat.mul_one, Nat.add_zero] at g0
      subst hB
      have hvar : var m hd[k] = m[j] := var_at hj hjm
      have T := hid (show ((hd.map (var m)).take (k + 1)).map iv = ((hd.map (var m)).take k).map iv ++ [.int .i64 m[j]] by
        rw [List.take_succ_eq_append_getElem (by simpa using hlt), List.map_append, List.getElem_map, hvar]; rfl)
      rw [hj] at h0
      clear hj hvk hvar
      go_wp2_with (first | (at_builtin; refine wp_appS rfl _ _ 22 rfl w.heap.size 3 (.int .i64 0) 1 8 Try.underlying22 (by kernel_rfl) rfl (by decide) (by decide) _ _ _ rfl (own_fr hO.out ((Fr.refl wr).alloc _)) (by omega) (by simp; omega) wr.heap.size 0 1 1 [.int .i64 m[j]] rfl rfl (fun j u hu => by rw [Nat.zero_add, (Blk.new wr _ _).cell]; simpa using hu) (by omega) rfl ?_; intro v8 w8 hO8 hg8; have F8 : Fr w w8 := Fr.grown (hf.alloc _) hg8 (own_fr hO.out ((Fr.refl wr).alloc _))) | fail)
      rw [← T.out] at hO8
      have HO8 := hid hO8
      clear hO8
      go_roundw
      case rel => exact ⟨k + 1, _, by omega, by go_num, rfl, F8, HO8⟩
      case measure => simp [intOf]; omega
    · obtain rfl : k = hd.length := by omega
      obtain ⟨A', c', rfl, hc⟩ := own_capF hO.out
      go_wp2
      go_ret
      refine ⟨A', c', rfl, ?_, hf⟩
      have h := hO.out
      rw [List.take_of_length_le (by simp)] at h
      exact own_int h (by simp)
set_option maxRecDepth 100000 in
set_option maxHeartbeats 2000000 in
theorem compareInts (A B : Option Addr) (c d : Nat) (xs ys : List Int) (w : World) (hx : RdSl rdInt w.cell? 1 A xs) (hy : RdSl rdInt w.cell? 1 B ys) (hl : xs.length ≤ 1048576) (he : ys.length = xs.length) (bx : ∀ v ∈ xs, -100000 ≤ v ∧ v ≤ 100000) (byy : ∀ v ∈ ys, -100000 ≤ v ∧ v ≤ 100000) :
    Calls Try.prog 89 #[.slice A xs.length c, .slice B ys.length d] w fun r w' => r = .returned (.int .i64 (cmpI xs ys)) ∧ Fr w w' := by
  have HX := hid hx
  have HY := hid hy
  have HE := hid he
  have BX := hid bx
  have BY := hid byy
  clear hx hy he bx byy
  go_enter Try.func89, Try.ntmps89
  go_wp2
  go_loopw [5] (fun t wr => ∃ (k : Nat), k ≤ xs.length ∧ t = .int .i64 k ∧ Fr w wr ∧ ∀ i (h1 : i < xs.length) (h2 : i < ys.length), i < k → xs[i] = ys[i]) (fun t _ => xs.length - (intOf t).toNat)
  case atStart => exact ⟨0, by omega, rfl, Fr.refl _, fun i _ _ h => absurd h (by omega)⟩
  case round =>
    obtain ⟨k, hk, rfl, hf, hv⟩ := hrel
    have HV := hid hv
    clear hv
    by_cases hlt : k < xs.length
    · have hlt2 : k < ys.length := by rw [HE.out]; exact hlt
      obtain ⟨xb, xo, hA, c0⟩ := HX.out.at_ hlt
      obtain ⟨yb, yo, hB, d0⟩ := HY.out.at_ hlt2
      subst hA hB
      replace c0 := hf.cell c0
      replace d0 := hf.cell d0
      simp only [Nat.mul_one, Nat.add_zero] at c0 d0
      have h1 := BX.out xs[k] (List.getElem_mem hlt)
      have h2 := BY.out ys[k] (List.getElem_mem hlt2)
      by_cases hne : xs[k] = ys[k]
      · have e1 : (xs[k] != ys[k]) = false := by simp [hne]
        have HN := hid hne
        clear hne
        go_wp2_with fail
        (refine wp_region_quietC (fun w' => Fr _ w') (by kernel_rfl) (by kernel_rfl) (Fr.refl _).drew ?_; (repeat go_big_quiet_step (first | exact fun _ => rfl | exact fun _ => ⟨rfl, rfl⟩ | (intro hw'; replace c0 := hw'.cell c0; replace d0 := hw'.cell d0; go_simp; first | done | exact rfl | exact ⟨rfl, rfl⟩) )); refine wpQuiet_nil ?_; intro wq hq)
        go_wp2
        go_roundw
        case rel => exact ⟨k + 1, by omega, by go_num, hf.trans hq, fun i h1 h2 hi => by
          by_cases q : i = k
          · subst q; exact HN.out
          · exact HV.out i h1 h2 (by omega)⟩
        case measure => simp [intOf]; omega
      · have e1 : (xs[k] != ys[k]) = true := by simp [hne]
        have R := hid (cmpI_at hlt hlt2 HV.out hne)
        clear hne
        go_wp2_with fail
        (refine wp_region_quietC (fun w' => Fr _ w') (by kernel_rfl) (by kernel_rfl) (Fr.refl _).drew ?_; (repeat go_big_quiet_step (first | exact fun _ => rfl | exact fun _ => ⟨rfl, rfl⟩ | (intro hw'; replace c0 := hw'.cell c0; replace d0 := hw'.cell d0; go_simp; first | done | exact rfl | exact ⟨rfl, rfl⟩) )); refine wpQuiet_nil ?_; intro wq hq)
        have FF := hf.trans hq
        replace c0 := hq.cell c0
        replace d0 := hq.cell d0
        clear hq
        go_wp2_with fail
        (refine wp_region_quietC (fun w' => Fr _ w') (by kernel_rfl) (by kernel_rfl) (Fr.refl _).drew ?_; (repeat go_big_quiet_step (first | exact fun _ => rfl | exact fun _ => ⟨rfl, rfl⟩ | (intro hw'; replace c0 := hw'.cell c0; replace d0 := hw'.cell d0; go_simp; first | done | exact rfl | exact ⟨rfl, rfl⟩) )); refine wpQuiet_nil ?_; intro wq hq)
        go_wp2
        go_ret
        exact ⟨ret_int (by rw [R.out]), FF.trans hq⟩
    · have R := hid (show cmpI xs ys = 0 from (cmpI_zero HE.out.symm).2 (List.ext_getElem HE.out.symm fun i h1 h2 => HV.out i h1 h2 (by omega)))
      go_wp2
      go_ret
      exact ⟨ret_int R.out.symm, hf⟩
theorem specEqInts (A B : Option Addr) (c d : Nat) (xs ys : List Int) (w : World) (hx : RdSl rdInt w.cell? 1 A xs) (hy : RdSl rdInt w.cell? 1 B ys) (hl : xs.length ≤ 1048576) (_ : ys.length ≤ 1048576) (bx : ∀ v ∈ xs, -100000 ≤ v ∧ v ≤ 100000) (byy : ∀ v ∈ ys, -100000 ≤ v ∧ v ≤ 100000) :
    Calls Try.prog 68 #[.slice A xs.length c, .slice B ys.length d] w fun r w' => r = .returned (.bool (decide (xs = ys))) ∧ Fr w w' := by
  by_cases he : xs.length = ys.length
  · have e1 : ((xs.length : Int) == (ys.length : Int)) = true := by simp [he]
    have R := hid (show (cmpI xs ys == 0) = decide (xs = ys) by rw [Bool.eq_iff_iff]; simp [cmpI_zero he])
    have HE := hid he
    clear he
    go_enter Try.func68, Try.ntmps68
    go_wp2_with (first | (go_at_call 89; refine (compareInts A B c d xs ys _ hx hy hl HE.out.symm bx byy).mono ?_; rintro r w1 ⟨rfl, b1⟩) | fail)
    go_ret
    exact ⟨ret_bool R.out, b1⟩
  · have e1 : ((xs.length : Int) == (ys.length : Int)) = false := by simp; omega
    have R := hid (show decide (xs = ys) = false by simp only [decide_eq_false_iff_not]; intro e; exact he (by rw [e]))
    clear he
    go_enter Try.func68, Try.ntmps68
    go_wp2
    go_ret
    exact ⟨ret_bool R.out.symm, Fr.refl _⟩
theorem specEqInts' (A B : Option Addr) (c d n : Nat) (xs ys : List Int) (w : World) (hn : xs.length = n) (hx : RdSl rdInt w.cell? 1 A xs) (hy : RdSl rdInt w.cell? 1 B ys) (hl : n ≤ 1048576) (hl2 : ys.length ≤ 1048576) (bx : ∀ v ∈ xs, -100000 ≤ v ∧ v ≤ 100000) (byy : ∀ v ∈ ys, -100000 ≤ v ∧ v ≤ 100000) :
    Calls Try.prog 68 #[.slice A n c, .slice B ys.length d] w fun r w' => r = .returned (.bool (decide (xs = ys))) ∧ Fr w w' := by
  subst hn
  exact specEqInts A B c d xs ys w hx hy hl hl2 bx byy
/- Walks of CheckHomomorphism, on the spec's side. -/

theorem var_mem {m : List Int} {v : Int} (h0 : 0 ≤ v) (h1 : v < m.length) : var m v ∈ m := by
  obtain ⟨n, rfl⟩ : ∃ n : Nat, v = n := ⟨v.toNat, by omega⟩
  have hn : n < m.length := by omega
  rw [var_at rfl hn]
  exact List.getElem_mem hn
set_option maxRecDepth 100000 in
set_option maxHeartbeats 4000000 in
theorem specIsHom (q1 q2 : Int) (A0 A1 B0 B1 M : Option Addr) (c0 c1 d0 d1 cm : Nat) (hd1 hd2 m : List Int) (bd1 bd2 : List Atom) (w : World) (hx0 : RdSl rdInt w.cell? 1 A0 hd1) (hx1 : RdSl rdAtom w.cell? 3 A1 bd1) (hy0 : RdSl rdInt w.cell? 1 B0 hd2) (hy1 : RdSl rdAtom w.cell? 3 B1 bd2) (hm : RdSl rdInt w.cell? 1 M m)
    (l0 : hd1.length ≤ 6) (l1 : bd1.length ≤ 6) (l2 : hd2.length ≤ 6) (l3 : bd2.length ≤ 6) (hb : ∀ a ∈ bd1, 0 ≤ a.x ∧ a.x < m.length ∧ 0 ≤ a.y ∧ a.y < m.length) (hv : ∀ v ∈ hd1, 0 ≤ v ∧ v < m.length) (hmb : ∀ v ∈ m, -100000 ≤ v ∧ v ≤ 100000) (hhb : ∀ v ∈ hd2, -100000 ≤ v ∧ v ≤ 100000) :
    Calls Try.prog 40 #[.agg #[.int .i64 q1, .slice A0 hd1.length c0, .slice A1 bd1.length c1], .agg #[.int .i64 q2, .slice B0 hd2.length d0, .slice B1 bd2.length d1], .slice M m.length cm] w fun r w' => r = .returned (.bool (isHom hd1 bd1 hd2 bd2 m)) ∧ Fr w w' := by
  have HX0 := hid hx0
  have HX1 := hid hx1
  have HY0 := hid hy0
  have HY1 := hid hy1
  have HM := hid hm
  have HB := hid hb
  have HV := hid hv
  have HMB := hid hmb
  have HHB := hid hhb
  clear hx0 hx1 hy0 hy1 hm hb hv hmb hhb
  have BA := (Blk.new w 30 #[.int .i64 q1, .slice A0 hd1.length c0, .slice A1 bd1.length c1]).alloc (.cells #[.int .i64 q2, .slice B0 hd2.length d0, .slice B1 bd2.length d1] 30)
  have BB := Blk.new (w.alloc (.cells #[.int .i64 q1, .slice A0 hd1.length c0, .slice A1 bd1.length c1] 30)) 30 #[.int .i64 q2, .slice B0 hd2.length d0, .slice B1 bd2.length d1]
  rw [World.size_alloc] at BB
  have F1 : Fr w ((w.alloc (.cells #[.int .i64 q1, .slice A0 hd1.length c0, .slice A1 bd1.length c1] 30)).alloc (.cells #[.int .i64 q2, .slice B0 hd2.length d0, .slice B1 bd2.length d1] 30)) := ((Fr.refl _).alloc _).alloc _
  go_enter Try.func40, Try.ntmps40
  go_wp2_with fail
  generalize (w.alloc (.cells #[.int .i64 q1, .slice A0 hd1.length c0, .slice A1 bd1.length c1] 30)).alloc (.cells #[.int .i64 q2, .slice B0 hd2.length d0, .slice B1 bd2.length d1] 30) = W1 at BA BB F1 ⊢
  refine (specFreezeW q2 B0 d0 hd2 B1 d1 bd2 W1 (HY1.out.fr rdAtom_mono F1) l3).mono ?_
  rintro r w2 ⟨fv, rfl, ⟨fb, fo, fc, rfl, hF, hfc⟩, b2⟩
  have HF := hid hF
  have hfl := frz_len bd2
  clear hF
  have F2 := F1.trans b2
  go_wp2
  go_loopw [8] (fun t wr => ∃ (k : Nat), k ≤ bd1.length ∧ t = .int .i64 k ∧ Fr w2 wr ∧ ∀ i (h1 : i < bd1.length), i < k → bd1[i].by m ∈ bd2) (fun t _ => bd1.length - (intOf t).toNat)
  case atStart => exact ⟨0, by omega, rfl, Fr.refl _, fun i _ h => absurd h (by omega)⟩
  case round =>
    obtain ⟨k, hk, rfl, hf, hv⟩ := hrel
    have HV2 := hid hv
    clear hv
    have FF := F2.trans hf
    obtain ⟨a0, a1, a2, _⟩ := (BA.fr (b2.trans hf)).three
    obtain ⟨b0, b1, b2', _⟩ := (BB.fr (b2.trans hf)).three
    by_cases hlt : k < bd1.length
    · obtain ⟨ab, ao, hA, g0, g1, g2⟩ := HX1.out.atom hlt
      subst hA
      have FA : Fr wr (wr.alloc (.cells #[.int .i64 bd1[k].rel, .int .i64 bd1[k].x, .int .i64 bd1[k].y] 60)) := (Fr.refl _).alloc _
      obtain ⟨e0, e1, e2, _⟩ := (Blk.new wr 60 #[.int .i64 bd1[k].rel, .int .i64 bd1[k].x, .int .i64 bd1[k].y]).three
      have hbk := HB.out bd1[k] (List.getElem_mem hlt)
      obtain ⟨nx, hnx⟩ : ∃ j : Nat, bd1[k].x = j := ⟨bd1[k].x.toNat, by omega⟩
      obtain ⟨ny, hny⟩ : ∃ j : Nat, bd1[k].y = j := ⟨bd1[k].y.toNat, by omega⟩
      have lx : nx < m.length := by omega
      have ly : ny < m.length := by omega
      obtain ⟨mb, mo, hMA, m0⟩ := HM.out.at_ lx
      subst hMA
      obtain ⟨mb', mo', hMA, m1⟩ := HM.out.at_ ly
      cases hMA
      have eby : bd1[k].by m = ⟨bd1[k].rel, m[nx], m[ny]⟩ := by unfold Atom.by; rw [var_at hnx lx, var_at hny ly]
      have EBY := hid eby
      replace g0 := FF.cell g0
      replace g1 := FF.cell g1
      replace g2 := FF.cell g2
      simp only [hnx, hny] at FA e0 e1 e2 g0 g1 g2
      have m0' := (FF.trans FA).cell m0
      have m1' := (FF.trans FA).cell m1
      simp only [Nat.mul_one, Nat.add_zero] at m0' m1'
      clear m0 m1 hbk eby hnx hny
      by_cases hin : bd1[k].by m ∈ bd2
      · have R := hid (show decide ((⟨bd1[k].rel, m[nx], m[ny]⟩ : Fact) ∈ frz bd2) = true by
          simp only [decide_eq_true_eq]
          have := by_frz (m := m) (a := bd1[k]) (bd := bd2)
          rw [EBY.out] at this
          rw [EBY.out] at hin
          exact this.2 hin)
        have HI := hid hin
        clear hin
        go_wp2_with fail
        (refine wp_region_quietC (fun w' => Fr _ w') (by kernel_rfl) (by kernel_rfl) (Fr.refl _).drew ?_; (repeat go_big_quiet_step (first | exact fun _ => rfl | exact fun _ => ⟨rfl, rfl⟩ | (intro hw'; replace e0 := hw'.cell e0; replace e1 := hw'.cell e1; replace e2 := hw'.cell e2; replace m0' := hw'.cell m0'; replace m1' := hw'.cell m1'; go_simp; first | done | exact rfl | exact ⟨rfl, rfl⟩) | (intro hw'; go_at_call 67; refine (hasFact _ _ (frz bd2) ⟨bd1[k].rel, m[nx], m[ny]⟩ _ (HF.out.fr rdFact_mono ((hf.trans FA).trans hw')) (by omega)).mono ?_; rintro r w5 ⟨rfl, b5⟩; rw [R.out]; exact ⟨rfl, Fr.trans hw' b5⟩))); refine wpQuiet_nil ?_; intro wq hq)
        go_wp2
        go_roundw
        case rel => exact ⟨k + 1, by omega, by go_num, (hf.trans FA).trans hq, fun i h hi => by
          by_cases q : i = k
          · subst q; exact HI.out
          · exact HV2.out i h (by omega)⟩
        case measure => simp [intOf]; omega
      · have R := hid (show decide ((⟨bd1[k].rel, m[nx], m[ny]⟩ : Fact) ∈ frz bd2) = false by
          simp only [decide_eq_false_iff_not]
          have := by_frz (m := m) (a := bd1[k]) (bd := bd2)
          rw [EBY.out] at this
          rw [EBY.out] at hin
          exact fun h => hin (this.1 h))
        have NO := hid (show isHom hd1 bd1 hd2 bd2 m = false by
          unfold isHom
          rw [all_no (p := fun a => inA bd2 (a.by m)) hlt (by rw [← Bool.not_eq_true, inA_iff]; exact hin)]; rfl)
        clear hin
        go_wp2_with fail
        (refine wp_region_quietC (fun w' => Fr _ w') (by kernel_rfl) (by kernel_rfl) (Fr.refl _).drew ?_; (repeat go_big_quiet_step (first | exact fun _ => rfl | exact fun _ => ⟨rfl, rfl⟩ | (intro hw'; replace e0 := hw'.cell e0; replace e1 := hw'.cell e1; replace e2 := hw'.cell e2; replace m0' := hw'.cell m0'; replace m1' := hw'.cell m1'; go_simp; first | done | exact rfl | exact ⟨rfl, rfl⟩) | (intro hw'; go_at_call 67; refine (hasFact _ _ (frz bd2) ⟨bd1[k].rel, m[nx], m[ny]⟩ _ (HF.out.fr rdFact_mono ((hf.trans FA).trans hw')) (by omega)).mono ?_; rintro r w5 ⟨rfl, b5⟩; rw [R.out]; exact ⟨rfl, Fr.trans hw' b5⟩))); refine wpQuiet_nil ?_; intro wq hq)
        go_wp2
        go_ret
        exact ⟨ret_bool NO.out.symm, (FF.trans FA).trans hq⟩
    · have AE := hid (show isHom hd1 bd1 hd2 bd2 m = decide (hd1.map (var m) = hd2) by
        unfold isHom
        rw [all_yes (p := fun a => inA bd2 (a.by m)) (fun i hi => inA_iff.2 (HV2.out i hi (by omega))), Bool.true_and])
      have BV := hid (show ∀ v ∈ hd1.map (var m), -100000 ≤ v ∧ v ≤ 100000 from fun v hv => by
        obtain ⟨u, hu, rfl⟩ := List.mem_map.1 hv
        obtain ⟨h1, h2⟩ := HV.out u hu
        exact HMB.out _ (var_mem h1 h2))
      have hml : (hd1.map (var m)).length = hd1.length := by simp
      have HML := hid hml
      clear hml
      go_wp2_with fail
      have keepL : ∀ W' : World, Fr wr W' → (Fr wr W' ∧ W'.cell? ⟨w.heap.size, 1, none⟩ = some (.slice A0 hd1.length c0) ∧ W'.cell? ⟨w.heap.size + 1, 1, none⟩ = some (.slice B0 hd2.length d0)) := fun W' F => ⟨F, F.cell a1, F.cell b1⟩
      go_region_held3 (fun W' => Fr wr W' ∧ W'.cell? ⟨w.heap.size, 1, none⟩ = some (.slice A0 hd1.length c0) ∧ W'.cell? ⟨w.heap.size + 1, 1, none⟩ = some (.slice B0 hd2.length d0)) ((refine keepL _ ?_; (repeat (first | with_reducible exact Fr.refl _ | with_reducible assumption | with_reducible refine Fr.alloc ?_ _ | with_reducible refine Fr.drew ?_ | with_reducible refine Fr.drewN ?_ _ | (with_reducible refine Fr.setNew2 ?_ ?_ _; · (simp <;> omega)) | with_reducible refine Fr.trans ?_ (by assumption))); done))
        (first
          | (go_at_call 69; refine (headOf A0 M c0 cm hd1 m _ (HX0.out.fr rdInt_mono (FF.trans (Fr.refl wr).drew)) (HM.out.fr rdInt_mono (FF.trans (Fr.refl wr).drew)) (by omega) HV.out).mono ?_; rintro r w6 ⟨A', c', rfl, hR6, b6⟩; have F6 : Fr wr w6 := (Fr.refl wr).drew.trans b6; have HR6 := hid (hR6.mono rdInt_mono (fromB_le _ _)); clear hR6)
          | (go_at_call 68; refine (specEqInts' A' B0 c' d0 hd1.length (hd1.map (var m)) hd2 _ HML.out HR6.out (HY0.out.fr rdInt_mono (FF.trans F6)) (by omega) (by omega) BV.out HHB.out).mono ?_; rintro r w7 ⟨rfl, b7⟩; have F7 := F6.trans b7)
          | fail)
      all_goals go_wp2
      all_goals go_ret
      all_goals exact ⟨ret_bool AE.out.symm, FF.trans F7⟩
/- The walk of CheckHomomorphism, on the spec's side. -/

theorem hasV_iff {q v : Int} : hasV q v = true ↔ 0 ≤ v ∧ v < q := by simp [hasV]
set_option maxRecDepth 100000 in
set_option maxHeartbeats 4000000 in
theorem specCheckHom (q1 q2 : Int) (A0 A1 B0 B1 M : Option Addr) (c0 c1 d0 d1 cm : Nat) (hd1 hd2 m : List Int) (bd1 bd2 : List Atom) (w : World) (hx0 : RdSl rdInt w.cell? 1 A0 hd1) (hx1 : RdSl rdAtom w.cell? 3 A1 bd1) (hy0 : RdSl rdInt w.cell? 1 B0 hd2) (hy1 : RdSl rdAtom w.cell? 3 B1 bd2) (hm : RdSl rdInt w.cell? 1 M m)
    (l0 : hd1.length ≤ 1048576) (l1 : bd1.length ≤ 1048576) (l2 : hd2.length ≤ 1048576) (l3 : bd2.length ≤ 1048576) (l4 : m.length ≤ 1048576) :
    Calls Try.prog 11 #[.agg #[.int .i64 q1, .slice A0 hd1.length c0, .slice A1 bd1.length c1], .agg #[.int .i64 q2, .slice B0 hd2.length d0, .slice B1 bd2.length d1], .slice M m.length cm] w fun r w' => r = .returned (.bool (chkHom q1 hd1 bd1 q2 hd2 bd2 m)) ∧ Fr w w' := by
  have HX0 := hid hx0
  have HX1 := hid hx1
  have HY0 := hid hy0
  have HY1 := hid hy1
  have HM := hid hm
  clear hx0 hx1 hy0 hy1 hm
  have BA := (Blk.new w 30 #[.int .i64 q1, .slice A0 hd1.length c0, .slice A1 bd1.length c1]).alloc (.cells #[.int .i64 q2, .slice B0 hd2.length d0, .slice B1 bd2.length d1] 30)
  have BB := Blk.new (w.alloc (.cells #[.int .i64 q1, .slice A0 hd1.length c0, .slice A1 bd1.length c1] 30)) 30 #[.int .i64 q2, .slice B0 hd2.length d0, .slice B1 bd2.length d1]
  rw [World.size_alloc] at BB
  have F1 : Fr w ((w.alloc (.cells #[.int .i64 q1, .slice A0 hd1.length c0, .slice A1 bd1.length c1] 30)).alloc (.cells #[.int .i64 q2, .slice B0 hd2.length d0, .slice B1 bd2.length d1] 30)) := ((Fr.refl _).alloc _).alloc _
  have C1 := hid (fun (W : World) (hW : Fr w W) => specVRule q1 A0 c0 hd1 A1 c1 bd1 W (HX0.out.fr rdInt_mono hW) (HX1.out.fr rdAtom_mono hW) l0 l1)
  have C2 := hid (fun (W : World) (hW : Fr w W) => specVRule q2 B0 d0 hd2 B1 d1 bd2 W (HY0.out.fr rdInt_mono hW) (HY1.out.fr rdAtom_mono hW) l2 l3)
  obtain ⟨v1, E1⟩ : ∃ v, vrule q1 hd1 bd1 = v := ⟨_, rfl⟩
  obtain ⟨v2, E2⟩ : ∃ v, vrule q2 hd2 bd2 = v := ⟨_, rfl⟩
  rw [E1] at C1
  rw [E2] at C2
  have CK := hid (show chkHom q1 hd1 bd1 q2 hd2 bd2 m = ((v1 && v2 && decide ((m.length : Int) = q1)) && (m.all (hasV q2) && isHom hd1 bd1 hd2 bd2 m)) by unfold chkHom; rw [E1, E2])
  have HE1 := hid E1
  have HE2 := hid E2
  clear E1 E2
  obtain ⟨a0, a1, a2, _⟩ := BA.three
  obtain ⟨b0, b1, b2, _⟩ := BB.three
  cases v1
  · go_enter Try.func11, Try.ntmps11
    go_wp2_with fail
    refine (C1.out _ F1).mono ?_
    rintro r w2 ⟨rfl, b2⟩
    go_wp2
    go_ret
    exact ⟨ret_bool (by rw [CK.out]; rfl), F1.trans b2⟩
  cases v2
  · go_enter Try.func11, Try.ntmps11
    go_wp2_with fail
    refine (C1.out _ F1).mono ?_
    rintro r w2 ⟨rfl, g2⟩
    obtain ⟨b0, b1, b2, _⟩ := (BB.fr g2).three
    go_wp2_with fail
    refine (C2.out _ (F1.trans g2)).mono ?_
    rintro r w3 ⟨rfl, g3⟩
    go_wp2
    go_ret
    exact ⟨ret_bool (by rw [CK.out]; rfl), (F1.trans g2).trans g3⟩
  have P1 := vrule_parts HE1.out
  have P2 := vrule_parts HE2.out
  by_cases hql : (m.length : Int) = q1
  rotate_left
  · have e1 : ((m.length : Int) != q1) = true := by simp [hql]
    go_enter Try.func11, Try.ntmps11
    go_wp2_with fail
    refine (C1.out _ F1).mono ?_
    rintro r w2 ⟨rfl, g2⟩
    obtain ⟨b0, b1, b2, _⟩ := (BB.fr g2).three
    go_wp2_with fail
    refine (C2.out _ (F1.trans g2)).mono ?_
    rintro r w3 ⟨rfl, g3⟩
    obtain ⟨a0, a1, a2, _⟩ := (BA.fr (g2.trans g3)).three
    go_wp2
    go_ret
    exact ⟨ret_bool (by rw [CK.out]; simp [hql]), (F1.trans g2).trans g3⟩
  have e1 : ((m.length : Int) != q1) = false := by simp [hql]
  have HQL := hid hql
  obtain ⟨p1, p2, p3, p4, p5, p6, p7⟩ := P1
  obtain ⟨r1, r2, r3, r4, r5, r6, r7⟩ := P2
  have HP6 := hid p6
  have HP7 := hid p7
  have HR7 := hid r7
  clear hql p6 p7 r6 r7
  go_enter Try.func11, Try.ntmps11
  go_wp2_with fail
  refine (C1.out _ F1).mono ?_
  rintro r w2 ⟨rfl, g2⟩
  obtain ⟨b0, b1, b2, _⟩ := (BB.fr g2).three
  go_wp2_with fail
  refine (C2.out _ (F1.trans g2)).mono ?_
  rintro r w3 ⟨rfl, g3⟩
  obtain ⟨a0, a1, a2, _⟩ := (BA.fr (g2.trans g3)).three
  have F3 := (F1.trans g2).trans g3
  replace BA := BA.fr (g2.trans g3)
  replace BB := BB.fr (g2.trans g3)
  go_wp2
  clear a0 a1 a2 b0 b1 b2
  go_loopw [7] (fun t wr => ∃ (k : Nat), k ≤ m.length ∧ t = .int .i64 k ∧ Fr w3 wr ∧ ∀ i (h1 : i < m.length), i < k → hasV q2 m[i] = true) (fun t _ => m.length - (intOf t).toNat)
  case atStart => exact ⟨0, by omega, rfl, Fr.refl _, fun i _ h => absurd h (by omega)⟩
  case round =>
    obtain ⟨k, hk, rfl, hf, hv⟩ := hrel
    have HV := hid hv
    clear hv
    obtain ⟨a0, a1, a2, _⟩ := (BA.fr hf).three
    obtain ⟨b0, b1, b2, _⟩ := (BB.fr hf).three
    by_cases hlt : k < m.length
    · obtain ⟨mb, mo, hA, m0⟩ := HM.out.at_ hlt
      subst hA
      replace m0 := (F3.trans hf).cell m0
      simp only [Nat.mul_one, Nat.add_zero] at m0
      by_cases h : 0 ≤ m[k] ∧ m[k] < q2
      · obtain ⟨h1, h2⟩ := h
        have HO := hid (show hasV q2 m[k] = true from hasV_iff.2 ⟨h1, h2⟩)
        go_wp2_with fail
        (refine wp_region_quietC (fun w' => Fr _ w') (by kernel_rfl) (by kernel_rfl) (Fr.refl _).drew ?_; (repeat go_big_quiet_step (first | exact fun _ => rfl | exact fun _ => ⟨rfl, rfl⟩ | (intro hw'; replace b0 := hw'.cell b0; replace m0 := hw'.cell m0; go_simp; first | done | exact rfl | exact ⟨rfl, rfl⟩) | (intro hw'; go_at_call 39; refine (inRange_yes _ _ _ _ ?_ ?_).mono ?_; (· omega); (· omega); rintro e w1 ⟨rfl, rfl⟩; exact ⟨rfl, hw'⟩))); refine wpQuiet_nil ?_; intro wq hq)
        go_wp2
        go_roundw
        case rel => exact ⟨k + 1, by omega, by go_num, hf.trans hq, fun i h hi => by
          by_cases q : i = k
          · subst q; exact HO.out
          · exact HV.out i h (by omega)⟩
        case measure => simp [intOf]; omega
      · have NO := hid (show m.all (hasV q2) = false from all_no hlt (by rw [← Bool.not_eq_true, hasV_iff]; exact h))
        have h' : m[k] < 0 ∨ q2 - 1 < m[k] := by omega
        clear h
        go_wp2_with fail
        (refine wp_region_quietC (fun w' => Fr _ w') (by kernel_rfl) (by kernel_rfl) (Fr.refl _).drew ?_; (repeat go_big_quiet_step (first | exact fun _ => rfl | exact fun _ => ⟨rfl, rfl⟩ | (intro hw'; replace b0 := hw'.cell b0; replace m0 := hw'.cell m0; go_simp; first | done | exact rfl | exact ⟨rfl, rfl⟩) | (intro hw'; go_at_call 39; refine (inRange_no _ _ _ _ ?_).mono ?_; (· omega); rintro e w1 ⟨rfl, rfl⟩; exact ⟨rfl, hw'⟩))); refine wpQuiet_nil ?_; intro wq hq)
        go_wp2
        go_ret
        exact ⟨ret_bool (by rw [CK.out, NO.out]; simp), (F3.trans hf).trans hq⟩
    · have AE := hid (all_yes (p := hasV q2) fun i hi => HV.out i hi (by omega))
      have FF := F3.trans hf
      go_wp2_with (first | (go_at_call 40; refine (specIsHom q1 q2 A0 A1 B0 B1 M c0 c1 d0 d1 cm hd1 hd2 m bd1 bd2 _ (HX0.out.fr rdInt_mono FF) (HX1.out.fr rdAtom_mono FF) (HY0.out.fr rdInt_mono FF) (HY1.out.fr rdAtom_mono FF) (HM.out.fr rdInt_mono FF) p3 p5 r3 r5 ?h1 ?h2 ?h3 ?h4).mono ?_; (case h1 => (intro a ha; have := HP6.out a ha; have := HQL.out; omega)); (case h2 => (intro v hv; have := HP7.out v hv; have := HQL.out; omega)); (case h3 => (intro v hv; have h := (List.all_eq_true.1 AE.out) v hv; rw [hasV_iff] at h; omega)); (case h4 => (intro v hv; have := HR7.out v hv; omega)); rintro r w9 ⟨rfl, g9⟩) | fail)
      go_ret
      exact ⟨ret_bool (by rw [CK.out, AE.out]; simp [HQL.out]), FF.trans g9⟩
/- The walk of CheckHomomorphism, on the program's side. -/

theorem atomEq_lit (a f : Atom) : (a = f ∧ (f.rel == a.rel) = true ∧ (f.x == a.x) = true ∧ (f.y == a.y) = true) ∨ (a ≠ f ∧ (f.rel == a.rel) = false) ∨ (a ≠ f ∧ (f.rel == a.rel) = true ∧ (f.x == a.x) = false) ∨ (a ≠ f ∧ (f.rel == a.rel) = true ∧ (f.x == a.x) = true ∧ (f.y == a.y) = false) := by
  rcases a with ⟨r, x, y⟩
  rcases f with ⟨r', x', y'⟩
  by_cases q1 : r' = r
  · by_cases q2 : x' = x
    · by_cases q3 : y' = y
      · left; simp [q1, q2, q3]
      · right; right; right; simp [q1, q2, q3]; exact fun h => q3 h.symm
    · right; right; left; simp [q1, q2]; exact fun h => absurd h.symm q2
  · right; left; simp [q1]; exact fun h => absurd h.symm q1
set_option maxRecDepth 100000 in
set_option maxHeartbeats 2000000 in
theorem indexAtom (A : Option Addr) (cap : Nat) (xs : List Atom) (f : Atom) (w : World) (hx : RdSl rdAtom w.cell? 3 A xs) (hl : xs.length ≤ 1048576) :
    Calls Try.prog 71 #[.slice A xs.length cap, .agg #[.int .i64 f.rel, .int .i64 f.x, .int .i64 f.y]] w fun r w' => ∃ n : Int, r = .returned (.int .i64 n) ∧ decide (0 ≤ n) = inA xs f ∧ Fr w w' := by
  have HX := hid hx
  clear hx
  have BF := Blk.new w 60 #[.int .i64 f.rel, .int .i64 f.x, .int .i64 f.y]
  have F1 : Fr w (w.alloc (.cells #[.int .i64 f.rel, .int .i64 f.x, .int .i64 f.y] 60)) := (Fr.refl _).alloc _
  go_enter Try.func71, Try.ntmps71
  go_wp2
  generalize w.alloc (.cells #[.int .i64 f.rel, .int .i64 f.x, .int .i64 f.y] 60) = W1 at BF F1 ⊢
  go_loopw [8] (fun t wr => ∃ (k : Nat), k ≤ xs.length ∧ t = .int .i64 k ∧ Fr W1 wr ∧ ∀ i (h : i < xs.length), i < k → xs[i] ≠ f) (fun t _ => xs.length - (intOf t).toNat)
  case atStart => exact ⟨0, by omega, rfl, Fr.refl _, fun i _ h => absurd h (by omega)⟩
  case round =>
    obtain ⟨k, hk, rfl, hf, hv⟩ := hrel
    have HV := hid hv
    clear hv
    obtain ⟨f0, f1, f2, _⟩ := (BF.fr hf).three
    have FF := F1.trans hf
    by_cases hlt : k < xs.length
    · obtain ⟨b', o', hA, c0, c1, c2⟩ := HX.out.atom hlt
      subst hA
      replace c0 := FF.cell c0
      replace c1 := FF.cell c1
      replace c2 := FF.cell c2
      have HE := hid (atomEq_lit xs[k] f)
      obtain ⟨e1, e2, e3, E1, E2, E3⟩ : ∃ e1 e2 e3, (f.rel == xs[k].rel) = e1 ∧ (f.x == xs[k].x) = e2 ∧ (f.y == xs[k].y) = e3 := ⟨_, _, _, rfl, rfl, rfl⟩
      rw [E1, E2, E3] at HE
      rcases HE.out with ⟨he, rfl, rfl, rfl⟩ | ⟨hne, rfl⟩ | ⟨hne, rfl, rfl⟩ | ⟨hne, rfl, rfl, rfl⟩
      · have R := hid (show inA xs f = true by rw [inA_iff, ← he]; exact List.getElem_mem hlt)
        clear he
        go_wp2_with fail
        (refine wp_region_quietC (fun w' => Fr _ w') (by kernel_rfl) (by kernel_rfl) (Fr.refl _).drew ?_; (repeat go_big_quiet_step (first | exact fun _ => rfl | exact fun _ => ⟨rfl, rfl⟩ | (intro hw'; replace f0 := hw'.cell f0; replace f1 := hw'.cell f1; replace f2 := hw'.cell f2; replace c0 := hw'.cell c0; replace c1 := hw'.cell c1; replace c2 := hw'.cell c2; go_simp; first | done | exact rfl | exact ⟨rfl, rfl⟩) )); refine wpQuiet_nil ?_; intro wq hq)
        go_wp2
        go_ret
        exact ⟨k, rfl, by rw [R.out]; simp, FF.trans hq⟩
      all_goals (
        have HN := hid hne
        clear hne
        go_wp2_with fail
        (refine wp_region_quietC (fun w' => Fr _ w') (by kernel_rfl) (by kernel_rfl) (Fr.refl _).drew ?_; (repeat go_big_quiet_step (first | exact fun _ => rfl | exact fun _ => ⟨rfl, rfl⟩ | (intro hw'; replace f0 := hw'.cell f0; replace f1 := hw'.cell f1; replace f2 := hw'.cell f2; replace c0 := hw'.cell c0; replace c1 := hw'.cell c1; replace c2 := hw'.cell c2; go_simp; first | done | exact rfl | exact ⟨rfl, rfl⟩) )); refine wpQuiet_nil ?_; intro wq hq)
        go_wp2
        go_roundw
        case rel => exact ⟨k + 1, by omega, by go_num, hf.trans hq, fun i h hi => by
          by_cases q : i = k
          · subst q; exact HN.out
          · exact HV.out i h (by omega)⟩
        case measure => simp [intOf]; omega)
    · have R := hid (show inA xs f = false by
        rw [← Bool.not_eq_true, inA_iff]
        intro hm
        obtain ⟨i, hi, he⟩ := List.getElem_of_mem hm
        exact HV.out i hi (by omega) he)
      go_wp2
      go_ret
      exact ⟨-1, rfl, by rw [R.out]; rfl, FF⟩
set_option maxHeartbeats 1000000 in
theorem containsAtom (A : Option Addr) (cap : Nat) (xs : List Atom) (f : Atom) (w : World) (hx : RdSl rdAtom w.cell? 3 A xs) (hl : xs.length ≤ 1048576) :
    Calls Try.prog 43 #[.slice A xs.length cap, .agg #[.int .i64 f.rel, .int .i64 f.x, .int .i64 f.y]] w fun r w' => r = .returned (.bool (inA xs f)) ∧ Fr w w' := by
  have HX := hid hx
  clear hx
  have F1 : Fr w (w.alloc (.cells #[.int .i64 f.rel, .int .i64 f.x, .int .i64 f.y] 60)) := (Fr.refl _).alloc _
  go_enter Try.func43, Try.ntmps43
  go_wp2_with (first | (go_at_call 71; refine (indexAtom A cap xs f _ (HX.out.fr rdAtom_mono F1) hl).mono ?_; rintro r w1 ⟨n, rfl, hn, b1⟩) | fail)
  go_ret
  exact ⟨rfl, F1.trans b1⟩
set_option maxRecDepth 100000 in
set_option maxHeartbeats 4000000 in
theorem implCheckHom (q1 q2 : Int) (A0 A1 B0 B1 M : Option Addr) (c0 c1 d0 d1 cm : Nat) (hd1 hd2 m : List Int) (bd1 bd2 : List Atom) (w : World) (hx0 : RdSl rdInt w.cell? 1 A0 hd1) (hx1 : RdSl rdAtom w.cell? 3 A1 bd1) (hy0 : RdSl rdInt w.cell? 1 B0 hd2) (hy1 : RdSl rdAtom w.cell? 3 B1 bd2) (hm : RdSl rdInt w.cell? 1 M m)
    (l0 : hd1.length ≤ 1048576) (l1 : bd1.length ≤ 1048576) (l2 : hd2.length ≤ 1048576) (l3 : bd2.length ≤ 1048576) (l4 : m.length ≤ 1048576) :
    Calls Try.prog 14 #[.agg #[.int .i64 q1, .slice A0 hd1.length c0, .slice A1 bd1.length c1], .agg #[.int .i64 q2, .slice B0 hd2.length d0, .slice B1 bd2.length d1], .slice M m.length cm] w fun r w' => r = .returned (.bool (chkHom q1 hd1 bd1 q2 hd2 bd2 m)) ∧ Fr w w' := by
  have HX0 := hid hx0
  have HX1 := hid hx1
  have HY0 := hid hy0
  have HY1 := hid hy1
  have HM := hid hm
  clear hx0 hx1 hy0 hy1 hm
  have BA := (Blk.new w 30 #[.int .i64 q1, .slice A0 hd1.length c0, .slice A1 bd1.length c1]).alloc (.cells #[.int .i64 q2, .slice B0 hd2.length d0, .slice B1 bd2.length d1] 30)
  have BB := Blk.new (w.alloc (.cells #[.int .i64 q1, .slice A0 hd1.length c0, .slice A1 bd1.length c1] 30)) 30 #[.int .i64 q2, .slice B0 hd2.length d0, .slice B1 bd2.length d1]
  rw [World.size_alloc] at BB
  have F1 : Fr w ((w.alloc (.cells #[.int .i64 q1, .slice A0 hd1.length c0, .slice A1 bd1.length c1] 30)).alloc (.cells #[.int .i64 q2, .slice B0 hd2.length d0, .slice B1 bd2.length d1] 30)) := ((Fr.refl _).alloc _).alloc _
  have C1 := hid (fun (W : World) (hW : Fr w W) => implValidRule q1 A0 c0 hd1 A1 c1 bd1 W (HX0.out.fr rdInt_mono hW) (HX1.out.fr rdAtom_mono hW) l0 l1)
  have C2 := hid (fun (W : World) (hW : Fr w W) => implValidRule q2 B0 d0 hd2 B1 d1 bd2 W (HY0.out.fr rdInt_mono hW) (HY1.out.fr rdAtom_mono hW) l2 l3)
  obtain ⟨v1, E1⟩ : ∃ v, vrule q1 hd1 bd1 = v := ⟨_, rfl⟩
  obtain ⟨v2, E2⟩ : ∃ v, vrule q2 hd2 bd2 = v := ⟨_, rfl⟩
  rw [E1] at C1
  rw [E2] at C2
  have CK := hid (show chkHom q1 hd1 bd1 q2 hd2 bd2 m = ((v1 && v2 && decide ((m.length : Int) = q1)) && (m.all (hasV q2) && isHom hd1 bd1 hd2 bd2 m)) by unfold chkHom; rw [E1, E2])
  have HE1 := hid E1
  have HE2 := hid E2
  clear E1 E2
  obtain ⟨a0, a1, a2, _⟩ := BA.three
  obtain ⟨b0, b1, b2, _⟩ := BB.three
  cases v1
  · go_enter Try.func14, Try.ntmps14
    go_wp2_with fail
    refine (C1.out _ F1).mono ?_
    rintro r w2 ⟨rfl, b2⟩
    go_wp2
    go_ret
    exact ⟨ret_bool (by rw [CK.out]; rfl), F1.trans b2⟩
  cases v2
  · go_enter Try.func14, Try.ntmps14
    go_wp2_with fail
    refine (C1.out _ F1).mono ?_
    rintro r w2 ⟨rfl, g2⟩
    obtain ⟨b0, b1, b2, _⟩ := (BB.fr g2).three
    go_wp2_with fail
    refine (C2.out _ (F1.trans g2)).mono ?_
    rintro r w3 ⟨rfl, g3⟩
    go_wp2
    go_ret
    exact ⟨ret_bool (by rw [CK.out]; rfl), (F1.trans g2).trans g3⟩
  have P1 := vrule_parts HE1.out
  have P2 := vrule_parts HE2.out
  by_cases hql : (m.length : Int) = q1
  rotate_left
  · have e1 : ((m.length : Int) != q1) = true := by simp [hql]
    go_enter Try.func14, Try.ntmps14
    go_wp2_with fail
    refine (C1.out _ F1).mono ?_
    rintro r w2 ⟨rfl, g2⟩
    obtain ⟨b0, b1, b2, _⟩ := (BB.fr g2).three
    go_wp2_with fail
    refine (C2.out _ (F1.trans g2)).mono ?_
    rintro r w3 ⟨rfl, g3⟩
    obtain ⟨a0, a1, a2, _⟩ := (BA.fr (g2.trans g3)).three
    go_wp2
    go_ret
    exact ⟨ret_bool (by rw [CK.out]; simp [hql]), (F1.trans g2).trans g3⟩
  have e1 : ((m.length : Int) != q1) = false := by simp [hql]
  have HQL := hid hql
  obtain ⟨p1, p2, p3, p4, p5, p6, p7⟩ := P1
  obtain ⟨r1, r2, r3, r4, r5, r6, r7⟩ := P2
  have HP6 := hid p6
  have HP7 := hid p7
  clear hql p6 p7 r6 r7
  go_enter Try.func14, Try.ntmps14
  go_wp2_with fail
  refine (C1.out _ F1).mono ?_
  rintro r w2 ⟨rfl, g2⟩
  clear a0 a1 a2 b0 b1 b2
  obtain ⟨b0, b1, b2, _⟩ := (BB.fr g2).three
  go_wp2_with fail
  refine (C2.out _ (F1.trans g2)).mono ?_
  rintro r w3 ⟨rfl, g3⟩
  obtain ⟨a0, a1, a2, _⟩ := (BA.fr (g2.trans g3)).three
  have F3 := (F1.trans g2).trans g3
  replace BA := BA.fr (g2.trans g3)
  replace BB := BB.fr (g2.trans g3)
  go_wp2
  clear b0 b1 b2
  go_loopw [30] (fun t wr => ∃ (k : Nat), k ≤ m.length ∧ t = .int .i64 k ∧ Hid (wr = w3) ∧ ∀ i (h1 : i < m.length), i < k → hasV q2 m[i] = true) (fun t _ => m.length - (intOf t).toNat)
  case atStart => exact ⟨0, by omega, rfl, hid rfl, fun i _ h => absurd h (by omega)⟩
  case round =>
    obtain ⟨k, hk, rfl, hwr, hv⟩ := hrel
    obtain rfl := hwr.out
    have HV := hid hv
    clear hv hwr
    obtain ⟨b0, b1, b2, _⟩ := BB.three
    by_cases hlt : k < m.length
    · obtain ⟨mb, mo, hA, m0⟩ := HM.out.at_ hlt
      subst hA
      replace m0 := F3.cell m0
      simp only [Nat.mul_one, Nat.add_zero] at m0
      cases hok : hasV q2 m[k]
      · have NO := hid (show m.all (hasV q2) = false from all_no hlt hok)
        have HO := hid hok
        clear hok
        go_wp2_with (first | (go_at_call 42; refine (hasVar _ _ _ _ b0).mono ?_; rintro e w1 ⟨rfl, rfl⟩; rw [HO.out]) | fail)
        go_ret
        exact ⟨ret_bool (by rw [CK.out, NO.out]; simp), F3⟩
      · have HO := hid hok
        clear hok
        go_wp2_with (first | (go_at_call 42; refine (hasVar _ _ _ _ b0).mono ?_; rintro e w1 ⟨rfl, rfl⟩; rw [HO.out]) | fail)
        go_roundw
        case rel => exact ⟨k + 1, by omega, by go_num, by first | trivial | exact hid rfl, fun i h hi => by
          by_cases q : i = k
          · subst q; exact HO.out
          · exact HV.out i h (by omega)⟩
        case measure => simp [intOf]; omega
    · have AE := hid (all_yes (p := hasV q2) fun i hi => HV.out i hi (by omega))
      by_cases hh : hd1.length = hd2.length
      rotate_left
      · have e2 : ((hd1.length : Int) != (hd2.length : Int)) = true := by simp; omega
        have NO := hid (show isHom hd1 bd1 hd2 bd2 m = false by
          unfold isHom
          rw [show decide (hd1.map (var m) = hd2) = false by
            simp only [decide_eq_false_iff_not]
            intro h
            exact hh (by rw [← h, List.length_map])]
          simp)
        clear hh
        go_wp2
        go_ret
        exact ⟨ret_bool (by rw [CK.out, NO.out]; simp), F3⟩
      have e2 : ((hd1.length : Int) != (hd2.length : Int)) = false := by simp [hh]
      have HH := hid hh
      clear hh
      go_wp2
      clear hk hlt a0 a1 a2 b0 b1 b2
      go_loopw [48] (fun t w4 => ∃ (k : Nat), k ≤ hd1.length ∧ t = .int .i64 k ∧ Fr wr w4 ∧ ∀ i (h1 : i < hd1.length) (h2 : i < hd2.length), i < k → var m hd1[i] = hd2[i]) (fun t _ => hd1.length - (intOf t).toNat)
      case atStart => exact ⟨0, by omega, rfl, Fr.refl _, fun i _ _ h => absurd h (by omega)⟩
      case round =>
        obtain ⟨k, hk, rfl, hf, hv⟩ := hrel
        have HV2 := hid hv
        clear hv
        have FF := F3.trans hf
        obtain ⟨b0, b1, b2, _⟩ := (BB.fr hf).three
        by_cases hlt : k < hd1.length
        · have hlt2 : k < hd2.length := by have := HH.out; omega
          obtain ⟨hb, ho, hA, h0⟩ := HX0.out.at_ hlt
          subst hA
          obtain ⟨gb, go, hA, g0⟩ := HY0.out.at_ hlt2
          subst hA
          replace h0 := FF.cell h0
          replace g0 := FF.cell g0
          have hvk := HP7.out hd1[k] (List.getElem_mem hlt)
          obtain ⟨j, hj⟩ : ∃ j : Nat, hd1[k] = j := ⟨hd1[k].toNat, by omega⟩
          have hjm : j < m.length := by have := HQL.out; omega
          obtain ⟨mb, mo, hB, m0⟩ := HM.out.at_ hjm
          replace m0 := FF.cell m0
          simp only [Nat.mul_one, Nat.add_zero] at h0 g0 m0
          subst hB
          have HVAR := hid (show var m hd1[k] = m[j] from var_at hj hjm)
          rw [hj] at h0
          clear hj hvk
          by_cases he : m[j] = hd2[k]
          · have e3 : (m[j] != hd2[k]) = false := by simp [he]
            have HE := hid he
            clear he
            go_wp2_with fail
            (refine wp_region_quietC (fun w' => Fr _ w') (by kernel_rfl) (by kernel_rfl) (Fr.refl _).drew ?_; (repeat go_big_quiet_step (first | exact fun _ => rfl | exact fun _ => ⟨rfl, rfl⟩ | (intro hw'; replace b1 := hw'.cell b1; replace g0 := hw'.cell g0; replace m0 := hw'.cell m0; go_simp; first | done | exact rfl | exact ⟨rfl, rfl⟩) )); refine wpQuiet_nil ?_; intro wq hq)
            go_wp2
            go_roundw
            case rel => exact ⟨k + 1, by omega, by go_num, hf.trans hq, fun i h1 h2 hi => by
              by_cases q : i = k
              · subst q; rw [HVAR.out]; exact HE.out
              · exact HV2.out i h1 h2 (by omega)⟩
            case measure => simp [intOf]; omega
          · have e3 : (m[j] != hd2[k]) = true := by simp [he]
            have NO := hid (show isHom hd1 bd1 hd2 bd2 m = false by
              unfold isHom
              rw [show decide (hd1.map (var m) = hd2) = false by
                simp only [decide_eq_false_iff_not]
                intro h
                apply he
                rw [← HVAR.out]
                have := congrArg (fun l => l[k]?) h
                simpa [List.getElem?_eq_getElem hlt, List.getElem?_eq_getElem hlt2] using this]
              simp)
            clear he
            go_wp2_with fail
            (refine wp_region_quietC (fun w' => Fr _ w') (by kernel_rfl) (by kernel_rfl) (Fr.refl _).drew ?_; (repeat go_big_quiet_step (first | exact fun _ => rfl | exact fun _ => ⟨rfl, rfl⟩ | (intro hw'; replace b1 := hw'.cell b1; replace g0 := hw'.cell g0; replace m0 := hw'.cell m0; go_simp; first | done | exact rfl | exact ⟨rfl, rfl⟩) )); refine wpQuiet_nil ?_; intro wq hq)
            go_wp2
            go_ret
            exact ⟨ret_bool (by rw [CK.out, NO.out]; simp), FF.trans hq⟩
        · have HM2 := hid (show hd1.map (var m) = hd2 from List.ext_getElem (by rw [List.length_map]; exact HH.out) fun i h1 h2 => by
            rw [List.getElem_map]
            exact HV2.out i (by simpa using h1) h2 (by simp at h1; omega))
          replace BA := BA.fr hf
          replace BB := BB.fr hf
          clear b0 b1 b2 hf
          obtain ⟨a0, a1, a2, _⟩ := BA.three
          go_wp2
          clear a0 a1 a2
          go_loopw [67] (fun t w5 => ∃ (k : Nat), k ≤ bd1.length ∧ t = .int .i64 k ∧ Fr wr w5 ∧ ∀ i (h1 : i < bd1.length), i < k → inA bd2 (bd1[i].by m) = true) (fun t _ => bd1.length - (intOf t).toNat)
          case atStart => exact ⟨0, by omega, rfl, Fr.refl _, fun i _ h => absurd h (by omega)⟩
          case round =>
            obtain ⟨k, hk, rfl, hf, hv⟩ := hrel
            have HV3 := hid hv
            have F4 := FF.trans hf
            clear hv
            obtain ⟨b0, b1, b2, _⟩ := (BB.fr hf).three
            by_cases hlt : k < bd1.length
            · obtain ⟨ab, ao, hA, s0, s1, s2⟩ := HX1.out.atom hlt
              subst hA
              have FA : Fr wr (wr.alloc (.cells #[.int .i64 bd1[k].rel, .int .i64 bd1[k].x, .int .i64 bd1[k].y] 60)) := (Fr.refl _).alloc _
              obtain ⟨e0, e1, e2, _⟩ := (Blk.new wr 60 #[.int .i64 bd1[k].rel, .int .i64 bd1[k].x, .int .i64 bd1[k].y]).three
              have hbk := HP6.out bd1[k] (List.getElem_mem hlt)
              have hql := HQL.out
              obtain ⟨nx, hnx⟩ : ∃ j : Nat, bd1[k].x = j := ⟨bd1[k].x.toNat, by omega⟩
              obtain ⟨ny, hny⟩ : ∃ j : Nat, bd1[k].y = j := ⟨bd1[k].y.toNat, by omega⟩
              have lx : nx < m.length := by omega
              have ly : ny < m.length := by omega
              clear hql
              obtain ⟨mb, mo, hMA, m0⟩ := HM.out.at_ lx
              subst hMA
              obtain ⟨mb', mo', hMA, m1⟩ := HM.out.at_ ly
              cases hMA
              have EBY := hid (show bd1[k].by m = ⟨bd1[k].rel, m[nx], m[ny]⟩ by unfold Atom.by; rw [var_at hnx lx, var_at hny ly])
              replace s0 := F4.cell s0
              replace s1 := F4.cell s1
              replace s2 := F4.cell s2
              simp only [hnx, hny] at FA e0 e1 e2 s0 s1 s2
              have m0' := (F4.trans FA).cell m0
              have m1' := (F4.trans FA).cell m1
              have b2' := FA.cell b2
              simp only [Nat.mul_one, Nat.add_zero] at m0' m1'
              clear m0 m1 hbk hnx hny
              cases hin : inA bd2 (bd1[k].by m)
              · have NO := hid (show isHom hd1 bd1 hd2 bd2 m = false by
                  unfold isHom
                  rw [all_no (p := fun a => inA bd2 (a.by m)) hlt hin]; rfl)
                have R := hid (show inA bd2 ⟨bd1[k].rel, m[nx], m[ny]⟩ = false by rw [← EBY.out]; exact hin)
                clear hin
                go_wp2_with fail
                (refine wp_region_quietC (fun w' => Fr _ w') (by kernel_rfl) (by kernel_rfl) (Fr.refl _).drew ?_; (repeat go_big_quiet_step (first | exact fun _ => rfl | exact fun _ => ⟨rfl, rfl⟩ | (intro hw'; replace b2' := hw'.cell b2'; replace e0 := hw'.cell e0; replace e1 := hw'.cell e1; replace e2 := hw'.cell e2; replace m0' := hw'.cell m0'; replace m1' := hw'.cell m1'; go_simp; first | done | exact rfl | exact ⟨rfl, rfl⟩) | (intro hw'; go_at_call 43; refine (containsAtom B1 d1 bd2 ⟨bd1[k].rel, m[nx], m[ny]⟩ _ (HY1.out.fr rdAtom_mono ((F4.trans FA).trans hw')) l3).mono ?_; rintro r w9 ⟨rfl, b9⟩; rw [R.out]; exact ⟨rfl, Fr.trans hw' b9⟩))); refine wpQuiet_nil ?_; intro wq hq)
                go_wp2
                go_ret
                exact ⟨ret_bool (by rw [CK.out, NO.out]; simp), (F4.trans FA).trans hq⟩
              · have HI := hid hin
                have R := hid (show inA bd2 ⟨bd1[k].rel, m[nx], m[ny]⟩ = true by rw [← EBY.out]; exact hin)
                clear hin
                go_wp2_with fail
                (refine wp_region_quietC (fun w' => Fr _ w') (by kernel_rfl) (by kernel_rfl) (Fr.refl _).drew ?_; (repeat go_big_quiet_step (first | exact fun _ => rfl | exact fun _ => ⟨rfl, rfl⟩ | (intro hw'; replace b2' := hw'.cell b2'; replace e0 := hw'.cell e0; replace e1 := hw'.cell e1; replace e2 := hw'.cell e2; replace m0' := hw'.cell m0'; replace m1' := hw'.cell m1'; go_simp; first | done | exact rfl | exact ⟨rfl, rfl⟩) | (intro hw'; go_at_call 43; refine (containsAtom B1 d1 bd2 ⟨bd1[k].rel, m[nx], m[ny]⟩ _ (HY1.out.fr rdAtom_mono ((F4.trans FA).trans hw')) l3).mono ?_; rintro r w9 ⟨rfl, b9⟩; rw [R.out]; exact ⟨rfl, Fr.trans hw' b9⟩))); refine wpQuiet_nil ?_; intro wq hq)
                go_wp2
                go_roundw
                case rel => exact ⟨k + 1, by omega, by go_num, (hf.trans FA).trans hq, fun i h hi => by
                  by_cases q : i = k
                  · subst q; exact HI.out
                  · exact HV3.out i h (by omega)⟩
                case measure => simp [intOf]; omega
            · have YES := hid (show isHom hd1 bd1 hd2 bd2 m = true by
                unfold isHom
                rw [all_yes (p := fun a => inA bd2 (a.by m)) (fun i hi => HV3.out i hi (by omega)), HM2.out]; simp)
              go_wp2
              go_ret
              exact ⟨ret_bool (by rw [CK.out, AE.out, YES.out]; simp [HQL.out]), F4⟩
end Go.Proofs.Ytahclhldpcboeaa
