/- Walks of homomorphisms, on the spec's side: hasFact, headOf, compareInts, equalInts, isHomomorphism, CheckHomomorphism. -/
import Derived.Test.YtahclhldpcboeaaGreatDoorFrzW
import Derived.Deep.RegionHeld3
import Derived.Test.YtahclhldpcboeaaGreatDoorRuleI
namespace Go.Proofs.YtahclhldpcboeaaGreatDoor
open Go Go.RowKit

theorem factEq_lit (a f : Fact) : (a = f ∧ (a.rel == f.rel) = true ∧ (a.x == f.x) = true ∧ (a.y == f.y) = true) ∨ (a ≠ f ∧ (a.rel == f.rel) = false) ∨ (a ≠ f ∧ (a.rel == f.rel) = true ∧ (a.x == f.x) = false) ∨ (a ≠ f ∧ (a.rel == f.rel) = true ∧ (a.x == f.x) = true ∧ (a.y == f.y) = false) := by
  rcases a with ⟨r, x, y⟩
  rcases f with ⟨r', x', y'⟩
  by_cases q1 : r = r'
  · by_cases q2 : x = x'
    · by_cases q3 : y = y'
      · left; simp [q1, q2, q3]
      · right; right; right; simp [q1, q2, q3]
    · right; right; left; simp [q1, q2]
  · right; left; simp [q1]
theorem rd_intF {m : Mv} {b o : Nat} {xs : List Int} (h : RdSl rdInt m 1 (some ⟨b, o, none⟩) xs) {i : Nat} (hi : i < xs.length) : m ⟨b, o + i, none⟩ = some (.int .i64 xs[i]) := by
  obtain ⟨b', o', hA, hc⟩ := h.at_ hi
  cases hA
  have hc : m ⟨b, o + i * 1 + 0, none⟩ = some (.int .i64 xs[i]) := hc
  simpa using hc
set_option maxRecDepth 100000 in
set_option maxHeartbeats 2000000 in
theorem headOf (A B : Option Addr) (c d : Nat) (hd m : List Int) (w : World) (hx : RdSl rdInt w.cell? 1 A hd) (hy : RdSl rdInt w.cell? 1 B m) (hl : hd.length ≤ 1048576) (hv : ∀ v ∈ hd, 0 ≤ v ∧ v < m.length) :
    Calls Tryz.prog 71 #[.slice A hd.length c, .slice B m.length d] w fun r w' => ∃ A' c', r = .returned (.slice A' hd.length c') ∧ RdSl rdInt (fromB w' w.heap.size) 1 A' (hd.map (var m)) ∧ Fr w w' := by
  have HX := hid hx
  have HY := hid hy
  have HV := hid hv
  clear hx hy hv
  have F1 : Fr w (w.alloc (.cells #[] 3)) := (Fr.refl _).alloc _
  have O1 := own_empty (w := w) (base := w.heap.size) (e := 3) (sz := 1) (Nat.le_refl _)
  go_enter Tryz.func71, Tryz.ntmps71
  go_wp2
  generalize w.alloc (.cells #[] 3) = W1 at O1 F1 ⊢
  go_loopw [5, 6] (fun s t wr => ∃ (k : Nat) (v : Value), k ≤ hd.length ∧ t = .int .i64 k ∧ v = s ∧ Fr w wr ∧ Hid (wr.ownsRow w.heap.size 3 1 v k (((hd.map (var m)).take k).map iv))) (fun _ t _ => hd.length - (intOf t).toNat)
  case atStart => exact ⟨0, _, by omega, rfl, rfl, F1, hid (by simpa using O1)⟩
  case round =>
    obtain ⟨k, v, hk, rfl, rfl, hf, hO⟩ := hrel
    have hsr := hf.size
    clear O1
    by_cases hlt : k < hd.length
    · obtain ⟨hb, ho, hA, h0⟩ := HX.out.at_ hlt
      replace h0 := hf.cell h0
      simp only [Nat.mul_one, Nat.add_zero] at h0
      subst hA
      have hvk := HV.out hd[k] (List.getElem_mem hlt)
      obtain ⟨j, hj⟩ : ∃ j : Nat, hd[k] = j := ⟨hd[k].toNat, by omega⟩
      have hjm : j < m.length := by omega
      obtain ⟨mb, mo, hB, g0⟩ := HY.out.at_ hjm
      replace g0 := hf.cell g0
      simp only [Nat.mul_one, Nat.add_zero] at g0
      subst hB
      have hvar : var m hd[k] = m[j] := var_at hj hjm
      have T := hid (show ((hd.map (var m)).take (k + 1)).map iv = ((hd.map (var m)).take k).map iv ++ [.int .i64 m[j]] by
        rw [List.take_succ_eq_append_getElem (by simpa using hlt), List.map_append, List.getElem_map, hvar]; rfl)
      rw [hj] at h0
      clear hj hvk hvar
      go_wp2_with (first | (at_builtin; refine wp_appS rfl _ _ 23 rfl w.heap.size 3 (.int .i64 0) 1 8 Tryz.underlying23 (by kernel_rfl) rfl (by decide) (by decide) _ _ _ rfl (own_fr hO.out ((Fr.refl wr).alloc _)) (by omega) (by simp; omega) wr.heap.size 0 1 1 [.int .i64 m[j]] rfl rfl (fun j u hu => by rw [Nat.zero_add, (Blk.new wr _ _).cell]; simpa using hu) (by omega) rfl ?_; intro v8 w8 hO8 hg8; have F8 : Fr w w8 := Fr.grown (hf.alloc _) hg8 (own_fr hO.out ((Fr.refl wr).alloc _))) | fail)
      rw [← T.out] at hO8
      have HO8 := hid hO8
      clear hO8
      go_roundw
      case rel => exact ⟨k + 1, _, by omega, by go_num, rfl, F8, HO8⟩
      case measure => simp [intOf]; omega
    · obtain rfl : k = hd.length := by omega
      obtain ⟨A', c', rfl, hc⟩ := own_capF hO.out
      go_wp2
      go_ret
      refine ⟨A', c', rfl, ?_, hf⟩
      have h := hO.out
      rw [List.take_of_length_le (by simp)] at h
      exact own_int h (by simp)
set_option maxRecDepth 100000 in
set_option maxHeartbeats 2000000 in
theorem compareInts (A B : Option Addr) (c d : Nat) (xs ys : List Int) (w : World) (hx : RdSl rdInt w.cell? 1 A xs) (hy : RdSl rdInt w.cell? 1 B ys) (hl : xs.length ≤ 1048576) (he : ys.length = xs.length) (bx : ∀ v ∈ xs, -100000 ≤ v ∧ v ≤ 100000) (byy : ∀ v ∈ ys, -100000 ≤ v ∧ v ≤ 100000) :
    Calls Tryz.prog 92 #[.slice A xs.length c, .slice B ys.length d] w fun r w' => r = .returned (.int .i64 (cmpI xs ys)) ∧ Fr w w' := by
  have HX := hid hx
  have HY := hid hy
  have HE := hid he
  have BX := hid bx
  have BY := hid byy
  clear hx hy he bx byy
  go_enter Tryz.func92, Tryz.ntmps92
  go_wp2
  go_loopw [5] (fun t wr => ∃ (k : Nat), k ≤ xs.length ∧ t = .int .i64 k ∧ Fr w wr ∧ ∀ i (h1 : i < xs.length) (h2 : i < ys.length), i < k → xs[i] = ys[i]) (fun t _ => xs.length - (intOf t).toNat)
  case atStart => exact ⟨0, by omega, rfl, Fr.refl _, fun i _ _ h => absurd h (by omega)⟩
  case round =>
    obtain ⟨k, hk, rfl, hf, hv⟩ := hrel
    have HV := hid hv
    clear hv
    by_cases hlt : k < xs.length
    · have hlt2 : k < ys.length := by rw [HE.out]; exact hlt
      obtain ⟨xb, xo, hA, c0⟩ := HX.out.at_ hlt
      obtain ⟨yb, yo, hB, d0⟩ := HY.out.at_ hlt2
      subst hA hB
      replace c0 := hf.cell c0
      replace d0 := hf.cell d0
      simp only [Nat.mul_one, Nat.add_zero] at c0 d0
      have h1 := BX.out xs[k] (List.getElem_mem hlt)
      have h2 := BY.out ys[k] (List.getElem_mem hlt2)
      by_cases hne : xs[k] = ys[k]
      · have e1 : (xs[k] != ys[k]) = false := by simp [hne]
        have HN := hid hne
        clear hne
        go_wp2_with fail
        (refine wp_region_quietC (fun w' => Fr _ w') (by kernel_rfl) (by kernel_rfl) (Fr.refl _).drew ?_; (repeat go_big_quiet_step (first | exact fun _ => rfl | exact fun _ => ⟨rfl, rfl⟩ | (intro hw'; replace c0 := hw'.cell c0; replace d0 := hw'.cell d0; go_simp; first | done | exact rfl | exact ⟨rfl, rfl⟩) )); refine wpQuiet_nil ?_; intro wq hq)
        go_wp2
        go_roundw
        case rel => exact ⟨k + 1, by omega, by go_num, hf.trans hq, fun i h1 h2 hi => by
          by_cases q : i = k
          · subst q; exact HN.out
          · exact HV.out i h1 h2 (by omega)⟩
        case measure => simp [intOf]; omega
      · have e1 : (xs[k] != ys[k]) = true := by simp [hne]
        have R := hid (cmpI_at hlt hlt2 HV.out hne)
        clear hne
        go_wp2_with fail
        (refine wp_region_quietC (fun w' => Fr _ w') (by kernel_rfl) (by kernel_rfl) (Fr.refl _).drew ?_; (repeat go_big_quiet_step (first | exact fun _ => rfl | exact fun _ => ⟨rfl, rfl⟩ | (intro hw'; replace c0 := hw'.cell c0; replace d0 := hw'.cell d0; go_simp; first | done | exact rfl | exact ⟨rfl, rfl⟩) )); refine wpQuiet_nil ?_; intro wq hq)
        have FF := hf.trans hq
        replace c0 := hq.cell c0
        replace d0 := hq.cell d0
        clear hq
        go_wp2_with fail
        (refine wp_region_quietC (fun w' => Fr _ w') (by kernel_rfl) (by kernel_rfl) (Fr.refl _).drew ?_; (repeat go_big_quiet_step (first | exact fun _ => rfl | exact fun _ => ⟨rfl, rfl⟩ | (intro hw'; replace c0 := hw'.cell c0; replace d0 := hw'.cell d0; go_simp; first | done | exact rfl | exact ⟨rfl, rfl⟩) )); refine wpQuiet_nil ?_; intro wq hq)
        go_wp2
        go_ret
        exact ⟨ret_int (by rw [R.out]), FF.trans hq⟩
    · have R := hid (show cmpI xs ys = 0 from (cmpI_zero HE.out.symm).2 (List.ext_getElem HE.out.symm fun i h1 h2 => HV.out i h1 h2 (by omega)))
      go_wp2
      go_ret
      exact ⟨ret_int R.out.symm, hf⟩
theorem var_mem {m : List Int} {v : Int} (h0 : 0 ≤ v) (h1 : v < m.length) : var m v ∈ m := by
  obtain ⟨n, rfl⟩ : ∃ n : Nat, v = n := ⟨v.toNat, by omega⟩
  have hn : n < m.length := by omega
  rw [var_at rfl hn]
  exact List.getElem_mem hn
/- The walk of CheckHomomorphism, on the spec's side. -/

theorem hasV_iff {q v : Int} : hasV q v = true ↔ 0 ≤ v ∧ v < q := by simp [hasV]
/- The walk of CheckHomomorphism, on the program's side. -/

theorem atomEq_lit (a f : Atom) : (a = f ∧ (f.rel == a.rel) = true ∧ (f.x == a.x) = true ∧ (f.y == a.y) = true) ∨ (a ≠ f ∧ (f.rel == a.rel) = false) ∨ (a ≠ f ∧ (f.rel == a.rel) = true ∧ (f.x == a.x) = false) ∨ (a ≠ f ∧ (f.rel == a.rel) = true ∧ (f.x == a.x) = true ∧ (f.y == a.y) = false) := by
  rcases a with ⟨r, x, y⟩
  rcases f with ⟨r', x', y'⟩
  by_cases q1 : r' = r
  · by_cases q2 : x' = x
    · by_cases q3 : y' = y
      · left; simp [q1, q2, q3]
      · right; right; right; simp [q1, q2, q3]; exact fun h => q3 h.symm
    · right; right; left; simp [q1, q2]; exact fun h => absurd h.symm q2
  · right; left; simp [q1]; exact fun h => absurd h.symm q1
end Go.Proofs.YtahclhldpcboeaaGreatDoor
