/- Walks of the columns of expressions, on the spec's side. -/
import Derived.Test.YtfillcjpdnpaiaaColP
import Derived.Test.YtfillcjpdnpaiaaOwn
import Derived.Test.YtfillcjpdnpaiaaInts
import Derived.Test.YtfillcjpdnpaiaaExprG
namespace Go.Proofs.Ytfillcjpdnpaiaa
open Go Go.RowKit

/-- A number put into an ascending list, unless it is there. -/
def insN : List Int → Int → List Int
  | [], n => [n]
  | x :: r, n => if x < n then x :: insN r n else if x = n then x :: r else n :: x :: r
theorem insN_at : ∀ (xs : List Int) (n : Int) (k : Nat), k ≤ xs.length → (∀ i (h : i < xs.length), i < k → xs[i] < n) → insN xs n = xs.take k ++ insN (xs.drop k) n
  | xs, n, 0, _, _ => by simp
  | [], n, k + 1, h, _ => by simp at h
  | x :: r, n, k + 1, h, hl => by
    have h0 : x < n := hl 0 (by simp) (by omega)
    have := insN_at r n k (by simpa using h) (fun i hi hk => by have := hl (i + 1) (by simpa using hi) (by omega); simpa using this)
    rw [insN, if_pos h0, this]; simp
theorem insN_same {xs : List Int} {n : Int} {k : Nat} (hk : k < xs.length) (hl : ∀ i (h : i < xs.length), i < k → xs[i] < n) (he : xs[k] = n) : insN xs n = xs := by
  rw [insN_at xs n k (by omega) hl, List.drop_eq_getElem_cons hk, insN, if_neg (by omega), if_pos he, ← List.drop_eq_getElem_cons hk, List.take_append_drop]
theorem insN_new {xs : List Int} {n : Int} {k : Nat} (hk : k ≤ xs.length) (hl : ∀ i (h : i < xs.length), i < k → xs[i] < n) (he : ∀ h : k < xs.length, n < xs[k]) : insN xs n = xs.take k ++ n :: xs.drop k := by
  rw [insN_at xs n k hk hl]
  congr 1
  by_cases h : k < xs.length
  · have := he h
    rw [List.drop_eq_getElem_cons h, insN, if_neg (by omega), if_neg (by omega)]
  · rw [List.drop_eq_nil_of_le (by omega)]; rfl
/-- The list of a set, a number put in. -/
theorem insN_bits : ∀ m : Nat, m < 64 → ∀ c : Nat, c < 6 → insN ((bitsN m 6).map (fun c : Nat => (c : Int))) (c : Int) = (bitsN (m ||| 1 <<< c) 6).map (fun c : Nat => (c : Int)) := by decide
theorem rd_int_at {m : Mv} {b o : Nat} {xs : List Int} (h : RdSl rdInt m 1 (some ⟨b, o, none⟩) xs) {i : Nat} (hi : i < xs.length) : m ⟨b, o + i, none⟩ = some (.int .i64 xs[i]) := by
  obtain ⟨b', o', hA, hc⟩ := h.at_ hi
  cases hA
  have hc : m ⟨b, o + i * 1 + 0, none⟩ = some (.int .i64 xs[i]) := hc
  simpa using hc
set_option maxRecDepth 100000 in
set_option maxHeartbeats 2000000 in
theorem addNum (b o cap : Nat) (xs : List Int) (n : Int) (w : World) (hx : RdSl rdInt w.cell? 1 (some ⟨b, o, none⟩) xs) (hl : xs.length ≤ 100) (hc : xs.length ≤ cap) :
    Calls Try.prog 66 #[.slice (some ⟨b, o, none⟩) xs.length cap, .int .i64 n] w fun r w' => ∃ b' o' cap', r = .returned (.slice (some ⟨b', o', none⟩) (insN xs n).length cap') ∧ RdSl rdInt w'.cell? 1 (some ⟨b', o', none⟩) (insN xs n) ∧ (insN xs n).length ≤ cap' ∧ Fr w w' := by
  have HX := hid hx
  clear hx
  go_enter Try.func66, Try.ntmps66
  go_wp2
  go_loopw [5] (fun t wr => ∃ (k : Nat), k ≤ xs.length ∧ t = .int .i64 k ∧ Hid (wr = w) ∧ ∀ i (h : i < xs.length), i < k → xs[i] < n) (fun t _ => xs.length - (intOf t).toNat)
  case atStart => exact ⟨0, by omega, rfl, hid rfl, fun i _ h => absurd h (by omega)⟩
  case round =>
    obtain ⟨k, hk, rfl, hwr, hv⟩ := hrel
    obtain rfl := hwr.out
    have HV := hid hv
    clear hv
    by_cases hlt : k < xs.length
    · have c0 := rd_int_at HX.out hlt
      by_cases hn : xs[k] < n
      · have e1 : decide (xs[k] < n) = true := by simp [hn]
        have HN := hid hn
        clear hn
        go_wp2
        go_roundw
        case rel => exact ⟨k + 1, by omega, by go_num, by first | trivial | exact hid rfl, fun i h hi => by
          by_cases q : i = k
          · subst q; exact HN.out
          · exact HV.out i h (by omega)⟩
        case measure => simp [intOf]; omega
      · have e1 : decide (xs[k] < n) = false := by simp; omega
        by_cases he : xs[k] = n
        · have e2 : (xs[k] == n) = true := by simp [he]
          have R := hid (insN_same hlt HV.out he)
          clear hn he
          go_wp2
          go_ret
          rw [R.out]
          exact ⟨b, o, cap, rfl, HX.out, hc, Fr.refl _⟩
        · have e2 : (xs[k] == n) = false := by simp [he]
          have R := hid (insN_new (k := k) hk HV.out (fun _ => by omega))
          clear hn he
          have hO0 := hid (own_empty (w := wr) (base := wr.heap.size) (e := 3) (sz := 1) (Nat.le_refl _))
          have L1 : ((xs.take k).map iv).length = k * 1 := by simp; omega
          have L2 : ((xs.drop k).map iv).length = (xs.length - k) * 1 := by simp
          have P1 := hid (fun (W : World) (hW : Fr wr W) (j : Nat) (u : Value) (hu : ((xs.take k).map iv)[j]? = some u) => (show W.cell? ⟨b, o + j, none⟩ = some u by
            rw [List.getElem?_map] at hu
            rcases Nat.lt_or_ge j k with hj | hj
            · rw [List.getElem?_take_of_lt hj, List.getElem?_eq_getElem (show j < xs.length by omega)] at hu
              cases hu
              exact hW.cell (rd_int_at HX.out (by omega))
            · rw [List.getElem?_eq_none (by simp; omega)] at hu; cases hu))
          have P2 := hid (fun (W : World) (hW : Fr wr W) (j : Nat) (u : Value) (hu : ((xs.drop k).map iv)[j]? = some u) => (show W.cell? ⟨b, o + k + j, none⟩ = some u by
            rw [List.getElem?_map, List.getElem?_drop] at hu
            rcases Nat.lt_or_ge (k + j) xs.length with hj | hj
            · rw [List.getElem?_eq_getElem hj] at hu
              cases hu
              have := hW.cell (rd_int_at HX.out hj)
              rwa [show o + (k + j) = o + k + j by omega] at this
            · rw [List.getElem?_eq_none hj] at hu; cases hu))
          have O1 : ((xs.take k).map iv).all (·.oneCell') = true := by rw [List.all_eq_true]; intro u hu; obtain ⟨x, _, rfl⟩ := List.mem_map.1 hu; rfl
          have O2 : ((xs.drop k).map iv).all (·.oneCell') = true := by rw [List.all_eq_true]; intro u hu; obtain ⟨x, _, rfl⟩ := List.mem_map.1 hu; rfl
          go_wp2_with (first
            | (at_builtin; refine wp_appRd rfl _ _ 28 rfl wr.heap.size 3 (.int .i64 0) 1 8 Try.underlying28 (by kernel_rfl) rfl (by decide) (by decide) _ 0 [] rfl hO0.out (by omega) (by simp) b o k cap ((xs.take k).map iv) rfl L1 (P1.out _ ((Fr.refl wr).alloc _)) (by omega) O1 ?_; intro v5 w5 hO5 hg5; have F5 : Fr wr w5 := Fr.grown ((Fr.refl wr).alloc _) hg5 hO0.out; have hs5 := F5.size; simp only [Nat.zero_add, List.nil_append] at hO5)
            | (at_builtin; refine wp_app1 rfl _ _ 28 rfl wr.heap.size 3 (.int .i64 0) 1 8 Try.underlying28 (by kernel_rfl) rfl (by decide) (by decide) _ _ _ rfl (own_fr hO5 ((Fr.refl w5).alloc _)) (by omega) (by simp; omega) w5.heap.size [.int .i64 n] rfl (blk_new (by simp)) rfl rfl ?_; intro v6 w6 hO6 hg6; have F6 : Fr wr w6 := Fr.grown (F5.alloc _) hg6 (own_fr hO5 ((Fr.refl w5).alloc _)); have hs6 := F6.size)
            | (at_builtin; refine wp_appRd rfl _ _ 28 rfl wr.heap.size 3 (.int .i64 0) 1 8 Try.underlying28 (by kernel_rfl) rfl (by decide) (by decide) _ _ _ rfl hO6 (by omega) (by omega) b (o + k) (xs.length - k) (cap - k) ((xs.drop k).map iv) rfl L2 (P2.out _ F6) (by omega) O2 ?_; intro v7 w7 hO7 hg7; have F7 : Fr wr w7 := Fr.grown F6 hg7 hO6))
          obtain ⟨g7, cap7, cs7, rfl, hg7', _, _⟩ := own_form2 hO7 (by omega)
          have HO7 := hid hO7
          clear hO7
          go_wp2
          go_ret
          have hlen : k + 1 + (xs.length - k) = (xs.take k ++ n :: xs.drop k).length := by simp; omega
          rw [R.out]
          refine ⟨g7, 0, cap7, by rw [hlen]; rfl, ?_, ?_, F7⟩
          · have h := HO7.out
            rw [show (xs.take k).map iv ++ [Value.int .i64 n] ++ (xs.drop k).map iv = (xs.take k ++ n :: xs.drop k).map iv by simp] at h
            exact (own_int h hlen).mono rdInt_mono (fromB_le _ _)
          · obtain ⟨A', cap', hA', hcp⟩ := own_cap HO7.out
            cases hA'
            omega
    · have R := hid (insN_new (k := k) hk HV.out (fun h => absurd h hlt))
      by_cases hcap : k = cap
      · subst hcap
        by_cases hz : k = 0
        · subst hz
          have hO0 := hid (own_empty (w := wr) (base := wr.heap.size) (e := 3) (sz := 1) (Nat.le_refl _))
          have L1 : ((xs.take 0).map iv).length = 0 * 1 := by simp
          have L2 : ((xs.drop 0).map iv).length = (xs.length - 0) * 1 := by simp
          have P1 := hid (fun (W : World) (hW : Fr wr W) (j : Nat) (u : Value) (hu : ((xs.take 0).map iv)[j]? = some u) => (show W.cell? ⟨b, o + j, none⟩ = some u by
            rw [List.getElem?_map] at hu
            rcases Nat.lt_or_ge j 0 with hj | hj
            · rw [List.getElem?_take_of_lt hj, List.getElem?_eq_getElem (show j < xs.length by omega)] at hu
              cases hu
              exact hW.cell (rd_int_at HX.out (by omega))
            · rw [List.getElem?_eq_none (by simp)] at hu; cases hu))
          have P2 := hid (fun (W : World) (hW : Fr wr W) (j : Nat) (u : Value) (hu : ((xs.drop 0).map iv)[j]? = some u) => (show W.cell? ⟨b, o + 0 + j, none⟩ = some u by
            rw [List.getElem?_map, List.getElem?_drop] at hu
            rcases Nat.lt_or_ge (0 + j) xs.length with hj | hj
            · rw [List.getElem?_eq_getElem hj] at hu
              cases hu
              have := hW.cell (rd_int_at HX.out hj)
              rwa [show o + (0 + j) = o + 0 + j by omega] at this
            · rw [List.getElem?_eq_none hj] at hu; cases hu))
          have P3 := hid (fun (W : World) (_ : Fr wr W) (j : Nat) (u : Value) (hu : ((xs.drop 0).map iv)[j]? = some u) => (show W.cell? ⟨b, o + j, none⟩ = some u by
            rw [List.drop_eq_nil_of_le (by omega)] at hu; simp at hu))
          have O1 : ((xs.take 0).map iv).all (·.oneCell') = true := by rw [List.all_eq_true]; intro u hu; obtain ⟨x, _, rfl⟩ := List.mem_map.1 hu; rfl
          have O2 : ((xs.drop 0).map iv).all (·.oneCell') = true := by rw [List.all_eq_true]; intro u hu; obtain ⟨x, _, rfl⟩ := List.mem_map.1 hu; rfl
          go_wp2_with (first
            | (at_builtin; refine wp_appRd rfl _ _ 28 rfl wr.heap.size 3 (.int .i64 0) 1 8 Try.underlying28 (by kernel_rfl) rfl (by decide) (by decide) _ 0 [] rfl hO0.out (by omega) (by simp) b o 0 0 ((xs.take 0).map iv) rfl L1 (P1.out _ ((Fr.refl wr).alloc _)) (by omega) O1 ?_; intro v5 w5 hO5 hg5; have F5 : Fr wr w5 := Fr.grown ((Fr.refl wr).alloc _) hg5 hO0.out; have hs5 := F5.size; simp only [Nat.zero_add, List.nil_append] at hO5)
            | (at_builtin; refine wp_app1 rfl _ _ 28 rfl wr.heap.size 3 (.int .i64 0) 1 8 Try.underlying28 (by kernel_rfl) rfl (by decide) (by decide) _ _ _ rfl (own_fr hO5 ((Fr.refl w5).alloc _)) (by omega) (by simp; omega) w5.heap.size [.int .i64 n] rfl (blk_new (by simp)) rfl rfl ?_; intro v6 w6 hO6 hg6; have F6 : Fr wr w6 := Fr.grown (F5.alloc _) hg6 (own_fr hO5 ((Fr.refl w5).alloc _)); have hs6 := F6.size)
            | (at_builtin; refine wp_appRd rfl _ _ 28 rfl wr.heap.size 3 (.int .i64 0) 1 8 Try.underlying28 (by kernel_rfl) rfl (by decide) (by decide) _ _ _ rfl hO6 (by omega) (by omega) b o 0 0 [] rfl rfl (fun j u hu => by simp at hu) (by omega) rfl ?_; intro v7 w7 hO7' hg7; have hO7 : w7.ownsRow wr.heap.size 3 1 v7 (0 + 1 + (xs.length - 0)) ((xs.take 0).map iv ++ [.int .i64 n] ++ (xs.drop 0).map iv) := (by rw [List.drop_eq_nil_of_le (show xs.length ≤ 0 by omega), show xs.length - 0 = 0 by omega]; simpa using hO7'); have F7 : Fr wr w7 := Fr.grown F6 hg7 hO6))
          obtain ⟨g7, cap7, cs7, rfl, hg7', _, _⟩ := own_form2 hO7 (by omega)
          have HO7 := hid hO7
          clear hO7
          go_wp2
          go_ret
          have hlen : 0 + 1 + (xs.length - 0) = (xs.take 0 ++ n :: xs.drop 0).length := by simp; omega
          rw [R.out]
          refine ⟨g7, 0, cap7, by rw [hlen]; rfl, ?_, ?_, F7⟩
          · have h := HO7.out
            rw [show (xs.take 0).map iv ++ [Value.int .i64 n] ++ (xs.drop 0).map iv = (xs.take 0 ++ n :: xs.drop 0).map iv by simp] at h
            exact (own_int h hlen).mono rdInt_mono (fromB_le _ _)
          · obtain ⟨A', cap', hA', hcp⟩ := own_cap HO7.out
            cases hA'
            omega
        · skip
          have hO0 := hid (own_empty (w := wr) (base := wr.heap.size) (e := 3) (sz := 1) (Nat.le_refl _))
          have L1 : ((xs.take k).map iv).length = k * 1 := by simp; omega
          have L2 : ((xs.drop k).map iv).length = (xs.length - k) * 1 := by simp
          have P1 := hid (fun (W : World) (hW : Fr wr W) (j : Nat) (u : Value) (hu : ((xs.take k).map iv)[j]? = some u) => (show W.cell? ⟨b, o + j, none⟩ = some u by
            rw [List.getElem?_map] at hu
            rcases Nat.lt_or_ge j k with hj | hj
            · rw [List.getElem?_take_of_lt hj, List.getElem?_eq_getElem (show j < xs.length by omega)] at hu
              cases hu
              exact hW.cell (rd_int_at HX.out (by omega))
            · rw [List.getElem?_eq_none (by simp; omega)] at hu; cases hu))
          have P2 := hid (fun (W : World) (hW : Fr wr W) (j : Nat) (u : Value) (hu : ((xs.drop k).map iv)[j]? = some u) => (show W.cell? ⟨b, o + k + j, none⟩ = some u by
            rw [List.getElem?_map, List.getElem?_drop] at hu
            rcases Nat.lt_or_ge (k + j) xs.length with hj | hj
            · rw [List.getElem?_eq_getElem hj] at hu
              cases hu
              have := hW.cell (rd_int_at HX.out hj)
              rwa [show o + (k + j) = o + k + j by omega] at this
            · rw [List.getElem?_eq_none hj] at hu; cases hu))
          have P3 := hid (fun (W : World) (_ : Fr wr W) (j : Nat) (u : Value) (hu : ((xs.drop k).map iv)[j]? = some u) => (show W.cell? ⟨b, o + j, none⟩ = some u by
            rw [List.drop_eq_nil_of_le (by omega)] at hu; simp at hu))
          have O1 : ((xs.take k).map iv).all (·.oneCell') = true := by rw [List.all_eq_true]; intro u hu; obtain ⟨x, _, rfl⟩ := List.mem_map.1 hu; rfl
          have O2 : ((xs.drop k).map iv).all (·.oneCell') = true := by rw [List.all_eq_true]; intro u hu; obtain ⟨x, _, rfl⟩ := List.mem_map.1 hu; rfl
          go_wp2_with (first
            | (at_builtin; refine wp_appRd rfl _ _ 28 rfl wr.heap.size 3 (.int .i64 0) 1 8 Try.underlying28 (by kernel_rfl) rfl (by decide) (by decide) _ 0 [] rfl hO0.out (by omega) (by simp) b o k k ((xs.take k).map iv) rfl L1 (P1.out _ ((Fr.refl wr).alloc _)) (by omega) O1 ?_; intro v5 w5 hO5 hg5; have F5 : Fr wr w5 := Fr.grown ((Fr.refl wr).alloc _) hg5 hO0.out; have hs5 := F5.size; simp only [Nat.zero_add, List.nil_append] at hO5)
            | (at_builtin; refine wp_app1 rfl _ _ 28 rfl wr.heap.size 3 (.int .i64 0) 1 8 Try.underlying28 (by kernel_rfl) rfl (by decide) (by decide) _ _ _ rfl (own_fr hO5 ((Fr.refl w5).alloc _)) (by omega) (by simp; omega) w5.heap.size [.int .i64 n] rfl (blk_new (by simp)) rfl rfl ?_; intro v6 w6 hO6 hg6; have F6 : Fr wr w6 := Fr.grown (F5.alloc _) hg6 (own_fr hO5 ((Fr.refl w5).alloc _)); have hs6 := F6.size)
            | (at_builtin; refine wp_appRd rfl _ _ 28 rfl wr.heap.size 3 (.int .i64 0) 1 8 Try.underlying28 (by kernel_rfl) rfl (by decide) (by decide) _ _ _ rfl hO6 (by omega) (by omega) b o 0 0 [] rfl rfl (fun j u hu => by simp at hu) (by omega) rfl ?_; intro v7 w7 hO7' hg7; have hO7 : w7.ownsRow wr.heap.size 3 1 v7 (k + 1 + (xs.length - k)) ((xs.take k).map iv ++ [.int .i64 n] ++ (xs.drop k).map iv) := (by rw [List.drop_eq_nil_of_le (show xs.length ≤ k by omega), show xs.length - k = 0 by omega]; simpa using hO7'); have F7 : Fr wr w7 := Fr.grown F6 hg7 hO6))
          obtain ⟨g7, cap7, cs7, rfl, hg7', _, _⟩ := own_form2 hO7 (by omega)
          have HO7 := hid hO7
          clear hO7
          go_wp2
          go_ret
          have hlen : k + 1 + (xs.length - k) = (xs.take k ++ n :: xs.drop k).length := by simp; omega
          rw [R.out]
          refine ⟨g7, 0, cap7, by rw [hlen]; rfl, ?_, ?_, F7⟩
          · have h := HO7.out
            rw [show (xs.take k).map iv ++ [Value.int .i64 n] ++ (xs.drop k).map iv = (xs.take k ++ n :: xs.drop k).map iv by simp] at h
            exact (own_int h hlen).mono rdInt_mono (fromB_le _ _)
          · obtain ⟨A', cap', hA', hcp⟩ := own_cap HO7.out
            cases hA'
            omega
      · have hcap' : ¬ cap = k := fun e => hcap e.symm
        have hO0 := hid (own_empty (w := wr) (base := wr.heap.size) (e := 3) (sz := 1) (Nat.le_refl _))
        have L1 : ((xs.take k).map iv).length = k * 1 := by simp; omega
        have L2 : ((xs.drop k).map iv).length = (xs.length - k) * 1 := by simp
        have P1 := hid (fun (W : World) (hW : Fr wr W) (j : Nat) (u : Value) (hu : ((xs.take k).map iv)[j]? = some u) => (show W.cell? ⟨b, o + j, none⟩ = some u by
          rw [List.getElem?_map] at hu
          rcases Nat.lt_or_ge j k with hj | hj
          · rw [List.getElem?_take_of_lt hj, List.getElem?_eq_getElem (show j < xs.length by omega)] at hu
            cases hu
            exact hW.cell (rd_int_at HX.out (by omega))
          · rw [List.getElem?_eq_none (by simp; omega)] at hu; cases hu))
        have P2 := hid (fun (W : World) (hW : Fr wr W) (j : Nat) (u : Value) (hu : ((xs.drop k).map iv)[j]? = some u) => (show W.cell? ⟨b, o + k + j, none⟩ = some u by
          rw [List.getElem?_map, List.getElem?_drop] at hu
          rcases Nat.lt_or_ge (k + j) xs.length with hj | hj
          · rw [List.getElem?_eq_getElem hj] at hu
            cases hu
            have := hW.cell (rd_int_at HX.out hj)
            rwa [show o + (k + j) = o + k + j by omega] at this
          · rw [List.getElem?_eq_none hj] at hu; cases hu))
        have O1 : ((xs.take k).map iv).all (·.oneCell') = true := by rw [List.all_eq_true]; intro u hu; obtain ⟨x, _, rfl⟩ := List.mem_map.1 hu; rfl
        have O2 : ((xs.drop k).map iv).all (·.oneCell') = true := by rw [List.all_eq_true]; intro u hu; obtain ⟨x, _, rfl⟩ := List.mem_map.1 hu; rfl
        go_wp2_with (first
          | (at_builtin; refine wp_appRd rfl _ _ 28 rfl wr.heap.size 3 (.int .i64 0) 1 8 Try.underlying28 (by kernel_rfl) rfl (by decide) (by decide) _ 0 [] rfl hO0.out (by omega) (by simp) b o k cap ((xs.take k).map iv) rfl L1 (P1.out _ ((Fr.refl wr).alloc _)) (by omega) O1 ?_; intro v5 w5 hO5 hg5; have F5 : Fr wr w5 := Fr.grown ((Fr.refl wr).alloc _) hg5 hO0.out; have hs5 := F5.size; simp only [Nat.zero_add, List.nil_append] at hO5)
          | (at_builtin; refine wp_app1 rfl _ _ 28 rfl wr.heap.size 3 (.int .i64 0) 1 8 Try.underlying28 (by kernel_rfl) rfl (by decide) (by decide) _ _ _ rfl (own_fr hO5 ((Fr.refl w5).alloc _)) (by omega) (by simp; omega) w5.heap.size [.int .i64 n] rfl (blk_new (by simp)) rfl rfl ?_; intro v6 w6 hO6 hg6; have F6 : Fr wr w6 := Fr.grown (F5.alloc _) hg6 (own_fr hO5 ((Fr.refl w5).alloc _)); have hs6 := F6.size)
          | (at_builtin; refine wp_appRd rfl _ _ 28 rfl wr.heap.size 3 (.int .i64 0) 1 8 Try.underlying28 (by kernel_rfl) rfl (by decide) (by decide) _ _ _ rfl hO6 (by omega) (by omega) b (o + k) (xs.length - k) (cap - k) ((xs.drop k).map iv) rfl L2 (P2.out _ F6) (by omega) O2 ?_; intro v7 w7 hO7 hg7; have F7 : Fr wr w7 := Fr.grown F6 hg7 hO6))
        obtain ⟨g7, cap7, cs7, rfl, hg7', _, _⟩ := own_form2 hO7 (by omega)
        have HO7 := hid hO7
        clear hO7
        go_wp2
        go_ret
        have hlen : k + 1 + (xs.length - k) = (xs.take k ++ n :: xs.drop k).length := by simp; omega
        rw [R.out]
        refine ⟨g7, 0, cap7, by rw [hlen]; rfl, ?_, ?_, F7⟩
        · have h := HO7.out
          rw [show (xs.take k).map iv ++ [Value.int .i64 n] ++ (xs.drop k).map iv = (xs.take k ++ n :: xs.drop k).map iv by simp] at h
          exact (own_int h hlen).mono rdInt_mono (fromB_le _ _)
        · obtain ⟨A', cap', hA', hcp⟩ := own_cap HO7.out
          cases hA'
          omega
end Go.Proofs.Ytfillcjpdnpaiaa
