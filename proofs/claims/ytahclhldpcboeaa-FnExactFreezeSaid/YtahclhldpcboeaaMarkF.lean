/- Walks of the laws' marks on slices of facts that a call has made. -/
import Derived.Test.YtahclhldpcboeaaMark
import Derived.Test.YtahclhldpcboeaaTFact
namespace Go.Proofs.Ytahclhldpcboeaa
open Go Go.RowKit

/-- The numbers from k on, three for each fact. -/
def marksF (k n : Nat) : List Fact := (List.range n).map fun i => ⟨((k + i * 3 : Nat) : Int), ((k + i * 3 : Nat) : Int) + 1, ((k + i * 3 : Nat) : Int) + 1 + 1⟩
theorem marksF_len (k n : Nat) : (marksF k n).length = n := by simp [marksF]
set_option maxHeartbeats 1000000 in
theorem markFacts (A : Option Addr) (n cap k : Nat) (w : World) (hn : n ≤ 1048576) (hk : k ≤ 1099511627776) (hB : Mk w A (n * 3)) :
    Calls Try.prog 21 #[.slice A n cap, .int .i64 k] w fun e w' => e = .returned (.int .i64 ((k + n * 3 : Nat) : Int)) ∧ Ch (AtB A) w w' ∧ RdSl rdFact w'.cell? 3 A (marksF k n) ∧ Mk w' A (n * 3) := by
  by_cases h0 : n = 0
  · subst h0
    go_enter Try.func21, Try.ntmps21
    go_wp2
    refine wp_loop_rounds 1 ?_
    rw [rounds_succ]
    go_wp2
    go_ret
    exact ⟨by simp, Ch.refl _, RdSl.nil, fun h => absurd rfl h⟩
  · obtain ⟨g, t, cs, rfl, hB, hz⟩ := hB (by omega)
    have HB := hid hB
    have HZ := hid hz
    clear hB hz
    go_enter Try.func21, Try.ntmps21
    go_wp2
    go_loopw [1, 5] (fun kv iv wr => ∃ (i : Nat) (cs : Array Value), i ≤ n ∧ iv = .int .i64 i ∧ kv = .int .i64 ((k + i * 3 : Nat) : Int) ∧ Ch (AtB (some ⟨g, 0, none⟩)) w wr ∧ Hid (Blk wr g t cs ∧ n * 3 ≤ cs.size ∧ ∀ j, j < i → cs[j * 3]? = some (.int .i64 ((k + j * 3 : Nat) : Int)) ∧ cs[j * 3 + 1]? = some (.int .i64 (((k + j * 3 : Nat) : Int) + 1)) ∧ cs[j * 3 + 2]? = some (.int .i64 (((k + j * 3 : Nat) : Int) + 1 + 1)))) (fun _ iv _ => n - (intOf iv).toNat)
    case atStart => exact ⟨0, cs, by omega, rfl, by simp, Ch.refl _, hid ⟨HB.out, HZ.out, fun j h => absurd h (by omega)⟩⟩
    case round =>
      obtain ⟨i, cs', hi, rfl, rfl, hc, hH⟩ := hrel
      by_cases hlt : i < n
      · obtain ⟨u0, c0⟩ := hH.out.1.cell_some (i := i * 3) (by have := hH.out.2.1; omega)
        obtain ⟨u1, c1⟩ := hH.out.1.cell_some (i := i * 3 + 1) (by have := hH.out.2.1; omega)
        obtain ⟨u2, c2⟩ := hH.out.1.cell_some (i := i * 3 + 2) (by have := hH.out.2.1; omega)
        have f0 := hH.out.1.frozen (i * 3)
        have f1 := hH.out.1.frozen (i * 3 + 1)
        have f2 := hH.out.1.frozen (i * 3 + 2)
        obtain ⟨K, hK⟩ : ∃ K, k + i * 3 = K := ⟨_, rfl⟩
        have HK := hid hK
        rw [hK]
        have hKb : K ≤ 1099511627776 + 3145728 := by omega
        clear hK
        go_wp2
        go_roundw
        case rel =>
          refine ⟨i + 1, _, by omega, by go_num, by have := HK.out; congr 1; omega, ((hc.set (p := ⟨g, i * 3, none⟩) (.inl atB_self) _).set (p := ⟨g, i * 3 + 1, none⟩) (.inl atB_self) _).set (p := ⟨g, i * 3 + 2, none⟩) (.inl atB_self) _, hid ⟨((hH.out.1.set_ _ _).set_ _ _).set_ _ _, by simpa using hH.out.2.1, fun j hj => ?_⟩⟩
          obtain ⟨h1, h2, h3⟩ := hH.out
          simp only [Array.getElem?_setIfInBounds, Array.size_setIfInBounds]
          by_cases e : i = j
          · subst e
            rw [HK.out]
            refine ⟨?_, ?_, ?_⟩
            · rw [if_neg (by omega), if_neg (by omega), if_pos rfl, if_pos (by omega)]
            · rw [if_neg (by omega), if_pos rfl, if_pos (by omega)]
            · rw [if_pos rfl, if_pos (by omega)]
          · obtain ⟨q0, q1, q2⟩ := h3 j (by omega)
            refine ⟨?_, ?_, ?_⟩
            · rw [if_neg (by omega), if_neg (by omega), if_neg (by omega)]; exact q0
            · rw [if_neg (by omega), if_neg (by omega), if_neg (by omega)]; exact q1
            · rw [if_neg (by omega), if_neg (by omega), if_neg (by omega)]; exact q2
        case measure => simp [intOf]; omega
      · obtain rfl : i = n := by omega
        go_wp2
        go_ret
        obtain ⟨h1, h2, h3⟩ := hH.out
        refine ⟨rfl, hc, fun _ => ⟨g, 0, rfl, fun j hj => ?_⟩, fun _ => ⟨g, t, cs', rfl, h1, h2⟩⟩
        rw [marksF_len] at hj
        obtain ⟨q0, q1, q2⟩ := h3 j hj
        simp only [rdFact, marksF, List.getElem_map, List.getElem_range, Nat.zero_add, Nat.add_zero, h1.cell]
        exact ⟨q0, q1, q2⟩
set_option maxHeartbeats 1000000 in
theorem heldFacts (A : Option Addr) (n cap k : Nat) (w : World) (hn : n ≤ 1048576) (hk : k ≤ 1099511627776) (hR : RdSl rdFact w.cell? 3 A (marksF k n)) :
    Calls Try.prog 22 #[.slice A n cap, .int .i64 k] w fun e w' => e = .returned (.int .i64 ((k + n * 3 : Nat) : Int)) ∧ w = w' := by
  have H := hid hR
  clear hR
  go_enter Try.func22, Try.ntmps22
  go_wp2
  go_loopw [1, 5] (fun kv iv wr => ∃ (i : Nat), i ≤ n ∧ iv = .int .i64 i ∧ kv = .int .i64 ((k + i * 3 : Nat) : Int) ∧ w = wr) (fun _ iv _ => n - (intOf iv).toNat)
  case atStart => exact ⟨0, by omega, rfl, by simp, rfl⟩
  case round =>
    obtain ⟨i, hi, rfl, rfl, rfl⟩ := hrel
    by_cases hlt : i < n
    · obtain ⟨b, o, rfl, c0, c1, c2⟩ := H.out.fact (k := i) (by rw [marksF_len]; exact hlt)
      simp only [marksF, List.getElem_map, List.getElem_range] at c0 c1 c2
      obtain ⟨K, hK⟩ : ∃ K, k + i * 3 = K := ⟨_, rfl⟩
      have HK := hid hK
      rw [hK] at c0 c1 c2 ⊢
      have hKb : K ≤ 1099511627776 + 3145728 := by omega
      clear hK
      go_wp2
      go_roundw
      case rel => exact ⟨i + 1, by omega, by go_num, by have := HK.out; congr 1; omega, trivial⟩
      case measure => simp [intOf]; omega
    · obtain rfl : i = n := by omega
      go_wp2
      go_ret
      exact ⟨rfl, rfl⟩
end Go.Proofs.Ytahclhldpcboeaa
