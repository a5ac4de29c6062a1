/- Facts: copies whose cells are not frozen, and marks on them. -/
import Derived.Test.YtahclhldpcboeaaTFact
import Derived.Test.YtahclhldpcboeaaFromU
import Derived.Test.YtahclhldpcboeaaInts
namespace Go.Proofs.Ytahclhldpcboeaa
open Go Go.RowKit

theorem rdFact_sc : ∀ m c x, rdFact m c x → rdSc Fact 3 m c x := fun _ _ _ h j hj => by
  obtain ⟨h0, h1, h2⟩ := h
  rcases (by omega : j = 0 ∨ j = 1 ∨ j = 2) with rfl | rfl | rfl
  · exact ⟨_, h0, trivial⟩
  · exact ⟨_, h1, trivial⟩
  · exact ⟨_, h2, trivial⟩
theorem toFactSU (A : Option Addr) (cap : Nat) (xs : List Fact) (w : World) (hx : RdSl rdFact w.cell? 3 A xs) (hl : xs.length ≤ 1048576) :
    Calls Try.prog 25 #[.slice A xs.length cap] w fun e w' => ∃ g, e = .returned (.slice (some ⟨g, 0, none⟩) xs.length xs.length) ∧ RdSl rdFact (fromU w' w.heap.size) 3 (some ⟨g, 0, none⟩) xs ∧ Fr w w' :=
  (toFactS A cap xs w hx hl).mono fun _ _ ⟨g, _, h1, h2, hB, _, h5, h6⟩ => ⟨g, h1, h5.toU rdFact_flat hB h2, h6⟩
set_option maxRecDepth 100000 in
set_option maxHeartbeats 1000000 in
theorem markFactSU (A : Option Addr) (cap : Nat) (xs : List Fact) (k lo hi : Nat) (w : World) (hx : RdSl (rdSc Fact 3) (inU w lo hi) 3 A xs) (hl : xs.length ≤ 1048576) (hk : k ≤ 1099511627776) :
    Calls Try.prog 21 #[.slice A xs.length cap, .int .i64 k] w fun e w' => e = .returned (.int .i64 ((k + xs.length * 3 : Nat) : Int)) ∧ Ch (Inn lo hi) w w' ∧ KI lo hi w w' := by
  have HX := hid hx
  clear hx
  go_enter Try.func21, Try.ntmps21
  go_wp2
  go_loopw [1, 5] (fun kv iv wr => ∃ (i : Nat), i ≤ xs.length ∧ iv = .int .i64 i ∧ kv = .int .i64 ((k + i * 3 : Nat) : Int) ∧ Ch (Inn lo hi) w wr ∧ KI lo hi w wr) (fun _ iv _ => xs.length - (intOf iv).toNat)
  case atStart => exact ⟨0, by omega, rfl, by simp, Ch.refl _, KI.refl _⟩
  case round =>
    obtain ⟨i, hi', rfl, rfl, hC, hK⟩ := hrel
    by_cases hlt : i < xs.length
    · obtain ⟨b, o, hA, hc⟩ := (hK.sc HX.out).sc_at hlt
      subst hA
      obtain ⟨u0, s0, j0⟩ := hc 0 (by omega)
      obtain ⟨u1, s1, j1⟩ := hc 1 (by omega)
      obtain ⟨u2, s2, j2⟩ := hc 2 (by omega)
      simp only [Nat.add_zero] at j0 j1 j2
      have c0 := inU_cell _ _ j0
      have f0 := (inU_some j0).2.2.1
      have c1 := inU_cell _ _ j1
      have f1 := (inU_some j1).2.2.1
      have c2 := inU_cell _ _ j2
      have f2 := (inU_some j2).2.2.1
      clear hc
      go_wp2
      go_roundw
      case rel => exact ⟨i + 1, by omega, by go_num, by go_num, (((hC.set (p := ⟨b, o + i * 3, none⟩) (.inl (inn j0)) _).set (p := ⟨b, o + i * 3 + 1, none⟩) (.inl (inn j1)) _).set (p := ⟨b, o + i * 3 + 2, none⟩) (.inl (inn j2)) _), (((hK.set j0 s0 (by exact trivial)).set ((inU_far (by simp)).trans j1) s1 (by exact trivial)).set ((inU_far (by simp)).trans ((inU_far (by simp)).trans j2)) s2 (by exact trivial))⟩
      case measure => simp [intOf]; omega
    · obtain rfl : i = xs.length := by omega
      go_wp2
      go_ret
      exact ⟨rfl, hC, hK⟩
end Go.Proofs.Ytahclhldpcboeaa
