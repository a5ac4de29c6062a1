/- The estimated size of the join of a set of relations: no overflow, no panic. -/
import Derived.Test.YtgjbmigplomekaaGraphW
namespace Go.Proofs.Ytgjbmigplomekaa
open Go Go.RowKit

/-- A valid graph's parts. -/
theorem vgraph_facts {rs : List Int} {es : List Edge} (h : vgraph rs es = true) : 1 ≤ rs.length ∧ rs.length ≤ 5 ∧ es.length ≤ 6 ∧ (∀ k (hk : k < rs.length), 1 ≤ rs[k] ∧ rs[k] ≤ 1000) ∧ ∀ k (hk : k < es.length), es[k].ok rs.length = true := by
  unfold vgraph at h
  simp only [Bool.and_eq_true, decide_eq_true_eq, List.all_eq_true] at h
  obtain ⟨⟨⟨⟨h1, h2⟩, h3⟩, h4⟩, h5⟩ := h
  exact ⟨h1, h2, h3, fun k hk => relOk_yes (h4 _ (List.getElem_mem hk)), fun k hk => h5 _ (List.getElem_mem hk)⟩
/-- A graph lies in a block. -/
def GrAt (w : World) (gb : Nat) (rs : List Int) (es : List Edge) : Prop := ∃ A0 c0 A1 c1, w.cell? ⟨gb, 0, none⟩ = some (.slice A0 rs.length c0) ∧ w.cell? ⟨gb, 1, none⟩ = some (.slice A1 es.length c1) ∧ RdSl rdInt w.cell? 1 A0 rs ∧ RdSl rdEdge w.cell? 3 A1 es
theorem GrAt.fr {w w' : World} {gb : Nat} {rs : List Int} {es : List Edge} (h : GrAt w gb rs es) (hf : Fr w w') : GrAt w' gb rs es := by
  obtain ⟨A0, c0, A1, c1, h0, h1, h2, h3⟩ := h
  exact ⟨A0, c0, A1, c1, hf.cell h0, hf.cell h1, h2.fr rdInt_mono hf, h3.fr rdEdge_mono hf⟩
theorem size_step {N r : Int} {k : Nat} (hN : 1 ≤ N ∧ N ≤ ((1000 ^ k : Nat) : Int)) (hr : 1 ≤ r ∧ r ≤ 1000) (hk : k < 5) : (1 ≤ N * r ∧ N * r ≤ ((1000 ^ (k + 1) : Nat) : Int)) ∧ N * r ≤ 1000000000000000 := by
  have h1 : 1 ≤ N * r := by
    have : 1 * 1 ≤ N * r := Int.mul_le_mul hN.1 hr.1 (by omega) (by omega)
    omega
  have h2 : N * r ≤ ((1000 ^ k : Nat) : Int) * 1000 := Int.mul_le_mul hN.2 hr.2 (by omega) (by omega)
  have h3 : ((1000 ^ (k + 1) : Nat) : Int) = ((1000 ^ k : Nat) : Int) * 1000 := by rw [Nat.pow_succ]; omega
  have h4 : (1000 : Nat) ^ (k + 1) ≤ 1000 ^ 5 := Nat.pow_le_pow_right (by omega) (by omega)
  have h5 : (1000 : Nat) ^ 5 = 1000000000000000 := by decide
  exact ⟨⟨h1, by rw [h3]; exact h2⟩, by omega⟩
theorem size_weak {N : Int} {k : Nat} (hN : 1 ≤ N ∧ N ≤ ((1000 ^ k : Nat) : Int)) : 1 ≤ N ∧ N ≤ ((1000 ^ (k + 1) : Nat) : Int) := by
  have h4 : (1000 : Nat) ^ k ≤ 1000 ^ (k + 1) := Nat.pow_le_pow_right (by omega) (by omega)
  omega
theorem size_top {N : Int} {k : Nat} (hN : 1 ≤ N ∧ N ≤ ((1000 ^ k : Nat) : Int)) (hk : k ≤ 5) : 0 ≤ N ∧ N ≤ 1000000000000000 := by
  have h4 : (1000 : Nat) ^ k ≤ 1000 ^ 5 := Nat.pow_le_pow_right (by omega) (by omega)
  have h5 : (1000 : Nat) ^ 5 = 1000000000000000 := by decide
  omega
set_option maxRecDepth 100000 in
set_option maxHeartbeats 2000000 in
theorem implSize (gb : Nat) (rs : List Int) (es : List Edge) (m : Nat) (w : World) (hg : GrAt w gb rs es) (hv : vgraph rs es = true) (_hm : m < 32) :
    Calls Try.prog 77 #[.pointer (some ⟨gb, 0, none⟩), .int .i64 m] w fun r w' => ∃ s : Int, r = .returned (.int .i64 s) ∧ 1 ≤ s ∧ s ≤ 1000000000000000 ∧ Fr w w' := by
  obtain ⟨v1, v2, v3, v4, v5⟩ := vgraph_facts hv
  obtain ⟨A0, c0, A1, c1, g0, g1, hx, hy⟩ := hg
  have HX := hid hx
  have HY := hid hy
  have V4 := hid v4
  have V5 := hid v5
  clear hx hy hv v4 v5
  go_enter Try.func77, Try.ntmps77
  go_wp2
  go_loopw [5, 15] (fun u t wr => ∃ (k : Nat) (N : Int), k ≤ rs.length ∧ t = .int .i64 k ∧ u = .int .i64 N ∧ Fr w wr ∧ Hid (1 ≤ N ∧ N ≤ ((1000 ^ k : Nat) : Int))) (fun _ t _ => rs.length - (intOf t).toNat)
  case atStart => exact ⟨0, 1, by omega, rfl, rfl, Fr.refl _, hid (by decide)⟩
  case round =>
    obtain ⟨k, N, hk, rfl, rfl, hf, hN⟩ := hrel
    by_cases hlt : k < rs.length
    · obtain ⟨b, o, hA, d0⟩ := HX.out.at_ hlt
      subst hA
      replace d0 := hf.cell d0
      simp only [Nat.mul_one, Nat.add_zero] at d0
      obtain ⟨S1, S2⟩ := size_step hN.out (V4.out k hlt) (by omega)
      have S0 := S1.1
      replace S1 := hid S1
      have SW := hid (size_weak hN.out)
      clear hN
      go_wp2
      all_goals go_roundw
      all_goals first
        | exact ⟨k + 1, N, by omega, by go_num, rfl, hf, SW⟩
        | exact ⟨k + 1, N * rs[k], by omega, by go_num, rfl, hf, S1⟩
        | (simp [intOf]; done)
        | (simp [intOf]; omega)
    · obtain rfl : k = rs.length := by omega
      obtain ⟨T1, T2⟩ := size_top hN.out (by omega)
      clear hN
      have g1' := hf.cell g1
      go_wp2
      go_loopw [5, 34] (fun u t wr => ∃ (k : Nat) (N : Int), k ≤ es.length ∧ t = .int .i64 k ∧ u = .int .i64 N ∧ Fr w wr ∧ 0 ≤ N ∧ N ≤ 1000000000000000) (fun _ t _ => es.length - (intOf t).toNat)
      case atStart => exact ⟨0, N, by omega, rfl, rfl, hf, T1, T2⟩
      case round =>
        clear T1 T2 hf hlt hk
        obtain ⟨k, N, hk, rfl, rfl, hf, T1, T2⟩ := hrel
        by_cases hlt : k < es.length
        · obtain ⟨b, o, hA, d0, d1, d2⟩ := HY.out.edge hlt
          subst hA
          replace d0 := hf.cell d0
          replace d1 := hf.cell d1
          replace d2 := hf.cell d2
          obtain ⟨h1, h2, h3, h4, h5⟩ := edgeOk_yes (V5.out k hlt)
          have q1 : 0 ≤ N / es[k].den := Int.ediv_nonneg T1 (by omega)
          have q2 : N / es[k].den ≤ 1000000000000000 := Int.le_trans (Int.ediv_le_self _ T1) T2
          replace q1 := hid q1
          replace q2 := hid q2
          go_wp2
          all_goals go_roundw
          all_goals first
            | exact ⟨k + 1, N, by omega, by go_num, rfl, hf.alloc _, T1, T2⟩
            | exact ⟨k + 1, N / es[k].den, by omega, by go_num, rfl, hf.alloc _, q1.out, q2.out⟩
            | (simp [intOf]; done)
            | (simp [intOf]; omega)
        · go_wp2
          all_goals go_ret
          all_goals first
            | exact ⟨N, rfl, by omega, by omega, hf⟩
            | exact ⟨1, rfl, by omega, by omega, hf⟩
end Go.Proofs.Ytgjbmigplomekaa
