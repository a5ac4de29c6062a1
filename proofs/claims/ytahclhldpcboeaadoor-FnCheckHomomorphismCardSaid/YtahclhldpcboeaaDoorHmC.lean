/- Plain maths: where there is a homomorphism, one is found. -/
import Derived.Test.YtahclhldpcboeaaDoorHmgW
namespace Go.Proofs.YtahclhldpcboeaaDoor
open Go Go.RowKit

theorem fndO_some {q1 q2 : Int} {hd1 hd2 M : List Int} {bd1 bd2 : List Atom} (h1 : vrule q1 hd1 bd1 = true) (h2 : vrule q2 hd2 bd2 = true) (hM : M.length = q1.toNat) (hh : hd1.map (var M) = hd2) (hb : ∀ a ∈ bd1, a.by M ∈ bd2) : (fndO q1 hd1 bd1 q2 hd2 bd2).isSome = true := by
  obtain ⟨k1, _, _, _, _, k6, k7⟩ := vrule_parts h1
  subst hh
  have e0 : List.replicate q1.toNat (-1 : Int) = List.replicate M.length (-1) := by rw [hM]
  obtain ⟨m0, e1, l1⟩ := bindH_le (vs := hd1) (le_new M) fun v hv => by have := k7 v hv; omega
  obtain ⟨m', h3, _⟩ := mts_le (fs := frz bd2) (bd := bd1) l1 fun a ha => by
    have := k6 a ha
    exact ⟨by omega, by omega, by_frz.2 (hb a ha)⟩
  unfold fndO homO hom1
  rw [if_pos (by rw [h1, h2]; rfl), e0, e1]
  cases e : mts bd1 (frz bd2) m0 with
  | nil => rw [e] at h3; cases h3
  | cons x r => simp [Option.bind, e]
/-- A query with fewer atoms contains it. -/
theorem fndO_sub {q : Int} {hd : List Int} {bd1 bd2 : List Atom} (h1 : vrule q hd bd1 = true) (h2 : vrule q hd bd2 = true) (hs : ∀ a ∈ bd1, a ∈ bd2) : (fndO q hd bd1 q hd bd2).isSome = true := by
  obtain ⟨_, _, _, _, _, k6, k7⟩ := vrule_parts h1
  refine fndO_some (M := idM q) h1 h2 (idM_len q) (map_idM fun v hv => k7 v hv) fun a ha => ?_
  have := k6 a ha
  rw [by_idM ⟨by omega, by omega, by omega, by omega⟩]
  exact hs a ha
/-- An accepted mapping tells that one is found. -/
theorem fndO_chk {q1 q2 : Int} {hd1 hd2 m : List Int} {bd1 bd2 : List Atom} (h : chkHom q1 hd1 bd1 q2 hd2 bd2 m = true) : (fndO q1 hd1 bd1 q2 hd2 bd2).isSome = true := by
  unfold chkHom isHom at h
  simp only [Bool.and_eq_true, decide_eq_true_eq, List.all_eq_true] at h
  obtain ⟨⟨⟨h1, h2⟩, h3⟩, _, h4, h5⟩ := h
  exact fndO_some h1 h2 (by omega) h5 fun a ha => inA_iff.1 (h4 a ha)
/-- The identity is accepted. -/
theorem chk_id {q : Int} {hd : List Int} {bd : List Atom} (h : vrule q hd bd = true) : chkHom q hd bd q hd bd (idM q) = true := by
  obtain ⟨k1, _, _, _, _, k6, k7⟩ := vrule_parts h
  unfold chkHom isHom
  simp only [Bool.and_eq_true, decide_eq_true_eq, List.all_eq_true]
  refine ⟨⟨⟨h, h⟩, by rw [idM_len]; omega⟩, fun x hx => ?_, fun a ha => ?_, map_idM fun v hv => k7 v hv⟩
  · unfold idM at hx
    obtain ⟨n, hn, rfl⟩ := List.mem_map.1 hx
    have := List.mem_range.1 hn
    simp only [hasV, Bool.and_eq_true, decide_eq_true_eq]
    omega
  · have := k6 a ha
    rw [by_idM ⟨by omega, by omega, by omega, by omega⟩]
    exact inA_iff.2 ha

/-- The mapping that is found is accepted. -/
theorem chk_fnd {q1 q2 : Int} {hd1 hd2 M : List Int} {bd1 bd2 : List Atom} (h : fndO q1 hd1 bd1 q2 hd2 bd2 = some M) : chkHom q1 hd1 bd1 q2 hd2 bd2 M = true := by
  unfold fndO at h
  split at h
  · rename_i hv
    rw [Bool.and_eq_true] at hv
    obtain ⟨h1, h2⟩ := hv
    unfold homO at h
    obtain ⟨m, hm, rfl⟩ := Option.map_eq_some_iff.1 h
    obtain ⟨k1, _, _, _, _, k6, k7⟩ := vrule_parts h1
    obtain ⟨j1, _, _, _, _, j6, j7⟩ := vrule_parts h2
    have hlen := hom1_len hm
    have hrng := hom1_rng (B := q2) hm (by omega) (fun x hx => by have := j7 x hx; omega) (fun a ha => by have := j6 a ha; omega)
    unfold hom1 at hm
    obtain ⟨m0, e0, e1⟩ := Option.bind_eq_some_iff.1 hm
    have hl0 : m0.length = q1.toNat := by rw [bindH_len e0, List.length_replicate]
    obtain ⟨_, b2⟩ := bindH_ext e0 (fun v hv => by have := k7 v hv; rw [List.length_replicate]; omega) (fun x hx => (j7 x hx).1)
    obtain ⟨c1, c2⟩ := mts_ext (List.mem_of_head? e1) (fun a ha => by have := k6 a ha; rw [hl0]; omega) (fun f hf => by
      obtain ⟨a, ha, rfl⟩ := mem_frz.1 hf
      have := j6 a ha
      exact ⟨this.2.2.1, this.2.2.2.2.1⟩)
    unfold chkHom isHom
    simp only [Bool.and_eq_true, decide_eq_true_eq, List.all_eq_true]
    refine ⟨⟨⟨h1, h2⟩, by rw [List.length_map, hlen]; omega⟩, fun x hx => ?_, fun a ha => ?_, ?_⟩
    · obtain ⟨y, hy, rfl⟩ := List.mem_map.1 hx
      have := hrng y hy
      simp only [hasV, Bool.and_eq_true, decide_eq_true_eq]
      omega
    · obtain ⟨d1, d2, d3⟩ := c2 a ha
      have : a.by (m.map (fun x => max x 0)) = a.by m := by unfold Atom.by; rw [var_max d2, var_max d3]
      rw [this]
      exact inA_iff.2 (by_frz.1 d1)
    · rw [← b2]
      refine List.map_congr_left fun v hv => ?_
      have hx : var m0 v ∈ hd2 := by rw [← b2]; exact List.mem_map_of_mem hv
      have h0 : 0 ≤ var m0 v := (j7 _ hx).1
      have hvm : var m v = var m0 v := c1.var (by have := k7 v hv; rw [hl0]; omega) h0
      rw [var_max (by rw [hvm]; exact h0), hvm]
  · cases h
end Go.Proofs.YtahclhldpcboeaaDoor
