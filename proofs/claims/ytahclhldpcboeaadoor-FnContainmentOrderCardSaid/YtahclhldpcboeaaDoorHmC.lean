/- Plain maths: where there is a homomorphism, one is found. -/
import Derived.Test.YtahclhldpcboeaaDoorHmgW
namespace Go.Proofs.YtahclhldpcboeaaDoor
open Go Go.RowKit

/-- m has no value that M has not. -/
def Le (m M : List Int) : Prop := m.length = M.length ∧ ∀ n : Nat, n < M.length → m.getD n 0 < 0 ∨ m.getD n 0 = M.getD n 0
theorem Le.fit {m M : List Int} {v : Int} (h : Le m M) (hv : v.toNat < M.length) : fitV m v (var M v) = true := by
  unfold fitV var
  rcases h.2 _ hv with h1 | h1
  · rw [decide_eq_true h1]; rfl
  · rw [h1]; simp
theorem Le.put {m M : List Int} {v : Int} (h : Le m M) (hv : v.toNat < M.length) : Le (putV m v (var M v)) M := by
  refine ⟨by rw [putV_len]; exact h.1, fun n hn => ?_⟩
  unfold putV var
  by_cases e : v.toNat = n
  · subst e
    right
    rw [List.getD_eq_getElem?_getD, List.getElem?_set_self (by rw [h.1]; exact hv)]
    rfl
  · rw [List.getD_eq_getElem?_getD, List.getElem?_set_ne e, ← List.getD_eq_getElem?_getD]
    exact h.2 n hn
theorem bindH_le {M : List Int} : ∀ {vs m : List Int}, Le m M → (∀ v ∈ vs, v.toNat < M.length) → ∃ m', bindH vs (vs.map (var M)) m = some m' ∧ Le m' M
  | [], m, h, _ => ⟨m, rfl, h⟩
  | v :: vs, m, h, hv => by
    have h0 := hv v (by simp)
    obtain ⟨m', h1, h2⟩ := bindH_le (vs := vs) (h.put h0) fun u hu => hv u (by simp [hu])
    refine ⟨m', ?_, h2⟩
    rw [List.map_cons]
    conv => lhs; unfold bindH
    rw [if_pos (h.fit h0)]
    exact h1
theorem fit_le {m M : List Int} {a : Atom} (h : Le m M) (hx : a.x.toNat < M.length) (hy : a.y.toNat < M.length) : ∃ m', fit m a (a.by M).fact = some m' ∧ Le m' M := by
  rw [fit_bind (a := a) (f := (a.by M).fact) rfl]
  exact bindH_le (vs := [a.x, a.y]) h fun v hv => by
    simp only [List.mem_cons, List.not_mem_nil, or_false] at hv
    rcases hv with rfl | rfl
    · exact hx
    · exact hy
theorem mts_le {M : List Int} {fs : List Fact} : ∀ {bd : List Atom} {m : List Int}, Le m M → (∀ a ∈ bd, a.x.toNat < M.length ∧ a.y.toNat < M.length ∧ (a.by M).fact ∈ fs) → ∃ m', m' ∈ mts bd fs m
  | [], m, _, _ => ⟨m, by simp [mts]⟩
  | a :: r, m, h, ha => by
    obtain ⟨h1, h2, h3⟩ := ha a (by simp)
    obtain ⟨m1, e, hl⟩ := fit_le h h1 h2
    obtain ⟨m', h4⟩ := mts_le (bd := r) hl fun b hb => ha b (by simp [hb])
    refine ⟨m', ?_⟩
    rw [mts_cons]
    exact List.mem_flatMap.2 ⟨_, h3, by rw [step_some e]; exact h4⟩
theorem le_new (M : List Int) : Le (List.replicate M.length (-1)) M := by
  refine ⟨by simp, fun n hn => ?_⟩
  left
  rw [List.getD_eq_getElem?_getD, List.getElem?_replicate, if_pos hn]
  decide
theorem fndO_some {q1 q2 : Int} {hd1 hd2 M : List Int} {bd1 bd2 : List Atom} (h1 : vrule q1 hd1 bd1 = true) (h2 : vrule q2 hd2 bd2 = true) (hM : M.length = q1.toNat) (hh : hd1.map (var M) = hd2) (hb : ∀ a ∈ bd1, a.by M ∈ bd2) : (fndO q1 hd1 bd1 q2 hd2 bd2).isSome = true := by
  obtain ⟨k1, _, _, _, _, k6, k7⟩ := vrule_parts h1
  subst hh
  have e0 : List.replicate q1.toNat (-1 : Int) = List.replicate M.length (-1) := by rw [hM]
  obtain ⟨m0, e1, l1⟩ := bindH_le (vs := hd1) (le_new M) fun v hv => by have := k7 v hv; omega
  obtain ⟨m', h3⟩ := mts_le (fs := frz bd2) (bd := bd1) l1 fun a ha => by
    have := k6 a ha
    exact ⟨by omega, by omega, by_frz.2 (hb a ha)⟩
  unfold fndO homO hom1
  rw [if_pos (by rw [h1, h2]; rfl), e0, e1]
  cases e : mts bd1 (frz bd2) m0 with
  | nil => rw [e] at h3; cases h3
  | cons x r => simp [Option.bind, e]
/-- The identity. -/
def idM (q : Int) : List Int := (List.range q.toNat).map (fun n : Nat => (n : Int))
theorem idM_len (q : Int) : (idM q).length = q.toNat := by simp [idM]
theorem var_idM {q v : Int} (h0 : 0 ≤ v) (h1 : v < q) : var (idM q) v = v := by
  unfold var idM
  rw [List.getD_eq_getElem?_getD, List.getElem?_map, List.getElem?_range (by omega)]
  simp [h0]
  omega
theorem by_idM {q : Int} {a : Atom} (h : 0 ≤ a.x ∧ a.x < q ∧ 0 ≤ a.y ∧ a.y < q) : a.by (idM q) = a := by
  unfold Atom.by
  rw [var_idM h.1 h.2.1, var_idM h.2.2.1 h.2.2.2]
theorem map_idM {q : Int} {hd : List Int} (h : ∀ v ∈ hd, 0 ≤ v ∧ v < q) : hd.map (var (idM q)) = hd := by
  have : hd.map (var (idM q)) = hd.map id := List.map_congr_left fun v hv => var_idM (h v hv).1 (h v hv).2
  rw [this, List.map_id]
/-- A query with fewer atoms contains it. -/
theorem fndO_sub {q : Int} {hd : List Int} {bd1 bd2 : List Atom} (h1 : vrule q hd bd1 = true) (h2 : vrule q hd bd2 = true) (hs : ∀ a ∈ bd1, a ∈ bd2) : (fndO q hd bd1 q hd bd2).isSome = true := by
  obtain ⟨_, _, _, _, _, k6, k7⟩ := vrule_parts h1
  refine fndO_some (M := idM q) h1 h2 (idM_len q) (map_idM fun v hv => k7 v hv) fun a ha => ?_
  have := k6 a ha
  rw [by_idM ⟨by omega, by omega, by omega, by omega⟩]
  exact hs a ha
/-- An accepted mapping tells that one is found. -/
theorem fndO_chk {q1 q2 : Int} {hd1 hd2 m : List Int} {bd1 bd2 : List Atom} (h : chkHom q1 hd1 bd1 q2 hd2 bd2 m = true) : (fndO q1 hd1 bd1 q2 hd2 bd2).isSome = true := by
  unfold chkHom isHom at h
  simp only [Bool.and_eq_true, decide_eq_true_eq, List.all_eq_true] at h
  obtain ⟨⟨⟨h1, h2⟩, h3⟩, _, h4, h5⟩ := h
  exact fndO_some h1 h2 (by omega) h5 fun a ha => inA_iff.1 (h4 a ha)
/-- The identity is accepted. -/
theorem chk_id {q : Int} {hd : List Int} {bd : List Atom} (h : vrule q hd bd = true) : chkHom q hd bd q hd bd (idM q) = true := by
  obtain ⟨k1, _, _, _, _, k6, k7⟩ := vrule_parts h
  unfold chkHom isHom
  simp only [Bool.and_eq_true, decide_eq_true_eq, List.all_eq_true]
  refine ⟨⟨⟨h, h⟩, by rw [idM_len]; omega⟩, fun x hx => ?_, fun a ha => ?_, map_idM fun v hv => k7 v hv⟩
  · unfold idM at hx
    obtain ⟨n, hn, rfl⟩ := List.mem_map.1 hx
    have := List.mem_range.1 hn
    simp only [hasV, Bool.and_eq_true, decide_eq_true_eq]
    omega
  · have := k6 a ha
    rw [by_idM ⟨by omega, by omega, by omega, by omega⟩]
    exact inA_iff.2 ha
end Go.Proofs.YtahclhldpcboeaaDoor
