/- Plain maths of the statistics of a table: what is counted in a column; maps as lists of keys. -/
import Derived.Test.YtlmiadeaiiehaaaCountP
import Derived.Maps.OwnSet
namespace Go.Proofs.Ytlmiadeaiiehaaa
open Go Go.RowKit

/-- The value of a row in a column. -/
def colAt (c : Nat) (r : List V) : V := r.getD c default
theorem colAt_eq {c : Nat} {r : List V} (h : c < r.length) : colAt c r = r[c] := by
  unfold colAt
  simp [List.getD, List.getElem?_eq_getElem h]
/-- The numbers that have been seen, each once. -/
def sn (s : List Int) (v : V) : List Int := if v.null then s else if v.n ∈ s then s else s ++ [v.n]
def seenL (c : Nat) (rows : List (List V)) : List Int := rows.foldl (fun s r => sn s (colAt c r)) []
def nulC (c : Nat) (rows : List (List V)) : Nat := rows.countP (fun r => (colAt c r).null)
theorem seenL_take {c k : Nat} {rows : List (List V)} (hk : k < rows.length) : seenL c (rows.take (k + 1)) = sn (seenL c (rows.take k)) (colAt c rows[k]) := by
  unfold seenL
  rw [List.take_succ_eq_append_getElem hk, List.foldl_append]
  rfl
theorem nulC_take {c k : Nat} {rows : List (List V)} (hk : k < rows.length) : nulC c (rows.take (k + 1)) = nulC c (rows.take k) + (if (colAt c rows[k]).null then 1 else 0) := by
  unfold nulC
  rw [List.take_succ_eq_append_getElem hk, List.countP_append]
  simp
theorem nulC_le {c : Nat} {rows : List (List V)} : nulC c rows ≤ rows.length := List.countP_le_length
theorem sn_nodup {s : List Int} {v : V} (h : s.Nodup) : (sn s v).Nodup := by
  unfold sn
  split
  · exact h
  · split
    · exact h
    · rename_i hn
      rw [List.nodup_append]
      exact ⟨h, by simp, fun a ha b hb e => by rw [List.mem_singleton] at hb; subst hb; subst e; exact hn ha⟩
theorem sn_len {s : List Int} {v : V} : (sn s v).length ≤ s.length + 1 := by
  unfold sn
  split
  · omega
  · split <;> simp
theorem seenL_le {c : Nat} {rows : List (List V)} : (seenL c rows).length ≤ rows.length := by
  have h : ∀ (rows : List (List V)) (s : List Int), (rows.foldl (fun s r => sn s (colAt c r)) s).length ≤ s.length + rows.length := by
    intro rows
    induction rows with
    | nil => intro s; simp
    | cons r rs ih =>
      intro s
      have h1 := ih (sn s (colAt c r))
      have h2 := sn_len (s := s) (v := colAt c r)
      simp only [List.foldl_cons, List.length_cons]
      omega
  have := h rows []
  unfold seenL
  simpa using this
theorem seenL_nodup {c : Nat} {rows : List (List V)} : (seenL c rows).Nodup := by
  have h : ∀ (rows : List (List V)) (s : List Int), s.Nodup → (rows.foldl (fun s r => sn s (colAt c r)) s).Nodup := by
    intro rows
    induction rows with
    | nil => intro s hs; exact hs
    | cons r rs ih => intro s hs; exact ih _ (sn_nodup hs)
  exact h rows [] List.nodup_nil
/-- A number as a row of one value. -/
def rowI (n : Int) : List V := [⟨false, n⟩]
theorem cntR_seen {s : List Int} {n : Int} : cntR (s.map rowI) (rowI n) = 0 ↔ ¬ n ∈ s := by
  unfold cntR
  rw [List.countP_eq_zero]
  constructor
  · intro h hn
    exact h (rowI n) (List.mem_map_of_mem hn) (by simp)
  · intro h r hr
    obtain ⟨m, hm, rfl⟩ := List.mem_map.1 hr
    simp only [decide_eq_true_eq]
    intro e
    simp only [rowI, List.cons.injEq, V.mk.injEq, and_true, true_and] at e
    subst e
    exact h hm
/-! Maps: their keys. -/
theorem insert_perm {H : Type} (x : Lit × DataW H) : ∀ l : List (Lit × DataW H), (DataW.insert x l).Perm (x :: l)
  | [] => .refl _
  | y :: r => by
    unfold DataW.insert
    split
    · exact .refl _
    · exact ((insert_perm x r).cons y).trans (.swap x y r)
/-- The keys of a map are these numbers. -/
def KeysOf (D : DataW Unit) (s : List Int) : Prop := ∃ es, D = .map es ∧ (es.map (·.1)).Perm (s.map (Lit.int .i64))
theorem KeysOf.size {D : DataW Unit} {s : List Int} (h : KeysOf D s) : Maps.size D = s.length := by
  obtain ⟨es, rfl, hp⟩ := h
  have := hp.length_eq
  rw [List.length_map, List.length_map] at this
  exact this
theorem KeysOf.nil : KeysOf (.map []) [] := ⟨[], rfl, .refl _⟩
theorem KeysOf.put {D : DataW Unit} {s : List Int} {v : V} (h : KeysOf D s) (hs : s.Nodup) (hv : v.null = false) (d : DataW Unit) : KeysOf (D.put (.int .i64 v.n) d) (sn s v) := by
  obtain ⟨es, rfl, hp⟩ := h
  obtain ⟨k, hk⟩ : ∃ k, v.n = k := ⟨_, rfl⟩
  have e : sn s v = if k ∈ s then s else s ++ [k] := by unfold sn; rw [hv, hk]; rfl
  rw [e, hk]
  refine ⟨_, rfl, ?_⟩
  have h1 := (insert_perm (Lit.int .i64 k, d) (es.filter fun p => !p.1.sameKey (Lit.int .i64 k))).map (·.1)
  refine h1.trans ?_
  have h2 : (es.filter fun p => !p.1.sameKey (Lit.int .i64 k)).map (·.1) = (es.map (·.1)).filter (fun l => !l.sameKey (Lit.int .i64 k)) := by
    rw [List.filter_map]
    rfl
  have h3 := hp.filter (fun l => !l.sameKey (Lit.int .i64 k))
  have h4 : (s.map (Lit.int .i64)).filter (fun l => !l.sameKey (Lit.int .i64 k)) = (s.filter (fun x => x != k)).map (Lit.int .i64) := by
    rw [List.filter_map]
    congr 1
    apply List.filter_congr
    intro x _
    simp [Lit.sameKey, bne, BEq.beq]
  simp only [List.map_cons, h2]
  rw [h4] at h3
  refine (h3.cons _).trans ?_
  rw [← List.map_cons (f := Lit.int .i64)]
  apply List.Perm.map
  split
  · rename_i hm
    have h5 : s.filter (fun x => x != k) = s.erase k := (hs.erase_eq_filter k).symm
    rw [h5]
    exact (List.perm_cons_erase hm).symm
  · rename_i hm
    have h5 : s.filter (fun x => x != k) = s := by
      rw [List.filter_eq_self]
      intro x hx
      rw [bne_iff_ne]
      intro e; subst e; exact hm hx
    rw [h5]
    exact (List.perm_append_comm (l₁ := [k]) (l₂ := s))
/-! The statistics. -/
def dstL (wd : Nat) (rows : List (List V)) : List Int := (List.range wd).map fun c => ((seenL c rows).length : Int)
def nulL (wd : Nat) (rows : List (List V)) : List Int := (List.range wd).map fun c => (nulC c rows : Int)
theorem dstL_len (k : Nat) (rows : List (List V)) : (dstL k rows).length = k := by simp [dstL]
theorem nulL_len (k : Nat) (rows : List (List V)) : (nulL k rows).length = k := by simp [nulL]
end Go.Proofs.Ytlmiadeaiiehaaa
