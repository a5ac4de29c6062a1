/- append of one element inside a region that draws its order. -/
import Derived.Test.YtahclhldpcboeaaMem
import Derived.RegionTactic
import Derived.Laws.CopyRow
namespace Go.Proofs.Ytahclhldpcboeaa
open Go Go.RowKit
theorem step_app1 {P : Program} {ops : Array Oper} {o : Oper} {a : Act} {K : Act → World → Prop} {Q : Exit → Act → World → Prop} {E : Prop} {w : World} (hgd : o.guard = none) (s x : Operand) (t : TypeId)
    (ho : o.op = .call { callee := .builtin .append, args := #[s, x], argTypes := #[t, t] })
    (base : Nat) (e : TypeId) (z : Value) (size bytes : Nat) (ht : P.underlying t = some (.slice e)) (hinfo : (P.info? e).map (fun i => (i.zero, i.size, i.bytes)) = some (some z, size, bytes))
    (hzs : z.cells.size = size) (hsz : 0 < size) (hby : bytes ≤ 64) (v : Value) (n : Nat) (xs : List Value) (hs : a.eval s = v) (hown : w.ownsRow base e size v n xs) (hn : n ≤ 1099511627776) (hbase : base ≤ w.heap.size)
    (g : Nat) (cs : List Value) (hx : a.eval x = .slice (some ⟨g, 0, none⟩) 1 1) (hB : ∃ e', Blk w g e' cs.toArray) (hl : cs.length = size) (h1 : cs.all (·.oneCell') = true)
    (h : ∀ v' w', w'.ownsRow base e size v' (n + 1) (xs ++ cs) → w.grownBy w' v.ownBlock → K (a.put o.dst v') w') : if Region.wanted o (yielded ops a.tmps) = true then Oper.wp P o a w K Q else E := by
  have hw : Region.wanted o (yielded ops a.tmps) = true := by simp [Region.wanted, hgd]
  rw [if_pos hw]
  obtain ⟨i, hi, hz, hsi, hb⟩ := info_parts hinfo
  obtain ⟨e', hB⟩ := hB
  have hm : (n + 1) * bytes ≤ (n + 1) * 64 := Nat.mul_le_mul_left _ hby
  refine wp_append_own w s x t ho base e i z size bytes ht hi hz hsi hb hzs hsz v n xs hs hown ⟨g, 0, none⟩ 1 1 cs hx (by omega) ?_ (by simpa [List.all_eq_true] using h1) (by unfold maxLen; omega) (by omega) hbase fun v' w' h2 h3 _ => h v' w' h2 h3
  intro j u hu
  have e1 : (⟨g, 0, none⟩ : Addr).add j = ⟨g, j, none⟩ := by
    unfold Addr.add
    split
    · rename_i hj; rw [hj]
    · simp
  rw [e1, hB.cell]
  simpa using hu
/- copy of whole elements into a row that was just made. -/

theorem run_copy_sz {P : Program} (w : World) (dT sT ty elem : TypeId) (i : TypeInfo) (g n dCap : Nat) (a : Addr) (sCap : Nat) (cur : Array Value) (t : TypeId) (cs : List Value)
    (hu : P.underlying dT = some (.slice elem)) (hi : P.info? elem = some i) (hg : w.heap[g]? = some (.cells cur t (0, 0))) (hl : cs.length = n * i.size)
    (hsrc : ∀ j v, cs[j]? = some v → w.cell? (a.add j) = some v) (hfit : cs.length ≤ cur.size) (h1 : ∀ v ∈ cs, v.oneCell' = true) :
    (Builtin.copy_ #[dT, sT] ty #[.slice (some ⟨g, 0, none⟩) n dCap, .slice (some a) n sCap]).run P w = .ok (goInt n) (w.setRow g (cs ++ cur.toList.drop cs.length).toArray) := by
  have hf := run_firstCells_some (P := P) w i.size n a n sCap cs hl hsrc
  have hst := run_storeCells_at P g 0 t cs 0 cur w hg (by simpa using hfit) h1
  simp only [Nat.add_zero, Nat.zero_add, List.take_zero, List.nil_append] at hst
  simp [Builtin.copy_, run_underlying hu, Builtin.lenOf, sizeOf, typeInfo, hi, hf, hst]
theorem wp_copyNew {P : Program} {ops : Array Oper} {rest : List Oper} {o : Oper} {a : Act} {Q : Exit → Act → World → Prop} {w : World} (hgd : o.guard = none) (d s : Operand) (t : TypeId)
    (ho : o.op = .call { callee := .builtin .copy, args := #[d, s], argTypes := #[t, t] })
    (e : TypeId) (z : Value) (size bytes : Nat) (ht : P.underlying t = some (.slice e)) (hinfo : (P.info? e).map (fun i => (i.zero, i.size, i.bytes)) = some (some z, size, bytes))
    (g n : Nat) (hd : a.eval d = .slice (some ⟨g, 0, none⟩) n n) (e' : TypeId) (cur : Array Value) (hg : Blk w g e' cur) (hcs : cur.size = n * size)
    (sg so cap : Nat) (hs : a.eval s = .slice (some ⟨sg, so, none⟩) n cap) (cs : List Value) (hl : cs.length = n * size) (hc : ∀ (j : Nat) u, cs[j]? = some u → w.cell? ⟨sg, so + j, none⟩ = some u) (h1 : cs.all (·.oneCell') = true)
    (h : ∀ w', Blk w' g e' cs.toArray → Ch (· = g) w w' → w'.heap.size = w.heap.size → wpList P ops Q rest (a.put o.dst (goInt n)) w') : wpList P ops Q (o :: rest) a w := by
  obtain ⟨i, hi, hz, hsi, hb⟩ := info_parts hinfo
  subst hsi
  have hca : ∀ j u, cs[j]? = some u → w.cell? ((⟨sg, so, none⟩ : Addr).add j) = some u := fun j u hu => by
    have e1 : (⟨sg, so, none⟩ : Addr).add j = ⟨sg, so + j, none⟩ := by
      unfold Addr.add
      split
      · rename_i hj; rw [hj]; rfl
      · simp
    rw [e1]; exact hc j u hu
  have hr := run_copy_sz (P := P) w t t o.type e i g n n ⟨sg, so, none⟩ cap cur e' cs ht hi hg hl hca (by omega) (by simpa [List.all_eq_true] using h1)
  have hdrop : cur.toList.drop cs.length = [] := List.drop_eq_nil_of_le (by simp; omega)
  rw [hdrop, List.append_nil] at hr
  refine wpList_plain hgd fun _ hK => ?_
  unfold Oper.wp execOp
  simp only [ho, resolve, invoke, builtin, Sem.run_bind, Sem.run_pure, Result.andThen_ok, List.map_toArray, List.map_cons, List.map_nil, hd, hs, hr]
  exact hK _ _ (h _ (setRow_heap w g cur _ e' _ hg) ⟨rfl, rfl, rfl, by simp, fun k _ hk => setRow_other w g k _ hk⟩ (by simp))
end Go.Proofs.Ytahclhldpcboeaa
