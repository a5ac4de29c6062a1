/- append of one element inside a region that draws its order. -/
import Derived.Test.YtfillcjpdnpaiaaMem
import Derived.RegionTactic
namespace Go.Proofs.Ytfillcjpdnpaiaa
open Go Go.RowKit
theorem step_app1 {P : Program} {ops : Array Oper} {o : Oper} {a : Act} {K : Act → World → Prop} {Q : Exit → Act → World → Prop} {E : Prop} {w : World} (hgd : o.guard = none) (s x : Operand) (t : TypeId)
    (ho : o.op = .call { callee := .builtin .append, args := #[s, x], argTypes := #[t, t] })
    (base : Nat) (e : TypeId) (z : Value) (size bytes : Nat) (ht : P.underlying t = some (.slice e)) (hinfo : (P.info? e).map (fun i => (i.zero, i.size, i.bytes)) = some (some z, size, bytes))
    (hzs : z.cells.size = size) (hsz : 0 < size) (hby : bytes ≤ 64) (v : Value) (n : Nat) (xs : List Value) (hs : a.eval s = v) (hown : w.ownsRow base e size v n xs) (hn : n ≤ 1099511627776) (hbase : base ≤ w.heap.size)
    (g : Nat) (cs : List Value) (hx : a.eval x = .slice (some ⟨g, 0, none⟩) 1 1) (hB : ∃ e', Blk w g e' cs.toArray) (hl : cs.length = size) (h1 : cs.all (·.oneCell') = true)
    (h : ∀ v' w', w'.ownsRow base e size v' (n + 1) (xs ++ cs) → w.grownBy w' v.ownBlock → K (a.put o.dst v') w') : if Region.wanted o (yielded ops a.tmps) = true then Oper.wp P o a w K Q else E := by
  have hw : Region.wanted o (yielded ops a.tmps) = true := by simp [Region.wanted, hgd]
  rw [if_pos hw]
  obtain ⟨i, hi, hz, hsi, hb⟩ := info_parts hinfo
  obtain ⟨e', hB⟩ := hB
  have hm : (n + 1) * bytes ≤ (n + 1) * 64 := Nat.mul_le_mul_left _ hby
  refine wp_append_own w s x t ho base e i z size bytes ht hi hz hsi hb hzs hsz v n xs hs hown ⟨g, 0, none⟩ 1 1 cs hx (by omega) ?_ (by simpa [List.all_eq_true] using h1) (by unfold maxLen; omega) (by omega) hbase fun v' w' h2 h3 _ => h v' w' h2 h3
  intro j u hu
  have e1 : (⟨g, 0, none⟩ : Addr).add j = ⟨g, j, none⟩ := by
    unfold Addr.add
    split
    · rename_i hj; rw [hj]
    · simp
  rw [e1, hB.cell]
  simpa using hu
end Go.Proofs.Ytfillcjpdnpaiaa
