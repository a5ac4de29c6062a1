/- append of a whole slice that a call owns (or of nil). -/
import Derived.Test.YtabbcepdinplfaaMem
import Derived.Laws.OwnMore
namespace Go.Proofs.Ytabbcepdinplfaa
open Go Go.RowKit

theorem wp_appN {P : Program} {ops : Array Oper} {rest : List Oper} {o : Oper} {a : Act} {Q : Exit → Act → World → Prop} {w : World} (hgd : o.guard = none) (s x : Operand) (t : TypeId)
    (ho : o.op = .call { callee := .builtin .append, args := #[s, x], argTypes := #[t, t] })
    (base : Nat) (e : TypeId) (z : Value) (size bytes : Nat) (ht : P.underlying t = some (.slice e)) (hinfo : (P.info? e).map (fun i => (i.zero, i.size, i.bytes)) = some (some z, size, bytes))
    (hzs : z.cells.size = size) (hsz : 0 < size) (hby : bytes ≤ 64) (v : Value) (n : Nat) (xs : List Value) (hs : a.eval s = v) (hown : w.ownsRow base e size v n xs) (hn : n ≤ 549755813888) (hbase : base ≤ w.heap.size)
    (b2 : Nat) (e2 : TypeId) (u : Value) (m : Nat) (news : List Value) (hx : a.eval x = u) (hsrc : w.ownsRow b2 e2 size u m news) (hm : m ≤ 549755813888) (h1 : news.all (·.oneCell') = true)
    (h : ∀ v' w', w'.ownsRow base e size v' (n + m) (xs ++ news) → w.grownBy w' v.ownBlock → wpList P ops Q rest (a.put o.dst v') w') : wpList P ops Q (o :: rest) a w := by
  obtain ⟨i, hi, hz, hsi, hb⟩ := info_parts hinfo
  have hmm : (n + m) * bytes ≤ (n + m) * 64 := Nat.mul_le_mul_left _ hby
  have hsrc' := hsrc
  rcases hsrc.2 with ⟨hu, hm0⟩ | ⟨g, cap, cur, hu, hg, hh, hrest⟩
  · subst hm0
    have hnil : news = [] := by have := hsrc.1; simpa using this
    subst hnil
    refine wpList_plain hgd fun _ hK => ?_
    have hr := run_append_owned_none (P := P) (w := w) base t o.type e i size ht hi v n xs hown
    unfold Oper.wp execOp
    simp only [ho, resolve, invoke, builtin, Sem.run_bind, Sem.run_pure, Result.andThen_ok, List.map_toArray, List.map_cons, List.map_nil, hs, hx, hu, hr]
    exact hK _ _ (h v w (by simpa using hown) ⟨rfl, rfl, rfl, Nat.le_refl _, fun _ _ _ => rfl⟩)
  · subst hu
    refine wpList_append_own w hgd s x t ho base e i z size bytes ht hi hz hsi hb hzs hsz v n xs hs hown ⟨g, 0, none⟩ m cap news hx hsrc.1 (hsrc'.cells (g := g) rfl) (by simpa [List.all_eq_true] using h1) (by unfold maxLen; omega) (by omega) hbase fun v' w' h2 h3 _ => h v' w' h2 h3
end Go.Proofs.Ytabbcepdinplfaa
