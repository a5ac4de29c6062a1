/- What a call owns: kept while the reader's block is written. Rows of values that a call owns. -/
import Derived.Test.YtfillcjpdnpaiaaValG
import Derived.Test.YtfillcjpdnpaiaaTValue
import Derived.Test.YtfillcjpdnpaiaaMem2
import Derived.Laws.OwnMore
namespace Go.Proofs.Ytfillcjpdnpaiaa
open Go Go.RowKit

theorem own_drew {w : World} {base e sz n : Nat} {v : Value} {xs : List Value} (h : w.ownsRow base e sz v n xs) : w.drew.ownsRow base e sz v n xs := own_fr h (Fr.refl w).drew
/-- What is the call's own stays while the reader's block, which is none of it, is written. -/
theorem own_ch {w w' : World} {r base e sz n : Nat} {v : Value} {xs : List Value} (h : w.ownsRow base e sz v n xs) (hc : Ch (· = r) w w') (hr : r < base) : w'.ownsRow base e sz v n xs := by
  refine ⟨h.1, ?_⟩
  rcases h.2 with h | ⟨g, cap, cur, hv, hg, hh, hrest⟩
  · exact .inl h
  · exact .inr ⟨g, cap, cur, hv, hg, (Blk.ch (S := (· = r)) (show Blk w g e cur from hh) hc (by omega)), hrest⟩
theorem own_blk {w : World} {base e sz n : Nat} {v : Value} {xs : List Value} (h : w.ownsRow base e sz v n xs) : ∀ k, v.ownBlock = some k → base ≤ k := by
  intro k hk
  rcases h.2 with ⟨rfl, _⟩ | ⟨g, cap, cur, rfl, hg, _⟩
  · cases hk
  · simp only [Value.ownBlock, Option.some.injEq] at hk; omega
def cellsV (v : V) : List Value := [.bool v.null, .int .i64 v.n]
theorem own_V {w : World} {base e n cap : Nat} {A : Option Addr} {xs : List V} (h : w.ownsRow base e 2 (.slice A n cap) n (xs.flatMap cellsV)) (hn : n = xs.length) : RdSl rdV (fromB w base) 2 A xs :=
  own_rd h hn (fun _ => rfl) fun m c x hc => ⟨hc 0 (by simp [cellsV]), hc 1 (by simp [cellsV])⟩
/-- An owned row, with elements in it: its block. -/
theorem own_form2 {w : World} {base e sz n : Nat} {v : Value} {xs : List Value} (h : w.ownsRow base e sz v n xs) (hn : 0 < n) : ∃ g cap cs, v = .slice (some ⟨g, 0, none⟩) n cap ∧ base ≤ g ∧ Blk w g e cs ∧ n * sz ≤ cs.size := by
  rcases h.2 with ⟨_, h0⟩ | ⟨g, cap, cur, hv, hg, hh, hnc, _, hs, _⟩
  · omega
  · exact ⟨g, cap, cur, hv, hg, hh, by rw [hs]; exact Nat.mul_le_mul_right _ hnc⟩
/-- One element of a row written anew. -/
theorem rdV_set {w : World} {lo g : Nat} {t : TypeId} {cs : Array Value} {xs : List V} {x : Nat} {v : V} (h : RdSl rdV (fromB w lo) 2 (some ⟨g, 0, none⟩) xs) (hg : lo ≤ g) (hB : Blk w g t cs) (hx : x * 2 + 1 < cs.size) :
    RdSl rdV (fromB ((w.setCell ⟨g, x * 2, none⟩ (.bool v.null)).setCell ⟨g, x * 2 + 1, none⟩ (.int .i64 v.n)) lo) 2 (some ⟨g, 0, none⟩) (xs.set x v) := fun hne => by
  have hne' : xs ≠ [] := fun e => hne (by rw [e]; rfl)
  obtain ⟨b, o, hA, hc⟩ := h hne'
  injection hA with hA
  injection hA with h1 h2 _
  subst h1 h2
  have B2 := (hB.set_ (x * 2) (.bool v.null)).set_ (x * 2 + 1) (.int .i64 v.n)
  refine ⟨g, 0, rfl, fun i hi => ?_⟩
  simp only [List.length_set] at hi
  have hi' := hc i hi
  simp only [rdV, fromB, if_pos hg, Nat.zero_add, Nat.add_zero, hB.cell] at hi'
  simp only [rdV, fromB, if_pos hg, Nat.zero_add, Nat.add_zero, B2.cell, Array.getElem?_setIfInBounds, Array.size_setIfInBounds]
  by_cases e : x = i
  · subst e
    rw [List.getElem_set_self, if_neg (by omega), if_pos rfl, if_pos (by omega), if_pos rfl, if_pos (by omega)]
    exact ⟨rfl, rfl⟩
  · rw [List.getElem_set_ne e, if_neg (by omega), if_neg (by omega), if_neg (by omega), if_neg (by omega)]
    exact hi'
/-- append of a whole slice that reads as a list. -/
theorem wp_appRd {P : Program} {ops : Array Oper} {rest : List Oper} {o : Oper} {a : Act} {Q : Exit → Act → World → Prop} {w : World} (hgd : o.guard = none) (s x : Operand) (t : TypeId)
    (ho : o.op = .call { callee := .builtin .append, args := #[s, x], argTypes := #[t, t] })
    (base : Nat) (e : TypeId) (z : Value) (size bytes : Nat) (ht : P.underlying t = some (.slice e)) (hinfo : (P.info? e).map (fun i => (i.zero, i.size, i.bytes)) = some (some z, size, bytes))
    (hzs : z.cells.size = size) (hsz : 0 < size) (hby : bytes ≤ 64) (v : Value) (n : Nat) (xs : List Value) (hs : a.eval s = v) (hown : w.ownsRow base e size v n xs) (hn : n ≤ 549755813888) (hbase : base ≤ w.heap.size)
    (g p m cap : Nat) (news : List Value) (hx : a.eval x = .slice (some ⟨g, p, none⟩) m cap) (hlen : news.length = m * size) (hc : ∀ (j : Nat) u, news[j]? = some u → w.cell? ⟨g, p + j, none⟩ = some u) (hm : m ≤ 549755813888) (h1 : news.all (·.oneCell') = true)
    (h : ∀ v' w', w'.ownsRow base e size v' (n + m) (xs ++ news) → w.grownBy w' v.ownBlock → wpList P ops Q rest (a.put o.dst v') w') : wpList P ops Q (o :: rest) a w := by
  obtain ⟨i, hi, hz, hsi, hb⟩ := info_parts hinfo
  have hmm : (n + m) * bytes ≤ (n + m) * 64 := Nat.mul_le_mul_left _ hby
  refine wpList_append_own w hgd s x t ho base e i z size bytes ht hi hz hsi hb hzs hsz v n xs hs hown ⟨g, p, none⟩ m cap news hx hlen (fun j u hu => ?_) (by simpa [List.all_eq_true] using h1) (by unfold maxLen; omega) (by omega) hbase fun v' w' h2 h3 _ => h v' w' h2 h3
  have e1 : (⟨g, p, none⟩ : Addr).add j = ⟨g, p + j, none⟩ := by
    unfold Addr.add
    split
    · rename_i hj; rw [hj]; rfl
    · simp
  rw [e1]
  exact hc j u hu
theorem rd_cellsV {m : Mv} {g p : Nat} {xs : List V} (h : RdSl rdV m 2 (some ⟨g, p, none⟩) xs) : ∀ (j : Nat) u, (xs.flatMap cellsV)[j]? = some u → m ⟨g, p + j, none⟩ = some u := by
  intro j u hu
  have hl : (xs.flatMap cellsV).length = xs.length * 2 := by
    clear hu h
    induction xs with
    | nil => rfl
    | cons a r ih => rw [List.flatMap_cons, List.length_append, ih]; simp [cellsV]; omega
  have hj : j < xs.length * 2 := by
    rw [← hl]; exact (List.getElem?_eq_some_iff.1 hu).1
  have hi : j / 2 < xs.length := by omega
  obtain ⟨b, o, hA, hc⟩ := h (by intro e; rw [e] at hi; simp at hi)
  injection hA with hA
  injection hA with h1 h2 _
  subst h1 h2
  have hr := hc (j / 2) hi
  have hf := flatMap_get (f := cellsV) (sz := 2) (fun _ => rfl) xs (j / 2) hi
  have h2 := hf (j % 2) (Nat.mod_lt _ (by decide)) (by simp [cellsV]; omega)
  have ej : j / 2 * 2 + j % 2 = j := by omega
  rw [ej, hu] at h2
  simp only [rdV, Nat.add_zero] at hr
  rcases (by omega : j % 2 = 0 ∨ j % 2 = 1) with e | e
  · have : p + j / 2 * 2 = p + j := by omega
    rw [this] at hr
    rw [hr.1]
    simp only [e, cellsV] at h2
    injection h2 with h2
    rw [h2]; rfl
  · have : p + j / 2 * 2 + 1 = p + j := by omega
    rw [this] at hr
    rw [hr.2]
    simp only [e, cellsV] at h2
    injection h2 with h2
    rw [h2]; rfl
theorem cellsV_len (xs : List V) : (xs.flatMap cellsV).length = xs.length * 2 := by
  induction xs with
  | nil => rfl
  | cons a r ih => rw [List.flatMap_cons, List.length_append, ih]; simp [cellsV]; omega
theorem cellsV_one (xs : List V) : (xs.flatMap cellsV).all (·.oneCell') = true := by
  rw [List.all_eq_true]
  intro u hu
  rw [List.mem_flatMap] at hu
  obtain ⟨x, _, hx⟩ := hu
  simp only [cellsV, List.mem_cons, List.not_mem_nil, or_false] at hx
  rcases hx with rfl | rfl <;> rfl
end Go.Proofs.Ytfillcjpdnpaiaa
