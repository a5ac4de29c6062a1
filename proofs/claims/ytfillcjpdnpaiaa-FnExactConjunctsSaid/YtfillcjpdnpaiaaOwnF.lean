/- append: where the row lies afterwards. What lies off a row. -/
import Derived.Test.YtfillcjpdnpaiaaOwnE
namespace Go.Proofs.Ytfillcjpdnpaiaa
open Go Go.RowKit

/-- The row v' lies where v lay, or in a new block. -/
def Wh (w : World) (v v' : Value) : Prop := ∀ k, v'.ownBlock = some k → v.ownBlock = some k ∨ w.heap.size ≤ k
theorem app_where {P : Program} (w : World) (base : Nat) (t ty e : TypeId) (i : TypeInfo) (z : Value) (size bytes : Nat) (ht : P.underlying t = some (.slice e)) (hi : P.info? e = some i) (hz : i.zero = some z)
    (hsize : i.size = size) (hby : i.bytes = bytes) (hzs : z.cells.size = size) (hsz : 0 < size)
    (v : Value) (n : Nat) (xs : List Value) (hown : w.ownsRow base e size v n xs)
    (a : Addr) (m c : Nat) (news : List Value) (hl : news.length = m * size) (hnews : ∀ j u, news[j]? = some u → w.cell? (a.add j) = some u) (h1 : ∀ u ∈ news, u.oneCell' = true)
    (h63 : n + m ≤ maxLen) (hbytes : (n + m) * bytes ≤ 140737488355328) (hbase : base ≤ w.heap.size) :
    ∃ v' w', (Builtin.append_ #[t, t] ty #[v, .slice (some a) m c]).run P w = .ok v' w' ∧ w'.ownsRow base e size v' (n + m) (xs ++ news) ∧ w.grownBy w' v.ownBlock ∧ Wh w v v' := by
  obtain ⟨v', w', hr, h2, h3, _⟩ := run_append_own (P := P) w base t ty e i z size bytes ht hi hz hsize hby hzs hsz v n xs hown a m c news hl hnews h1 h63 hbytes hbase
  refine ⟨v', w', hr, h2, h3, ?_⟩
  subst hsize hby
  rcases hown.2 with ⟨rfl, rfl⟩ | ⟨g, cap, cur, rfl, hbg, hg, hnc, hcm, hcs, htake⟩
  · obtain ⟨v2, w2, hr2, h4, _⟩ := run_append_own (P := P) w w.heap.size t ty e i z i.size i.bytes ht hi hz rfl rfl hzs hsz (.slice none 0 0) 0 [] own_nil a m c news hl hnews h1 h63 hbytes (Nat.le_refl _)
    rw [hr] at hr2
    injection hr2 with hv _
    subst hv
    exact fun k hk => .inr (own_blk h4 k hk)
  · by_cases hroom : n + m ≤ cap
    · have hfit : n * i.size + news.length ≤ cur.size := by rw [hl, hcs, ← Nat.add_mul]; exact Nat.mul_le_mul_right _ hroom
      have hr2 := run_append_room (P := P) w t ty e i ht hi g n cap cur hg a m c news hl hnews h1 hroom hfit
      rw [hr] at hr2
      injection hr2 with hv _
      subst hv
      exact fun k hk => .inl hk
    · have holds : ∀ j u, xs[j]? = some u → w.cell? ((⟨g, 0, none⟩ : Addr).add j) = some u := hown.cells (g := g) rfl
      have hr2 := run_append_grow (P := P) w t ty e i z ht hi hz ⟨g, 0, none⟩ n cap xs hown.1 holds a m c news hl hnews (by omega) (by unfold maxLen at h63; omega) (growslice_fits (by omega) hbytes)
      rw [hr] at hr2
      injection hr2 with hv _
      subst hv
      intro k hk
      simp only [Value.ownBlock, Option.some.injEq] at hk
      right; omega
/-- Cells of a slice, in the kit's own words. -/
theorem cells_add {w : World} {g p : Nat} {news : List Value} (hc : ∀ (j : Nat) u, news[j]? = some u → w.cell? ⟨g, p + j, none⟩ = some u) : ∀ j u, news[j]? = some u → w.cell? ((⟨g, p, none⟩ : Addr).add j) = some u := fun j u hu => by
  have e1 : (⟨g, p, none⟩ : Addr).add j = ⟨g, p + j, none⟩ := by
    unfold Addr.add
    split
    · rename_i hj; rw [hj]; rfl
    · simp
  rw [e1]
  exact hc j u hu
/-- append of a slice that reads as a list; where the row lies afterwards. -/
theorem wp_appW {P : Program} {ops : Array Oper} {rest : List Oper} {o : Oper} {a : Act} {Q : Exit → Act → World → Prop} {w : World} (hgd : o.guard = none) (s x : Operand) (t : TypeId)
    (ho : o.op = .call { callee := .builtin .append, args := #[s, x], argTypes := #[t, t] })
    (base : Nat) (e : TypeId) (z : Value) (size bytes : Nat) (ht : P.underlying t = some (.slice e)) (hinfo : (P.info? e).map (fun i => (i.zero, i.size, i.bytes)) = some (some z, size, bytes))
    (hzs : z.cells.size = size) (hsz : 0 < size) (hby : bytes ≤ 64) (v : Value) (n : Nat) (xs : List Value) (hs : a.eval s = v) (hown : w.ownsRow base e size v n xs) (hn : n ≤ 549755813888) (hbase : base ≤ w.heap.size)
    (g p m cap : Nat) (news : List Value) (hx : a.eval x = .slice (some ⟨g, p, none⟩) m cap) (hlen : news.length = m * size) (hc : ∀ (j : Nat) u, news[j]? = some u → w.cell? ⟨g, p + j, none⟩ = some u) (hm : m ≤ 549755813888) (h1 : news.all (·.oneCell') = true)
    (h : ∀ v' w', w'.ownsRow base e size v' (n + m) (xs ++ news) → w.grownBy w' v.ownBlock → Wh w v v' → wpList P ops Q rest (a.put o.dst v') w') : wpList P ops Q (o :: rest) a w := by
  obtain ⟨i, hi, hz, hsi, hb⟩ := info_parts hinfo
  have hmm : (n + m) * bytes ≤ (n + m) * 64 := Nat.mul_le_mul_left _ hby
  obtain ⟨v', w', hr, h2, h3, h4⟩ := app_where (P := P) w base t o.type e i z size bytes ht hi hz hsi hb hzs hsz v n xs hown ⟨g, p, none⟩ m cap news hlen (cells_add hc) (by simpa [List.all_eq_true] using h1) (by unfold maxLen; omega) (by omega) hbase
  refine wpList_plain hgd fun _ hK => ?_
  unfold Oper.wp execOp
  simp only [ho, resolve, invoke, builtin, Sem.run_bind, Sem.run_pure, Result.andThen_ok, List.map_toArray, List.map_cons, List.map_nil, hs, hx, hr]
  exact hK _ _ (h v' w' h2 h3 h4)
/-- The cells from block lo on that are not of the row v. -/
def offR (w : World) (lo : Nat) (v : Value) : Mv := fun p => if lo ≤ p.block ∧ v.ownBlock ≠ some p.block then w.cell? p else none
theorem off_le {w : World} {lo : Nat} {v : Value} : Mle (offR w lo v) (fromB w lo) := fun p u e => by
  unfold offR at e
  unfold fromB
  split at e
  · rename_i h; rw [if_pos h.1]; exact e
  · cases e
theorem off_blk {w w' : World} {lo : Nat} {v v' : Value} (h : ∀ k, lo ≤ k → k < w.heap.size → v.ownBlock ≠ some k → w'.heap[k]? = w.heap[k]? ∧ v'.ownBlock ≠ some k) : Mle (offR w lo v) (offR w' lo v') := fun p u e => by
  unfold offR at e ⊢
  split at e
  · rename_i h'
    obtain ⟨h1, h2⟩ := h _ h'.1 (cell_lt e) h'.2
    rw [if_pos ⟨h'.1, h2⟩]; exact (World.cell?_of_block (w := w) h1).trans e
  · cases e
theorem off_fr {w w' : World} {lo : Nat} {v : Value} (hf : Fr w w') : Mle (offR w lo v) (offR w' lo v) := off_blk fun k _ h2 h3 => ⟨hf.block k h2, h3⟩
theorem off_grown {w w' : World} {lo : Nat} {v v' : Value} (hg : w.grownBy w' v.ownBlock) (hw : Wh w v v') : Mle (offR w lo v) (offR w' lo v') := off_blk fun k _ h2 h3 =>
  ⟨hg.block k h2 (fun e => h3 e.symm), fun e => by
    rcases hw k e with h | h
    · exact h3 h
    · omega⟩
theorem off_lo {w : World} {lo lo' : Nat} {v : Value} (h : lo' ≤ lo) : Mle (offR w lo v) (offR w lo' v) := fun p u e => by
  unfold offR at e ⊢; split at e
  · rename_i h'; rw [if_pos ⟨by omega, h'.2⟩]; exact e
  · cases e
theorem off_from {w : World} {lo lo' : Nat} {v : Value} (h : lo ≤ lo') (hv : ∀ k, v.ownBlock = some k → k < lo') : Mle (fromB w lo') (offR w lo v) := fun p u e => by
  unfold fromB at e; unfold offR
  split at e
  · rename_i h'; rw [if_pos ⟨by omega, fun e => by have := hv _ e; omega⟩]; exact e
  · cases e
theorem off_ch {w w' : World} {r lo : Nat} {v : Value} (hc : Ch (· = r) w w') (hr : r < lo) : Mle (offR w lo v) (offR w' lo v) := off_blk fun k h1 h2 h3 => ⟨hc.block k h2 (by omega), h3⟩
theorem off_win {w : World} {lo hi : Nat} {v : Value} (hv : ∀ k, v.ownBlock = some k → hi ≤ k) : Mle (win w lo hi) (offR w lo v) := fun p u e => by
  unfold win at e; unfold offR
  split at e
  · rename_i h'; rw [if_pos ⟨h'.1, fun e => by have := hv _ e; omega⟩]; exact e
  · cases e
theorem own_lt {w : World} {base e sz n : Nat} {v : Value} {xs : List Value} (h : w.ownsRow base e sz v n xs) : ∀ k, v.ownBlock = some k → base ≤ k ∧ k < w.heap.size := h.lt
/-- A literal row, just laid. -/
theorem own_lit {w : World} {t : TypeId} {base sz n : Nat} {xs : List Value} (hb : base ≤ w.heap.size) (hl : xs.length = n * sz) (hn : n ≤ maxLen) : (w.alloc (.cells xs.toArray t)).ownsRow base t sz (.slice (some ⟨w.heap.size, 0, none⟩) n n) n xs :=
  ⟨hl, .inr ⟨w.heap.size, n, xs.toArray, rfl, hb, Blk.new w t xs.toArray, Nat.le_refl _, hn, by simp [hl], by simp [← hl]⟩⟩
/-- The same row in a slice that ends earlier. -/
theorem own_cut {w : World} {base e sz g n m cap : Nat} {xs : List Value} (h : w.ownsRow base e sz (.slice (some ⟨g, 0, none⟩) n cap) n xs) (hm : m ≤ n) : w.ownsRow base e sz (.slice (some ⟨g, 0, none⟩) m cap) m (xs.take (m * sz)) := by
  obtain ⟨hl, h | ⟨g', cap', cur, hv, hg, hh, hnc, hcm, hcs, ht⟩⟩ := h
  · cases h.1
  · injection hv with hA _ hc
    injection hA with hA
    injection hA with hA _ _
    subst hA hc
    have hmn : m * sz ≤ n * sz := Nat.mul_le_mul_right _ hm
    refine ⟨by rw [List.length_take, hl]; exact Nat.min_eq_left hmn, .inr ⟨g, cap, cur, rfl, hg, hh, by omega, hcm, hcs, ?_⟩⟩
    rw [← ht, List.take_take, Nat.min_eq_left hmn]
/-- The cells of a row of one's own. -/
theorem own_cells {w : World} {base e sz g n cap : Nat} {xs : List Value} (h : w.ownsRow base e sz (.slice (some ⟨g, 0, none⟩) n cap) n xs) : ∀ (j : Nat) u, xs[j]? = some u → w.cell? ⟨g, j, none⟩ = some u := fun j u hu => by
  have := h.cells (g := g) rfl j u hu
  have e1 : (⟨g, 0, none⟩ : Addr).add j = ⟨g, j, none⟩ := by
    unfold Addr.add
    split
    · rename_i hj; rw [hj]
    · simp
  rwa [e1] at this
theorem cellsE_len (xs : List (Ex × Option Addr × Nat)) : (xs.flatMap cellsE).length = xs.length * 5 := by
  induction xs with
  | nil => rfl
  | cons a r ih => rw [List.flatMap_cons, List.length_append, ih]; simp [cellsE]; omega
theorem cellsE_one (xs : List (Ex × Option Addr × Nat)) : (xs.flatMap cellsE).all (·.oneCell') = true := by
  rw [List.all_eq_true]
  intro u hu
  rw [List.mem_flatMap] at hu
  obtain ⟨x, _, hx⟩ := hu
  simp only [cellsE, List.mem_cons, List.not_mem_nil, or_false] at hx
  rcases hx with rfl | rfl | rfl | rfl | rfl <;> rfl
theorem blk_cells {w : World} {g : Nat} {y : Ex × Option Addr × Nat} (hB : ∃ e', Blk w g e' (cellsE y).toArray) : ∀ (j : Nat) u, ([y].flatMap cellsE)[j]? = some u → w.cell? ⟨g, 0 + j, none⟩ = some u := fun j u hu => by
  obtain ⟨e', hB⟩ := hB
  rw [Nat.zero_add, hB.cell]
  simpa using hu
set_option maxRecDepth 100000 in
/-- append of expressions, as go_region_with meets it where 'Builtin.append_' is taken out of go_sem. -/
theorem upon_appW {o : Oper} {a : Act} {K : Act → World → Prop} {Q : Exit → Act → World → Prop} {w : World} (base : Nat) (v : Value) (n : Nat) (xs : List Value) (hown : w.ownsRow base 33 5 v n xs) (hn : n ≤ 549755813888) (hbase : base ≤ w.heap.size)
    (g m cap : Nat) (ys : List (Ex × Option Addr × Nat)) (hm : ys.length = m) (hm2 : m ≤ 549755813888) (hB : ∀ (j : Nat) u, (ys.flatMap cellsE)[j]? = some u → w.cell? ⟨g, 0 + j, none⟩ = some u)
    (h : ∀ v' w', w'.ownsRow base 33 5 v' (n + m) (xs ++ ys.flatMap cellsE) → w.grownBy w' v.ownBlock → Wh w v v' → K (a.put o.dst v') w') :
    Oper.upon Try.prog o a K Q ((Sem.run Try.prog (Builtin.append_ #[31, 31] 31 #[v, .slice (some ⟨g, 0, none⟩) m cap]) w).andThen fun a w' => .ok (.value a) w') := by
  obtain ⟨i, hi, hz, hsi, hb⟩ := info_parts (P := Try.prog) (e := 33) (z := .agg #[.int .i64 0, .int .i64 0, .bool false, .int .i64 0, .slice none 0 0]) (size := 5) (bytes := 56) (by kernel_rfl)
  obtain ⟨v', w', hr, h2, h3, h4⟩ := app_where (P := Try.prog) w base 31 31 33 i (.agg #[.int .i64 0, .int .i64 0, .bool false, .int .i64 0, .slice none 0 0]) 5 56 Try.underlying31 hi hz hsi hb rfl (by decide) v n xs hown ⟨g, 0, none⟩ m cap (ys.flatMap cellsE) (by rw [cellsE_len, hm]) (cells_add hB) (List.all_eq_true.1 (cellsE_one ys)) (by unfold maxLen; omega) (by omega) hbase
  rw [hr]
  exact h v' w' h2 h3 h4
end Go.Proofs.Ytfillcjpdnpaiaa
