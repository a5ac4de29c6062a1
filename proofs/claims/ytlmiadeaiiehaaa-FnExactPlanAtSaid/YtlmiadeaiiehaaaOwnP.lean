/- What a call owns (Own, OwnE, OwnF as one text without the generators: import this or those). -/
import Derived.Test.YtlmiadeaiiehaaaRExpr
import Derived.Test.YtlmiadeaiiehaaaTValue
import Derived.Test.YtlmiadeaiiehaaaMem2
import Derived.Test.YtlmiadeaiiehaaaOwnN
import Derived.Laws.OwnMore
namespace Go.Proofs.Ytlmiadeaiiehaaa
open Go Go.RowKit
theorem Blk.ch {S : Nat → Prop} {w w' : World} {g : Nat} {t : TypeId} {cs : Array Value} (h : Blk w g t cs) (hc : Ch S w w') (hS : ¬ S g) : Blk w' g t cs := (hc.block g h.lt hS).trans h

theorem chSet {r o : Nat} {a w : World} {u : Value} (h : Ch (· = r) a w) : Ch (· = r) a (w.setCell ⟨r, o, none⟩ u) := h.set (p := ⟨r, o, none⟩) (.inl rfl) u
theorem own_cap {w : World} {base e sz n : Nat} {v : Value} {xs : List Value} (h : w.ownsRow base e sz v n xs) : ∃ A cap, v = .slice A n cap ∧ n ≤ cap := by
  rcases h.2 with ⟨rfl, h0⟩ | ⟨g, cap, cur, hv, hg, hh, hnc, _⟩
  · exact ⟨none, 0, by rw [h0], by omega⟩
  · exact ⟨_, cap, hv, hnc⟩
theorem own_drew {w : World} {base e sz n : Nat} {v : Value} {xs : List Value} (h : w.ownsRow base e sz v n xs) : w.drew.ownsRow base e sz v n xs := own_fr h (Fr.refl w).drew
/-- What is the call's own stays while the reader's block, which is none of it, is written. -/
theorem own_ch {w w' : World} {r base e sz n : Nat} {v : Value} {xs : List Value} (h : w.ownsRow base e sz v n xs) (hc : Ch (· = r) w w') (hr : r < base) : w'.ownsRow base e sz v n xs := by
  refine ⟨h.1, ?_⟩
  rcases h.2 with h | ⟨g, cap, cur, hv, hg, hh, hrest⟩
  · exact .inl h
  · exact .inr ⟨g, cap, cur, hv, hg, (Blk.ch (S := (· = r)) (show Blk w g e cur from hh) hc (by omega)), hrest⟩
theorem own_blk {w : World} {base e sz n : Nat} {v : Value} {xs : List Value} (h : w.ownsRow base e sz v n xs) : ∀ k, v.ownBlock = some k → base ≤ k := by
  intro k hk
  rcases h.2 with ⟨rfl, _⟩ | ⟨g, cap, cur, rfl, hg, _⟩
  · cases hk
  · simp only [Value.ownBlock, Option.some.injEq] at hk; omega
def cellsV (v : V) : List Value := [.bool v.null, .int .i64 v.n]
theorem own_V {w : World} {base e n cap : Nat} {A : Option Addr} {xs : List V} (h : w.ownsRow base e 2 (.slice A n cap) n (xs.flatMap cellsV)) (hn : n = xs.length) : RdSl rdV (fromB w base) 2 A xs :=
  own_rd h hn (fun _ => rfl) fun m c x hc => ⟨hc 0 (by simp [cellsV]), hc 1 (by simp [cellsV])⟩
/-- An owned row, with elements in it: its block. -/
theorem own_form2 {w : World} {base e sz n : Nat} {v : Value} {xs : List Value} (h : w.ownsRow base e sz v n xs) (hn : 0 < n) : ∃ g cap cs, v = .slice (some ⟨g, 0, none⟩) n cap ∧ base ≤ g ∧ Blk w g e cs ∧ n * sz ≤ cs.size := by
  rcases h.2 with ⟨_, h0⟩ | ⟨g, cap, cur, hv, hg, hh, hnc, _, hs, _⟩
  · omega
  · exact ⟨g, cap, cur, hv, hg, hh, by rw [hs]; exact Nat.mul_le_mul_right _ hnc⟩
/-- One element of a row written anew. -/
theorem rdV_set {w : World} {lo g : Nat} {t : TypeId} {cs : Array Value} {xs : List V} {x : Nat} {v : V} (h : RdSl rdV (fromB w lo) 2 (some ⟨g, 0, none⟩) xs) (hg : lo ≤ g) (hB : Blk w g t cs) (hx : x * 2 + 1 < cs.size) :
    RdSl rdV (fromB ((w.setCell ⟨g, x * 2, none⟩ (.bool v.null)).setCell ⟨g, x * 2 + 1, none⟩ (.int .i64 v.n)) lo) 2 (some ⟨g, 0, none⟩) (xs.set x v) := fun hne => by
  have hne' : xs ≠ [] := fun e => hne (by rw [e]; rfl)
  obtain ⟨b, o, hA, hc⟩ := h hne'
  injection hA with hA
  injection hA with h1 h2 _
  subst h1 h2
  have B2 := (hB.set_ (x * 2) (.bool v.null)).set_ (x * 2 + 1) (.int .i64 v.n)
  refine ⟨g, 0, rfl, fun i hi => ?_⟩
  simp only [List.length_set] at hi
  have hi' := hc i hi
  simp only [rdV, fromB, if_pos hg, Nat.zero_add, Nat.add_zero, hB.cell] at hi'
  simp only [rdV, fromB, if_pos hg, Nat.zero_add, Nat.add_zero, B2.cell, Array.getElem?_setIfInBounds, Array.size_setIfInBounds]
  by_cases e : x = i
  · subst e
    rw [List.getElem_set_self, if_neg (by omega), if_pos rfl, if_pos (by omega), if_pos rfl, if_pos (by omega)]
    exact ⟨rfl, rfl⟩
  · rw [List.getElem_set_ne e, if_neg (by omega), if_neg (by omega), if_neg (by omega), if_neg (by omega)]
    exact hi'
/-- append of a whole slice that reads as a list. -/
theorem wp_appRd {P : Program} {ops : Array Oper} {rest : List Oper} {o : Oper} {a : Act} {Q : Exit → Act → World → Prop} {w : World} (hgd : o.guard = none) (s x : Operand) (t : TypeId)
    (ho : o.op = .call { callee := .builtin .append, args := #[s, x], argTypes := #[t, t] })
    (base : Nat) (e : TypeId) (z : Value) (size bytes : Nat) (ht : P.underlying t = some (.slice e)) (hinfo : (P.info? e).map (fun i => (i.zero, i.size, i.bytes)) = some (some z, size, bytes))
    (hzs : z.cells.size = size) (hsz : 0 < size) (hby : bytes ≤ 64) (v : Value) (n : Nat) (xs : List Value) (hs : a.eval s = v) (hown : w.ownsRow base e size v n xs) (hn : n ≤ 549755813888) (hbase : base ≤ w.heap.size)
    (g p m cap : Nat) (news : List Value) (hx : a.eval x = .slice (some ⟨g, p, none⟩) m cap) (hlen : news.length = m * size) (hc : ∀ (j : Nat) u, news[j]? = some u → w.cell? ⟨g, p + j, none⟩ = some u) (hm : m ≤ 549755813888) (h1 : news.all (·.oneCell') = true)
    (h : ∀ v' w', w'.ownsRow base e size v' (n + m) (xs ++ news) → w.grownBy w' v.ownBlock → wpList P ops Q rest (a.put o.dst v') w') : wpList P ops Q (o :: rest) a w := by
  obtain ⟨i, hi, hz, hsi, hb⟩ := info_parts hinfo
  have hmm : (n + m) * bytes ≤ (n + m) * 64 := Nat.mul_le_mul_left _ hby
  refine wpList_append_own w hgd s x t ho base e i z size bytes ht hi hz hsi hb hzs hsz v n xs hs hown ⟨g, p, none⟩ m cap news hx hlen (fun j u hu => ?_) (by simpa [List.all_eq_true] using h1) (by unfold maxLen; omega) (by omega) hbase fun v' w' h2 h3 _ => h v' w' h2 h3
  have e1 : (⟨g, p, none⟩ : Addr).add j = ⟨g, p + j, none⟩ := by
    unfold Addr.add
    split
    · rename_i hj; rw [hj]; rfl
    · simp
  rw [e1]
  exact hc j u hu
theorem rd_cellsV {m : Mv} {g p : Nat} {xs : List V} (h : RdSl rdV m 2 (some ⟨g, p, none⟩) xs) : ∀ (j : Nat) u, (xs.flatMap cellsV)[j]? = some u → m ⟨g, p + j, none⟩ = some u := by
  intro j u hu
  have hl : (xs.flatMap cellsV).length = xs.length * 2 := by
    clear hu h
    induction xs with
    | nil => rfl
    | cons a r ih => rw [List.flatMap_cons, List.length_append, ih]; simp [cellsV]; omega
  have hj : j < xs.length * 2 := by
    rw [← hl]; exact (List.getElem?_eq_some_iff.1 hu).1
  have hi : j / 2 < xs.length := by omega
  obtain ⟨b, o, hA, hc⟩ := h (by intro e; rw [e] at hi; simp at hi)
  injection hA with hA
  injection hA with h1 h2 _
  subst h1 h2
  have hr := hc (j / 2) hi
  have hf := flatMap_get (f := cellsV) (sz := 2) (fun _ => rfl) xs (j / 2) hi
  have h2 := hf (j % 2) (Nat.mod_lt _ (by decide)) (by simp [cellsV]; omega)
  have ej : j / 2 * 2 + j % 2 = j := by omega
  rw [ej, hu] at h2
  simp only [rdV, Nat.add_zero] at hr
  rcases (by omega : j % 2 = 0 ∨ j % 2 = 1) with e | e
  · have : p + j / 2 * 2 = p + j := by omega
    rw [this] at hr
    rw [hr.1]
    simp only [e, cellsV] at h2
    injection h2 with h2
    rw [h2]; rfl
  · have : p + j / 2 * 2 + 1 = p + j := by omega
    rw [this] at hr
    rw [hr.2]
    simp only [e, cellsV] at h2
    injection h2 with h2
    rw [h2]; rfl
theorem cellsV_len (xs : List V) : (xs.flatMap cellsV).length = xs.length * 2 := by
  induction xs with
  | nil => rfl
  | cons a r ih => rw [List.flatMap_cons, List.length_append, ih]; simp [cellsV]; omega
theorem cellsV_one (xs : List V) : (xs.flatMap cellsV).all (·.oneCell') = true := by
  rw [List.all_eq_true]
  intro u hu
  rw [List.mem_flatMap] at hu
  obtain ⟨x, _, hx⟩ := hu
  simp only [cellsV, List.mem_cons, List.not_mem_nil, or_false] at hx
  rcases hx with rfl | rfl <;> rfl

/-- The cells of an expression whose kids lie at A. -/
def cellsE (x : Ex × Option Addr × Nat) : List Value := [.int .i64 x.1.kind, .int .i64 x.1.col, .bool x.1.val.null, .int .i64 x.1.val.n, .slice x.2.1 x.1.kids.length x.2.2]
def rdLaid : Rd (Ex × Option Addr × Nat) := fun _ c x => c 0 = some (.int .i64 x.1.kind) ∧ c 1 = some (.int .i64 x.1.col) ∧ c 2 = some (.bool x.1.val.null) ∧ c 3 = some (.int .i64 x.1.val.n) ∧ c 4 = some (.slice x.2.1 x.1.kids.length x.2.2)
/-- What a laid expression's kids want. -/
def KidsOk (m : Nat) (mem : Mv) (x : Ex × Option Addr × Nat) : Prop := RdSl (rdEx m) mem 5 x.2.1 x.1.kids ∧ x.1.kids.length ≤ maxLen ∧ x.1.kids.length ≤ x.2.2
theorem KidsOk.mono {m : Nat} {a b : Mv} {x : Ex × Option Addr × Nat} (h : KidsOk m a x) (he : Mle a b) : KidsOk m b x := ⟨h.1.mono (rdEx_mono m) he, h.2⟩
theorem laid_rd {m : Nat} {mem : Mv} {A : Option Addr} {xs : List (Ex × Option Addr × Nat)} (h : RdSl rdLaid mem 5 A xs) (hk : ∀ x ∈ xs, KidsOk m mem x) : RdSl (rdEx (m + 1)) mem 5 A (xs.map (·.1)) := fun hne => by
  have hne' : xs ≠ [] := fun e => hne (by rw [e]; rfl)
  obtain ⟨b, o, hA, hc⟩ := h hne'
  refine ⟨b, o, hA, fun i hi => ?_⟩
  have hi' : i < xs.length := by simpa using hi
  obtain ⟨c0, c1, c2, c3, c4⟩ := hc i hi'
  obtain ⟨k1, k2, k3⟩ := hk xs[i] (List.getElem_mem hi')
  rw [List.getElem_map]
  exact ⟨c0, c1, c2, c3, _, _, c4, k1, k2, k3⟩
theorem own_E {w : World} {base e n cap m : Nat} {A : Option Addr} {xs : List (Ex × Option Addr × Nat)} (h : w.ownsRow base e 5 (.slice A n cap) n (xs.flatMap cellsE)) (hn : n = xs.length) (hk : ∀ x ∈ xs, KidsOk m (fromB w base) x) : RdSl (rdEx (m + 1)) (fromB w base) 5 A (xs.map (·.1)) :=
  laid_rd (own_rd h hn (fun _ => rfl) fun m c x hc => ⟨hc 0 (by simp [cellsE]), hc 1 (by simp [cellsE]), hc 2 (by simp [cellsE]), hc 3 (by simp [cellsE]), hc 4 (by simp [cellsE])⟩) hk
/-- The cells of the blocks from lo on below hi. -/
def win (w : World) (lo hi : Nat) : Mv := fun p => if lo ≤ p.block ∧ p.block < hi then w.cell? p else none
theorem win_le {w : World} {lo hi : Nat} : Mle (win w lo hi) (fromB w lo) := fun p v e => by
  unfold win at e
  unfold fromB
  split at e
  · rename_i h; rw [if_pos h.1]; exact e
  · cases e
theorem from_win {w : World} {lo : Nat} : Mle (fromB w lo) (win w lo w.heap.size) := fun p v e => by
  unfold fromB at e
  unfold win
  split at e
  · rename_i h; rw [if_pos ⟨h, cell_lt e⟩]; exact e
  · cases e
theorem win_blk {w w' : World} {lo hi : Nat} (h : ∀ k, lo ≤ k → k < hi → w'.heap[k]? = w.heap[k]?) : Mle (win w lo hi) (win w' lo hi) := fun p v e => by
  unfold win at e ⊢
  split at e
  · rename_i h'; rw [if_pos h']; exact (World.cell?_of_block (w := w) (h _ h'.1 h'.2)).trans e
  · cases e
theorem win_ch {w w' : World} {r lo hi : Nat} (hc : Ch (· = r) w w') (hr : r < lo) (hh : hi ≤ w.heap.size) : Mle (win w lo hi) (win w' lo hi) := win_blk fun k h1 h2 => hc.block k (by omega) (by omega)
theorem win_grown {w w' : World} {row : Option Nat} {lo hi : Nat} (hg : w.grownBy w' row) (hr : ∀ k, row = some k → hi ≤ k) (hh : hi ≤ w.heap.size) : Mle (win w lo hi) (win w' lo hi) := win_blk fun k h1 h2 => hg.block k (by omega) fun e => by have := hr k e.symm; omega
theorem from_grown {w w' : World} {row : Option Nat} {lo : Nat} (hg : w.grownBy w' row) (hr : ∀ k, row = some k → k < lo) : Mle (fromB w lo) (fromB w' lo) := fun p v e => by
  have hlt : p.block < w.heap.size := cell_lt (fromB_le _ _ _ _ e)
  unfold fromB at e ⊢
  split at e
  · rename_i h
    rw [if_pos h]
    exact (World.cell?_of_block (w := w) (hg.block _ hlt fun e => by have := hr _ e.symm; omega)).trans e
  · cases e
/-- An expression in memory as an aggregate: its kids' place. -/
theorem exSm_two {m : Nat} {ks : List Ex} (h : ks.length ≤ 2) (hk : ∀ x ∈ ks, exSm m x.kids) : exSm (m + 1) ks := ⟨by omega, fun i hi => hk _ (List.getElem_mem hi)⟩
/-- A literal of expressions, just laid. -/
theorem lit_ex {w : World} {t : TypeId} {m : Nat} {mem : Mv} {xs : List (Ex × Option Addr × Nat)} (hB : Mle (win (w.alloc (.cells (xs.flatMap cellsE).toArray t)) w.heap.size (w.heap.size + 1)) mem) (hk : ∀ x ∈ xs, KidsOk m mem x) : RdSl (rdEx (m + 1)) mem 5 (some ⟨w.heap.size, 0, none⟩) (xs.map (·.1)) := by
  refine laid_rd (fun hne => ⟨w.heap.size, 0, rfl, fun i hi => ?_⟩) hk
  have key : ∀ j (hj : j < (cellsE xs[i]).length), mem ⟨w.heap.size, 0 + i * 5 + j, none⟩ = some (cellsE xs[i])[j] := fun j hj => by
    refine hB _ _ ?_
    unfold win
    rw [if_pos ⟨Nat.le_refl _, Nat.lt_succ_self _⟩, (Blk.new w t (xs.flatMap cellsE).toArray).cell]
    have := flatMap_get (f := cellsE) (sz := 5) (fun _ => rfl) xs i hi j (by simpa [cellsE] using hj) hj
    simpa using this
  exact ⟨key 0 (by simp [cellsE]), key 1 (by simp [cellsE]), key 2 (by simp [cellsE]), key 3 (by simp [cellsE]), key 4 (by simp [cellsE])⟩
set_option maxRecDepth 100000 in
/-- append of one expression, as go_region_with meets it where 'Builtin.append_' is taken out of go_sem ('attribute [-go_sem] Builtin.append_'). -/
theorem upon_appE {o : Oper} {a : Act} {K : Act → World → Prop} {Q : Exit → Act → World → Prop} {w : World} (base : Nat) (v : Value) (n : Nat) (xs : List Value) (hown : w.ownsRow base 93 5 v n xs) (hn : n ≤ 1000) (hbase : base ≤ w.heap.size)
    (g : Nat) (y : Ex × Option Addr × Nat) (hB : ∃ e', Blk w g e' (cellsE y).toArray)
    (h : ∀ v' w', w'.ownsRow base 93 5 v' (n + 1) (xs ++ cellsE y) → w.grownBy w' v.ownBlock → K (a.put o.dst v') w') :
    Oper.upon Try.prog o a K Q ((Sem.run Try.prog (Builtin.append_ #[44, 44] 44 #[v, .slice (some ⟨g, 0, none⟩) 1 1]) w).andThen fun a w' => .ok (.value a) w') := by
  obtain ⟨i, hi, hz, hsi, hb⟩ := info_parts (P := Try.prog) (e := 93) (z := .agg #[.int .i64 0, .int .i64 0, .bool false, .int .i64 0, .slice none 0 0]) (size := 5) (bytes := 56) (by kernel_rfl)
  obtain ⟨e', hB⟩ := hB
  obtain ⟨v', w', hr, h2, h3, _⟩ := run_append_own (P := Try.prog) w base 44 44 93 i (.agg #[.int .i64 0, .int .i64 0, .bool false, .int .i64 0, .slice none 0 0]) 5 56 Try.underlying44 hi hz hsi hb rfl (by decide) v n xs hown ⟨g, 0, none⟩ 1 1 (cellsE y) rfl (fun j u hu => by
    have e1 : (⟨g, 0, none⟩ : Addr).add j = ⟨g, j, none⟩ := by
      unfold Addr.add
      split
      · rename_i hj; rw [hj]
      · simp
    rw [e1, hB.cell]
    simpa using hu) (by simp [cellsE, Value.oneCell']) (by unfold maxLen; omega) (by omega) hbase
  rw [hr]
  exact h v' w' h2 h3

/-- The cells from block lo on that are not of the row v. -/
def offR (w : World) (lo : Nat) (v : Value) : Mv := fun p => if lo ≤ p.block ∧ v.ownBlock ≠ some p.block then w.cell? p else none
theorem off_le {w : World} {lo : Nat} {v : Value} : Mle (offR w lo v) (fromB w lo) := fun p u e => by
  unfold offR at e
  unfold fromB
  split at e
  · rename_i h; rw [if_pos h.1]; exact e
  · cases e
theorem off_blk {w w' : World} {lo : Nat} {v v' : Value} (h : ∀ k, lo ≤ k → k < w.heap.size → v.ownBlock ≠ some k → w'.heap[k]? = w.heap[k]? ∧ v'.ownBlock ≠ some k) : Mle (offR w lo v) (offR w' lo v') := fun p u e => by
  unfold offR at e ⊢
  split at e
  · rename_i h'
    obtain ⟨h1, h2⟩ := h _ h'.1 (cell_lt e) h'.2
    rw [if_pos ⟨h'.1, h2⟩]; exact (World.cell?_of_block (w := w) h1).trans e
  · cases e
theorem off_fr {w w' : World} {lo : Nat} {v : Value} (hf : Fr w w') : Mle (offR w lo v) (offR w' lo v) := off_blk fun k _ h2 h3 => ⟨hf.block k h2, h3⟩
theorem off_grown {w w' : World} {lo : Nat} {v v' : Value} (hg : w.grownBy w' v.ownBlock) (hw : Wh w v v') : Mle (offR w lo v) (offR w' lo v') := off_blk fun k _ h2 h3 =>
  ⟨hg.block k h2 (fun e => h3 e.symm), fun e => by
    rcases hw k e with h | h
    · exact h3 h
    · omega⟩
theorem off_lo {w : World} {lo lo' : Nat} {v : Value} (h : lo' ≤ lo) : Mle (offR w lo v) (offR w lo' v) := fun p u e => by
  unfold offR at e ⊢; split at e
  · rename_i h'; rw [if_pos ⟨by omega, h'.2⟩]; exact e
  · cases e
theorem off_from {w : World} {lo lo' : Nat} {v : Value} (h : lo ≤ lo') (hv : ∀ k, v.ownBlock = some k → k < lo') : Mle (fromB w lo') (offR w lo v) := fun p u e => by
  unfold fromB at e; unfold offR
  split at e
  · rename_i h'; rw [if_pos ⟨by omega, fun e => by have := hv _ e; omega⟩]; exact e
  · cases e
theorem off_ch {w w' : World} {r lo : Nat} {v : Value} (hc : Ch (· = r) w w') (hr : r < lo) : Mle (offR w lo v) (offR w' lo v) := off_blk fun k h1 h2 h3 => ⟨hc.block k h2 (by omega), h3⟩
theorem off_win {w : World} {lo hi : Nat} {v : Value} (hv : ∀ k, v.ownBlock = some k → hi ≤ k) : Mle (win w lo hi) (offR w lo v) := fun p u e => by
  unfold win at e; unfold offR
  split at e
  · rename_i h'; rw [if_pos ⟨h'.1, fun e => by have := hv _ e; omega⟩]; exact e
  · cases e
/-- The same row in a slice that ends earlier. -/
theorem own_cut {w : World} {base e sz g n m cap : Nat} {xs : List Value} (h : w.ownsRow base e sz (.slice (some ⟨g, 0, none⟩) n cap) n xs) (hm : m ≤ n) : w.ownsRow base e sz (.slice (some ⟨g, 0, none⟩) m cap) m (xs.take (m * sz)) := by
  obtain ⟨hl, h | ⟨g', cap', cur, hv, hg, hh, hnc, hcm, hcs, ht⟩⟩ := h
  · cases h.1
  · injection hv with hA _ hc
    injection hA with hA
    injection hA with hA _ _
    subst hA hc
    have hmn : m * sz ≤ n * sz := Nat.mul_le_mul_right _ hm
    refine ⟨by rw [List.length_take, hl]; exact Nat.min_eq_left hmn, .inr ⟨g, cap, cur, rfl, hg, hh, by omega, hcm, hcs, ?_⟩⟩
    rw [← ht, List.take_take, Nat.min_eq_left hmn]
theorem cellsE_len (xs : List (Ex × Option Addr × Nat)) : (xs.flatMap cellsE).length = xs.length * 5 := by
  induction xs with
  | nil => rfl
  | cons a r ih => rw [List.flatMap_cons, List.length_append, ih]; simp [cellsE]; omega
theorem cellsE_one (xs : List (Ex × Option Addr × Nat)) : (xs.flatMap cellsE).all (·.oneCell') = true := by
  rw [List.all_eq_true]
  intro u hu
  rw [List.mem_flatMap] at hu
  obtain ⟨x, _, hx⟩ := hu
  simp only [cellsE, List.mem_cons, List.not_mem_nil, or_false] at hx
  rcases hx with rfl | rfl | rfl | rfl | rfl <;> rfl
theorem blk_cells {w : World} {g : Nat} {y : Ex × Option Addr × Nat} (hB : ∃ e', Blk w g e' (cellsE y).toArray) : ∀ (j : Nat) u, ([y].flatMap cellsE)[j]? = some u → w.cell? ⟨g, 0 + j, none⟩ = some u := fun j u hu => by
  obtain ⟨e', hB⟩ := hB
  rw [Nat.zero_add, hB.cell]
  simpa using hu
set_option maxRecDepth 100000 in
/-- append of expressions, as go_region_with meets it where 'Builtin.append_' is taken out of go_sem. -/
theorem upon_appW {o : Oper} {a : Act} {K : Act → World → Prop} {Q : Exit → Act → World → Prop} {w : World} (base : Nat) (v : Value) (n : Nat) (xs : List Value) (hown : w.ownsRow base 93 5 v n xs) (hn : n ≤ 549755813888) (hbase : base ≤ w.heap.size)
    (g m cap : Nat) (ys : List (Ex × Option Addr × Nat)) (hm : ys.length = m) (hm2 : m ≤ 549755813888) (hB : ∀ (j : Nat) u, (ys.flatMap cellsE)[j]? = some u → w.cell? ⟨g, 0 + j, none⟩ = some u)
    (h : ∀ v' w', w'.ownsRow base 93 5 v' (n + m) (xs ++ ys.flatMap cellsE) → w.grownBy w' v.ownBlock → Wh w v v' → K (a.put o.dst v') w') :
    Oper.upon Try.prog o a K Q ((Sem.run Try.prog (Builtin.append_ #[44, 44] 44 #[v, .slice (some ⟨g, 0, none⟩) m cap]) w).andThen fun a w' => .ok (.value a) w') := by
  obtain ⟨i, hi, hz, hsi, hb⟩ := info_parts (P := Try.prog) (e := 93) (z := .agg #[.int .i64 0, .int .i64 0, .bool false, .int .i64 0, .slice none 0 0]) (size := 5) (bytes := 56) (by kernel_rfl)
  obtain ⟨v', w', hr, h2, h3, h4⟩ := app_where (P := Try.prog) w base 44 44 93 i (.agg #[.int .i64 0, .int .i64 0, .bool false, .int .i64 0, .slice none 0 0]) 5 56 Try.underlying44 hi hz hsi hb rfl (by decide) v n xs hown ⟨g, 0, none⟩ m cap (ys.flatMap cellsE) (by rw [cellsE_len, hm]) (cells_add hB) (List.all_eq_true.1 (cellsE_one ys)) (by unfold maxLen; omega) (by omega) hbase
  rw [hr]
  exact h v' w' h2 h3 h4
end Go.Proofs.Ytlmiadeaiiehaaa
