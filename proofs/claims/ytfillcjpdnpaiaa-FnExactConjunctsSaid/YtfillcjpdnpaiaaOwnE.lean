/- Expressions that a call has laid: a row of them. -/
import Derived.Test.YtfillcjpdnpaiaaRExpr
import Derived.Test.YtfillcjpdnpaiaaOwn
namespace Go.Proofs.Ytfillcjpdnpaiaa
open Go Go.RowKit

/-- The cells of an expression whose kids lie at A. -/
def cellsE (x : Ex × Option Addr × Nat) : List Value := [.int .i64 x.1.kind, .int .i64 x.1.col, .bool x.1.val.null, .int .i64 x.1.val.n, .slice x.2.1 x.1.kids.length x.2.2]
def rdLaid : Rd (Ex × Option Addr × Nat) := fun _ c x => c 0 = some (.int .i64 x.1.kind) ∧ c 1 = some (.int .i64 x.1.col) ∧ c 2 = some (.bool x.1.val.null) ∧ c 3 = some (.int .i64 x.1.val.n) ∧ c 4 = some (.slice x.2.1 x.1.kids.length x.2.2)
/-- What a laid expression's kids want. -/
def KidsOk (m : Nat) (mem : Mv) (x : Ex × Option Addr × Nat) : Prop := RdSl (rdEx m) mem 5 x.2.1 x.1.kids ∧ x.1.kids.length ≤ maxLen ∧ x.1.kids.length ≤ x.2.2
theorem KidsOk.mono {m : Nat} {a b : Mv} {x : Ex × Option Addr × Nat} (h : KidsOk m a x) (he : Mle a b) : KidsOk m b x := ⟨h.1.mono (rdEx_mono m) he, h.2⟩
theorem laid_rd {m : Nat} {mem : Mv} {A : Option Addr} {xs : List (Ex × Option Addr × Nat)} (h : RdSl rdLaid mem 5 A xs) (hk : ∀ x ∈ xs, KidsOk m mem x) : RdSl (rdEx (m + 1)) mem 5 A (xs.map (·.1)) := fun hne => by
  have hne' : xs ≠ [] := fun e => hne (by rw [e]; rfl)
  obtain ⟨b, o, hA, hc⟩ := h hne'
  refine ⟨b, o, hA, fun i hi => ?_⟩
  have hi' : i < xs.length := by simpa using hi
  obtain ⟨c0, c1, c2, c3, c4⟩ := hc i hi'
  obtain ⟨k1, k2, k3⟩ := hk xs[i] (List.getElem_mem hi')
  rw [List.getElem_map]
  exact ⟨c0, c1, c2, c3, _, _, c4, k1, k2, k3⟩
theorem own_E {w : World} {base e n cap m : Nat} {A : Option Addr} {xs : List (Ex × Option Addr × Nat)} (h : w.ownsRow base e 5 (.slice A n cap) n (xs.flatMap cellsE)) (hn : n = xs.length) (hk : ∀ x ∈ xs, KidsOk m (fromB w base) x) : RdSl (rdEx (m + 1)) (fromB w base) 5 A (xs.map (·.1)) :=
  laid_rd (own_rd h hn (fun _ => rfl) fun m c x hc => ⟨hc 0 (by simp [cellsE]), hc 1 (by simp [cellsE]), hc 2 (by simp [cellsE]), hc 3 (by simp [cellsE]), hc 4 (by simp [cellsE])⟩) hk
/-- The cells of the blocks from lo on below hi. -/
def win (w : World) (lo hi : Nat) : Mv := fun p => if lo ≤ p.block ∧ p.block < hi then w.cell? p else none
theorem win_le {w : World} {lo hi : Nat} : Mle (win w lo hi) (fromB w lo) := fun p v e => by
  unfold win at e
  unfold fromB
  split at e
  · rename_i h; rw [if_pos h.1]; exact e
  · cases e
theorem from_win {w : World} {lo : Nat} : Mle (fromB w lo) (win w lo w.heap.size) := fun p v e => by
  unfold fromB at e
  unfold win
  split at e
  · rename_i h; rw [if_pos ⟨h, cell_lt e⟩]; exact e
  · cases e
theorem win_blk {w w' : World} {lo hi : Nat} (h : ∀ k, lo ≤ k → k < hi → w'.heap[k]? = w.heap[k]?) : Mle (win w lo hi) (win w' lo hi) := fun p v e => by
  unfold win at e ⊢
  split at e
  · rename_i h'; rw [if_pos h']; exact (World.cell?_of_block (w := w) (h _ h'.1 h'.2)).trans e
  · cases e
theorem win_ch {w w' : World} {r lo hi : Nat} (hc : Ch (· = r) w w') (hr : r < lo) (hh : hi ≤ w.heap.size) : Mle (win w lo hi) (win w' lo hi) := win_blk fun k h1 h2 => hc.block k (by omega) (by omega)
theorem win_grown {w w' : World} {row : Option Nat} {lo hi : Nat} (hg : w.grownBy w' row) (hr : ∀ k, row = some k → hi ≤ k) (hh : hi ≤ w.heap.size) : Mle (win w lo hi) (win w' lo hi) := win_blk fun k h1 h2 => hg.block k (by omega) fun e => by have := hr k e.symm; omega
theorem from_grown {w w' : World} {row : Option Nat} {lo : Nat} (hg : w.grownBy w' row) (hr : ∀ k, row = some k → k < lo) : Mle (fromB w lo) (fromB w' lo) := fun p v e => by
  have hlt : p.block < w.heap.size := cell_lt (fromB_le _ _ _ _ e)
  unfold fromB at e ⊢
  split at e
  · rename_i h
    rw [if_pos h]
    exact (World.cell?_of_block (w := w) (hg.block _ hlt fun e => by have := hr _ e.symm; omega)).trans e
  · cases e
/-- An expression in memory as an aggregate: its kids' place. -/
theorem exSm_two {m : Nat} {ks : List Ex} (h : ks.length ≤ 2) (hk : ∀ x ∈ ks, exSm m x.kids) : exSm (m + 1) ks := ⟨by omega, fun i hi => hk _ (List.getElem_mem hi)⟩
/-- A literal of expressions, just laid. -/
theorem lit_ex {w : World} {t : TypeId} {m : Nat} {mem : Mv} {xs : List (Ex × Option Addr × Nat)} (hB : Mle (win (w.alloc (.cells (xs.flatMap cellsE).toArray t)) w.heap.size (w.heap.size + 1)) mem) (hk : ∀ x ∈ xs, KidsOk m mem x) : RdSl (rdEx (m + 1)) mem 5 (some ⟨w.heap.size, 0, none⟩) (xs.map (·.1)) := by
  refine laid_rd (fun hne => ⟨w.heap.size, 0, rfl, fun i hi => ?_⟩) hk
  have key : ∀ j (hj : j < (cellsE xs[i]).length), mem ⟨w.heap.size, 0 + i * 5 + j, none⟩ = some (cellsE xs[i])[j] := fun j hj => by
    refine hB _ _ ?_
    unfold win
    rw [if_pos ⟨Nat.le_refl _, Nat.lt_succ_self _⟩, (Blk.new w t (xs.flatMap cellsE).toArray).cell]
    have := flatMap_get (f := cellsE) (sz := 5) (fun _ => rfl) xs i hi j (by simpa [cellsE] using hj) hj
    simpa using this
  exact ⟨key 0 (by simp [cellsE]), key 1 (by simp [cellsE]), key 2 (by simp [cellsE]), key 3 (by simp [cellsE]), key 4 (by simp [cellsE])⟩
set_option maxRecDepth 100000 in
/-- append of one expression, as go_region_with meets it where 'Builtin.append_' is taken out of go_sem ('attribute [-go_sem] Builtin.append_'). -/
theorem upon_appE {o : Oper} {a : Act} {K : Act → World → Prop} {Q : Exit → Act → World → Prop} {w : World} (base : Nat) (v : Value) (n : Nat) (xs : List Value) (hown : w.ownsRow base 33 5 v n xs) (hn : n ≤ 1000) (hbase : base ≤ w.heap.size)
    (g : Nat) (y : Ex × Option Addr × Nat) (hB : ∃ e', Blk w g e' (cellsE y).toArray)
    (h : ∀ v' w', w'.ownsRow base 33 5 v' (n + 1) (xs ++ cellsE y) → w.grownBy w' v.ownBlock → K (a.put o.dst v') w') :
    Oper.upon Try.prog o a K Q ((Sem.run Try.prog (Builtin.append_ #[31, 31] 31 #[v, .slice (some ⟨g, 0, none⟩) 1 1]) w).andThen fun a w' => .ok (.value a) w') := by
  obtain ⟨i, hi, hz, hsi, hb⟩ := info_parts (P := Try.prog) (e := 33) (z := .agg #[.int .i64 0, .int .i64 0, .bool false, .int .i64 0, .slice none 0 0]) (size := 5) (bytes := 56) (by kernel_rfl)
  obtain ⟨e', hB⟩ := hB
  obtain ⟨v', w', hr, h2, h3, _⟩ := run_append_own (P := Try.prog) w base 31 31 33 i (.agg #[.int .i64 0, .int .i64 0, .bool false, .int .i64 0, .slice none 0 0]) 5 56 Try.underlying31 hi hz hsi hb rfl (by decide) v n xs hown ⟨g, 0, none⟩ 1 1 (cellsE y) rfl (fun j u hu => by
    have e1 : (⟨g, 0, none⟩ : Addr).add j = ⟨g, j, none⟩ := by
      unfold Addr.add
      split
      · rename_i hj; rw [hj]
      · simp
    rw [e1, hB.cell]
    simpa using hu) (by simp [cellsE, Value.oneCell']) (by unfold maxLen; omega) (by omega) hbase
  rw [hr]
  exact h v' w' h2 h3
end Go.Proofs.Ytfillcjpdnpaiaa
