/- Memory words: what a world keeps (Fr), a slice that reads as a list (RdSl), a block known whole (Blk). -/
import Derived.WalkKit
import Derived.Deep.Draws
import Derived.Laws.MakeOwn
import Derived.Laws.Entries
import Derived.OwnWalk
import Derived.Laws.AppendOwn
namespace Go.Proofs.Ytlmiadeaiiehaaa
open Go Go.RowKit

theorem hid {p : Prop} (h : p) : Hid p := h

/-- What was there stands as it was. -/
def Fr (w w' : World) : Prop := Below w.heap.size w w'
section
variable {a w w' w'' : World} {p : Addr} {v u : Value} {o : Obj}
theorem Fr.refl (w : World) : Fr w w := Below.refl _ _
theorem Fr.size (h : Fr w w') : w.heap.size ≤ w'.heap.size := Below.size h
theorem Fr.trans (h : Fr w w') (k : Fr w' w'') : Fr w w'' := Below.trans h (Below.mono k h.size)
theorem Fr.alloc (h : Fr a w) (o : Obj) : Fr a (w.alloc o) := Below.alloc h h.size o
theorem Fr.drew (h : Fr a w) : Fr a w.drew := Below.drew h
theorem Fr.drewN (h : Fr a w) (n : Nat) : Fr a (w.drewN n) := ⟨h.os, h.tape, h.output, h.size, h.block⟩
theorem Fr.setNew (h : Fr a w) (hp : a.heap.size ≤ p.block) (u : Value) : Fr a (w.setCell p u) := Below.setCell h hp u
theorem Fr.setNew2 (hp : a.heap.size ≤ p.block) (h : Fr a w) (u : Value) : Fr a (w.setCell p u) := h.setNew hp u
theorem Fr.blk (h : Fr w w') {g : Nat} {o : Obj} (hg : w.heap[g]? = some o) : w'.heap[g]? = some o := by
  have : g < w.heap.size := by
    rcases Nat.lt_or_ge g w.heap.size with hlt | hge
    · exact hlt
    · rw [Array.getElem?_eq_none hge] at hg; cases hg
  rw [h.block g this]; exact hg
theorem cell_lt (h : w.cell? p = some v) : p.block < w.heap.size := by
  rcases Nat.lt_or_ge p.block w.heap.size with hlt | hge
  · exact hlt
  · unfold World.cell? at h; rw [Array.getElem?_eq_none hge] at h; cases h
theorem Fr.cell (h : Fr w w') (hc : w.cell? p = some v) : w'.cell? p = some v := (Below.cell h (cell_lt hc)).trans hc
theorem Fr.frozen (h : Fr w w') (hc : w.cell? p = some v) (hf : w.frozen? p = false) : w'.frozen? p = false := (Below.frozen h (cell_lt hc)).trans hf
end

/-- What memory shows at each address. 'w.fromB lo': the world's cells in blocks from lo on. -/
abbrev Mv := Addr → Option Value
def fromB (w : World) (lo : Nat) : Mv := fun p => if lo ≤ p.block then w.cell? p else none
/-- c' shows all that c shows. -/
def Mle (c c' : Mv) : Prop := ∀ p v, c p = some v → c' p = some v
theorem Mle.refl (c : Mv) : Mle c c := fun _ _ h => h
theorem Mle.trans {a b c : Mv} (h : Mle a b) (k : Mle b c) : Mle a c := fun p v e => k p v (h p v e)
theorem fromB_le (w : World) (lo : Nat) : Mle (fromB w lo) w.cell? := fun p v h => by
  unfold fromB at h; split at h
  · exact h
  · cases h
theorem fromB_lo {w : World} {lo lo' : Nat} (h : lo' ≤ lo) : Mle (fromB w lo) (fromB w lo') := fun p v e => by
  unfold fromB at e ⊢; split at e
  · rw [if_pos (by omega)]; exact e
  · cases e
theorem Fr.mle {w w' : World} (h : Fr w w') : Mle w.cell? w'.cell? := fun _ _ e => h.cell e
theorem Fr.mle_from {w w' : World} (h : Fr w w') (lo : Nat) : Mle (fromB w lo) (fromB w' lo) := fun p v e => by
  unfold fromB at e ⊢; split at e
  · rw [if_pos (by omega)]; exact h.cell e
  · cases e

/-- w' is w but for the blocks of S and new ones. -/
structure Ch (S : Nat → Prop) (w w' : World) : Prop where
  os : w'.os = w.os
  tape : w'.tape = w.tape
  output : w'.output = w.output
  size : w.heap.size ≤ w'.heap.size
  block : ∀ k, k < w.heap.size → ¬ S k → w'.heap[k]? = w.heap[k]?
section
variable {S : Nat → Prop} {a w w' w'' : World}
theorem Fr.ch (h : Fr w w') : Ch S w w' := ⟨h.os, h.tape, h.output, h.size, fun k hk _ => h.block k hk⟩
theorem Ch.refl (w : World) : Ch S w w := ⟨rfl, rfl, rfl, Nat.le_refl _, fun _ _ _ => rfl⟩
theorem Ch.trans (h : Ch S w w') (k : Ch S w' w'') : Ch S w w'' :=
  ⟨k.os.trans h.os, k.tape.trans h.tape, k.output.trans h.output, Nat.le_trans h.size k.size, fun i hi hS => (k.block i (Nat.lt_of_lt_of_le hi h.size) hS).trans (h.block i hi hS)⟩
theorem Ch.fr (h : Ch S w w') (hS : ∀ k, S k → a.heap.size ≤ k) (ha : Fr a w) : Fr a w' :=
  Below.trans ha ⟨h.os, h.tape, h.output, h.size, fun k hk => h.block k (Nat.lt_of_lt_of_le hk ha.size) (fun e => by have := hS k e; omega)⟩
theorem Ch.cell (h : Ch S w w') {p : Addr} {v : Value} (hp : ¬ S p.block) (hc : w.cell? p = some v) : w'.cell? p = some v :=
  (World.cell?_of_block (h.block p.block (cell_lt hc) hp)).trans hc
theorem Ch.mle_from (h : Ch S w w') {lo : Nat} (hS : ∀ k, S k → k < lo) : Mle (fromB w lo) (fromB w' lo) := fun p v e => by
  unfold fromB at e ⊢; split at e
  · rename_i hl
    rw [if_pos hl]; exact h.cell (fun hs => by have := hS _ hs; omega) e
  · cases e
theorem Ch.alloc (h : Ch S a w) (o : Obj) : Ch S a (w.alloc o) := h.trans ((Fr.refl w).alloc o).ch
theorem Ch.drew (h : Ch S a w) : Ch S a w.drew := h.trans (Fr.refl w).drew.ch
theorem Ch.set (h : Ch S a w) {p : Addr} (hp : S p.block ∨ a.heap.size ≤ p.block) (u : Value) : Ch S a (w.setCell p u) :=
  ⟨h.os, h.tape, h.output, by simpa [World.setCell] using h.size, fun i hi hne => (Below.heap_setCell w p u i (by
    rintro rfl
    rcases hp with hp | hp
    · exact hne hp
    · omega)).trans (h.block i hi hne)⟩
end

/-- Element reading: 'rd m c x': the cells c (by number) hold x, memory being m. -/
abbrev Rd (X : Type) := Mv → (Nat → Option Value) → X → Prop
def RdMono {X : Type} (rd : Rd X) : Prop :=
  ∀ (m m' : Mv) c c' x, Mle m m' → (∀ j v, c j = some v → c' j = some v) → rd m c x → rd m' c' x

/-- A slice's address A reads as the list xs: each element sz cells, read by rd. -/
def RdSl {X : Type} (rd : Rd X) (m : Mv) (sz : Nat) (A : Option Addr) (xs : List X) : Prop :=
  xs ≠ [] → ∃ b o, A = some ⟨b, o, none⟩ ∧ ∀ i (h : i < xs.length), rd m (fun j => m ⟨b, o + i * sz + j, none⟩) xs[i]

section
variable {X : Type} {rd : Rd X} {m m' : Mv} {w w' : World} {sz : Nat} {A : Option Addr} {xs : List X}
theorem RdSl.mono (hk : RdMono rd) (h : RdSl rd m sz A xs) (he : Mle m m') : RdSl rd m' sz A xs := fun hne => by
  obtain ⟨b, o, hA, hc⟩ := h hne
  exact ⟨b, o, hA, fun i hi => hk m m' _ _ _ he (fun j v hv => he _ v hv) (hc i hi)⟩
theorem RdSl.fr (hk : RdMono rd) (h : RdSl rd w.cell? sz A xs) (hf : Fr w w') : RdSl rd w'.cell? sz A xs := h.mono hk hf.mle
theorem RdSl.nil : RdSl rd m sz A [] := fun h => absurd rfl h
theorem RdSl.at_ (h : RdSl rd m sz A xs) {k : Nat} (hk : k < xs.length) : ∃ b o, A = some ⟨b, o, none⟩ ∧ rd m (fun j => m ⟨b, o + k * sz + j, none⟩) xs[k] := by
  obtain ⟨b, o, hA, hc⟩ := h (by intro e; rw [e] at hk; simp at hk)
  exact ⟨b, o, hA, hc k hk⟩
end

/-- A block known whole: its cells, none frozen. -/
def Blk (w : World) (g : Nat) (t : TypeId) (cs : Array Value) : Prop := w.heap[g]? = some (.cells cs t (0, 0))
section
variable {w w' : World} {g : Nat} {t : TypeId} {cs : Array Value}
theorem Blk.lt (h : Blk w g t cs) : g < w.heap.size := by
  rcases Nat.lt_or_ge g w.heap.size with hlt | hge
  · exact hlt
  · unfold Blk at h; rw [Array.getElem?_eq_none hge] at h; cases h
theorem Blk.cell (h : Blk w g t cs) (i : Nat) : w.cell? ⟨g, i, none⟩ = cs[i]? := by
  unfold Blk at h; unfold World.cell?; rw [h]; rfl
theorem Blk.cell_some (h : Blk w g t cs) {i : Nat} (hi : i < cs.size) : ∃ u, w.cell? ⟨g, i, none⟩ = some u := ⟨cs[i], by rw [h.cell]; exact Array.getElem?_eq_getElem hi⟩
theorem Blk.frozen (h : Blk w g t cs) (i : Nat) : w.frozen? ⟨g, i, none⟩ = false := by
  unfold Blk at h
  simp [World.frozen?, h]
theorem Blk.new (w : World) (t : TypeId) (cs : Array Value) : Blk (w.alloc (.cells cs t)) w.heap.size t cs := by
  unfold Blk World.alloc
  simp
theorem blk_new {w : World} {t : TypeId} {cs : Array Value} {g : Nat} (h : g = w.heap.size) : ∃ e', Blk (w.alloc (.cells cs t)) g e' cs := ⟨t, h ▸ Blk.new w t cs⟩
theorem Blk.alloc (h : Blk w g t cs) (o : Obj) : Blk (w.alloc o) g t cs := (Below.heap_alloc w o g h.lt).trans h
theorem Blk.at_ (h : Blk w g t cs) (hf : Fr w w') {i : Nat} {u : Value} (hu : cs[i]? = some u) : w'.cell? ⟨g, i, none⟩ = some u := hf.cell ((h.cell i).trans hu)
theorem Blk.drew (h : Blk w g t cs) : Blk w.drew g t cs := h
theorem Blk.fr (h : Blk w g t cs) (hf : Fr w w') : Blk w' g t cs := Fr.blk hf h
theorem Blk.set_ (h : Blk w g t cs) (i : Nat) (u : Value) : Blk (w.setCell ⟨g, i, none⟩ u) g t (cs.setIfInBounds i u) := by
  unfold Blk at h ⊢
  simp [World.setCell, Array.getElem?_modify, h]
theorem Blk.far (h : Blk w g t cs) {p : Addr} (hp : g ≠ p.block) (u : Value) : Blk (w.setCell p u) g t cs := (Below.heap_setCell w p u g hp).trans h
end

theorem mk_row {P : Program} (t e : TypeId) (z : Value) (sz bytes : Nat) (ht : P.underlying t = some (.slice e)) (hinfo : (P.info? e).map (fun i => (i.zero, i.size, i.bytes)) = some (some z, sz, bytes))
    (n : Nat) (hb : bytes * n ≤ 281474976710656) (h63 : n ≤ 1099511627776) (w : World) :
    (Instr.makeSlice t (.int .i64 (n : Int)) (.int .i64 (n : Int))).run P w = .ok (.slice (some ⟨w.heap.size, 0, none⟩) n n) (w.alloc (.cells (madeCells z.cells (n * sz)) e)) := by
  obtain ⟨i, hi, hz, hs, hby⟩ := info_parts hinfo
  have hb' : (i.bytes : Int) * (n : Int) ≤ 281474976710656 := by
    rw [hby, ← Int.natCast_mul]; omega
  have hr := run_make (P := P) w t e i z ht hi hz .i64 .i64 n n (by omega) (by omega) hb' (by omega)
  simp only [Int.toNat_natCast] at hr
  rw [hs] at hr
  exact hr
theorem made_size (z : Array Value) (n : Nat) : (madeCells z n).size = n := size_madeCells z n
/-- Ints in a slice. -/
def rdInt : Rd Int := fun _ c x => c 0 = some (.int .i64 x)
theorem rdInt_mono : RdMono rdInt := fun _ _ _ _ _ _ hc h => hc _ _ h
abbrev iv (x : Int) : Value := .int .i64 x
theorem flatMap_get {X : Type} {f : X → List Value} {sz : Nat} (hf : ∀ x, (f x).length = sz) : ∀ (xs : List X) (i : Nat) (hi : i < xs.length) (j : Nat) (_ : j < sz) (h : j < (f xs[i]).length), (xs.flatMap f)[i * sz + j]? = some ((f xs[i])[j])
  | [], i, hi, _, _, _ => by simp at hi
  | x :: xs, 0, _, j, hj, h => by
    rw [List.flatMap_cons, List.getElem?_append_left (by rw [hf]; omega)]
    simp [hf, hj]
  | x :: xs, i + 1, hi, j, hj, h => by
    rw [List.flatMap_cons, List.getElem?_append_right (by rw [hf, Nat.succ_mul]; omega), hf]
    have e : (i + 1) * sz + j - sz = i * sz + j := by rw [Nat.succ_mul]; omega
    rw [e]
    exact flatMap_get hf xs i (by simpa using hi) j hj h
/-- A row of the call's own reads as the list that was put into it. -/
theorem own_rd {X : Type} {rd : Rd X} {w : World} {base e sz n cap : Nat} {A : Option Addr} {xs : List X} {f : X → List Value} (h : w.ownsRow base e sz (.slice A n cap) n (xs.flatMap f)) (hn : n = xs.length)
    (hf : ∀ x, (f x).length = sz) (hr : ∀ (m : Mv) (c : Nat → Option Value) x, (∀ j (hj : j < (f x).length), c j = some (f x)[j]) → rd m c x) : RdSl rd (fromB w base) sz A xs := fun hne => by
  obtain ⟨hlen, h | ⟨g, cap', cur, hv, hg, hh, hnc, _, hcs, ht⟩⟩ := h
  · exfalso
    have : xs.length = 0 := by omega
    exact hne (List.eq_nil_of_length_eq_zero this)
  · injection hv with hA _ _
    subst hA
    refine ⟨g, 0, rfl, fun i hi => hr _ _ _ fun j hj => ?_⟩
    have hcell : w.cell? ⟨g, 0 + i * sz + j, none⟩ = cur[i * sz + j]? := by
      unfold World.cell?
      simp only [hh, Nat.zero_add]
      rfl
    unfold fromB
    rw [if_pos hg, hcell]
    rw [hf] at hj
    have h1 : i * sz + j < n * sz := by
      have : (i + 1) * sz ≤ n * sz := Nat.mul_le_mul_right _ (by omega)
      rw [Nat.succ_mul] at this
      omega
    have h2 : cur[i * sz + j]? = (xs.flatMap f)[i * sz + j]? := by
      rw [← ht, List.getElem?_take_of_lt h1, Array.getElem?_toList]
    rw [h2]
    exact flatMap_get hf xs i hi j hj _
theorem own_int {w : World} {base e n cap : Nat} {A : Option Addr} {xs : List Int} (h : w.ownsRow base e 1 (.slice A n cap) n (xs.map iv)) (hn : n = xs.length) : RdSl rdInt (fromB w base) 1 A xs :=
  own_rd (f := fun x => [iv x]) (by rw [← List.map_eq_flatMap]; exact h) hn (fun _ => rfl) fun m c x hc => hc 0 (by simp)
theorem own_form {w : World} {base e sz n : Nat} {v : Value} {xs : List Value} (h : w.ownsRow base e sz v n xs) : ∃ A cap, v = .slice A n cap := by
  rcases h.2 with ⟨rfl, rfl⟩ | ⟨g, cap, cur, rfl, _⟩
  · exact ⟨none, 0, rfl⟩
  · exact ⟨_, cap, rfl⟩
theorem own_nil {w : World} {base e sz : Nat} : w.ownsRow base e sz (.slice none 0 0) 0 [] := ⟨by simp, .inl ⟨rfl, rfl⟩⟩
theorem own_empty {w : World} {base e sz : Nat} (hb : base ≤ w.heap.size) : (w.alloc (.cells #[] e)).ownsRow base e sz (.slice (some ⟨w.heap.size, 0, none⟩) 0 0) 0 [] := by
  refine ⟨by simp, .inr ⟨w.heap.size, 0, #[], rfl, hb, ?_, Nat.le_refl _, by unfold maxLen; omega, by simp, by simp⟩⟩
  exact Blk.new w e #[]
theorem own_base {w : World} {base base' e sz n : Nat} {v : Value} {xs : List Value} (h : w.ownsRow base e sz v n xs) (hb : base' ≤ base) : w.ownsRow base' e sz v n xs := by
  refine ⟨h.1, ?_⟩
  rcases h.2 with h | ⟨g, cap, cur, hv, hg, hr⟩
  · exact .inl h
  · exact .inr ⟨g, cap, cur, hv, by omega, hr⟩
/-- A row of the call's own in a world that has grown. -/
theorem own_fr {w w' : World} {base e sz n : Nat} {v : Value} {xs : List Value} (h : w.ownsRow base e sz v n xs) (hf : Fr w w') : w'.ownsRow base e sz v n xs := by
  refine ⟨h.1, ?_⟩
  rcases h.2 with h | ⟨g, cap, cur, hv, hg, hh, hr⟩
  · exact .inl h
  · exact .inr ⟨g, cap, cur, hv, hg, hf.blk hh, hr⟩
theorem Fr.grown {a w w' : World} (h : Fr a w) {v : Value} (hg : w.grownBy w' v.ownBlock) {e sz n : Nat} {xs : List Value} (ho : w.ownsRow a.heap.size e sz v n xs) : Fr a w' := by
  refine Below.grown h hg h.size fun k hk => ?_
  rcases ho.2 with ⟨rfl, _⟩ | ⟨g, cap, cur, rfl, hg', _⟩
  · cases hk
  · simp only [Value.ownBlock, Option.some.injEq] at hk
    omega
/-- 'out = append(out, x)': one element, laid by the call in a block of its own just before. -/
theorem wp_app1 {P : Program} {ops : Array Oper} {rest : List Oper} {o : Oper} {a : Act} {Q : Exit → Act → World → Prop} {w : World} (hgd : o.guard = none) (s x : Operand) (t : TypeId)
    (ho : o.op = .call { callee := .builtin .append, args := #[s, x], argTypes := #[t, t] })
    (base : Nat) (e : TypeId) (z : Value) (size bytes : Nat) (ht : P.underlying t = some (.slice e)) (hinfo : (P.info? e).map (fun i => (i.zero, i.size, i.bytes)) = some (some z, size, bytes))
    (hzs : z.cells.size = size) (hsz : 0 < size) (hby : bytes ≤ 64) (v : Value) (n : Nat) (xs : List Value) (hs : a.eval s = v) (hown : w.ownsRow base e size v n xs) (hn : n ≤ 1099511627776) (hbase : base ≤ w.heap.size)
    (g : Nat) (cs : List Value) (hx : a.eval x = .slice (some ⟨g, 0, none⟩) 1 1) (hB : ∃ e', Blk w g e' cs.toArray) (hl : cs.length = size) (h1 : cs.all (·.oneCell') = true)
    (h : ∀ v' w', w'.ownsRow base e size v' (n + 1) (xs ++ cs) → w.grownBy w' v.ownBlock → wpList P ops Q rest (a.put o.dst v') w') : wpList P ops Q (o :: rest) a w := by
  obtain ⟨i, hi, hz, hsi, hb⟩ := info_parts hinfo
  obtain ⟨e', hB⟩ := hB
  have hm : (n + 1) * bytes ≤ (n + 1) * 64 := Nat.mul_le_mul_left _ hby
  refine wpList_append_own w hgd s x t ho base e i z size bytes ht hi hz hsi hb hzs hsz v n xs hs hown ⟨g, 0, none⟩ 1 1 cs hx (by omega) ?_ (by simpa [List.all_eq_true] using h1) (by unfold maxLen; omega) (by omega) hbase fun v' w' h2 h3 _ => h v' w' h2 h3
  intro j u hu
  have e1 : (⟨g, 0, none⟩ : Addr).add j = ⟨g, j, none⟩ := by
    unfold Addr.add
    split
    · rename_i hj; rw [hj]
    · simp
  rw [e1, hB.cell]
  simpa using hu
def boolN : Value → Nat | .bool true => 1 | _ => 0
theorem ret_bool {a b : Bool} (h : a = b) : Ending.returned (.bool a) = .returned (.bool b) := by rw [h]
theorem ret_int {a b : Int} (h : a = b) : Ending.returned (.int .i64 a) = .returned (.int .i64 b) := by rw [h]
/- Helpers for functions that copy structs with slices in them. -/
/-- The world at a call, as a variable. -/
theorem absW {P : Program} {f : FuncId} {args : Array Value} {w : World} {post : Ending → World → Prop} (h : ∀ W, W = w → Calls P f args W post) : Calls P f args w post := h w rfl
def RdFlat {X : Type} (rd : Rd X) : Prop := ∀ m m' c c' x, (∀ j v, c j = some v → c' j = some v) → rd m c x → rd m' c' x
theorem RdSl.toB {X : Type} {rd : Rd X} (hfl : RdFlat rd) {w : World} {sz g o lo : Nat} {xs : List X} (h : RdSl rd w.cell? sz (some ⟨g, o, none⟩) xs) (hg : lo ≤ g) : RdSl rd (fromB w lo) sz (some ⟨g, o, none⟩) xs := fun hne => by
  obtain ⟨b, o', hA, hc⟩ := h hne
  injection hA with hA
  injection hA with h1 h2 _
  subst h1 h2
  refine ⟨g, o, rfl, fun i hi => hfl _ _ _ _ _ (fun j v hv => ?_) (hc i hi)⟩
  unfold fromB
  rw [if_pos hg]; exact hv
theorem rdInt_flat : RdFlat rdInt := fun _ _ _ _ _ hc h => hc _ _ h
section
variable {w : World} {g : Nat} {t : TypeId} {a b c d : Value}
theorem Blk.three (h : Blk w g t #[a, b, c]) : w.cell? ⟨g, 0, none⟩ = some a ∧ w.cell? ⟨g, 1, none⟩ = some b ∧ w.cell? ⟨g, 2, none⟩ = some c ∧ w.frozen? ⟨g, 0, none⟩ = false ∧ w.frozen? ⟨g, 1, none⟩ = false ∧ w.frozen? ⟨g, 2, none⟩ = false :=
  ⟨h.cell 0, h.cell 1, h.cell 2, h.frozen 0, h.frozen 1, h.frozen 2⟩
theorem Blk.five {e : Value} (h : Blk w g t #[a, b, c, d, e]) : w.cell? ⟨g, 0, none⟩ = some a ∧ w.cell? ⟨g, 1, none⟩ = some b ∧ w.cell? ⟨g, 2, none⟩ = some c ∧ w.cell? ⟨g, 3, none⟩ = some d ∧ w.cell? ⟨g, 4, none⟩ = some e ∧
    w.frozen? ⟨g, 0, none⟩ = false ∧ w.frozen? ⟨g, 1, none⟩ = false ∧ w.frozen? ⟨g, 2, none⟩ = false ∧ w.frozen? ⟨g, 3, none⟩ = false ∧ w.frozen? ⟨g, 4, none⟩ = false :=
  ⟨h.cell 0, h.cell 1, h.cell 2, h.cell 3, h.cell 4, h.frozen 0, h.frozen 1, h.frozen 2, h.frozen 3, h.frozen 4⟩
theorem Blk.pair (h : Blk w g t #[a, b]) : w.cell? ⟨g, 0, none⟩ = some a ∧ w.cell? ⟨g, 1, none⟩ = some b ∧ w.frozen? ⟨g, 0, none⟩ = false ∧ w.frozen? ⟨g, 1, none⟩ = false :=
  ⟨h.cell 0, h.cell 1, h.frozen 0, h.frozen 1⟩
end
theorem arr5 {cs : Array Value} {a b c d e : Value} (hs : cs.size = 5) (h0 : cs[0]? = some a) (h1 : cs[1]? = some b) (h2 : cs[2]? = some c) (h3 : cs[3]? = some d) (h4 : cs[4]? = some e) : cs = #[a, b, c, d, e] := by
  obtain ⟨l⟩ := cs
  match l, hs with
  | [x, y, z, u, v], _ => simp at h0 h1 h2 h3 h4; subst h0 h1 h2 h3 h4; rfl
end Go.Proofs.Ytlmiadeaiiehaaa
