/- append of a slice, nil or not, that reads as a list. -/
import Derived.Test.YtahclhldpcboeaaOwnW
import Derived.Test.YtahclhldpcboeaaRedI
import Derived.Laws.OwnMore
namespace Go.Proofs.Ytahclhldpcboeaa
open Go Go.RowKit

/-- A slice whose cells are known: nil, or with an address. -/
def Src (m : Mv) (A : Option Addr) (n c : Nat) (news : List Value) : Prop := (A = none ∧ n = 0 ∧ c = 0 ∧ news = []) ∨ ∃ ad : Addr, A = some ad ∧ ∀ (j : Nat) u, news[j]? = some u → m (ad.add j) = some u
theorem Src.mono {m m' : Mv} {A : Option Addr} {n c : Nat} {news : List Value} (h : Src m A n c news) (hm : Mle m m') : Src m' A n c news := by
  rcases h with h | ⟨ad, h1, h2⟩
  · exact .inl h
  · exact .inr ⟨ad, h1, fun j u hu => hm _ _ (h2 j u hu)⟩
theorem Src.fr {w w' : World} {A : Option Addr} {n c : Nat} {news : List Value} (h : Src w.cell? A n c news) (hf : Fr w w') : Src w'.cell? A n c news := h.mono hf.mle
theorem src_int {m : Mv} {A : Option Addr} {c : Nat} {xs : List Int} (h : RdSl rdInt m 1 A xs) (hc : A = none → c = 0) : Src m A xs.length c (xs.map iv) := by
  cases A with
  | none =>
    have hx : xs = [] := by
      cases xs with
      | nil => rfl
      | cons x r => obtain ⟨b, o, hA, _⟩ := h (by simp); cases hA
    subst hx
    exact .inl ⟨rfl, rfl, hc rfl, rfl⟩
  | some ad =>
    refine .inr ⟨ad, rfl, fun j u hu => ?_⟩
    rw [List.getElem?_map] at hu
    cases hj : xs[j]? with
    | none => rw [hj] at hu; simp at hu
    | some x =>
      rw [hj] at hu
      obtain ⟨hlt, rfl⟩ := List.getElem?_eq_some_iff.1 hj
      obtain ⟨b, o, hA, hcc⟩ := h (by intro e; rw [e] at hlt; simp at hlt)
      cases hA
      have e1 : (⟨b, o, none⟩ : Addr).add j = ⟨b, o + j, none⟩ := by
        unfold Addr.add
        split
        · rename_i hj; rw [hj]; rfl
        · simp
      rw [e1]
      have h := hcc j hlt
      simp only [rdInt, Nat.mul_one, Nat.add_zero] at h
      rw [h]; exact hu
theorem src_atom {m : Mv} {A : Option Addr} {c : Nat} {xs : List Atom} (h : RdSl rdAtom m 3 A xs) (hc : A = none → c = 0) : Src m A xs.length c (xs.flatMap cellsA) := by
  cases A with
  | none =>
    have hx : xs = [] := by
      cases xs with
      | nil => rfl
      | cons x r => obtain ⟨b, o, hA, _⟩ := h (by simp); cases hA
    subst hx
    exact .inl ⟨rfl, rfl, hc rfl, rfl⟩
  | some ad =>
    by_cases hne : xs = []
    · subst hne
      exact .inr ⟨ad, rfl, fun j u hu => by simp at hu⟩
    · obtain ⟨b, o, hA, _⟩ := h hne
      cases hA
      refine .inr ⟨_, rfl, fun j u hu => ?_⟩
      have e1 : (⟨b, o, none⟩ : Addr).add j = ⟨b, o + j, none⟩ := by
        unfold Addr.add
        split
        · rename_i hj; rw [hj]; rfl
        · simp
      rw [e1]
      exact rd_cellsA h j u hu
theorem app_src {P : Program} (w : World) (base : Nat) (t ty e : TypeId) (z : Value) (size bytes : Nat) (ht : P.underlying t = some (.slice e)) (hinfo : (P.info? e).map (fun i => (i.zero, i.size, i.bytes)) = some (some z, size, bytes))
    (hzs : z.cells.size = size) (hsz : 0 < size) (hby : bytes ≤ 64) (v : Value) (n : Nat) (xs : List Value) (hown : w.ownsRow base e size v n xs) (hn : n ≤ 549755813888) (hbase : base ≤ w.heap.size)
    (A : Option Addr) (m c : Nat) (news : List Value) (hl : news.length = m * size) (hm : m ≤ 549755813888) (hS : Src w.cell? A m c news) (h1 : news.all (·.oneCell') = true) :
    ∃ v' w', (Builtin.append_ #[t, t] ty #[v, .slice A m c]).run P w = .ok v' w' ∧ w'.ownsRow base e size v' (n + m) (xs ++ news) ∧ w.grownBy w' v.ownBlock := by
  obtain ⟨i, hi, hz, hsi, hb⟩ := info_parts hinfo
  rcases hS with ⟨rfl, rfl, rfl, rfl⟩ | ⟨ad, rfl, hc⟩
  · exact ⟨v, w, run_append_owned_none (P := P) (w := w) base t ty e i size ht hi v n xs hown, by simpa using hown, ⟨rfl, rfl, rfl, Nat.le_refl _, fun _ _ _ => rfl⟩⟩
  · have hmm : (n + m) * bytes ≤ (n + m) * 64 := Nat.mul_le_mul_left _ hby
    obtain ⟨v', w', hr, h2, h3, _⟩ := app_where (P := P) w base t ty e i z size bytes ht hi hz hsi hb hzs hsz v n xs hown ad m c news hl hc (by simpa [List.all_eq_true] using h1) (by unfold maxLen; omega) (by omega) hbase
    exact ⟨v', w', hr, h2, h3⟩
/-- append, as a drawn region meets it where 'Builtin.append_' is taken out of go_sem. -/
theorem upon_src {P : Program} {o : Oper} {a : Act} {K : Act → World → Prop} {Q : Exit → Act → World → Prop} {w : World} (t e : TypeId) (z : Value) (size bytes : Nat) (ht : P.underlying t = some (.slice e)) (hinfo : (P.info? e).map (fun i => (i.zero, i.size, i.bytes)) = some (some z, size, bytes))
    (hzs : z.cells.size = size) (hsz : 0 < size) (hby : bytes ≤ 64) (base : Nat) (v : Value) (n : Nat) (xs : List Value) (hown : w.ownsRow base e size v n xs) (hn : n ≤ 10000) (hbase : base ≤ w.heap.size)
    (A : Option Addr) (m c : Nat) (news : List Value) (hl : news.length = m * size) (hm : m ≤ 1048576) (hS : Src w.cell? A m c news) (h1 : news.all (·.oneCell') = true)
    (h : ∀ v' w', w'.ownsRow base e size v' (n + m) (xs ++ news) → w.grownBy w' v.ownBlock → K (a.put o.dst v') w') :
    Oper.upon P o a K Q ((Sem.run P (Builtin.append_ #[t, t] t #[v, .slice A m c]) w).andThen fun a w' => .ok (.value a) w') := by
  obtain ⟨v', w', hr, h2, h3⟩ := app_src (P := P) w base t t e z size bytes ht hinfo hzs hsz hby v n xs hown (by omega) hbase A m c news hl (by omega) hS h1
  rw [hr]
  exact h v' w' h2 h3
/-- The same; what the row's callers keep. -/
theorem upon_srcF {P : Program} {o : Oper} {a : Act} {K : Act → World → Prop} {Q : Exit → Act → World → Prop} {w : World} (t e : TypeId) (z : Value) (size bytes : Nat) (ht : P.underlying t = some (.slice e)) (hinfo : (P.info? e).map (fun i => (i.zero, i.size, i.bytes)) = some (some z, size, bytes))
    (hzs : z.cells.size = size) (hsz : 0 < size) (hby : bytes ≤ 64) (a0 : World) (v : Value) (n : Nat) (xs : List Value) (hF : Fr a0 w) (hown : w.ownsRow a0.heap.size e size v n xs) (hn : n ≤ 10000)
    (A : Option Addr) (m c : Nat) (news : List Value) (hl : news.length = m * size) (hm : m ≤ 1048576) (hS : Src w.cell? A m c news) (h1 : news.all (·.oneCell') = true)
    (h : ∀ v' w', w'.ownsRow a0.heap.size e size v' (n + m) (xs ++ news) → Fr a0 w' → (∀ g t' cs, e ≠ t' → Blk w g t' cs → Blk w' g t' cs) → K (a.put o.dst v') w') :
    Oper.upon P o a K Q ((Sem.run P (Builtin.append_ #[t, t] t #[v, .slice A m c]) w).andThen fun a w' => .ok (.value a) w') :=
  upon_src t e z size bytes ht hinfo hzs hsz hby a0.heap.size v n xs hown hn hF.size A m c news hl hm hS h1 fun v' w' h2 h3 => h v' w' h2 (Fr.grown hF h3 hown) fun g t' cs hne hB => (h3.block g hB.lt (fun hk => by
    rcases hown.2 with ⟨rfl, _⟩ | ⟨g', cap, cur, rfl, _, hh, _⟩
    · cases hk
    · simp only [Value.ownBlock, Option.some.injEq] at hk
      subst hk
      unfold Blk at hB
      rw [hB] at hh
      injection hh with hh
      injection hh with _ hh _
      exact hne hh.symm)).trans hB
theorem own_nilB {w : World} {g base sz : Nat} {t : TypeId} (h : Blk w g t #[]) (hb : base ≤ g) : w.ownsRow base t sz (.slice (some ⟨g, 0, none⟩) 0 0) 0 [] :=
  ⟨by simp, .inr ⟨g, 0, #[], rfl, hb, h, Nat.le_refl _, by unfold maxLen; omega, by simp, by simp⟩⟩
theorem blk_new1 (w : World) (o : Obj) (t : TypeId) (cs : Array Value) : Blk ((w.alloc o).alloc (.cells cs t)) (w.heap.size + 1) t cs := by
  have h := Blk.new (w.alloc o) t cs
  rwa [World.size_alloc] at h
theorem blk_newD (w : World) (t : TypeId) (cs : Array Value) : Blk (w.drew.alloc (.cells cs t)) w.heap.size t cs := Blk.new w.drew t cs
theorem own_keep {w w' : World} {base e sz n : Nat} {v : Value} {xs : List Value} (h : w.ownsRow base e sz v n xs) (k : ∀ g cs, Blk w g e cs → Blk w' g e cs) : w'.ownsRow base e sz v n xs := by
  refine ⟨h.1, ?_⟩
  rcases h.2 with h | ⟨g, cap, cur, hv, hg, hh, hr⟩
  · exact .inl h
  · exact .inr ⟨g, cap, cur, hv, hg, k g cur hh, hr⟩
theorem iv_all (m : List Int) : (m.map iv).all (·.oneCell') = true := by
  rw [List.all_eq_true]
  intro x hx
  obtain ⟨y, _, rfl⟩ := List.mem_map.1 hx
  rfl
end Go.Proofs.Ytahclhldpcboeaa
