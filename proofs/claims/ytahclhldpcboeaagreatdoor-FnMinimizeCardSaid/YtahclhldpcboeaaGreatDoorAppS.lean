/- append of a slice, nil or not, that reads as a list. -/
import Derived.Test.YtahclhldpcboeaaGreatDoorMem2
import Derived.Test.YtahclhldpcboeaaGreatDoorMapI
import Derived.Laws.OwnMore
import Derived.Test.YtahclhldpcboeaaGreatDoorGrfG
import Derived.Test.YtahclhldpcboeaaGreatDoorHeldT
namespace Go.Proofs.YtahclhldpcboeaaGreatDoor
open Go Go.RowKit

/-- A slice whose cells are known: nil, or with an address. -/
def Src (m : Mv) (A : Option Addr) (n c : Nat) (news : List Value) : Prop := (A = none ∧ n = 0 ∧ c = 0 ∧ news = []) ∨ ∃ ad : Addr, A = some ad ∧ ∀ (j : Nat) u, news[j]? = some u → m (ad.add j) = some u
theorem Src.mono {m m' : Mv} {A : Option Addr} {n c : Nat} {news : List Value} (h : Src m A n c news) (hm : Mle m m') : Src m' A n c news := by
  rcases h with h | ⟨ad, h1, h2⟩
  · exact .inl h
  · exact .inr ⟨ad, h1, fun j u hu => hm _ _ (h2 j u hu)⟩
theorem Src.fr {w w' : World} {A : Option Addr} {n c : Nat} {news : List Value} (h : Src w.cell? A n c news) (hf : Fr w w') : Src w'.cell? A n c news := h.mono hf.mle
theorem src_int {m : Mv} {A : Option Addr} {c : Nat} {xs : List Int} (h : RdSl rdInt m 1 A xs) (hc : A = none → c = 0) : Src m A xs.length c (xs.map iv) := by
  cases A with
  | none =>
    have hx : xs = [] := by
      cases xs with
      | nil => rfl
      | cons x r => obtain ⟨b, o, hA, _⟩ := h (by simp); cases hA
    subst hx
    exact .inl ⟨rfl, rfl, hc rfl, rfl⟩
  | some ad =>
    refine .inr ⟨ad, rfl, fun j u hu => ?_⟩
    rw [List.getElem?_map] at hu
    cases hj : xs[j]? with
    | none => rw [hj] at hu; simp at hu
    | some x =>
      rw [hj] at hu
      obtain ⟨hlt, rfl⟩ := List.getElem?_eq_some_iff.1 hj
      obtain ⟨b, o, hA, hcc⟩ := h (by intro e; rw [e] at hlt; simp at hlt)
      cases hA
      have e1 : (⟨b, o, none⟩ : Addr).add j = ⟨b, o + j, none⟩ := by
        unfold Addr.add
        split
        · rename_i hj; rw [hj]; rfl
        · simp
      rw [e1]
      have h := hcc j hlt
      simp only [rdInt, Nat.mul_one, Nat.add_zero] at h
      rw [h]; exact hu
theorem src_atom {m : Mv} {A : Option Addr} {c : Nat} {xs : List Atom} (h : RdSl rdAtom m 3 A xs) (hc : A = none → c = 0) : Src m A xs.length c (xs.flatMap cellsA) := by
  cases A with
  | none =>
    have hx : xs = [] := by
      cases xs with
      | nil => rfl
      | cons x r => obtain ⟨b, o, hA, _⟩ := h (by simp); cases hA
    subst hx
    exact .inl ⟨rfl, rfl, hc rfl, rfl⟩
  | some ad =>
    by_cases hne : xs = []
    · subst hne
      exact .inr ⟨ad, rfl, fun j u hu => by simp at hu⟩
    · obtain ⟨b, o, hA, _⟩ := h hne
      cases hA
      refine .inr ⟨_, rfl, fun j u hu => ?_⟩
      have e1 : (⟨b, o, none⟩ : Addr).add j = ⟨b, o + j, none⟩ := by
        unfold Addr.add
        split
        · rename_i hj; rw [hj]; rfl
        · simp
      rw [e1]
      exact rd_cellsA h j u hu
theorem app_src {P : Program} (w : World) (base : Nat) (t ty e : TypeId) (z : Value) (size bytes : Nat) (ht : P.underlying t = some (.slice e)) (hinfo : (P.info? e).map (fun i => (i.zero, i.size, i.bytes)) = some (some z, size, bytes))
    (hzs : z.cells.size = size) (hsz : 0 < size) (hby : bytes ≤ 64) (v : Value) (n : Nat) (xs : List Value) (hown : w.ownsRow base e size v n xs) (hn : n ≤ 549755813888) (hbase : base ≤ w.heap.size)
    (A : Option Addr) (m c : Nat) (news : List Value) (hl : news.length = m * size) (hm : m ≤ 549755813888) (hS : Src w.cell? A m c news) (h1 : news.all (·.oneCell') = true) :
    ∃ v' w', (Builtin.append_ #[t, t] ty #[v, .slice A m c]).run P w = .ok v' w' ∧ w'.ownsRow base e size v' (n + m) (xs ++ news) ∧ w.grownBy w' v.ownBlock := by
  obtain ⟨i, hi, hz, hsi, hb⟩ := info_parts hinfo
  rcases hS with ⟨rfl, rfl, rfl, rfl⟩ | ⟨ad, rfl, hc⟩
  · exact ⟨v, w, run_append_owned_none (P := P) (w := w) base t ty e i size ht hi v n xs hown, by simpa using hown, ⟨rfl, rfl, rfl, Nat.le_refl _, fun _ _ _ => rfl⟩⟩
  · have hmm : (n + m) * bytes ≤ (n + m) * 64 := Nat.mul_le_mul_left _ hby
    obtain ⟨v', w', hr, h2, h3, _⟩ := app_where (P := P) w base t ty e i z size bytes ht hi hz hsi hb hzs hsz v n xs hown ad m c news hl hc (by simpa [List.all_eq_true] using h1) (by unfold maxLen; omega) (by omega) hbase
    exact ⟨v', w', hr, h2, h3⟩
/-- append, as a drawn region meets it where 'Builtin.append_' is taken out of go_sem. -/
theorem upon_src {P : Program} {o : Oper} {a : Act} {K : Act → World → Prop} {Q : Exit → Act → World → Prop} {w : World} (t e : TypeId) (z : Value) (size bytes : Nat) (ht : P.underlying t = some (.slice e)) (hinfo : (P.info? e).map (fun i => (i.zero, i.size, i.bytes)) = some (some z, size, bytes))
    (hzs : z.cells.size = size) (hsz : 0 < size) (hby : bytes ≤ 64) (base : Nat) (v : Value) (n : Nat) (xs : List Value) (hown : w.ownsRow base e size v n xs) (hn : n ≤ 10000) (hbase : base ≤ w.heap.size)
    (A : Option Addr) (m c : Nat) (news : List Value) (hl : news.length = m * size) (hm : m ≤ 1048576) (hS : Src w.cell? A m c news) (h1 : news.all (·.oneCell') = true)
    (h : ∀ v' w', w'.ownsRow base e size v' (n + m) (xs ++ news) → w.grownBy w' v.ownBlock → K (a.put o.dst v') w') :
    Oper.upon P o a K Q ((Sem.run P (Builtin.append_ #[t, t] t #[v, .slice A m c]) w).andThen fun a w' => .ok (.value a) w') := by
  obtain ⟨v', w', hr, h2, h3⟩ := app_src (P := P) w base t t e z size bytes ht hinfo hzs hsz hby v n xs hown (by omega) hbase A m c news hl (by omega) hS h1
  rw [hr]
  exact h v' w' h2 h3
/-- The same; what the row's callers keep. -/
theorem upon_srcF {P : Program} {o : Oper} {a : Act} {K : Act → World → Prop} {Q : Exit → Act → World → Prop} {w : World} (t e : TypeId) (z : Value) (size bytes : Nat) (ht : P.underlying t = some (.slice e)) (hinfo : (P.info? e).map (fun i => (i.zero, i.size, i.bytes)) = some (some z, size, bytes))
    (hzs : z.cells.size = size) (hsz : 0 < size) (hby : bytes ≤ 64) (a0 : World) (v : Value) (n : Nat) (xs : List Value) (hF : Fr a0 w) (hown : w.ownsRow a0.heap.size e size v n xs) (hn : n ≤ 10000)
    (A : Option Addr) (m c : Nat) (news : List Value) (hl : news.length = m * size) (hm : m ≤ 1048576) (hS : Src w.cell? A m c news) (h1 : news.all (·.oneCell') = true)
    (h : ∀ v' w', w'.ownsRow a0.heap.size e size v' (n + m) (xs ++ news) → Fr a0 w' → (∀ g t' cs, e ≠ t' → Blk w g t' cs → Blk w' g t' cs) → K (a.put o.dst v') w') :
    Oper.upon P o a K Q ((Sem.run P (Builtin.append_ #[t, t] t #[v, .slice A m c]) w).andThen fun a w' => .ok (.value a) w') :=
  upon_src t e z size bytes ht hinfo hzs hsz hby a0.heap.size v n xs hown hn hF.size A m c news hl hm hS h1 fun v' w' h2 h3 => h v' w' h2 (Fr.grown hF h3 hown) fun g t' cs hne hB => (h3.block g hB.lt (fun hk => by
    rcases hown.2 with ⟨rfl, _⟩ | ⟨g', cap, cur, rfl, _, hh, _⟩
    · cases hk
    · simp only [Value.ownBlock, Option.some.injEq] at hk
      subst hk
      unfold Blk at hB
      rw [hB] at hh
      injection hh with hh
      injection hh with _ hh _
      exact hne hh.symm)).trans hB
theorem own_nilB {w : World} {g base sz : Nat} {t : TypeId} (h : Blk w g t #[]) (hb : base ≤ g) : w.ownsRow base t sz (.slice (some ⟨g, 0, none⟩) 0 0) 0 [] :=
  ⟨by simp, .inr ⟨g, 0, #[], rfl, hb, h, Nat.le_refl _, by unfold maxLen; omega, by simp, by simp⟩⟩
theorem blk_new1 (w : World) (o : Obj) (t : TypeId) (cs : Array Value) : Blk ((w.alloc o).alloc (.cells cs t)) (w.heap.size + 1) t cs := by
  have h := Blk.new (w.alloc o) t cs
  rwa [World.size_alloc] at h
theorem blk_newD (w : World) (t : TypeId) (cs : Array Value) : Blk (w.drew.alloc (.cells cs t)) w.heap.size t cs := Blk.new w.drew t cs
theorem own_keep {w w' : World} {base e sz n : Nat} {v : Value} {xs : List Value} (h : w.ownsRow base e sz v n xs) (k : ∀ g cs, Blk w g e cs → Blk w' g e cs) : w'.ownsRow base e sz v n xs := by
  refine ⟨h.1, ?_⟩
  rcases h.2 with h | ⟨g, cap, cur, hv, hg, hh, hr⟩
  · exact .inl h
  · exact .inr ⟨g, cap, cur, hv, hg, k g cur hh, hr⟩
theorem iv_all (m : List Int) : (m.map iv).all (·.oneCell') = true := by
  rw [List.all_eq_true]
  intro x hx
  obtain ⟨y, _, rfl⟩ := List.mem_map.1 hx
  rfl
/- Walks of the generators of conjunctive queries: the query while it is drawn. -/

/-- A query while it is drawn: its block, its rows; the result's block as it was made. -/
def QSt (w0 : World) (r gb p : Nat) (w : World) (q : Int) (hd : List Int) (bd : List Atom) : Prop :=
  ∃ VH VB, Blk w gb 26 #[.int .i64 q, VH, VB] ∧ w.ownsRow w0.heap.size 3 1 VH hd.length (hd.map iv) ∧ w.ownsRow w0.heap.size 63 3 VB bd.length (bd.flatMap cellsA) ∧ Rdr w r p ∧ Ch (· = r) w0 w ∧ Blk w w0.heap.size 26 #[.int .i64 0, .slice none 0 0, .slice none 0 0]
theorem QSt.rdr {w0 w : World} {r gb p : Nat} {q : Int} {hd : List Int} {bd : List Atom} (h : QSt w0 r gb p w q hd bd) : Rdr w r p := by
  obtain ⟨_, _, _, _, _, h4, _⟩ := h; exact h4
theorem QSt.fr {w0 w w' : World} {r gb p : Nat} {q : Int} {hd : List Int} {bd : List Atom} (h : QSt w0 r gb p w q hd bd) (hf : Fr w w') : QSt w0 r gb p w' q hd bd := by
  obtain ⟨VH, VB, h1, h2, h3, h4, h5, h6⟩ := h
  exact ⟨VH, VB, h1.fr hf, own_fr h2 hf, own_fr h3 hf, h4.fr hf, h5.trans hf.ch, h6.fr hf⟩
theorem QSt.ch {w0 w w' : World} {r gb p p' : Nat} {q : Int} {hd : List Int} {bd : List Atom} (h : QSt w0 r gb p w q hd bd) (hc : Ch (· = r) w w') (hr : Rdr w' r p') (hlt : r < w0.heap.size) (hgb : w0.heap.size ≤ gb) : QSt w0 r gb p' w' q hd bd := by
  obtain ⟨VH, VB, h1, h2, h3, h4, h5, h6⟩ := h
  exact ⟨VH, VB, h1.ch hc (by omega), gown_ch h2 hc hlt, gown_ch h3 hc hlt, hr, h5.trans hc, h6.ch hc (by omega)⟩
/-- An atom more. -/
theorem QSt.body {w0 w4 w5 : World} {r gb p : Nat} {q : Int} {o : Obj} {VH VB : Value} {hd : List Int} {bd bd' : List Atom} {vA : Option Addr} {vc : Nat} (hB : Blk w4 gb 26 #[.int .i64 q, VH, VB]) (hR : w4.ownsRow w0.heap.size 3 1 VH hd.length (hd.map iv)) (hE : w4.ownsRow w0.heap.size 63 3 VB bd.length (bd.flatMap cellsA))
    (hr : Rdr w4 r p) (hC : Ch (· = r) w0 w4) (hQ : Blk w4 w0.heap.size 26 #[.int .i64 0, .slice none 0 0, .slice none 0 0]) (hlt : r < w0.heap.size) (hgb : w0.heap.size < gb) (hO : w5.ownsRow w0.heap.size 63 3 (.slice vA bd'.length vc) bd'.length (bd'.flatMap cellsA)) (hg : (w4.alloc o).grownBy w5 VB.ownBlock) :
    QSt w0 r gb p (w5.setCell ⟨gb, 2, none⟩ (.slice vA bd'.length vc)) q hd bd' := by
  have B5 := blk_grown (hB.alloc o) hg (own_ne hE hB (by decide))
  have hRa := own_fr hR ((Fr.refl w4).alloc o)
  have hEa := own_fr hE ((Fr.refl w4).alloc o)
  have R5 := hRa.kept hg (own_ne2 hEa hRa (by decide))
  exact ⟨VH, _, B5.set_ 2 _, own_set R5 (own_ne R5 B5 (by decide)), own_set hO (own_ne hO B5 (by decide)), ((hr.alloc o).grown hg (fun k hk => by have := (hEa.lt k hk).1; omega)).set (by show r < gb; omega) _, ((hC.alloc o).grown hg (fun k hk => (hEa.lt k hk).1)).setNew (Nat.le_of_lt hgb) _, (blk_grown (hQ.alloc o) hg (own_ne hE hQ (by decide))).far (by show w0.heap.size ≠ gb; omega) _⟩
/-- A head's number more. -/
theorem QSt.head {w0 w4 w5 : World} {r gb p : Nat} {q : Int} {o : Obj} {VH VB : Value} {hd hd' : List Int} {bd : List Atom} {vA : Option Addr} {vc : Nat} (hB : Blk w4 gb 26 #[.int .i64 q, VH, VB]) (hR : w4.ownsRow w0.heap.size 3 1 VH hd.length (hd.map iv)) (hE : w4.ownsRow w0.heap.size 63 3 VB bd.length (bd.flatMap cellsA))
    (hr : Rdr w4 r p) (hC : Ch (· = r) w0 w4) (hQ : Blk w4 w0.heap.size 26 #[.int .i64 0, .slice none 0 0, .slice none 0 0]) (hlt : r < w0.heap.size) (hgb : w0.heap.size < gb) (hO : w5.ownsRow w0.heap.size 3 1 (.slice vA hd'.length vc) hd'.length (hd'.map iv)) (hg : (w4.alloc o).grownBy w5 VH.ownBlock) :
    QSt w0 r gb p (w5.setCell ⟨gb, 1, none⟩ (.slice vA hd'.length vc)) q hd' bd := by
  have B5 := blk_grown (hB.alloc o) hg (own_ne hR hB (by decide))
  have hRa := own_fr hR ((Fr.refl w4).alloc o)
  have hEa := own_fr hE ((Fr.refl w4).alloc o)
  have E5 := hEa.kept hg (own_ne2 hRa hEa (by decide))
  exact ⟨_, VB, B5.set_ 1 _, own_set hO (own_ne hO B5 (by decide)), own_set E5 (own_ne E5 B5 (by decide)), ((hr.alloc o).grown hg (fun k hk => by have := (hRa.lt k hk).1; omega)).set (by show r < gb; omega) _, ((hC.alloc o).grown hg (fun k hk => (hRa.lt k hk).1)).setNew (Nat.le_of_lt hgb) _, (blk_grown (hQ.alloc o) hg (own_ne hR hQ (by decide))).far (by show w0.heap.size ≠ gb; omega) _⟩
/-- The end: the query is copied into the result's block. -/
theorem QSt.fin {w0 w : World} {r gb p : Nat} {q : Int} {hd : List Int} {bd : List Atom} (h : QSt w0 r gb p w q hd bd) (hlt : r < w0.heap.size) :
    ∃ A0 c0 A1 c1, Blk w gb 26 #[.int .i64 q, .slice A0 hd.length c0, .slice A1 bd.length c1] ∧ Blk w w0.heap.size 26 #[.int .i64 0, .slice none 0 0, .slice none 0 0] ∧
      Blk (((w.setCell ⟨w0.heap.size, 0, none⟩ (.int .i64 q)).setCell ⟨w0.heap.size, 1, none⟩ (.slice A0 hd.length c0)).setCell ⟨w0.heap.size, 2, none⟩ (.slice A1 bd.length c1)) w0.heap.size 26 #[.int .i64 q, .slice A0 hd.length c0, .slice A1 bd.length c1] ∧
      RulOut w0.heap.size q hd bd (.returned (.agg #[.int .i64 q, .slice A0 hd.length c0, .slice A1 bd.length c1])) (((w.setCell ⟨w0.heap.size, 0, none⟩ (.int .i64 q)).setCell ⟨w0.heap.size, 1, none⟩ (.slice A0 hd.length c0)).setCell ⟨w0.heap.size, 2, none⟩ (.slice A1 bd.length c1)) ∧
      Rdr (((w.setCell ⟨w0.heap.size, 0, none⟩ (.int .i64 q)).setCell ⟨w0.heap.size, 1, none⟩ (.slice A0 hd.length c0)).setCell ⟨w0.heap.size, 2, none⟩ (.slice A1 bd.length c1)) r p ∧
      Ch (· = r) w0 (((w.setCell ⟨w0.heap.size, 0, none⟩ (.int .i64 q)).setCell ⟨w0.heap.size, 1, none⟩ (.slice A0 hd.length c0)).setCell ⟨w0.heap.size, 2, none⟩ (.slice A1 bd.length c1)) := by
  obtain ⟨VH, VB, hB, hR, hE, hr, hC, hQ⟩ := h
  obtain ⟨A0, c0, rfl⟩ := own_form hR
  obtain ⟨A1, c1, rfl⟩ := own_form hE
  have n0 := own_ne hR hQ (by decide)
  have n1 := own_ne hE hQ (by decide)
  exact ⟨A0, c0, A1, c1, hB, hQ, ((hQ.set_ 0 _).set_ 1 _).set_ 2 _, ⟨A0, c0, A1, c1, rfl, own_set (own_set (own_set hR n0) n0) n0, own_set (own_set (own_set hE n1) n1) n1⟩, ((hr.set (by show r < w0.heap.size; omega) _).set (by show r < w0.heap.size; omega) _).set (by show r < w0.heap.size; omega) _, ((hC.setNew (Nat.le_refl _) _).setNew (Nat.le_refl _) _).setNew (Nat.le_refl _) _⟩
/-- A valid query that has been drawn. -/
def QOut (w0 : World) (r p : Nat) (e : Ending) (w : World) : Prop := ∃ q hd bd, RulOut w0.heap.size q hd bd e w ∧ 1 ≤ q ∧ q ≤ 4 ∧ hd.length ≤ 2 ∧ 1 ≤ bd.length ∧ bd.length ≤ 4 ∧ Drawn 30 r p w0 w
/-- A query that has been drawn. -/
def QAny (w0 : World) (r p : Nat) (e : Ending) (w : World) : Prop := ∃ q hd bd, RulOut w0.heap.size q hd bd e w ∧ 0 ≤ q ∧ (q ≤ 4 ∨ q = 7) ∧ hd.length ≤ 3 ∧ bd.length ≤ 4 ∧ Drawn 40 r p w0 w
/- Walks of the generators of conjunctive queries: randomRule. -/
attribute [-go_sem] Builtin.append_
set_option maxRecDepth 100000 in
set_option maxHeartbeats 4000000 in
theorem randomRule (r p : Nat) (w : World) (hr : Rdr w r p) (hp : p ≤ 1000000) :
    Calls Tryz.prog 68 #[.pointer (some ⟨r, 0, none⟩)] w (QOut w r p) := by
  have hlt := hr.lt
  have BQ := hid (Blk.new w 26 #[.int .i64 0, .slice none 0 0, .slice none 0 0])
  go_enter Tryz.func68, Tryz.ntmps68
  go_wp2_with fail
  refine (pick _ r p _ (hr.alloc _) (by omega) (by omega)).mono ?_
  rintro e w1 ⟨v, rfl, hv, hr1, hc1⟩
  have hv4 : v < 4 := by omega
  have hC1 : Ch (· = r) w w1 := ((Ch.refl w).alloc _).trans hc1
  have BQ1 := BQ.out.ch hc1 (by omega)
  have hs1 := BQ1.lt
  have S1 := hid (show QSt w r w1.heap.size (p + 1) (w1.alloc (.cells #[.int .i64 (1 + (v : Int)), .slice none 0 0, .slice none 0 0] 26)) (1 + (v : Int)) [] [] from ⟨_, _, Blk.new w1 _ _, own_nil, own_nil, hr1.alloc _, hC1.alloc _, BQ1.alloc _⟩)
  obtain ⟨gb, hgb⟩ : ∃ gb, w1.heap.size = gb := ⟨_, rfl⟩
  rw [hgb] at hs1
  clear hv hr1 hc1 BQ BQ1 hC1
  go_wp2_with fail
  refine absW fun W2 hW2 => ?_
  rw [← hW2, hgb] at S1
  clear hW2
  refine (pick _ r _ _ S1.out.rdr (by omega) (by omega)).mono ?_
  rintro e w2 ⟨v2, rfl, hv2, hr2, hc2⟩
  have S2 := hid (show ∃ q', q' + 3 * (1 + v2) ≤ p + 14 ∧ QSt w r gb q' w2 (1 + (v : Int)) [] [] from ⟨_, by omega, S1.out.ch hc2 hr2 hlt (by omega)⟩)
  have hv24 : v2 < 4 := by omega
  clear S1 hv2 hr2 hc2 hgb
  go_wp2
  go_loopw [4] (fun t wr => ∃ (k : Nat) (bd : List Atom), bd.length + k ≤ 4 ∧ 1 ≤ bd.length + k ∧ t = .int .i64 k ∧ Hid (∃ q', q' + 3 * k ≤ p + 14 ∧ QSt w r gb q' wr (1 + (v : Int)) [] bd)) (fun t _ => (intOf t).toNat)
  case atStart => exact ⟨1 + v2, [], by simp; omega, by simp, by simp, S2⟩
  case round =>
    clear S2
    obtain ⟨k, bd, hk4, hk1, rfl, hS⟩ := hrel
    obtain ⟨q', hq', hG⟩ := hS.out
    by_cases hk0 : 0 < k
    · have d0 : decide ((0 : Int) < (k : Int)) = true := decide_eq_true (by omega)
      have d0' : decide (0 < k) = true := decide_eq_true hk0
      obtain ⟨VH, VB, hB, hR, hE, hrd, hC, hQ⟩ := hG
      have hsr := hC.size
      obtain ⟨c0, c1, c2, f0, f1, f2⟩ := hB.three
      have hgr : ¬ (gb = r) := by omega
      have HB := hid hB
      have HR := hid hR
      have HE := hid hE
      have HQ := hid hQ
      clear hB hR hE hQ hS
      have keepQ : ∀ W, Ch (· = r) wr W → W.cell? ⟨gb, 0, none⟩ = some (.int .i64 (1 + (v : Int))) ∧ W.cell? ⟨gb, 2, none⟩ = some VB := fun W h => ⟨h.cell hgr c0, h.cell hgr c2⟩
      go_wp2_with fail
      refine wp_region_T (fun W => W.cell? ⟨gb, 0, none⟩ = some (.int .i64 (1 + (v : Int))) ∧ W.cell? ⟨gb, 2, none⟩ = some VB) 16 (by kernel_rfl) ?_
      have HS := keepQ _ (Ch.refl wr).drew
      ((refine wpAnyT_take 0 (v := ?_) rfl (by kernel_rfl) (fun _ _ _ h => h) (Or.inl ⟨by rfl, ?_⟩) (by assumption) ?_; rotate_left; (focus (intro W hSw; (try dsimp only at hSw); go_simp; (try with_reducible rfl); done)); (try simp only [Act.put, List.setIfInBounds_toArray, List.set_cons_zero, List.set_cons_succ])); (refine wpAnyT_take 1 (v := ?_) rfl (by kernel_rfl) (fun _ _ _ h => h) (Or.inl ⟨by rfl, ?_⟩) (by assumption) ?_; rotate_left; (focus (intro W hSw; (try dsimp only at hSw); go_simp; (try with_reducible rfl); done)); (try simp only [Act.put, List.setIfInBounds_toArray, List.set_cons_zero, List.set_cons_succ])); (refine wpAnyT_take 2 (v := ?_) rfl (by kernel_rfl) (fun _ _ _ h => h) (Or.inl ⟨by rfl, ?_⟩) (by assumption) ?_; rotate_left; (focus (intro W hSw; (try dsimp only at hSw); go_simp; (try with_reducible rfl); done)); (try simp only [Act.put, List.setIfInBounds_toArray, List.set_cons_zero, List.set_cons_succ])); (refine wpAnyT_take 4 (v := ?_) rfl (by kernel_rfl) (fun _ _ _ h => h) (Or.inl ⟨by rfl, ?_⟩) (by assumption) ?_; rotate_left; (focus (intro W hSw; (try dsimp only at hSw); go_simp; (try with_reducible rfl); done)); (try simp only [Act.put, List.setIfInBounds_toArray, List.set_cons_zero, List.set_cons_succ])); (refine wpAnyT_take 5 (v := ?_) rfl (by kernel_rfl) (fun _ _ _ h => h) (Or.inl ⟨by rfl, ?_⟩) (by assumption) ?_; rotate_left; (focus (intro W hSw; (try dsimp only at hSw); go_simp; (try with_reducible rfl); done)); (try simp only [Act.put, List.setIfInBounds_toArray, List.set_cons_zero, List.set_cons_succ])); (refine wpAnyT_take 6 (v := ?_) rfl (by kernel_rfl) (fun _ _ _ h => h) (Or.inl ⟨by rfl, ?_⟩) (by assumption) ?_; rotate_left; (focus (intro W hSw; (try dsimp only at hSw); go_simp; (try with_reducible rfl); done)); (try simp only [Act.put, List.setIfInBounds_toArray, List.set_cons_zero, List.set_cons_succ])); (refine wpAnyT_take 8 (v := ?_) rfl (by kernel_rfl) (fun _ _ _ h => h) (Or.inl ⟨by rfl, ?_⟩) (by assumption) ?_; rotate_left; (focus (intro W hSw; (try dsimp only at hSw); go_simp; (try with_reducible rfl); done)); (try simp only [Act.put, List.setIfInBounds_toArray, List.set_cons_zero, List.set_cons_succ])); (refine wpAnyT_take 9 (v := ?_) rfl (by kernel_rfl) (fun _ _ _ h => h) (Or.inl ⟨by rfl, ?_⟩) (by assumption) ?_; rotate_left; (focus (intro W hSw; (try dsimp only at hSw); go_simp; (try with_reducible rfl); done)); (try simp only [Act.put, List.setIfInBounds_toArray, List.set_cons_zero, List.set_cons_succ])); (refine wpAnyT_take 10 (v := ?_) rfl (by kernel_rfl) (fun _ _ _ h => h) (Or.inl ⟨by rfl, ?_⟩) (by assumption) ?_; rotate_left; (focus (intro W hSw; (try dsimp only at hSw); go_simp; (try with_reducible rfl); done)); (try simp only [Act.put, List.setIfInBounds_toArray, List.set_cons_zero, List.set_cons_succ])))
      ((refine wpAnyT_one 3 rfl (by kernel_rfl) (fun K hK => ?_); go_simp))
      go_at_call 48
      refine (pick _ r q' _ (by (repeat (first | with_reducible assumption | with_reducible refine Rdr.alloc ?_ _ | with_reducible refine Rdr.drew ?_ | (with_reducible refine Rdr.set2 ?_ ?_ _; · (simp <;> omega))))) (by omega) (by omega)).mono ?_
      rintro e w3 ⟨y1, rfl, _, hr3, hc3⟩
      have F3 : Ch (· = r) wr w3 := Ch.trans (show Ch (· = r) wr _ from Fr.ch (by (repeat (first | with_reducible exact Fr.refl _ | with_reducible assumption | with_reducible refine Fr.alloc ?_ _ | with_reducible refine Fr.drew ?_ | with_reducible refine Fr.drewN ?_ _ | (with_reducible refine Fr.setNew2 ?_ ?_ _; · (simp <;> omega)) | with_reducible refine Fr.trans ?_ (by assumption))))) hc3
      have HS := keepQ _ F3
      ((try dsimp only); refine hK.out _ _ (fun _ => HS) (fun _ => ?_); clear hK K; (try simp only [Act.put, List.setIfInBounds_toArray, List.set_cons_zero, List.set_cons_succ]))
      ((refine wpAnyT_one 7 rfl (by kernel_rfl) (fun K hK => ?_); go_simp))
      go_at_call 48
      refine (pick _ r (q' + 1) _ (by (repeat (first | with_reducible assumption | with_reducible refine Rdr.alloc ?_ _ | with_reducible refine Rdr.drew ?_ | (with_reducible refine Rdr.set2 ?_ ?_ _; · (simp <;> omega))))) (by omega) (by omega)).mono ?_
      rintro e w4 ⟨y2, rfl, _, hr4, hc4⟩
      have F4 : Ch (· = r) wr w4 := Ch.trans F3 hc4
      have HS := keepQ _ F4
      ((try dsimp only); refine hK.out _ _ (fun _ => HS) (fun _ => ?_); clear hK K; (try simp only [Act.put, List.setIfInBounds_toArray, List.set_cons_zero, List.set_cons_succ]))
      ((refine wpAnyT_one 11 rfl (by kernel_rfl) (fun K hK => ?_); go_simp))
      go_at_call 48
      refine (pick _ r (q' + 1 + 1) _ (by (repeat (first | with_reducible assumption | with_reducible refine Rdr.alloc ?_ _ | with_reducible refine Rdr.drew ?_ | (with_reducible refine Rdr.set2 ?_ ?_ _; · (simp <;> omega))))) (by omega) (by omega)).mono ?_
      rintro e w5 ⟨y3, rfl, _, hr5, hc5⟩
      have F5 : Ch (· = r) wr w5 := Ch.trans F4 hc5
      have HS := keepQ _ F5
      ((try dsimp only); refine hK.out _ _ (fun _ => HS) (fun _ => ?_); clear hK K; (try simp only [Act.put, List.setIfInBounds_toArray, List.set_cons_zero, List.set_cons_succ]))
      ((refine wpAnyT_take 12 (v := ?_) rfl (by kernel_rfl) (fun _ _ _ h => h) (Or.inl ⟨by rfl, ?_⟩) (by assumption) ?_; rotate_left; (focus (intro W hSw; (try dsimp only at hSw); go_simp; (try with_reducible rfl); done)); (try simp only [Act.put, List.setIfInBounds_toArray, List.set_cons_zero, List.set_cons_succ])))
      have HS := keepQ _ (F5.alloc (.cells #[.int .i64 (y1 : Int), .int .i64 (y2 : Int), .int .i64 (y3 : Int)] 63))
      ((refine wpAnyT_one 13 rfl (by kernel_rfl) (fun K hK => ?_); go_simp))
      ((try dsimp only); refine hK.out _ _ (fun _ => HS) (fun _ => ?_); clear hK K; (try simp only [Act.put, List.setIfInBounds_toArray, List.set_cons_zero, List.set_cons_succ]))
      have B5 := HB.out.ch F5 (by omega)
      have R5 := hid (gown_ch HR.out F5 hlt)
      have E5 := hid (gown_ch HE.out F5 hlt)
      have Q5 := hid (HQ.out.ch F5 (by omega))
      have n1 := own_ne E5.out B5 (by decide)
      have hs5 := F5.size
      ((refine wpAnyT_one 14 rfl (by kernel_rfl) (fun K hK => ?_); go_simp))
      refine upon_appG 24 63 (.agg #[.int .i64 0, .int .i64 0, .int .i64 0]) 3 24 Tryz.underlying24 (by kernel_rfl) rfl (by decide) (by decide) w.heap.size VB bd.length (bd.flatMap cellsA) (own_fr E5.out ((Fr.refl _).alloc _)) (by omega) (by simp; omega) w5.heap.size 1 1 [iv y1, iv y2, iv y3] rfl (by omega) (blk_new (by simp)) rfl ?_
      intro v7 w7 hO7 hg7 _
      obtain ⟨vA, vc, rfl⟩ := own_form hO7
      have B7 := blk_grown (B5.alloc (.cells #[.int .i64 (y1 : Int), .int .i64 (y2 : Int), .int .i64 (y3 : Int)] 63)) hg7 n1
      obtain ⟨g0, g1, g2, q0, q1, q2⟩ := B7.three
      have HS : w7.cell? ⟨gb, 0, none⟩ = some (.int .i64 (1 + (v : Int))) ∧ w7.cell? ⟨gb, 2, none⟩ = some VB := ⟨g0, g2⟩
      ((try dsimp only); refine hK.out _ _ (fun _ => HS) (fun _ => ?_); clear hK K; (try simp only [Act.put, List.setIfInBounds_toArray, List.set_cons_zero, List.set_cons_succ]))
      ((refine wpAnyT_take 15 (v := ?_) rfl (by kernel_rfl) (fun _ _ _ h => h) (Or.inl ⟨by rfl, ?_⟩) (by assumption) ?_; rotate_left; (focus (intro W hSw; (try dsimp only at hSw); go_simp; (try with_reducible rfl); done)); (try simp only [Act.put, List.setIfInBounds_toArray, List.set_cons_zero, List.set_cons_succ])))
      ((refine wpAnyT_one 16 rfl (by kernel_rfl) (fun K hK => ?_); go_simp))
      ((try dsimp only); refine hK.out _ _ (fun h => absurd rfl h) (fun _ => ?_); clear hK K; (try simp only [Act.put, List.setIfInBounds_toArray, List.set_cons_zero, List.set_cons_succ]); refine wpAnyT_done (by kernel_rfl) ?_ _)
      have S7 := hid (QSt.body (bd' := bd ++ [⟨y1, y2, y3⟩]) (vA := vA) (vc := vc) B5 R5.out E5.out hr5 (hC.trans F5) Q5.out hlt (by omega) (by rw [List.length_append, List.flatMap_append]; exact hO7) hg7)
      rw [List.length_append] at S7
      clear g0 g1 g2 q0 q1 q2 hO7 hg7 HS B7 B5 R5 E5 Q5 n1 HB HR HE HQ keepQ c0 c1 c2 f0 f1 f2
      go_wp2
      go_roundw
      · exact ⟨k - 1, bd ++ [⟨y1, y2, y3⟩], by simp; omega, by simp; omega, by congr 1; omega, hid ⟨q' + 3, by omega, S7.out⟩⟩
      · (simp [intOf]; omega)
    · obtain rfl : k = 0 := by omega
      have HG := hid hG
      have hbd : 1 ≤ bd.length := by omega
      have hbd4 : bd.length ≤ 4 := by omega
      clear hG hS hk0 hk4 hk1
      go_wp2_with fail
      refine (pick _ r q' _ HG.out.rdr (by omega) (by omega)).mono ?_
      rintro e w3 ⟨m, rfl, hm, hr3, hc3⟩
      have hm3 : m < 3 := by omega
      have S3 := hid (show ∃ q'', q'' + 2 * m ≤ p + 22 ∧ QSt w r gb q'' w3 (1 + (v : Int)) [] bd from ⟨_, by omega, HG.out.ch hc3 hr3 hlt (by omega)⟩)
      clear hm hr3 hc3 HG hq'
      go_wp2
      go_loopw [5] (fun t wr => ∃ (m : Nat) (hd : List Int), hd.length + m ≤ 2 ∧ t = .int .i64 m ∧ Hid (∃ q', q' + 2 * m ≤ p + 22 ∧ QSt w r gb q' wr (1 + (v : Int)) hd bd)) (fun t _ => (intOf t).toNat)
      case atStart => exact ⟨m, [], by simp; omega, rfl, S3⟩
      case round =>
        clear S3
        rename_i m0 w00 wr00
        obtain ⟨m, hd, hk2, rfl, hS⟩ := hrel
        obtain ⟨q', hq', hG⟩ := hS.out
        by_cases hm0 : 0 < m
        · have d0 : decide ((0 : Int) < (m : Int)) = true := decide_eq_true (by omega)
          have d0' : decide (0 < m) = true := decide_eq_true hm0
          obtain ⟨VH, VB, hB, hR, hE, hrd, hC, hQ⟩ := hG
          obtain ⟨c, ab, rfl, hab0, habr⟩ : ∃ c ab, VB = .slice (some ⟨ab, 0, none⟩) bd.length c ∧ ab < wr.heap.size ∧ w.heap.size ≤ ab := by
            rcases hE.2 with ⟨_, h⟩ | ⟨g, cap, cur, hv, hg, hh, _⟩
            · omega
            · exact ⟨cap, g, hv, Blk.lt (t := 63) (cs := cur) hh, hg⟩
          have hsr := hC.size
          obtain ⟨c0, c1, c2, f0, f1, f2⟩ := hB.three
          have hgr : ¬ (gb = r) := by omega
          have HB := hid hB
          have HR := hid hR
          have HE := hid hE
          have HQ := hid hQ
          clear hB hR hE hQ hS
          have HGG := hid (show QSt w r gb q' wr (1 + (v : Int)) hd bd from ⟨_, _, HB.out, HR.out, HE.out, hrd, hC, HQ.out⟩)
          have keepQ : ∀ W, Ch (· = r) wr W → W.cell? ⟨gb, 2, none⟩ = some (.slice (some ⟨ab, 0, none⟩) bd.length c) := fun W h => h.cell hgr c2
          go_wp2_with fail
          refine wp_region_T (fun W => W.cell? ⟨gb, 2, none⟩ = some (.slice (some ⟨ab, 0, none⟩) bd.length c)) 10 (by kernel_rfl) ?_
          have HS := keepQ _ (Ch.refl wr).drew
          ((refine wpAnyT_take 0 (v := ?_) rfl (by kernel_rfl) (fun _ _ _ h => h) (Or.inl ⟨by rfl, ?_⟩) (by assumption) ?_; rotate_left; (focus (intro W hSw; (try dsimp only at hSw); go_simp; (try with_reducible rfl); done)); (try simp only [Act.put, List.setIfInBounds_toArray, List.set_cons_zero, List.set_cons_succ])); (refine wpAnyT_take 1 (v := ?_) rfl (by kernel_rfl) (fun _ _ _ h => h) (Or.inl ⟨by rfl, ?_⟩) (by assumption) ?_; rotate_left; (focus (intro W hSw; (try dsimp only at hSw); go_simp; (try with_reducible rfl); done)); (try simp only [Act.put, List.setIfInBounds_toArray, List.set_cons_zero, List.set_cons_succ])); (refine wpAnyT_take 2 (v := ?_) rfl (by kernel_rfl) (fun _ _ _ h => h) (Or.inl ⟨by rfl, ?_⟩) (by assumption) ?_; rotate_left; (focus (intro W hSw; (try dsimp only at hSw); go_simp; (try with_reducible rfl); done)); (try simp only [Act.put, List.setIfInBounds_toArray, List.set_cons_zero, List.set_cons_succ])); (refine wpAnyT_take 3 (v := ?_) rfl (by kernel_rfl) (fun _ _ _ h => h) (Or.inl ⟨by rfl, ?_⟩) (by assumption) ?_; rotate_left; (focus (intro W hSw; (try dsimp only at hSw); go_simp; (try with_reducible rfl); done)); (try simp only [Act.put, List.setIfInBounds_toArray, List.set_cons_zero, List.set_cons_succ])); (refine wpAnyT_take 4 (v := ?_) rfl (by kernel_rfl) (fun _ _ _ h => h) (Or.inl ⟨by rfl, ?_⟩) (by assumption) ?_; rotate_left; (focus (intro W hSw; (try dsimp only at hSw); go_simp; (try with_reducible rfl); done)); (try simp only [Act.put, List.setIfInBounds_toArray, List.set_cons_zero, List.set_cons_succ])); (refine wpAnyT_take 5 (v := ?_) rfl (by kernel_rfl) (fun _ _ _ h => h) (Or.inl ⟨by rfl, ?_⟩) (by assumption) ?_; rotate_left; (focus (intro W hSw; (try dsimp only at hSw); go_simp; (try with_reducible rfl); done)); (try simp only [Act.put, List.setIfInBounds_toArray, List.set_cons_zero, List.set_cons_succ])))
          (refine wpAnyT_two 6 9 rfl rfl (by kernel_rfl) (fun K hK => ?_) (fun K hK => ?_))
          · go_simp
            go_at_call 48
            refine (pick _ r q' _ (by (repeat (first | with_reducible assumption | with_reducible refine Rdr.alloc ?_ _ | with_reducible refine Rdr.drew ?_ | (with_reducible refine Rdr.set2 ?_ ?_ _; · (simp <;> omega))))) (by omega) (by omega)).mono ?_
            rintro e w4 ⟨y, rfl, hy, hr4, hc4⟩
            have F4 : Ch (· = r) wr w4 := Ch.trans (by (repeat (first | with_reducible exact Ch.refl _ | with_reducible assumption | with_reducible refine Ch.alloc ?_ _ | with_reducible refine Ch.drew ?_ | (with_reducible refine Ch.setNew2 ?_ ?_ _; · (simp <;> omega)) | with_reducible refine Ch.trans ?_ (by assumption)))) hc4
            have hy4 : y < bd.length := by omega
            have hy4' : (y : Int) < (bd.length : Int) := by omega
            have hs4 := F4.size
            obtain ⟨ab', ao', hA, r0, r1, r2⟩ := (own_A (gown_ch HE.out F4 hlt) rfl).atom hy4
            injection hA with hA
            injection hA with hA1 hA2 _
            subst hA1 hA2
            replace r0 := fromB_le _ _ _ _ r0
            replace r1 := fromB_le _ _ _ _ r1
            replace r2 := fromB_le _ _ _ _ r2
            simp only [Nat.zero_add] at r0 r1 r2
            have S4 := HGG.out.ch F4 hr4 hlt (by omega)
            have HS := keepQ _ F4
            ((try dsimp only); refine hK.out _ _ (fun _ => HS) (fun _ => ?_); clear hK K; (try simp only [Act.put, List.setIfInBounds_toArray, List.set_cons_zero, List.set_cons_succ]))
            ((refine wpAnyT_take 7 (v := ?_) rfl (by kernel_rfl) (fun _ _ _ h => h) (Or.inl ⟨by rfl, ?_⟩) (by assumption) ?_; rotate_left; (focus (intro W hSw; (try dsimp only at hSw); go_simp; (try with_reducible rfl); done)); (try simp only [Act.put, List.setIfInBounds_toArray, List.set_cons_zero, List.set_cons_succ])))
            (refine wpAnyT_two 8 9 rfl rfl (by kernel_rfl) (fun K hK => ?_) (fun K hK => ?_))
            · go_simp
              ((try dsimp only); refine hK.out _ _ (fun _ => HS) (fun _ => ?_); clear hK K; (try simp only [Act.put, List.setIfInBounds_toArray, List.set_cons_zero, List.set_cons_succ]))
              ((refine wpAnyT_one 9 rfl (by kernel_rfl) (fun K hK => ?_); go_simp))
              have HS := keepQ _ (F4.alloc (.cells #[.int .i64 0, .int .i64 0, .int .i64 0] 63))
              ((try dsimp only); refine hK.out _ _ (fun _ => HS) (fun _ => ?_); clear hK K; (try simp only [Act.put, List.setIfInBounds_toArray, List.set_cons_zero, List.set_cons_succ]))
              ((refine wpAnyT_one 10 rfl (by kernel_rfl) (fun K hK => ?_); go_simp))
              ((try dsimp only); refine hK.out _ _ (fun h => absurd rfl h) (fun _ => ?_); clear hK K; (try simp only [Act.put, List.setIfInBounds_toArray, List.set_cons_zero, List.set_cons_succ]); refine wpAnyT_done (by kernel_rfl) ?_ _)
              go_wp2_with fail
              have F9 : Ch (· = r) wr (w4.alloc (.cells #[.int .i64 bd[y].rel, .int .i64 bd[y].x, .int .i64 bd[y].y] 63)) := F4.alloc _
              have S9 := hid (HGG.out.ch F9 (hr4.alloc _) hlt (by omega))
              have BX := Blk.new w4 63 #[.int .i64 bd[y].rel, .int .i64 bd[y].x, .int .i64 bd[y].y]
              have hax : ¬ (w4.heap.size = r) := by omega
              have AX := hid BX
              have R9 := 0
              generalize (w4.alloc (.cells #[.int .i64 bd[y].rel, .int .i64 bd[y].x, .int .i64 bd[y].y] 63)) = W9 at F9 S9 BX AX ⊢
              generalize w4.heap.size = ax at BX AX hax ⊢
              obtain ⟨VH9, VB9, hB9, hR9, hE9, hrd9, hC9, hQ9⟩ := S9.out
              clear R9 F9 hr4 hc4 F4 HS S4 r0 r1 r2 keepQ HGG
              obtain ⟨g0, g1, g2, _⟩ := hB9.three
              obtain ⟨x0, x1, x2, _⟩ := BX.three
              have hgr9 : ¬ (gb = r) := hgr
              have hs9 := hC9.size
              have HB9 := hid hB9
              have HR9 := hid hR9
              have HE9 := hid hE9
              have HQ9 := hid hQ9
              have hX := BX.lt
              clear hB9 hR9 hE9 hQ9 BX S9 c0 c1 c2 f0 f1 f2
              have keepQ : ∀ W, Ch (· = r) W9 W → W.cell? ⟨gb, 1, none⟩ = some VH9 ∧ W.cell? ⟨ax, 1, none⟩ = some (.int .i64 bd[y].x) ∧ W.cell? ⟨ax, 2, none⟩ = some (.int .i64 bd[y].y) := fun W h => ⟨h.cell hgr9 g1, h.cell hax x1, h.cell hax x2⟩
              refine wp_region_T (fun W => W.cell? ⟨gb, 1, none⟩ = some VH9 ∧ W.cell? ⟨ax, 1, none⟩ = some (.int .i64 bd[y].x) ∧ W.cell? ⟨ax, 2, none⟩ = some (.int .i64 bd[y].y)) 12 (by kernel_rfl) ?_
              have HS := keepQ _ (Ch.refl W9).drew
              ((refine wpAnyT_take 0 (v := ?_) rfl (by kernel_rfl) (fun _ _ _ h => h) (Or.inl ⟨by rfl, ?_⟩) (by assumption) ?_; rotate_left; (focus (intro W hSw; (try dsimp only at hSw); go_simp; (try with_reducible rfl); done)); (try simp only [Act.put, List.setIfInBounds_toArray, List.set_cons_zero, List.set_cons_succ])); (refine wpAnyT_take 1 (v := ?_) rfl (by kernel_rfl) (fun _ _ _ h => h) (Or.inl ⟨by rfl, ?_⟩) (by assumption) ?_; rotate_left; (focus (intro W hSw; (try dsimp only at hSw); go_simp; (try with_reducible rfl); done)); (try simp only [Act.put, List.setIfInBounds_toArray, List.set_cons_zero, List.set_cons_succ])); (refine wpAnyT_take 2 (v := ?_) rfl (by kernel_rfl) (fun _ _ _ h => h) (Or.inl ⟨by rfl, ?_⟩) (by assumption) ?_; rotate_left; (focus (intro W hSw; (try dsimp only at hSw); go_simp; (try with_reducible rfl); done)); (try simp only [Act.put, List.setIfInBounds_toArray, List.set_cons_zero, List.set_cons_succ])); (refine wpAnyT_take 3 (v := ?_) rfl (by kernel_rfl) (fun _ _ _ h => h) (Or.inl ⟨by rfl, ?_⟩) (by assumption) ?_; rotate_left; (focus (intro W hSw; (try dsimp only at hSw); go_simp; (try with_reducible rfl); done)); (try simp only [Act.put, List.setIfInBounds_toArray, List.set_cons_zero, List.set_cons_succ])); (refine wpAnyT_take 4 (v := ?_) rfl (by kernel_rfl) (fun _ _ _ h => h) (Or.inl ⟨by rfl, ?_⟩) (by assumption) ?_; rotate_left; (focus (intro W hSw; (try dsimp only at hSw); go_simp; (try with_reducible rfl); done)); (try simp only [Act.put, List.setIfInBounds_toArray, List.set_cons_zero, List.set_cons_succ])); (refine wpAnyT_take 5 (v := ?_) rfl (by kernel_rfl) (fun _ _ _ h => h) (Or.inl ⟨by rfl, ?_⟩) (by assumption) ?_; rotate_left; (focus (intro W hSw; (try dsimp only at hSw); go_simp; (try with_reducible rfl); done)); (try simp only [Act.put, List.setIfInBounds_toArray, List.set_cons_zero, List.set_cons_succ])); (refine wpAnyT_take 6 (v := ?_) rfl (by kernel_rfl) (fun _ _ _ h => h) (Or.inl ⟨by rfl, ?_⟩) (by assumption) ?_; rotate_left; (focus (intro W hSw; (try dsimp only at hSw); go_simp; (try with_reducible rfl); done)); (try simp only [Act.put, List.setIfInBounds_toArray, List.set_cons_zero, List.set_cons_succ])))
              ((refine wpAnyT_one 7 rfl (by kernel_rfl) (fun K hK => ?_); go_simp))
              have HS := keepQ _ ((Ch.refl W9).drew.alloc (.cells #[.int .i64 bd[y].x, .int .i64 bd[y].y] 3))
              ((try dsimp only); refine hK.out _ _ (fun _ => HS) (fun _ => ?_); clear hK K; (try simp only [Act.put, List.setIfInBounds_toArray, List.set_cons_zero, List.set_cons_succ]))
              ((refine wpAnyT_one 8 rfl (by kernel_rfl) (fun K hK => ?_); go_simp))
              go_at_call 50
              refine (one _ _ [bd[y].x, bd[y].y] r (q' + 1) _ (hrd9.drew.alloc _) (by omega) (lit_ints (xs := [bd[y].x, bd[y].y]) (by show r + 1 ≤ W9.heap.size; omega)) (by simp) (by simp)).mono ?_
              rintro e w5 ⟨z, _, rfl, hr5, hc5⟩
              have F5 : Ch (· = r) W9 w5 := Ch.trans (Ch.alloc (Ch.drew (Ch.refl W9)) _) hc5
              have HS := keepQ _ F5
              ((try dsimp only); refine hK.out _ _ (fun _ => HS) (fun _ => ?_); clear hK K; (try simp only [Act.put, List.setIfInBounds_toArray, List.set_cons_zero, List.set_cons_succ]))
              have HS := keepQ _ (F5.alloc (.cells #[.int .i64 z] 3))
              ((refine wpAnyT_one 9 rfl (by kernel_rfl) (fun K hK => ?_); go_simp))
              ((try dsimp only); refine hK.out _ _ (fun _ => HS) (fun _ => ?_); clear hK K; (try simp only [Act.put, List.setIfInBounds_toArray, List.set_cons_zero, List.set_cons_succ]))
              have B5 := HB9.out.ch F5 (by omega)
              have R5 := hid (gown_ch HR9.out F5 hlt)
              have E5 := hid (gown_ch HE9.out F5 hlt)
              have Q5 := hid (HQ9.out.ch F5 (by omega))
              have n1 := own_ne R5.out B5 (by decide)
              have hs5 := F5.size
              ((refine wpAnyT_one 10 rfl (by kernel_rfl) (fun K hK => ?_); go_simp))
              refine upon_appG 23 3 (.int .i64 0) 1 8 Tryz.underlying23 (by kernel_rfl) rfl (by decide) (by decide) w.heap.size VH9 hd.length (hd.map iv) (own_fr R5.out ((Fr.refl _).alloc _)) (by omega) (by simp; omega) w5.heap.size 1 1 [iv z] rfl (by omega) (blk_new (by simp)) rfl ?_
              intro v7 w7 hO7 hg7 _
              obtain ⟨vA, vc, rfl⟩ := own_form hO7
              have B7 := blk_grown (B5.alloc (.cells #[.int .i64 z] 3)) hg7 n1
              obtain ⟨g0', g1', g2', q0, q1, q2⟩ := B7.three
              have hX7 : some ax ≠ VH9.ownBlock := fun e => own_ne R5.out (AX.out.ch F5 hax) (by decide) e
              have HS : w7.cell? ⟨gb, 1, none⟩ = some VH9 ∧ w7.cell? ⟨ax, 1, none⟩ = some (.int .i64 bd[y].x) ∧ w7.cell? ⟨ax, 2, none⟩ = some (.int .i64 bd[y].y) := by
                obtain ⟨_, y1, y2, _⟩ := (blk_grown ((AX.out.ch F5 hax).alloc (.cells #[.int .i64 z] 3)) hg7 hX7).three
                exact ⟨g1', y1, y2⟩
              ((try dsimp only); refine hK.out _ _ (fun _ => HS) (fun _ => ?_); clear hK K; (try simp only [Act.put, List.setIfInBounds_toArray, List.set_cons_zero, List.set_cons_succ]))
              ((refine wpAnyT_take 11 (v := ?_) rfl (by kernel_rfl) (fun _ _ _ h => h) (Or.inl ⟨by rfl, ?_⟩) (by assumption) ?_; rotate_left; (focus (intro W hSw; (try dsimp only at hSw); go_simp; (try with_reducible rfl); done)); (try simp only [Act.put, List.setIfInBounds_toArray, List.set_cons_zero, List.set_cons_succ])))
              ((refine wpAnyT_one 12 rfl (by kernel_rfl) (fun K hK => ?_); go_simp))
              ((try dsimp only); refine hK.out _ _ (fun h => absurd rfl h) (fun _ => ?_); clear hK K; (try simp only [Act.put, List.setIfInBounds_toArray, List.set_cons_zero, List.set_cons_succ]); refine wpAnyT_done (by kernel_rfl) ?_ _)
              have S7 := hid (QSt.head (hd' := hd ++ [z]) (vA := vA) (vc := vc) B5 R5.out E5.out hr5 (hC9.trans F5) Q5.out hlt (by omega) (by rw [List.length_append, List.map_append]; exact hO7) hg7)
              rw [List.length_append] at S7
              clear g0 g1 g2 x0 x1 x2 g0' g1' g2' q0 q1 q2 hO7 hg7 HS B7 B5 R5 E5 Q5 n1 HB HR HE HQ HB9 HR9 HE9 HQ9 keepQ AX
              go_wp2
              go_roundw
              · exact ⟨m - 1, hd ++ [z], by simp; omega, by congr 1; omega, hid ⟨q' + 2, by omega, S7.out⟩⟩
              · (simp [intOf]; omega)
            · go_simp
              have HS := keepQ _ (F4.alloc (.cells #[.int .i64 0, .int .i64 0, .int .i64 0] 63))
              ((try dsimp only); refine hK.out _ _ (fun _ => HS) (fun _ => ?_); clear hK K; (try simp only [Act.put, List.setIfInBounds_toArray, List.set_cons_zero, List.set_cons_succ]))
              replace r0 := ((Fr.refl w4).alloc (.cells #[.int .i64 0, .int .i64 0, .int .i64 0] 63)).cell r0
              replace r1 := ((Fr.refl w4).alloc (.cells #[.int .i64 0, .int .i64 0, .int .i64 0] 63)).cell r1
              replace r2 := ((Fr.refl w4).alloc (.cells #[.int .i64 0, .int .i64 0, .int .i64 0] 63)).cell r2
              ((refine wpAnyT_one 8 rfl (by kernel_rfl) (fun K hK => ?_); go_simp))
              ((try dsimp only); refine hK.out _ _ (fun _ => HS) (fun _ => ?_); clear hK K; (try simp only [Act.put, List.setIfInBounds_toArray, List.set_cons_zero, List.set_cons_succ]))
              ((refine wpAnyT_one 10 rfl (by kernel_rfl) (fun K hK => ?_); go_simp))
              ((try dsimp only); refine hK.out _ _ (fun h => absurd rfl h) (fun _ => ?_); clear hK K; (try simp only [Act.put, List.setIfInBounds_toArray, List.set_cons_zero, List.set_cons_succ]); refine wpAnyT_done (by kernel_rfl) ?_ _)
              go_wp2_with fail
              have F9 : Ch (· = r) wr (w4.alloc (.cells #[.int .i64 bd[y].rel, .int .i64 bd[y].x, .int .i64 bd[y].y] 63)) := F4.alloc _
              have S9 := hid (HGG.out.ch F9 (hr4.alloc _) hlt (by omega))
              have BX := Blk.new w4 63 #[.int .i64 bd[y].rel, .int .i64 bd[y].x, .int .i64 bd[y].y]
              have hax : ¬ (w4.heap.size = r) := by omega
              have AX := hid BX
              have R9 := 0
              generalize (w4.alloc (.cells #[.int .i64 bd[y].rel, .int .i64 bd[y].x, .int .i64 bd[y].y] 63)) = W9 at F9 S9 BX AX ⊢
              generalize w4.heap.size = ax at BX AX hax ⊢
              obtain ⟨VH9, VB9, hB9, hR9, hE9, hrd9, hC9, hQ9⟩ := S9.out
              clear R9 F9 hr4 hc4 F4 HS S4 r0 r1 r2 keepQ HGG
              obtain ⟨g0, g1, g2, _⟩ := hB9.three
              obtain ⟨x0, x1, x2, _⟩ := BX.three
              have hgr9 : ¬ (gb = r) := hgr
              have hs9 := hC9.size
              have HB9 := hid hB9
              have HR9 := hid hR9
              have HE9 := hid hE9
              have HQ9 := hid hQ9
              have hX := BX.lt
              clear hB9 hR9 hE9 hQ9 BX S9 c0 c1 c2 f0 f1 f2
              have keepQ : ∀ W, Ch (· = r) W9 W → W.cell? ⟨gb, 1, none⟩ = some VH9 ∧ W.cell? ⟨ax, 1, none⟩ = some (.int .i64 bd[y].x) ∧ W.cell? ⟨ax, 2, none⟩ = some (.int .i64 bd[y].y) := fun W h => ⟨h.cell hgr9 g1, h.cell hax x1, h.cell hax x2⟩
              refine wp_region_T (fun W => W.cell? ⟨gb, 1, none⟩ = some VH9 ∧ W.cell? ⟨ax, 1, none⟩ = some (.int .i64 bd[y].x) ∧ W.cell? ⟨ax, 2, none⟩ = some (.int .i64 bd[y].y)) 12 (by kernel_rfl) ?_
              have HS := keepQ _ (Ch.refl W9).drew
              ((refine wpAnyT_take 0 (v := ?_) rfl (by kernel_rfl) (fun _ _ _ h => h) (Or.inl ⟨by rfl, ?_⟩) (by assumption) ?_; rotate_left; (focus (intro W hSw; (try dsimp only at hSw); go_simp; (try with_reducible rfl); done)); (try simp only [Act.put, List.setIfInBounds_toArray, List.set_cons_zero, List.set_cons_succ])); (refine wpAnyT_take 1 (v := ?_) rfl (by kernel_rfl) (fun _ _ _ h => h) (Or.inl ⟨by rfl, ?_⟩) (by assumption) ?_; rotate_left; (focus (intro W hSw; (try dsimp only at hSw); go_simp; (try with_reducible rfl); done)); (try simp only [Act.put, List.setIfInBounds_toArray, List.set_cons_zero, List.set_cons_succ])); (refine wpAnyT_take 2 (v := ?_) rfl (by kernel_rfl) (fun _ _ _ h => h) (Or.inl ⟨by rfl, ?_⟩) (by assumption) ?_; rotate_left; (focus (intro W hSw; (try dsimp only at hSw); go_simp; (try with_reducible rfl); done)); (try simp only [Act.put, List.setIfInBounds_toArray, List.set_cons_zero, List.set_cons_succ])); (refine wpAnyT_take 3 (v := ?_) rfl (by kernel_rfl) (fun _ _ _ h => h) (Or.inl ⟨by rfl, ?_⟩) (by assumption) ?_; rotate_left; (focus (intro W hSw; (try dsimp only at hSw); go_simp; (try with_reducible rfl); done)); (try simp only [Act.put, List.setIfInBounds_toArray, List.set_cons_zero, List.set_cons_succ])); (refine wpAnyT_take 4 (v := ?_) rfl (by kernel_rfl) (fun _ _ _ h => h) (Or.inl ⟨by rfl, ?_⟩) (by assumption) ?_; rotate_left; (focus (intro W hSw; (try dsimp only at hSw); go_simp; (try with_reducible rfl); done)); (try simp only [Act.put, List.setIfInBounds_toArray, List.set_cons_zero, List.set_cons_succ])); (refine wpAnyT_take 5 (v := ?_) rfl (by kernel_rfl) (fun _ _ _ h => h) (Or.inl ⟨by rfl, ?_⟩) (by assumption) ?_; rotate_left; (focus (intro W hSw; (try dsimp only at hSw); go_simp; (try with_reducible rfl); done)); (try simp only [Act.put, List.setIfInBounds_toArray, List.set_cons_zero, List.set_cons_succ])); (refine wpAnyT_take 6 (v := ?_) rfl (by kernel_rfl) (fun _ _ _ h => h) (Or.inl ⟨by rfl, ?_⟩) (by assumption) ?_; rotate_left; (focus (intro W hSw; (try dsimp only at hSw); go_simp; (try with_reducible rfl); done)); (try simp only [Act.put, List.setIfInBounds_toArray, List.set_cons_zero, List.set_cons_succ])))
              ((refine wpAnyT_one 7 rfl (by kernel_rfl) (fun K hK => ?_); go_simp))
              have HS := keepQ _ ((Ch.refl W9).drew.alloc (.cells #[.int .i64 bd[y].x, .int .i64 bd[y].y] 3))
              ((try dsimp only); refine hK.out _ _ (fun _ => HS) (fun _ => ?_); clear hK K; (try simp only [Act.put, List.setIfInBounds_toArray, List.set_cons_zero, List.set_cons_succ]))
              ((refine wpAnyT_one 8 rfl (by kernel_rfl) (fun K hK => ?_); go_simp))
              go_at_call 50
              refine (one _ _ [bd[y].x, bd[y].y] r (q' + 1) _ (hrd9.drew.alloc _) (by omega) (lit_ints (xs := [bd[y].x, bd[y].y]) (by show r + 1 ≤ W9.heap.size; omega)) (by simp) (by simp)).mono ?_
              rintro e w5 ⟨z, _, rfl, hr5, hc5⟩
              have F5 : Ch (· = r) W9 w5 := Ch.trans (Ch.alloc (Ch.drew (Ch.refl W9)) _) hc5
              have HS := keepQ _ F5
              ((try dsimp only); refine hK.out _ _ (fun _ => HS) (fun _ => ?_); clear hK K; (try simp only [Act.put, List.setIfInBounds_toArray, List.set_cons_zero, List.set_cons_succ]))
              have HS := keepQ _ (F5.alloc (.cells #[.int .i64 z] 3))
              ((refine wpAnyT_one 9 rfl (by kernel_rfl) (fun K hK => ?_); go_simp))
              ((try dsimp only); refine hK.out _ _ (fun _ => HS) (fun _ => ?_); clear hK K; (try simp only [Act.put, List.setIfInBounds_toArray, List.set_cons_zero, List.set_cons_succ]))
              have B5 := HB9.out.ch F5 (by omega)
              have R5 := hid (gown_ch HR9.out F5 hlt)
              have E5 := hid (gown_ch HE9.out F5 hlt)
              have Q5 := hid (HQ9.out.ch F5 (by omega))
              have n1 := own_ne R5.out B5 (by decide)
              have hs5 := F5.size
              ((refine wpAnyT_one 10 rfl (by kernel_rfl) (fun K hK => ?_); go_simp))
              refine upon_appG 23 3 (.int .i64 0) 1 8 Tryz.underlying23 (by kernel_rfl) rfl (by decide) (by decide) w.heap.size VH9 hd.length (hd.map iv) (own_fr R5.out ((Fr.refl _).alloc _)) (by omega) (by simp; omega) w5.heap.size 1 1 [iv z] rfl (by omega) (blk_new (by simp)) rfl ?_
              intro v7 w7 hO7 hg7 _
              obtain ⟨vA, vc, rfl⟩ := own_form hO7
              have B7 := blk_grown (B5.alloc (.cells #[.int .i64 z] 3)) hg7 n1
              obtain ⟨g0', g1', g2', q0, q1, q2⟩ := B7.three
              have hX7 : some ax ≠ VH9.ownBlock := fun e => own_ne R5.out (AX.out.ch F5 hax) (by decide) e
              have HS : w7.cell? ⟨gb, 1, none⟩ = some VH9 ∧ w7.cell? ⟨ax, 1, none⟩ = some (.int .i64 bd[y].x) ∧ w7.cell? ⟨ax, 2, none⟩ = some (.int .i64 bd[y].y) := by
                obtain ⟨_, y1, y2, _⟩ := (blk_grown ((AX.out.ch F5 hax).alloc (.cells #[.int .i64 z] 3)) hg7 hX7).three
                exact ⟨g1', y1, y2⟩
              ((try dsimp only); refine hK.out _ _ (fun _ => HS) (fun _ => ?_); clear hK K; (try simp only [Act.put, List.setIfInBounds_toArray, List.set_cons_zero, List.set_cons_succ]))
              ((refine wpAnyT_take 11 (v := ?_) rfl (by kernel_rfl) (fun _ _ _ h => h) (Or.inl ⟨by rfl, ?_⟩) (by assumption) ?_; rotate_left; (focus (intro W hSw; (try dsimp only at hSw); go_simp; (try with_reducible rfl); done)); (try simp only [Act.put, List.setIfInBounds_toArray, List.set_cons_zero, List.set_cons_succ])))
              ((refine wpAnyT_one 12 rfl (by kernel_rfl) (fun K hK => ?_); go_simp))
              ((try dsimp only); refine hK.out _ _ (fun h => absurd rfl h) (fun _ => ?_); clear hK K; (try simp only [Act.put, List.setIfInBounds_toArray, List.set_cons_zero, List.set_cons_succ]); refine wpAnyT_done (by kernel_rfl) ?_ _)
              have S7 := hid (QSt.head (hd' := hd ++ [z]) (vA := vA) (vc := vc) B5 R5.out E5.out hr5 (hC9.trans F5) Q5.out hlt (by omega) (by rw [List.length_append, List.map_append]; exact hO7) hg7)
              rw [List.length_append] at S7
              clear g0 g1 g2 x0 x1 x2 g0' g1' g2' q0 q1 q2 hO7 hg7 HS B7 B5 R5 E5 Q5 n1 HB HR HE HQ HB9 HR9 HE9 HQ9 keepQ AX
              go_wp2
              go_roundw
              · exact ⟨m - 1, hd ++ [z], by simp; omega, by congr 1; omega, hid ⟨q' + 2, by omega, S7.out⟩⟩
              · (simp [intOf]; omega)
          · go_simp
            have HS := keepQ _ ((Ch.refl wr).drew.alloc (.cells #[.int .i64 0, .int .i64 0, .int .i64 0] 63))
            ((try dsimp only); refine hK.out _ _ (fun _ => HS) (fun _ => ?_); clear hK K; (try simp only [Act.put, List.setIfInBounds_toArray, List.set_cons_zero, List.set_cons_succ]))
            ((refine wpAnyT_one 6 rfl (by kernel_rfl) (fun K hK => ?_); go_simp))
            go_at_call 48
            refine (pick _ r q' _ (by (repeat (first | with_reducible assumption | with_reducible refine Rdr.alloc ?_ _ | with_reducible refine Rdr.drew ?_ | (with_reducible refine Rdr.set2 ?_ ?_ _; · (simp <;> omega))))) (by omega) (by omega)).mono ?_
            rintro e w4 ⟨y, rfl, hy, hr4, hc4⟩
            have F4 : Ch (· = r) wr w4 := Ch.trans (by (repeat (first | with_reducible exact Ch.refl _ | with_reducible assumption | with_reducible refine Ch.alloc ?_ _ | with_reducible refine Ch.drew ?_ | (with_reducible refine Ch.setNew2 ?_ ?_ _; · (simp <;> omega)) | with_reducible refine Ch.trans ?_ (by assumption)))) hc4
            have hy4 : y < bd.length := by omega
            have hy4' : (y : Int) < (bd.length : Int) := by omega
            have hs4 := F4.size
            obtain ⟨ab', ao', hA, r0, r1, r2⟩ := (own_A (gown_ch HE.out F4 hlt) rfl).atom hy4
            injection hA with hA
            injection hA with hA1 hA2 _
            subst hA1 hA2
            replace r0 := fromB_le _ _ _ _ r0
            replace r1 := fromB_le _ _ _ _ r1
            replace r2 := fromB_le _ _ _ _ r2
            simp only [Nat.zero_add] at r0 r1 r2
            have S4 := HGG.out.ch F4 hr4 hlt (by omega)
            have HS := keepQ _ F4
            ((try dsimp only); refine hK.out _ _ (fun _ => HS) (fun _ => ?_); clear hK K; (try simp only [Act.put, List.setIfInBounds_toArray, List.set_cons_zero, List.set_cons_succ]))
            ((refine wpAnyT_take 7 (v := ?_) rfl (by kernel_rfl) (fun _ _ _ h => h) (Or.inl ⟨by rfl, ?_⟩) (by assumption) ?_; rotate_left; (focus (intro W hSw; (try dsimp only at hSw); go_simp; (try with_reducible rfl); done)); (try simp only [Act.put, List.setIfInBounds_toArray, List.set_cons_zero, List.set_cons_succ])))
            ((refine wpAnyT_one 8 rfl (by kernel_rfl) (fun K hK => ?_); go_simp))
            ((try dsimp only); refine hK.out _ _ (fun _ => HS) (fun _ => ?_); clear hK K; (try simp only [Act.put, List.setIfInBounds_toArray, List.set_cons_zero, List.set_cons_succ]))
            have BZ : Blk w4 wr.heap.size 63 #[.int .i64 0, .int .i64 0, .int .i64 0] := Blk.ch (S := (· = r)) (Blk.new wr.drew 63 #[.int .i64 0, .int .i64 0, .int .i64 0]) hc4 (by show ¬ (wr.heap.size = r); omega)
            obtain ⟨z0, z1, z2, zf0, zf1, zf2⟩ := BZ.three
            ((refine wpAnyT_one 10 rfl (by kernel_rfl) (fun K hK => ?_); go_simp))
            ((try dsimp only); refine hK.out _ _ (fun h => absurd rfl h) (fun _ => ?_); clear hK K; (try simp only [Act.put, List.setIfInBounds_toArray, List.set_cons_zero, List.set_cons_succ]); refine wpAnyT_done (by kernel_rfl) ?_ _)
            go_wp2_with fail
            have F9 : Ch (· = r) wr (((w4.setCell ⟨wr.heap.size, 0, none⟩ (.int .i64 bd[y].rel)).setCell ⟨wr.heap.size, 1, none⟩ (.int .i64 bd[y].x)).setCell ⟨wr.heap.size, 2, none⟩ (.int .i64 bd[y].y)) := ((F4.setNew (Nat.le_refl _) _).setNew (Nat.le_refl _) _).setNew (Nat.le_refl _) _
            have S9 := hid (HGG.out.ch F9 (((hr4.set (by show r < wr.heap.size; omega) _).set (by show r < wr.heap.size; omega) _).set (by show r < wr.heap.size; omega) _) hlt (by omega))
            have BX := ((BZ.set_ 0 (.int .i64 bd[y].rel)).set_ 1 (.int .i64 bd[y].x)).set_ 2 (.int .i64 bd[y].y)
            have hax : ¬ (wr.heap.size = r) := by omega
            have AX := hid BX
            have R9 := 0
            clear BZ z0 z1 z2 zf0 zf1 zf2
            generalize (((w4.setCell ⟨wr.heap.size, 0, none⟩ (.int .i64 bd[y].rel)).setCell ⟨wr.heap.size, 1, none⟩ (.int .i64 bd[y].x)).setCell ⟨wr.heap.size, 2, none⟩ (.int .i64 bd[y].y)) = W9 at F9 S9 BX AX ⊢
            generalize wr.heap.size = ax at BX AX hax ⊢
            obtain ⟨VH9, VB9, hB9, hR9, hE9, hrd9, hC9, hQ9⟩ := S9.out
            clear R9 F9 hr4 hc4 F4 HS S4 r0 r1 r2 keepQ HGG
            obtain ⟨g0, g1, g2, _⟩ := hB9.three
            obtain ⟨x0, x1, x2, _⟩ := BX.three
            have hgr9 : ¬ (gb = r) := hgr
            have hs9 := hC9.size
            have HB9 := hid hB9
            have HR9 := hid hR9
            have HE9 := hid hE9
            have HQ9 := hid hQ9
            have hX := BX.lt
            clear hB9 hR9 hE9 hQ9 BX S9 c0 c1 c2 f0 f1 f2
            have keepQ : ∀ W, Ch (· = r) W9 W → W.cell? ⟨gb, 1, none⟩ = some VH9 ∧ W.cell? ⟨ax, 1, none⟩ = some (.int .i64 bd[y].x) ∧ W.cell? ⟨ax, 2, none⟩ = some (.int .i64 bd[y].y) := fun W h => ⟨h.cell hgr9 g1, h.cell hax x1, h.cell hax x2⟩
            refine wp_region_T (fun W => W.cell? ⟨gb, 1, none⟩ = some VH9 ∧ W.cell? ⟨ax, 1, none⟩ = some (.int .i64 bd[y].x) ∧ W.cell? ⟨ax, 2, none⟩ = some (.int .i64 bd[y].y)) 12 (by kernel_rfl) ?_
            have HS := keepQ _ (Ch.refl W9).drew
            ((refine wpAnyT_take 0 (v := ?_) rfl (by kernel_rfl) (fun _ _ _ h => h) (Or.inl ⟨by rfl, ?_⟩) (by assumption) ?_; rotate_left; (focus (intro W hSw; (try dsimp only at hSw); go_simp; (try with_reducible rfl); done)); (try simp only [Act.put, List.setIfInBounds_toArray, List.set_cons_zero, List.set_cons_succ])); (refine wpAnyT_take 1 (v := ?_) rfl (by kernel_rfl) (fun _ _ _ h => h) (Or.inl ⟨by rfl, ?_⟩) (by assumption) ?_; rotate_left; (focus (intro W hSw; (try dsimp only at hSw); go_simp; (try with_reducible rfl); done)); (try simp only [Act.put, List.setIfInBounds_toArray, List.set_cons_zero, List.set_cons_succ])); (refine wpAnyT_take 2 (v := ?_) rfl (by kernel_rfl) (fun _ _ _ h => h) (Or.inl ⟨by rfl, ?_⟩) (by assumption) ?_; rotate_left; (focus (intro W hSw; (try dsimp only at hSw); go_simp; (try with_reducible rfl); done)); (try simp only [Act.put, List.setIfInBounds_toArray, List.set_cons_zero, List.set_cons_succ])); (refine wpAnyT_take 3 (v := ?_) rfl (by kernel_rfl) (fun _ _ _ h => h) (Or.inl ⟨by rfl, ?_⟩) (by assumption) ?_; rotate_left; (focus (intro W hSw; (try dsimp only at hSw); go_simp; (try with_reducible rfl); done)); (try simp only [Act.put, List.setIfInBounds_toArray, List.set_cons_zero, List.set_cons_succ])); (refine wpAnyT_take 4 (v := ?_) rfl (by kernel_rfl) (fun _ _ _ h => h) (Or.inl ⟨by rfl, ?_⟩) (by assumption) ?_; rotate_left; (focus (intro W hSw; (try dsimp only at hSw); go_simp; (try with_reducible rfl); done)); (try simp only [Act.put, List.setIfInBounds_toArray, List.set_cons_zero, List.set_cons_succ])); (refine wpAnyT_take 5 (v := ?_) rfl (by kernel_rfl) (fun _ _ _ h => h) (Or.inl ⟨by rfl, ?_⟩) (by assumption) ?_; rotate_left; (focus (intro W hSw; (try dsimp only at hSw); go_simp; (try with_reducible rfl); done)); (try simp only [Act.put, List.setIfInBounds_toArray, List.set_cons_zero, List.set_cons_succ])); (refine wpAnyT_take 6 (v := ?_) rfl (by kernel_rfl) (fun _ _ _ h => h) (Or.inl ⟨by rfl, ?_⟩) (by assumption) ?_; rotate_left; (focus (intro W hSw; (try dsimp only at hSw); go_simp; (try with_reducible rfl); done)); (try simp only [Act.put, List.setIfInBounds_toArray, List.set_cons_zero, List.set_cons_succ])))
            ((refine wpAnyT_one 7 rfl (by kernel_rfl) (fun K hK => ?_); go_simp))
            have HS := keepQ _ ((Ch.refl W9).drew.alloc (.cells #[.int .i64 bd[y].x, .int .i64 bd[y].y] 3))
            ((try dsimp only); refine hK.out _ _ (fun _ => HS) (fun _ => ?_); clear hK K; (try simp only [Act.put, List.setIfInBounds_toArray, List.set_cons_zero, List.set_cons_succ]))
            ((refine wpAnyT_one 8 rfl (by kernel_rfl) (fun K hK => ?_); go_simp))
            go_at_call 50
            refine (one _ _ [bd[y].x, bd[y].y] r (q' + 1) _ (hrd9.drew.alloc _) (by omega) (lit_ints (xs := [bd[y].x, bd[y].y]) (by show r + 1 ≤ W9.heap.size; omega)) (by simp) (by simp)).mono ?_
            rintro e w5 ⟨z, _, rfl, hr5, hc5⟩
            have F5 : Ch (· = r) W9 w5 := Ch.trans (Ch.alloc (Ch.drew (Ch.refl W9)) _) hc5
            have HS := keepQ _ F5
            ((try dsimp only); refine hK.out _ _ (fun _ => HS) (fun _ => ?_); clear hK K; (try simp only [Act.put, List.setIfInBounds_toArray, List.set_cons_zero, List.set_cons_succ]))
            have HS := keepQ _ (F5.alloc (.cells #[.int .i64 z] 3))
            ((refine wpAnyT_one 9 rfl (by kernel_rfl) (fun K hK => ?_); go_simp))
            ((try dsimp only); refine hK.out _ _ (fun _ => HS) (fun _ => ?_); clear hK K; (try simp only [Act.put, List.setIfInBounds_toArray, List.set_cons_zero, List.set_cons_succ]))
            have B5 := HB9.out.ch F5 (by omega)
            have R5 := hid (gown_ch HR9.out F5 hlt)
            have E5 := hid (gown_ch HE9.out F5 hlt)
            have Q5 := hid (HQ9.out.ch F5 (by omega))
            have n1 := own_ne R5.out B5 (by decide)
            have hs5 := F5.size
            ((refine wpAnyT_one 10 rfl (by kernel_rfl) (fun K hK => ?_); go_simp))
            refine upon_appG 23 3 (.int .i64 0) 1 8 Tryz.underlying23 (by kernel_rfl) rfl (by decide) (by decide) w.heap.size VH9 hd.length (hd.map iv) (own_fr R5.out ((Fr.refl _).alloc _)) (by omega) (by simp; omega) w5.heap.size 1 1 [iv z] rfl (by omega) (blk_new (by simp)) rfl ?_
            intro v7 w7 hO7 hg7 _
            obtain ⟨vA, vc, rfl⟩ := own_form hO7
            have B7 := blk_grown (B5.alloc (.cells #[.int .i64 z] 3)) hg7 n1
            obtain ⟨g0', g1', g2', q0, q1, q2⟩ := B7.three
            have hX7 : some ax ≠ VH9.ownBlock := fun e => own_ne R5.out (AX.out.ch F5 hax) (by decide) e
            have HS : w7.cell? ⟨gb, 1, none⟩ = some VH9 ∧ w7.cell? ⟨ax, 1, none⟩ = some (.int .i64 bd[y].x) ∧ w7.cell? ⟨ax, 2, none⟩ = some (.int .i64 bd[y].y) := by
              obtain ⟨_, y1, y2, _⟩ := (blk_grown ((AX.out.ch F5 hax).alloc (.cells #[.int .i64 z] 3)) hg7 hX7).three
              exact ⟨g1', y1, y2⟩
            ((try dsimp only); refine hK.out _ _ (fun _ => HS) (fun _ => ?_); clear hK K; (try simp only [Act.put, List.setIfInBounds_toArray, List.set_cons_zero, List.set_cons_succ]))
            ((refine wpAnyT_take 11 (v := ?_) rfl (by kernel_rfl) (fun _ _ _ h => h) (Or.inl ⟨by rfl, ?_⟩) (by assumption) ?_; rotate_left; (focus (intro W hSw; (try dsimp only at hSw); go_simp; (try with_reducible rfl); done)); (try simp only [Act.put, List.setIfInBounds_toArray, List.set_cons_zero, List.set_cons_succ])))
            ((refine wpAnyT_one 12 rfl (by kernel_rfl) (fun K hK => ?_); go_simp))
            ((try dsimp only); refine hK.out _ _ (fun h => absurd rfl h) (fun _ => ?_); clear hK K; (try simp only [Act.put, List.setIfInBounds_toArray, List.set_cons_zero, List.set_cons_succ]); refine wpAnyT_done (by kernel_rfl) ?_ _)
            have S7 := hid (QSt.head (hd' := hd ++ [z]) (vA := vA) (vc := vc) B5 R5.out E5.out hr5 (hC9.trans F5) Q5.out hlt (by omega) (by rw [List.length_append, List.map_append]; exact hO7) hg7)
            rw [List.length_append] at S7
            clear g0 g1 g2 x0 x1 x2 g0' g1' g2' q0 q1 q2 hO7 hg7 HS B7 B5 R5 E5 Q5 n1 HB HR HE HQ HB9 HR9 HE9 HQ9 keepQ AX
            go_wp2
            go_roundw
            · exact ⟨m - 1, hd ++ [z], by simp; omega, by congr 1; omega, hid ⟨q' + 2, by omega, S7.out⟩⟩
            · (simp [intOf]; omega)
        · obtain rfl : m = 0 := by omega
          obtain ⟨A0, a0, A1, a1, hB, hQ, hQ2, hO, hRd, hCh⟩ := hG.fin hlt
          obtain ⟨c0, c1, c2, _⟩ := hB.three
          obtain ⟨b0, b1, b2, f0, f1, f2⟩ := hQ.three
          obtain ⟨u0, u1, u2, _⟩ := hQ2.three
          have HFIN := hid (show QOut w r p (.returned (.agg #[.int .i64 (1 + (v : Int)), .slice A0 hd.length a0, .slice A1 bd.length a1])) (((wr.setCell ⟨w.heap.size, 0, none⟩ (.int .i64 (1 + (v : Int)))).setCell ⟨w.heap.size, 1, none⟩ (.slice A0 hd.length a0)).setCell ⟨w.heap.size, 2, none⟩ (.slice A1 bd.length a1)) from ⟨_, hd, bd, hO, by omega, by omega, by omega, hbd, hbd4, q', by omega, hRd, hCh⟩)
          have hC := hCh.size
          clear hB hQ hQ2 hO hRd hCh hG hS
          go_wp2
          generalize (((wr.setCell ⟨w.heap.size, 0, none⟩ (.int .i64 (1 + (v : Int)))).setCell ⟨w.heap.size, 1, none⟩ (.slice A0 hd.length a0)).setCell ⟨w.heap.size, 2, none⟩ (.slice A1 bd.length a1)) = w9 at HFIN u0 u1 u2 ⊢
          refine bodyPost_ret (v := .agg #[.int .i64 (1 + (v : Int)), .slice A0 hd.length a0, .slice A1 bd.length a1]) (by simp [results, Tryz.results68, go_sem, u0, u1, u2]) rfl ?_
          exact HFIN.out
/- Walks of the generators of conjunctive queries: anyRule. -/
/-- The first cell of a row of atoms written anew. -/
theorem own_rel {w : World} {base n g c : Nat} {b : Atom} {xs : List Atom} {y : Int} (h : w.ownsRow base 63 3 (.slice (some ⟨g, 0, none⟩) n c) n ((b :: xs).flatMap cellsA)) (h0 : 0 < n) :
    (w.setCell ⟨g, 0, none⟩ (.int .i64 y)).ownsRow base 63 3 (.slice (some ⟨g, 0, none⟩) n c) n ((⟨y, b.x, b.y⟩ :: xs).flatMap cellsA) := by
  obtain ⟨hl, h | ⟨g', cap, cur, hv, hg, hh, hnc, hm, hs, ht⟩⟩ := h
  · cases h.1
  · injection hv with hA _ hc
    injection hA with hA
    injection hA with hA _ _
    subst hA hc
    have e1 : (⟨y, b.x, b.y⟩ :: xs : List Atom).flatMap cellsA = ((b :: xs).flatMap cellsA).set 0 (.int .i64 y) := by simp [cellsA]
    refine ⟨by rw [e1, List.length_set]; exact hl, .inr ⟨g, c, cur.setIfInBounds 0 (.int .i64 y), rfl, hg, Blk.set_ (show Blk w g 63 cur from hh) 0 _, hnc, hm, by simpa using hs, ?_⟩⟩
    rw [e1, ← ht, Array.toList_setIfInBounds, List.take_set]
theorem QSt.rel {w0 w4 : World} {r gb p g c : Nat} {q : Int} {hd : List Int} {b : Atom} {xs : List Atom} {VH : Value} {y : Int} (hB : Blk w4 gb 26 #[.int .i64 q, VH, .slice (some ⟨g, 0, none⟩) (b :: xs).length c]) (hR : w4.ownsRow w0.heap.size 3 1 VH hd.length (hd.map iv))
    (hE : w4.ownsRow w0.heap.size 63 3 (.slice (some ⟨g, 0, none⟩) (b :: xs).length c) (b :: xs).length ((b :: xs).flatMap cellsA)) (hr : Rdr w4 r p) (hC : Ch (· = r) w0 w4) (hQ : Blk w4 w0.heap.size 26 #[.int .i64 0, .slice none 0 0, .slice none 0 0]) (hlt : r < w0.heap.size) :
    QSt w0 r gb p (w4.setCell ⟨g, 0, none⟩ (.int .i64 y)) q hd (⟨y, b.x, b.y⟩ :: xs) := by
  have hg := (hE.lt g rfl).1
  have n1 : gb ≠ g := fun e => own_ne hE hB (by decide) (by rw [e]; rfl)
  have n2 : w0.heap.size ≠ g := fun e => own_ne hE hQ (by decide) (by rw [e]; rfl)
  have n3 : some g ≠ VH.ownBlock := by
    rcases own_ne2 hE hR (by decide) with h | h
    · rw [h]; simp
    · exact fun e => h e.symm
  exact ⟨VH, _, hB.far (by show gb ≠ g; exact n1) _, own_set hR n3, own_rel hE (by simp), hr.set (by show r < g; omega) _, hC.setNew (by show w0.heap.size ≤ g; omega) _, hQ.far (by show w0.heap.size ≠ g; exact n2) _⟩
/-- The end of anyRule. -/
theorem qst_end {w0 w : World} {r gb p q' : Nat} {q : Int} {hd : List Int} {bd : List Atom} (h : QSt w0 r gb q' w q hd bd) (hlt : r < w0.heap.size) (hq' : q' ≤ p + 40) (h0 : 0 ≤ q) (h4 : q ≤ 4 ∨ q = 7) (h1 : hd.length ≤ 3) (h2 : bd.length ≤ 4) :
    ∃ A0 c0 A1 c1, Blk w gb 26 #[.int .i64 q, .slice A0 hd.length c0, .slice A1 bd.length c1] ∧ Blk w w0.heap.size 26 #[.int .i64 0, .slice none 0 0, .slice none 0 0] ∧
      Blk (((w.setCell ⟨w0.heap.size, 0, none⟩ (.int .i64 q)).setCell ⟨w0.heap.size, 1, none⟩ (.slice A0 hd.length c0)).setCell ⟨w0.heap.size, 2, none⟩ (.slice A1 bd.length c1)) w0.heap.size 26 #[.int .i64 q, .slice A0 hd.length c0, .slice A1 bd.length c1] ∧
      QAny w0 r p (.returned (.agg #[.int .i64 q, .slice A0 hd.length c0, .slice A1 bd.length c1])) (((w.setCell ⟨w0.heap.size, 0, none⟩ (.int .i64 q)).setCell ⟨w0.heap.size, 1, none⟩ (.slice A0 hd.length c0)).setCell ⟨w0.heap.size, 2, none⟩ (.slice A1 bd.length c1)) := by
  obtain ⟨A0, c0, A1, c1, k1, k2, k3, k4, k5, k6⟩ := h.fin hlt
  exact ⟨A0, c0, A1, c1, k1, k2, k3, q, hd, bd, k4, h0, h4, h1, h2, q', by omega, k5, k6⟩
theorem qst_fin {w0 w : World} {r gb p q' m n : Nat} {q : Int} {hd : List Int} {bd : List Atom} {A0 A1 : Option Addr} {c0 c1 : Nat} (h : QSt w0 r gb q' w q hd bd) (hB : Blk w gb 26 #[.int .i64 q, .slice A0 m c0, .slice A1 n c1]) (hm : hd.length = m) (hn : bd.length = n) (hlt : r < w0.heap.size) (hq' : q' ≤ p + 40) (h0 : 0 ≤ q) (h4 : q ≤ 4 ∨ q = 7) (h1 : hd.length ≤ 3) (h2 : bd.length ≤ 4) :
    Blk (((w.setCell ⟨w0.heap.size, 0, none⟩ (.int .i64 q)).setCell ⟨w0.heap.size, 1, none⟩ (.slice A0 m c0)).setCell ⟨w0.heap.size, 2, none⟩ (.slice A1 n c1)) w0.heap.size 26 #[.int .i64 q, .slice A0 m c0, .slice A1 n c1] ∧
      QAny w0 r p (.returned (.agg #[.int .i64 q, .slice A0 m c0, .slice A1 n c1])) (((w.setCell ⟨w0.heap.size, 0, none⟩ (.int .i64 q)).setCell ⟨w0.heap.size, 1, none⟩ (.slice A0 m c0)).setCell ⟨w0.heap.size, 2, none⟩ (.slice A1 n c1)) := by
  obtain ⟨B0, d0, B1, d1, k1, _, k3, k4⟩ := qst_end (p := p) h hlt hq' h0 h4 h1 h2
  unfold Blk at k1 hB
  rw [hB] at k1
  injection k1 with k1
  injection k1 with k1 _ _
  injection k1 with k1
  injection k1 with _ k1
  injection k1 with e0 k1
  injection k1 with e1 _
  rw [← e0, ← e1] at k3 k4
  exact ⟨k3, k4⟩
theorem QSt.vars {w0 w : World} {r gb p : Nat} {q y : Int} {hd : List Int} {bd : List Atom} (h : QSt w0 r gb p w q hd bd) (hlt : r < w0.heap.size) (hgb : w0.heap.size < gb) : QSt w0 r gb p (w.setCell ⟨gb, 0, none⟩ (.int .i64 y)) y hd bd := by
  obtain ⟨VH, VB, hB, hR, hE, hr, hC, hQ⟩ := h
  exact ⟨VH, VB, hB.set_ 0 _, own_set hR (own_ne hR hB (by decide)), own_set hE (own_ne hE hB (by decide)), hr.set (by show r < gb; omega) _, hC.setNew (Nat.le_of_lt hgb) _, hQ.far (by show w0.heap.size ≠ gb; omega) _⟩
/-- The body taken away. -/
theorem QSt.bare {w0 w : World} {r gb p : Nat} {q : Int} {hd : List Int} {bd : List Atom} (h : QSt w0 r gb p w q hd bd) (hlt : r < w0.heap.size) (hgb : w0.heap.size < gb) : QSt w0 r gb p ((w.alloc (.cells #[] 63)).setCell ⟨gb, 2, none⟩ (.slice (some ⟨w.heap.size, 0, none⟩) 0 0)) q hd [] := by
  obtain ⟨VH, VB, hB, hR, hE, hr, hC, hQ⟩ := h
  have hs := hC.size
  have hN : (w.alloc (.cells #[] 63)).ownsRow w0.heap.size 63 3 (.slice (some ⟨w.heap.size, 0, none⟩) 0 0) 0 [] := own_nilB (Blk.new w _ _) (by omega)
  have hBa := hB.alloc (.cells #[] 63)
  have hRa := own_fr hR ((Fr.refl w).alloc (.cells #[] 63))
  exact ⟨VH, _, hBa.set_ 2 _, own_set hRa (own_ne hRa hBa (by decide)), own_set hN (own_ne hN hBa (by decide)), (hr.alloc _).set (by show r < gb; omega) _, (hC.alloc _).setNew (Nat.le_of_lt hgb) _, (hQ.alloc _).far (by show w0.heap.size ≠ gb; omega) _⟩
set_option maxRecDepth 100000 in
set_option maxHeartbeats 4000000 in
theorem anyRule (r p : Nat) (w : World) (hr : Rdr w r p) (hp : p ≤ 900000) :
    Calls Tryz.prog 39 #[.pointer (some ⟨r, 0, none⟩)] w (QAny w r p) := by
  have hlt := hr.lt
  have BQ := hid (Blk.new w 26 #[.int .i64 0, .slice none 0 0, .slice none 0 0])
  go_enter Tryz.func39, Tryz.ntmps39
  go_wp2_with fail
  refine (randomRule r p _ (hr.alloc _) (by omega)).mono ?_
  rintro e w1 ⟨q, hd, bd, ⟨A0, a0, A1, a1, rfl, hR, hE⟩, hq1, hq4, hl1, hl2, hl3, q', hq', hr1, hc1⟩
  rw [World.size_alloc] at hR hE
  have hC1 : Ch (· = r) w w1 := ((Ch.refl w).alloc _).trans hc1
  have BQ1 := BQ.out.ch hc1 (by omega)
  have hs1 := BQ1.lt
  have S1 := hid (show QSt w r w1.heap.size q' (w1.alloc (.cells #[.int .i64 q, .slice A0 hd.length a0, .slice A1 bd.length a1] 26)) q hd bd from ⟨_, _, Blk.new w1 _ _, own_base (own_fr hR ((Fr.refl _).alloc _)) (by omega), own_base (own_fr hE ((Fr.refl _).alloc _)) (by omega), hr1.alloc _, hC1.alloc _, BQ1.alloc _⟩)
  obtain ⟨gb, hgb⟩ : ∃ gb, w1.heap.size = gb := ⟨_, rfl⟩
  rw [hgb] at hs1
  clear hr1 hc1 BQ BQ1 hC1 hR hE
  go_wp2_with fail
  refine absW fun W2 hW2 => ?_
  rw [← hW2, hgb] at S1
  clear hW2
  refine (pick _ r _ _ S1.out.rdr (by omega) (by omega)).mono ?_
  rintro e w2 ⟨v, rfl, _, hr2, hc2⟩
  have S2 := hid (S1.out.ch hc2 hr2 hlt (by omega))
  clear S1 hr2 hc2 hgb
  cases e0 : ((v : Int) == 0)
  · cases e1 : ((v : Int) == 1)
    · cases e2 : ((v : Int) == 2)
      · cases e3 : ((v : Int) == 3)
        · obtain ⟨B0, b0, B1, b1, hB, hQ, hQ2, hres⟩ := qst_end (p := p) S2.out hlt (by omega) (by omega) (.inl hq4) (by omega) (by omega)
          obtain ⟨c0, c1, c2, _⟩ := hB.three
          obtain ⟨d0, d1, d2, f0, f1, f2⟩ := hQ.three
          obtain ⟨u0, u1, u2, _⟩ := hQ2.three
          have HFIN := hid hres
          clear hB hQ hQ2 hres S2
          go_wp2
          skip
          generalize (((w2.setCell ⟨w.heap.size, 0, none⟩ (.int .i64 q)).setCell ⟨w.heap.size, 1, none⟩ (.slice B0 hd.length b0)).setCell ⟨w.heap.size, 2, none⟩ (.slice B1 bd.length b1)) = w9 at HFIN u0 u1 u2 ⊢
          exact bodyPost_ret (v := .agg #[.int .i64 q, .slice B0 hd.length b0, .slice B1 bd.length b1]) (by simp [results, Tryz.results39, go_sem, u0, u1, u2]) rfl HFIN.out
        · obtain ⟨VH, VB, hB, hR, hE, hrd, hC, hQ⟩ := S2.out
          obtain ⟨B0, b0, rfl⟩ := own_form hR
          obtain ⟨B1, b1, rfl⟩ := own_form hE
          obtain ⟨c0, c1, c2, cf0, cf1, cf2⟩ := hB.three
          obtain ⟨d0, d1, d2, f0, f1, f2⟩ := hQ.three
          have hgl := hB.lt
          have hne1 : ¬ (gb = w.heap.size) := by omega
          have hne2 : ¬ (w.heap.size = gb) := by omega
          have hwl := hQ.lt
          have hsz := hC.size
          have FIN := qst_fin (p := p) (S2.out.bare hlt (by omega)) ((hB.alloc (.cells #[] 63)).set_ 2 _) rfl rfl hlt (by omega) (by omega) (.inl hq4) (by omega) (by simp)
          simp only [World.setCell_alloc_past, World.size_setCell, hgl, hwl] at FIN
          have HFIN := hid FIN
          clear FIN S2 hB hR hE hQ hrd
          go_wp2
          obtain ⟨u0, u1, u2, _⟩ := HFIN.out.1.three
          generalize (((((w2.setCell ⟨gb, 2, none⟩ (.slice (some ⟨w2.heap.size, 0, none⟩) 0 0)).setCell ⟨w.heap.size, 0, none⟩ (.int .i64 q)).setCell ⟨w.heap.size, 1, none⟩ (.slice B0 hd.length b0)).setCell ⟨w.heap.size, 2, none⟩ (.slice (some ⟨w2.heap.size, 0, none⟩) 0 0)).alloc (.cells #[] 63)) = w9 at HFIN u0 u1 u2 ⊢
          exact bodyPost_ret (v := .agg #[.int .i64 q, .slice B0 hd.length b0, .slice (some ⟨w2.heap.size, 0, none⟩) 0 0]) (by simp [results, Tryz.results39, go_sem, u0, u1, u2]) rfl HFIN.out.2
      · obtain ⟨VH, VB, hB, hR, hE, hrd, hC, hQ⟩ := S2.out
        obtain ⟨B0, b0, rfl⟩ := own_form hR
        obtain ⟨b, xs, rfl⟩ : ∃ b xs, bd = b :: xs := by
          cases bd with
          | nil => simp at hl2
          | cons b xs => exact ⟨b, xs, rfl⟩
        obtain ⟨c, ab, rfl, g0, gf0, hab⟩ : ∃ c ab, VB = .slice (some ⟨ab, 0, none⟩) (b :: xs).length c ∧ w2.cell? ⟨ab, 0, none⟩ = some (.int .i64 b.rel) ∧ w2.frozen? ⟨ab, 0, none⟩ = false ∧ w.heap.size ≤ ab := by
          obtain ⟨B1, b1, rfl⟩ := own_form hE
          obtain ⟨ab, ao, hA, r0, _⟩ := (own_A hE rfl).atom (k := 0) (by simp)
          subst hA
          rcases hE.2 with ⟨h, _⟩ | ⟨g, cap, cur, hv, hg, hh, _⟩
          · cases h
          · injection hv with hA _ hc
            injection hA with hA
            injection hA with hA1 hA2 _
            subst hA1 hA2 hc
            have r0' := fromB_le _ _ _ _ r0
            simp only [Nat.zero_mul, Nat.zero_add, List.getElem_cons_zero] at r0'
            exact ⟨_, _, rfl, r0', (show Blk w2 _ 63 cur from hh).frozen 0, hg⟩
        obtain ⟨c0, c1, c2, cf0, cf1, cf2⟩ := hB.three
        obtain ⟨d0, d1, d2, f0, f1, f2⟩ := hQ.three
        have hgl := hB.lt
        have hne1 : ¬ (gb = w.heap.size) := by omega
        have hne2 : ¬ (w.heap.size = gb) := by omega
        have hwl := hQ.lt
        have hsz := hC.size
        have n1 : ¬ (gb = ab) := fun e => own_ne hE hB (by decide) (by rw [e]; rfl)
        have n1' : ¬ (ab = gb) := fun e => n1 e.symm
        have n2 : ¬ (w.heap.size = ab) := fun e => own_ne hE hQ (by decide) (by rw [e]; rfl)
        have n2' : ¬ (ab = w.heap.size) := fun e => n2 e.symm
        have FIN := qst_fin (p := p) (QSt.rel (y := 4) hB hR hE hrd hC hQ hlt) (hB.far (by exact n1) _) rfl rfl hlt (by omega) (by omega) (.inl hq4) (by omega) (by simpa using hl3)
        obtain ⟨n, hn⟩ : ∃ n, (b :: xs).length = n := ⟨_, rfl⟩
        have hn0 : (0 : Int) < (n : Int) := by rw [← hn]; simp
        have hn0' : 0 < n := by omega
        rw [hn] at FIN
        rw [hn] at c2
        have HFIN := hid FIN
        clear FIN S2 hB hR hE hQ hrd hl2 hl3
        go_wp2
        obtain ⟨u0, u1, u2, _⟩ := HFIN.out.1.three
        generalize ((((w2.setCell ⟨ab, 0, none⟩ (.int .i64 4)).setCell ⟨w.heap.size, 0, none⟩ (.int .i64 q)).setCell ⟨w.heap.size, 1, none⟩ (.slice B0 hd.length b0)).setCell ⟨w.heap.size, 2, none⟩ (.slice (some ⟨ab, 0, none⟩) n c)) = w9 at HFIN u0 u1 u2 ⊢
        exact bodyPost_ret (v := .agg #[.int .i64 q, .slice B0 hd.length b0, .slice (some ⟨ab, 0, none⟩) n c]) (by simp [results, Tryz.results39, go_sem, u0, u1, u2]) rfl HFIN.out.2
    · obtain ⟨VH, VB, hB, hR, hE, hrd, hC, hQ⟩ := S2.out
      obtain ⟨B1, b1, rfl⟩ := own_form hE
      obtain ⟨c0, c1, c2, cf0, cf1, cf2⟩ := hB.three
      have hgr : ¬ (gb = r) := by omega
      have hsz := hC.size
      have HB := hid hB
      have HR := hid hR
      have HE := hid hE
      have HQ := hid hQ
      clear hB hR hE hQ S2
      have keepQ : ∀ W, Ch (· = r) w2 W → W.cell? ⟨gb, 1, none⟩ = some VH := fun W h => h.cell hgr c1
      go_wp2_with fail
      refine wp_region_T (fun W => W.cell? ⟨gb, 1, none⟩ = some VH) 8 (by kernel_rfl) ?_
      have HS := keepQ _ (Ch.refl w2).drew
      ((refine wpAnyT_take 0 (v := ?_) rfl (by kernel_rfl) (fun _ _ _ h => h) (Or.inl ⟨by rfl, ?_⟩) (by assumption) ?_; rotate_left; (focus (intro W hSw; (try dsimp only at hSw); go_simp; (try with_reducible rfl); done)); (try simp only [Act.put, List.setIfInBounds_toArray, List.set_cons_zero, List.set_cons_succ])); (refine wpAnyT_take 1 (v := ?_) rfl (by kernel_rfl) (fun _ _ _ h => h) (Or.inl ⟨by rfl, ?_⟩) (by assumption) ?_; rotate_left; (focus (intro W hSw; (try dsimp only at hSw); go_simp; (try with_reducible rfl); done)); (try simp only [Act.put, List.setIfInBounds_toArray, List.set_cons_zero, List.set_cons_succ])); (refine wpAnyT_take 2 (v := ?_) rfl (by kernel_rfl) (fun _ _ _ h => h) (Or.inl ⟨by rfl, ?_⟩) (by assumption) ?_; rotate_left; (focus (intro W hSw; (try dsimp only at hSw); go_simp; (try with_reducible rfl); done)); (try simp only [Act.put, List.setIfInBounds_toArray, List.set_cons_zero, List.set_cons_succ])))
      have HS := keepQ _ ((Ch.refl w2).drew.alloc (.cells #[.int .i64 (-1), .int .i64 5] 3))
      ((refine wpAnyT_one 3 rfl (by kernel_rfl) (fun K hK => ?_); go_simp))
      ((try dsimp only); refine hK.out _ _ (fun _ => HS) (fun _ => ?_); clear hK K; (try simp only [Act.put, List.setIfInBounds_toArray, List.set_cons_zero, List.set_cons_succ]))
      ((refine wpAnyT_one 4 rfl (by kernel_rfl) (fun K hK => ?_); go_simp))
      go_at_call 50
      refine (one _ _ [-1, 5] r (q' + 1) _ (hrd.drew.alloc _) (by omega) (lit_ints (xs := [-1, 5]) (by show r + 1 ≤ w2.heap.size; omega)) (by simp) (by simp)).mono ?_
      rintro e w5 ⟨z, _, rfl, hr5, hc5⟩
      have F5 : Ch (· = r) w2 w5 := Ch.trans (Ch.alloc (Ch.drew (Ch.refl w2)) _) hc5
      have HS := keepQ _ F5
      ((try dsimp only); refine hK.out _ _ (fun _ => HS) (fun _ => ?_); clear hK K; (try simp only [Act.put, List.setIfInBounds_toArray, List.set_cons_zero, List.set_cons_succ]))
      have HS := keepQ _ (F5.alloc (.cells #[.int .i64 z] 3))
      ((refine wpAnyT_one 5 rfl (by kernel_rfl) (fun K hK => ?_); go_simp))
      ((try dsimp only); refine hK.out _ _ (fun _ => HS) (fun _ => ?_); clear hK K; (try simp only [Act.put, List.setIfInBounds_toArray, List.set_cons_zero, List.set_cons_succ]))
      have B5 := HB.out.ch F5 (by omega)
      have R5 := hid (gown_ch HR.out F5 hlt)
      have E5 := hid (gown_ch HE.out F5 hlt)
      have Q5 := HQ.out.ch F5 (by omega)
      have n1 := own_ne R5.out B5 (by decide)
      have n2 := own_ne R5.out Q5 (by decide)
      have hs5 := F5.size
      ((refine wpAnyT_one 6 rfl (by kernel_rfl) (fun K hK => ?_); go_simp))
      refine upon_appG 23 3 (.int .i64 0) 1 8 Tryz.underlying23 (by kernel_rfl) rfl (by decide) (by decide) w.heap.size VH hd.length (hd.map iv) (own_fr R5.out ((Fr.refl _).alloc _)) (by omega) (by simp; omega) w5.heap.size 1 1 [iv z] rfl (by omega) (blk_new (by simp)) rfl ?_
      intro v7 w7 hO7 hg7 _
      obtain ⟨vA, vc, rfl⟩ := own_form hO7
      have B7 := blk_grown (B5.alloc (.cells #[.int .i64 z] 3)) hg7 n1
      obtain ⟨g0, g1, g2, q0, q1, q2⟩ := B7.three
      have HS : w7.cell? ⟨gb, 1, none⟩ = some VH := g1
      ((try dsimp only); refine hK.out _ _ (fun _ => HS) (fun _ => ?_); clear hK K; (try simp only [Act.put, List.setIfInBounds_toArray, List.set_cons_zero, List.set_cons_succ]))
      ((refine wpAnyT_take 7 (v := ?_) rfl (by kernel_rfl) (fun _ _ _ h => h) (Or.inl ⟨by rfl, ?_⟩) (by assumption) ?_; rotate_left; (focus (intro W hSw; (try dsimp only at hSw); go_simp; (try with_reducible rfl); done)); (try simp only [Act.put, List.setIfInBounds_toArray, List.set_cons_zero, List.set_cons_succ])))
      ((refine wpAnyT_one 8 rfl (by kernel_rfl) (fun K hK => ?_); go_simp))
      ((try dsimp only); refine hK.out _ _ (fun h => absurd rfl h) (fun _ => ?_); clear hK K; (try simp only [Act.put, List.setIfInBounds_toArray, List.set_cons_zero, List.set_cons_succ]); refine wpAnyT_done (by kernel_rfl) ?_ _)
      have S7 := QSt.head (hd' := hd ++ [z]) (vA := vA) (vc := vc) B5 R5.out E5.out hr5 (hC.trans F5) Q5 hlt (by omega) (by rw [List.length_append, List.map_append]; exact hO7) hg7
      rw [List.length_append] at S7
      have FIN := qst_fin (p := p) S7 (B7.set_ 1 _) (by rw [List.length_append]) rfl hlt (by omega) (by omega) (.inl hq4) (by simp; omega) (by omega)
      simp only [List.length_cons, List.length_nil, Nat.zero_add] at FIN
      have Q7 := blk_grown (Q5.alloc (.cells #[.int .i64 z] 3)) hg7 n2
      obtain ⟨d0, d1, d2, f0, f1, f2⟩ := Q7.three
      have hne1 : ¬ (gb = w.heap.size) := by omega
      have hne2 : ¬ (w.heap.size = gb) := by omega
      have hwl := Q7.lt
      have hgl := B7.lt
      have HFIN := hid FIN
      clear FIN S7 B7 Q7 B5 R5 E5 Q5 n1 n2 HS hO7 hg7 HB HR HE HQ keepQ c0 c1 c2 cf0 cf1 cf2 hr5 hc5 F5
      go_wp2
      obtain ⟨u0, u1, u2, _⟩ := HFIN.out.1.three
      generalize ((((w7.setCell ⟨gb, 1, none⟩ (.slice vA (hd.length + 1) vc)).setCell ⟨w.heap.size, 0, none⟩ (.int .i64 q)).setCell ⟨w.heap.size, 1, none⟩ (.slice vA (hd.length + 1) vc)).setCell ⟨w.heap.size, 2, none⟩ (.slice B1 bd.length b1)) = w9 at HFIN u0 u1 u2 ⊢
      exact bodyPost_ret (v := .agg #[.int .i64 q, .slice vA (hd.length + 1) vc, .slice B1 bd.length b1]) (by simp [results, Tryz.results39, go_sem, u0, u1, u2]) rfl HFIN.out.2
  · obtain ⟨VH, VB, hB, hR, hE, hrd, hC, hQ⟩ := S2.out
    obtain ⟨B0, b0, rfl⟩ := own_form hR
    obtain ⟨B1, b1, rfl⟩ := own_form hE
    obtain ⟨c0, c1, c2, cf0, cf1, cf2⟩ := hB.three
    obtain ⟨d0, d1, d2, f0, f1, f2⟩ := hQ.three
    have hgl := hB.lt
    have hne1 : ¬ (gb = w.heap.size) := by omega
    have hne2 : ¬ (w.heap.size = gb) := by omega
    have hwl := hQ.lt
    have hsz := hC.size
    have HB := hid hB
    have HS2 := S2
    clear S2 hB hR hE hQ
    go_wp2_with fail
    go_at_call 50
    refine (one _ _ [0, 7] r (q' + 1) _ (hrd.alloc _) (by omega) (lit_ints (xs := [0, 7]) (by omega)) (by simp) (by simp)).mono ?_
    rintro e w4 ⟨z, hz, rfl, hr4, hc4⟩
    have F4 : Ch (· = r) w2 w4 := ((Ch.refl w2).alloc _).trans hc4
    have S4 := HS2.out.ch F4 hr4 hlt (by omega)
    have B4 := HB.out.ch F4 (by omega)
    obtain ⟨g0, g1, g2, gf0, gf1, gf2⟩ := B4.three
    obtain ⟨_, _, _, _, _, _, hC4, hQ4⟩ := S4
    obtain ⟨i0, i1, i2, if0, if1, if2⟩ := hQ4.three
    have hgl4 := B4.lt
    have hsz4 := F4.size
    have hz7 : 0 ≤ z ∧ (z ≤ 4 ∨ z = 7) := by
      simp only [List.mem_cons, List.not_mem_nil, or_false] at hz
      omega
    have FIN := qst_fin (p := p) ((HS2.out.ch F4 hr4 hlt (by omega)).vars (y := z) hlt (by omega)) (B4.set_ 0 _) rfl rfl hlt (by omega) hz7.1 hz7.2 (by omega) (by omega)
    have HFIN := hid FIN
    clear FIN B4 hQ4 hC4 c0 c1 c2 cf0 cf1 cf2 d0 d1 d2 f0 f1 f2 hz
    go_wp2
    obtain ⟨u0, u1, u2, _⟩ := HFIN.out.1.three
    generalize ((((w4.setCell ⟨gb, 0, none⟩ (.int .i64 z)).setCell ⟨w.heap.size, 0, none⟩ (.int .i64 z)).setCell ⟨w.heap.size, 1, none⟩ (.slice B0 hd.length b0)).setCell ⟨w.heap.size, 2, none⟩ (.slice B1 bd.length b1)) = w9 at HFIN u0 u1 u2 ⊢
    exact bodyPost_ret (v := .agg #[.int .i64 z, .slice B0 hd.length b0, .slice B1 bd.length b1]) (by simp [results, Tryz.results39, go_sem, u0, u1, u2]) rfl HFIN.out.2
/- Walks of the generators of conjunctive queries: what the laws draw. -/
/-- A query stored into a result's block. -/
theorem rul_store {w : World} {base base' g : Nat} {q : Int} {hd : List Int} {bd : List Atom} {A0 A1 : Option Addr} {c0 c1 : Nat} {a b c : Value} (hR : w.ownsRow base 3 1 (.slice A0 hd.length c0) hd.length (hd.map iv)) (hE : w.ownsRow base 63 3 (.slice A1 bd.length c1) bd.length (bd.flatMap cellsA)) (hQ : Blk w g 26 #[a, b, c]) (hb : base' ≤ base) :
    Blk (((w.setCell ⟨g, 0, none⟩ (.int .i64 q)).setCell ⟨g, 1, none⟩ (.slice A0 hd.length c0)).setCell ⟨g, 2, none⟩ (.slice A1 bd.length c1)) g 26 #[.int .i64 q, .slice A0 hd.length c0, .slice A1 bd.length c1] ∧
      RulOut base' q hd bd (.returned (.agg #[.int .i64 q, .slice A0 hd.length c0, .slice A1 bd.length c1])) (((w.setCell ⟨g, 0, none⟩ (.int .i64 q)).setCell ⟨g, 1, none⟩ (.slice A0 hd.length c0)).setCell ⟨g, 2, none⟩ (.slice A1 bd.length c1)) := by
  have n0 := own_ne hR hQ (by decide)
  have n1 := own_ne hE hQ (by decide)
  exact ⟨((hQ.set_ 0 _).set_ 1 _).set_ 2 _, A0, c0, A1, c1, rfl, own_base (own_set (own_set (own_set hR n0) n0) n0) hb, own_base (own_set (own_set (own_set hE n1) n1) n1) hb⟩
/-- One query, drawn anew. -/
def QDrawn (w0 : World) (e : Ending) (w : World) : Prop := ∃ q hd bd, RulOut w0.heap.size q hd bd e w ∧ 0 ≤ q ∧ (q ≤ 4 ∨ q = 7) ∧ hd.length ≤ 3 ∧ bd.length ≤ 4 ∧ Fr w0 w
end Go.Proofs.YtahclhldpcboeaaGreatDoor
