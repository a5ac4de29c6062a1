/- The program's copy of a plan in plain words: the list of parts that are still to be copied, what a part is when it is done. -/
import Derived.Test.YtlmiadeaiiehaaaPlU
namespace Go.Proofs.Ytlmiadeaiiehaaa
open Go Go.RowKit

theorem Blk.same {w : World} {g : Nat} {t t' : TypeId} {cs cs' : Array Value} (h : Blk w g t cs) (h' : Blk w g t' cs') : t = t' ∧ cs = cs' := by
  have := h.symm.trans h'
  injection this with this
  injection this with h1 h2 _
  exact ⟨h2, h1⟩
/-- A block that is no row of pointers to plans. -/
def Gd (W : World) (k : Nat) : Prop := ∃ t cs, t ≠ (71 : TypeId) ∧ Blk W k t cs
theorem Gd.lt {W : World} {k : Nat} (h : Gd W k) : k < W.heap.size := by obtain ⟨_, _, _, hB⟩ := h; exact hB.lt
/-- All blocks but b and rows of pointers stand. -/
def KeepX (b : Nat) (W W' : World) : Prop := ∀ k t cs, k ≠ b → t ≠ (71 : TypeId) → Blk W k t cs → Blk W' k t cs
theorem KeepX.trans {b : Nat} {A B C : World} (h : KeepX b A B) (k : KeepX b B C) : KeepX b A C := fun i t cs hi ht hB => k i t cs hi ht (h i t cs hi ht hB)
theorem Ch.keepX {b : Nat} {W W' : World} (h : Ch (· = b) W W') : KeepX b W W' := fun k _ _ hk _ hB => (h.block k hB.lt hk).trans hB
theorem KeepX.keepA {b : Nat} {W W' : World} (h : KeepX b W W') {S : Nat → Prop} (hS : ∀ k, S k → Gd W k ∧ k ≠ b) : KeepA S W W' := fun k t cs hk hB => by
  obtain ⟨⟨t', cs', ht, hB'⟩, hb⟩ := hS k hk
  obtain ⟨rfl, rfl⟩ := hB.same hB'
  exact h k _ _ hb ht hB
theorem KeepX.gd {b k : Nat} {W W' : World} (h : KeepX b W W') (hk : k ≠ b) (hg : Gd W k) : Gd W' k := by
  obtain ⟨t, cs, ht, hB⟩ := hg
  exact ⟨t, cs, ht, h k t cs hk ht hB⟩
/-- All blocks but rows of pointers stand. -/
def KeepQ (W W' : World) : Prop := ∀ k t cs, t ≠ (71 : TypeId) → Blk W k t cs → Blk W' k t cs
theorem KeepQ.refl (W : World) : KeepQ W W := fun _ _ _ _ h => h
theorem KeepQ.trans {A B C : World} (h : KeepQ A B) (k : KeepQ B C) : KeepQ A C := fun i t cs ht hB => k i t cs ht (h i t cs ht hB)
theorem Fr.keepQ {W W' : World} (h : Fr W W') : KeepQ W W' := fun _ _ _ _ hB => hB.fr h
theorem KeepQ.keepX {b : Nat} {W W' : World} (h : KeepQ W W') : KeepX b W W' := fun k t cs _ ht hB => h k t cs ht hB
theorem KeepQ.keepA {W W' : World} (h : KeepQ W W') {S : Nat → Prop} (hS : ∀ k, S k → Gd W k) : KeepA S W W' := fun k t cs hk hB => by
  obtain ⟨t', cs', ht, hB'⟩ := hS k hk
  obtain ⟨rfl, rfl⟩ := hB.same hB'
  exact h k _ _ ht hB
theorem KeepQ.gd {k : Nat} {W W' : World} (h : KeepQ W W') (hg : Gd W k) : Gd W' k := by
  obtain ⟨t, cs, ht, hB⟩ := hg
  exact ⟨t, cs, ht, h k t cs ht hB⟩
theorem keepQ_grown {w w' : World} {v : Value} {base sz n : Nat} {xs : List Value} (ho : w.ownsRow base 71 sz v n xs) (hg : w.grownBy w' v.ownBlock) : KeepQ w w' := fun k t cs ht hB => by
  refine (hg.block k hB.lt fun e' => ?_).trans hB
  rcases ho.2 with ⟨rfl, _⟩ | ⟨g, cap, cur, rfl, _, hh, _⟩
  · cases e'
  · simp only [Value.ownBlock, Option.some.injEq] at e'
    subst e'
    exact ht (Blk.same hB (show Blk w k 71 cur from hh)).1
/-! What reads in blocks of one's own goes on reading while these stand. -/
theorem shS_rd : ∀ {n : Nat} {w w' : World} {S : Nat → Prop} {A : Option Addr} {xs : List Ex}, ShS n w S A xs → KeepS S w w' → RdSl (rdEx n) w.cell? 5 A xs → RdSl (rdEx n) w'.cell? 5 A xs
  | 0, _, _, _, _, xs, h, _, _ => fun hne => absurd (show xs = [] from h) hne
  | n + 1, w, w', S, A, xs, h, hk, hr => fun hne => by
    obtain ⟨b, cs, T, hA, hb, hB, hs, h1, h2, hc⟩ := h hne
    obtain ⟨b', o, hA', hr'⟩ := hr hne
    rw [hA] at hA'
    injection hA' with hA'
    injection hA' with e1 e2 _
    subst e1 e2
    have hB' := hk b cs hb hB
    refine ⟨b, 0, hA, fun i hi => ?_⟩
    obtain ⟨g0, g1, g2, g3, K, c, g4, rk, hm, hcp⟩ := hr' i hi
    obtain ⟨K', c', q4, h5⟩ := hc i hi
    simp only [hB.cell, Nat.zero_add, Nat.add_zero] at g0 g1 g2 g3 g4
    have hKK := g4.symm.trans q4
    injection hKK with hKK
    injection hKK with e1 _ _
    subst e1
    have rk' := shS_rd h5 (hk.sub fun k hT => (h1 i k hT).1) rk
    refine ⟨?_, ?_, ?_, ?_, K, c, ?_, rk', hm, hcp⟩
    all_goals simp only [hB'.cell, Nat.zero_add, Nat.add_zero]
    · exact g0
    · exact g1
    · exact g2
    · exact g3
    · exact g4
theorem shI_rd {w w' : World} {S : Nat → Prop} {A : Option Addr} {xs : List Int} (h : ShI w S A xs.length) (hk : KeepA S w w') (hr : RdSl rdInt w.cell? 1 A xs) : RdSl rdInt w'.cell? 1 A xs := fun hne => by
  obtain ⟨g, t, cs, hA, hB, hn⟩ := h.1 (fun e => hne (List.eq_nil_of_length_eq_zero e))
  have hB' := hk g t cs (h.2 g (by rw [hA]; exact atB_self)) hB
  obtain ⟨b, o, hA', hc⟩ := hr hne
  rw [hA] at hA'
  injection hA' with hA'
  injection hA' with h1 h2 _
  subst h1 h2
  refine ⟨g, 0, hA, fun i hi => ?_⟩
  have := hc i hi
  simp only [rdInt, hB.cell, hB'.cell] at this ⊢
  exact this
theorem ndS_rd {n : Nat} {SP : World → (Nat → Prop) → Option Addr → List Pl → Prop} (hp : ∀ {w w' : World} {S : Nat → Prop} {A : Option Addr} {xs : List Pl}, SP w S A xs → KeepA S w w' → RdSl (rdPl n) w.cell? 5 A xs → RdSl (rdPl n) w'.cell? 5 A xs)
    {w w' : World} {S : Nat → Prop} {e : Pl} {s : Sl3} (h : NdS n SP w S e s) (hk : KeepA S w w') (ho : PlOk n w.cell? e s) : PlOk n w'.cell? e s := by
  obtain ⟨S0, S1, S2, h0, h1, h2, d1, d2, d3, g0, g1, g2⟩ := h
  exact ⟨shS_rd g0 (hk.sub h0).keepS ho.r0, ho.l0, ho.k0, shI_rd g1 (hk.sub h1) ho.r1, ho.l1, ho.k1, hp g2 (hk.sub h2) ho.r2, ho.l2, ho.k2⟩
theorem shP_rd : ∀ {n : Nat} {w w' : World} {S : Nat → Prop} {A : Option Addr} {xs : List Pl}, ShP n w S A xs → KeepA S w w' → RdSl (rdPl n) w.cell? 5 A xs → RdSl (rdPl n) w'.cell? 5 A xs
  | 0, _, _, _, _, xs, h, _, _ => fun hne => absurd (show xs = [] from h) hne
  | n + 1, w, w', S, A, xs, h, hk, hr => fun hne => by
    obtain ⟨b, cs, T, hA, hb, hB, hs, h1, h2, hc⟩ := h hne
    obtain ⟨b', o, hA', hr'⟩ := hr hne
    rw [hA] at hA'
    injection hA' with hA'
    injection hA' with e1 e2 _
    subst e1 e2
    have hB' := hk b _ cs hb hB
    refine ⟨b, 0, hA, fun i hi => ?_⟩
    obtain ⟨s, g0, g1, g2, g3, g4, ok⟩ := rdPl_ok (hr' i hi)
    obtain ⟨s', q2, q3, q4, h5⟩ := hc i hi
    simp only [hB.cell, Nat.zero_add, Nat.add_zero] at g0 g1 g2 g3 g4
    have e2 := g2.symm.trans q2
    have e3 := g3.symm.trans q3
    have e4 := g4.symm.trans q4
    have hss : s = s' := by
      obtain ⟨a0, c0, a1, c1, a2, c2⟩ := s
      obtain ⟨a0', c0', a1', c1', a2', c2'⟩ := s'
      simp only [Option.some.injEq, Value.slice.injEq, true_and] at e2 e3 e4
      simp [e2, e3, e4]
    subst hss
    have ok' := ndS_rd (fun h hk hr => shP_rd h hk hr) h5 (hk.sub fun k hT => (h1 i k hT).1) ok
    refine ok_rdPl (s := s) ?_ ?_ ?_ ?_ ?_ ok'
    all_goals simp only [hB'.cell, Nat.zero_add, Nat.add_zero]
    · exact g0
    · exact g1
    · exact g2
    · exact g3
    · exact g4
theorem ndS_ok {n : Nat} {w w' : World} {S : Nat → Prop} {e : Pl} {s : Sl3} (h : NdS n (ShP n) w S e s) (hk : KeepA S w w') (ho : PlOk n w.cell? e s) : PlOk n w'.cell? e s := ndS_rd (fun h hk hr => shP_rd h hk hr) h hk ho
/-- A shape's sets may be taken as small as the blocks that are used. -/
theorem ShS.good : ∀ {n : Nat} {w : World} {S : Nat → Prop} {A : Option Addr} {xs : List Ex}, ShS n w S A xs → ShS n w (fun k => S k ∧ ∃ cs, Blk w k 93 cs) A xs
  | 0, _, _, _, _, h => h
  | n + 1, w, S, A, xs, h => fun hne => by
    obtain ⟨b, cs, T, hA, hb, hB, hs, h1, h2, hc⟩ := h hne
    refine ⟨b, cs, fun i k => T i k ∧ ∃ cs, Blk w k 93 cs, hA, ⟨hb, cs, hB⟩, hB, hs, fun i k hT => ⟨⟨(h1 i k hT.1).1, hT.2⟩, (h1 i k hT.1).2⟩, fun i j k hi hj => h2 i j k hi.1 hj.1, fun i hi => ?_⟩
    obtain ⟨K, c, q4, h5⟩ := hc i hi
    exact ⟨K, c, q4, ShS.good h5⟩
/-- A part e at (b, o) that is still to be copied; d levels are below it. -/
structure Ip where
  b : Nat
  o : Nat
  e : Pl
  d : Nat
def partsP : Nat → Pl → Nat
  | 0, _ => 1
  | n + 1, e => 1 + sumP (partsP n) e.kids
theorem partsP_pos (n : Nat) (e : Pl) : 1 ≤ partsP n e := by cases n <;> simp only [partsP] <;> omega
theorem sumP_mono {f g : Pl → Nat} (h : ∀ x, f x ≤ g x) : ∀ xs, sumP f xs ≤ sumP g xs
  | [] => Nat.le_refl _
  | x :: r => by simp only [sumP]; have := sumP_mono h r; have := h x; omega
theorem partsP_le : ∀ (n : Nat) (e : Pl), partsP n e ≤ 1 + szT n e.kids
  | 0, _ => by simp only [partsP]; omega
  | n + 1, e => by
    simp only [partsP, szT_succ]
    have h1 : sumP (partsP n) e.kids ≤ sumP (fun x => 1 + ndT n x) e.kids := sumP_mono (fun x => by have := partsP_le n x; unfold ndT; omega) _
    have h2 : ∀ xs, sumP (fun x => 1 + ndT n x) xs = xs.length + sumP (ndT n) xs := fun xs => by
      induction xs with
      | nil => rfl
      | cons a r ih => simp only [sumP, List.length_cons, ih]; omega
    rw [h2] at h1
    omega
def muP : List Ip → Nat
  | [] => 0
  | x :: r => partsP x.d x.e + muP r
theorem muP_app : ∀ (a b : List Ip), muP (a ++ b) = muP a + muP b
  | [], b => by simp [muP]
  | x :: a, b => by simp only [List.cons_append, muP, muP_app a b]; omega
theorem muP_len : ∀ L : List Ip, L.length ≤ muP L
  | [] => Nat.le_refl _
  | x :: r => by simp only [List.length_cons, muP]; have := muP_len r; have := partsP_pos x.d x.e; omega
/-- Five cells of a plan. -/
def At5 (cs : Array Value) (o : Nat) (e : Pl) (s : Sl3) : Prop := cs[o]? = some (.int .i64 e.kind) ∧ cs[o + 1]? = some (.int .i64 e.table) ∧ cs[o + 2]? = some (.slice s.a0 e.exprs.length s.c0) ∧ cs[o + 3]? = some (.slice s.a1 e.cols.length s.c1) ∧ cs[o + 4]? = some (.slice s.a2 e.kids.length s.c2)
theorem At5.same {cs cs' : Array Value} {o : Nat} {e : Pl} {s : Sl3} (h : At5 cs o e s) (hk : ∀ j, o ≤ j → j < o + 5 → cs'[j]? = cs[j]?) : At5 cs' o e s :=
  ⟨(hk _ (by omega) (by omega)).trans h.1, (hk _ (by omega) (by omega)).trans h.2.1, (hk _ (by omega) (by omega)).trans h.2.2.1, (hk _ (by omega) (by omega)).trans h.2.2.2.1, (hk _ (by omega) (by omega)).trans h.2.2.2.2⟩
/-- A plan in memory of its own, from block lo on. -/
def OwnD (lo : Nat) (W : World) (d : Nat) (e : Pl) (s : Sl3) : Prop := ∃ S : Nat → Prop, (∀ k, S k → lo ≤ k ∧ Gd W k) ∧ NdS d (ShP d) W S e s ∧ PlOk d W.cell? e s
/-- A part is done: its lists lie in memory that is new since W. -/
structure DoneP (x : Ip) (W W' : World) : Prop where
  size : W.heap.size ≤ W'.heap.size
  other : KeepX x.b W W'
  self : ∃ cs cs', Blk W x.b 47 cs ∧ Blk W' x.b 47 cs' ∧ cs'.size = cs.size ∧ (∀ j, ¬ (x.o ≤ j ∧ j < x.o + 5) → cs'[j]? = cs[j]?) ∧ ∃ s, At5 cs' x.o x.e s ∧ OwnD W.heap.size W' x.d x.e s
/-- The parts below m, done one after the other, the last first. -/
def AllD (f : Nat → Ip) : Nat → World → World → Prop
  | 0, W, W' => W = W'
  | m + 1, W, W' => ∃ W1, DoneP (f m) W W1 ∧ AllD f m W1 W'
theorem allD {B d : Nat} {kids : List Pl} {f : Nat → Ip} (hf : ∀ i (h : i < kids.length), f i = ⟨B, i * 5, kids[i], d⟩) : ∀ m, m ≤ kids.length → ∀ W1 W', AllD f m W1 W' → ∀ cs, Blk W1 B 47 cs →
    W1.heap.size ≤ W'.heap.size ∧ KeepX B W1 W' ∧ ∃ cs', Blk W' B 47 cs' ∧ cs'.size = cs.size ∧ (∀ j, m * 5 ≤ j → cs'[j]? = cs[j]?) ∧ ∃ T : Nat → Nat → Prop, (∀ i k, T i k → W1.heap.size ≤ k ∧ Gd W' k ∧ i < m) ∧ (∀ i j k, T i k → T j k → i = j) ∧
      ∀ i (h : i < kids.length), i < m → ∃ s, At5 cs' (i * 5) kids[i] s ∧ NdS d (ShP d) W' (T i) kids[i] s ∧ PlOk d W'.cell? kids[i] s
  | 0, _, W1, W', h, cs, hB => by
    obtain rfl : W1 = W' := h
    exact ⟨Nat.le_refl _, fun _ _ _ _ _ h => h, cs, hB, rfl, fun _ _ => rfl, fun _ _ => False, fun _ _ h => h.elim, fun _ _ _ h => h.elim, fun i _ h => absurd h (by omega)⟩
  | m + 1, hm, W1, W', h, cs, hB => by
    obtain ⟨W2, hD, hA⟩ := h
    rw [hf m (by omega)] at hD
    obtain ⟨cs0, cs2, hB0, hB2, hz, hout, s, h5, S, hS, hN, hO⟩ := hD.self
    simp only at hB0 hB2 hout h5 hN hO
    obtain ⟨_, rfl⟩ := hB0.same hB
    obtain ⟨q1, q2, cs', hB', hz', hk', T, t1, t2, t3⟩ := allD hf m (by omega) W2 W' hA cs2 hB2
    have hBl := hB.lt
    have hkS : KeepA S W2 W' := q2.keepA fun k hk => ⟨(hS k hk).2, by have := (hS k hk).1; omega⟩
    refine ⟨Nat.le_trans hD.size q1, hD.other.trans q2, cs', hB', hz'.trans hz, fun j hj => (hk' j (by omega)).trans (hout j (by omega)), fun i => if i = m then S else T i, fun i k hT => ?_, fun i j k hi hj => ?_, fun i hi him => ?_⟩
    · simp only at hT
      split at hT
      · exact ⟨(hS k hT).1, q2.gd (by have := (hS k hT).1; omega) (hS k hT).2, by omega⟩
      · obtain ⟨a, b, c⟩ := t1 i k hT
        exact ⟨by have := hD.size; omega, b, by omega⟩
    · simp only at hi hj
      split at hi <;> split at hj
      · omega
      · have := (hS k hi).2.lt; have := (t1 _ _ hj).1; omega
      · have := (hS k hj).2.lt; have := (t1 _ _ hi).1; omega
      · exact t2 _ _ _ hi hj
    · by_cases e : i = m
      · subst e
        simp only [if_true]
        exact ⟨s, h5.same fun j h1 _ => hk' j (by omega), hN.kp hkS, ndS_ok hN hkS hO⟩
      · obtain ⟨s', a, b, c⟩ := t3 i hi (by omega)
        simp only [if_neg e]
        exact ⟨s', a, b, c⟩
/-- A part's node in memory of one's own. -/
def NdP (W : World) (lo b o : Nat) (e : Pl) (s : Sl3) : Prop := lo ≤ b ∧ o % 5 = 0 ∧ ∃ cs, Blk W b 47 cs ∧ At5 cs o e s
structure ItP (mo : Mv) (W : World) (lo : Nat) (x : Ip) (s : Sl3) : Prop where
  nd : NdP W lo x.b x.o x.e s
  ok : PlOk x.d mo x.e s
  sm : ndT x.d x.e ≤ 1048576
def noneP : Pl := .mk 0 0 [] [] []
/-- The kids of x, copied into block B. -/
def kidP (x : Ip) (B : Nat) : Nat → Ip := fun i => ⟨B, i * 5, x.e.kids.getD i noneP, x.d - 1⟩
theorem kidP_at {x : Ip} {B i : Nat} (h : i < x.e.kids.length) : kidP x B i = ⟨B, i * 5, x.e.kids[i], x.d - 1⟩ := by simp [kidP, List.getD, List.getElem?_eq_getElem h]
def newsP (x : Ip) (B : Nat) : List Ip := (List.range x.e.kids.length).map (kidP x B)
theorem newsP_len (x : Ip) (B : Nat) : (newsP x B).length = x.e.kids.length := by simp [newsP]
theorem newsP_at {x : Ip} {B i : Nat} (h : i < x.e.kids.length) : (newsP x B)[i]'(by rw [newsP_len]; exact h) = ⟨B, i * 5, x.e.kids[i], x.d - 1⟩ := by
  simp only [newsP, List.getElem_map, List.getElem_range]; exact kidP_at h
theorem mem_newsP {x y : Ip} {B : Nat} (h : y ∈ newsP x B) : ∃ i, ∃ hi : i < x.e.kids.length, y = ⟨B, i * 5, x.e.kids[i], x.d - 1⟩ := by
  obtain ⟨i, hi, rfl⟩ := List.getElem_of_mem h
  rw [newsP_len] at hi
  exact ⟨i, hi, newsP_at hi⟩
theorem muP_map (f : Nat → Ip) (d : Nat) (hf : ∀ i, (f i).d = d) : ∀ l : List Nat, muP (l.map f) = sumP (partsP d) (l.map fun i => (f i).e)
  | [] => rfl
  | i :: l => by simp only [List.map_cons, muP, sumP, muP_map f d hf l, hf]
theorem muP_news (x : Ip) (B : Nat) (h : x.e.kids ≠ [] → 0 < x.d) : muP (newsP x B) + 1 = partsP x.d x.e := by
  unfold newsP
  rw [muP_map _ (x.d - 1) (fun _ => rfl)]
  have hr : ((List.range x.e.kids.length).map fun i => (kidP x B i).e) = x.e.kids := by
    apply List.ext_getElem
    · simp
    · intro i h1 h2
      simp [kidP, List.getD, List.getElem?_eq_getElem h2]
  rw [hr]
  cases hd : x.d with
  | zero =>
    have : x.e.kids = [] := by
      by_cases hk : x.e.kids = []
      · exact hk
      · have := h hk; omega
    rw [this]; rfl
  | succ n =>
    show sumP (partsP n) x.e.kids + 1 = 1 + sumP (partsP n) x.e.kids
    omega
/-- What a step does: the three lists of x are copied, its kids, in block B, are still to be done. -/
structure StepP (x : Ip) (W W1 : World) (B : Nat) (q : List (Pl × Sl3)) : Prop where
  size : W.heap.size ≤ W1.heap.size
  other : KeepX x.b W W1
  self : ∃ cs cs1, Blk W x.b 47 cs ∧ Blk W1 x.b 47 cs1 ∧ cs1.size = cs.size ∧ (∀ j, ¬ (x.o ≤ j ∧ j < x.o + 5) → cs1[j]? = cs[j]?) ∧ ∃ s, At5 cs1 x.o x.e s ∧ s.a2 = (if x.e.kids = [] then none else some ⟨B, 0, none⟩) ∧ x.e.kids.length ≤ s.c2 ∧
    RdSl (rdEx x.d) W1.cell? 5 s.a0 x.e.exprs ∧ x.e.exprs.length ≤ s.c0 ∧ RdSl rdInt W1.cell? 1 s.a1 x.e.cols ∧ x.e.cols.length ≤ s.c1 ∧
    ∃ S0 S1 : Nat → Prop, (∀ k, S0 k → W.heap.size ≤ k ∧ Gd W1 k ∧ k ≠ B) ∧ (∀ k, S1 k → W.heap.size ≤ k ∧ Gd W1 k ∧ k ≠ B) ∧ (∀ k, S0 k → ¬ S1 k) ∧ ShS x.d W1 S0 s.a0 x.e.exprs ∧ ShI W1 S1 s.a1 x.e.cols.length
  new : x.e.kids ≠ [] → W.heap.size ≤ B ∧ Blk W1 B 47 (q.flatMap fun y => cellsP y.1 y.2).toArray
theorem StepP.keep {x : Ip} {W W1 W2 : World} {B : Nat} {q : List (Pl × Sl3)} (h : StepP x W W1 B q) (hk : KeepQ W1 W2) (hs : W1.heap.size ≤ W2.heap.size) : StepP x W W2 B q := by
  obtain ⟨cs, cs1, hB, hB1, hz, hout, s, h5, hA, hc2, r0, k0, r1, k1, S0, S1, g0, g1, dj, s0, s1⟩ := h.self
  have kA := hk.keepA (S := S0) fun k hk => (g0 k hk).2.1
  have kB := hk.keepA (S := S1) fun k hk => (g1 k hk).2.1
  exact ⟨Nat.le_trans h.size hs, h.other.trans hk.keepX, ⟨cs, cs1, hB, hk _ _ _ (by decide) hB1, hz, hout, s, h5, hA, hc2, shS_rd s0 kA.keepS r0, k0, shI_rd s1 kB r1, k1, S0, S1, fun k hk' => ⟨(g0 k hk').1, hk.gd (g0 k hk').2.1, (g0 k hk').2.2⟩, fun k hk' => ⟨(g1 k hk').1, hk.gd (g1 k hk').2.1, (g1 k hk').2.2⟩, dj, s0.keep kA.keepS, s1.keep kB⟩, fun hne => ⟨(h.new hne).1, hk _ _ _ (by decide) (h.new hne).2⟩⟩
/-- A step and all its kids done: the part is done. -/
theorem StepP.done {x : Ip} {W W1 W' : World} {B : Nat} {q : List (Pl × Sl3)} (h : StepP x W W1 B q) (hd : x.e.kids ≠ [] → 0 < x.d) (hl0 : x.e.exprs.length ≤ maxLen) (hl1 : x.e.cols.length ≤ maxLen) (hl2 : x.e.kids.length ≤ maxLen) (hq : q.length = x.e.kids.length) (ha : AllD (kidP x B) x.e.kids.length W1 W') : DoneP x W W' := by
  obtain ⟨cs, cs1, hB, hB1, hz, hout, s, h5, hA, hc2, r0, k0, r1, k1, S0, S1, g0, g1, dj, s0, s1⟩ := h.self
  by_cases hne : x.e.kids = []
  · rw [hne] at ha
    obtain rfl : W1 = W' := ha
    refine ⟨h.size, h.other, cs, cs1, hB, hB1, hz, hout, s, h5, fun k => S0 k ∨ S1 k, fun k hk => ?_, ⟨S0, S1, fun _ => False, fun k hk => .inl hk, fun k hk => .inr hk, fun k hk => hk.elim, dj, fun _ _ h => h, fun _ _ h => h, s0, s1, by rw [hne]; exact ShP.nil⟩, r0, hl0, k0, r1, hl1, k1, by rw [hne]; exact RdSl.nil, hl2, hc2⟩
    rcases hk with hk | hk
    · exact ⟨(g0 k hk).1, (g0 k hk).2.1⟩
    · exact ⟨(g1 k hk).1, (g1 k hk).2.1⟩
  · obtain ⟨hBl, hBB⟩ := h.new hne
    obtain ⟨d, hd'⟩ : ∃ d, x.d = d + 1 := ⟨x.d - 1, by have := hd hne; omega⟩
    have hf : ∀ i (h : i < x.e.kids.length), kidP x B i = ⟨B, i * 5, x.e.kids[i], d⟩ := fun i hi => by rw [kidP_at hi, hd', Nat.add_sub_cancel]
    obtain ⟨q1, q2, cs', hB', hz', _, T, t1, t2, t3⟩ := allD hf _ (Nat.le_refl _) W1 W' ha _ hBB
    have hxlt := hB.lt
    have hBlt := hBB.lt
    have kA := q2.keepA (S := S0) fun k hk => ⟨(g0 k hk).2.1, (g0 k hk).2.2⟩
    have kB := q2.keepA (S := S1) fun k hk => ⟨(g1 k hk).2.1, (g1 k hk).2.2⟩
    rw [if_neg hne] at hA
    have hsz : x.e.kids.length * 5 ≤ cs'.size := by
      have hlen : ∀ r : List (Pl × Sl3), (r.flatMap fun y => cellsP y.1 y.2).length = r.length * 5 := fun r => by
        induction r with
        | nil => rfl
        | cons a r ih => rw [List.flatMap_cons, List.length_append, ih]; simp [cellsP]; omega
      rw [hz', List.size_toArray, hlen, hq]; exact Nat.le_refl _
    have hGB : Gd W' B := ⟨_, cs', by decide, hB'⟩
    have hob : KeepX x.b W W' := fun k t c hk ht hBk => q2 k t c (by have := hBk.lt; omega) ht (h.other k t c hk ht hBk)
    refine ⟨Nat.le_trans h.size q1, hob, cs, cs1, hB, q2 _ _ _ (by omega) (by decide) hB1, hz, hout, s, h5, fun k => S0 k ∨ S1 k ∨ (k = B ∨ ∃ i, T i k), fun k hk => ?_, ⟨S0, S1, fun k => k = B ∨ ∃ i, T i k, fun k hk => .inl hk, fun k hk => .inr (.inl hk), fun k hk => .inr (.inr hk), dj, ?_, ?_, s0.keep kA.keepS, s1.keep kB, ?_⟩, shS_rd s0 kA.keepS r0, hl0, k0, shI_rd s1 kB r1, hl1, k1, ?_, hl2, hc2⟩
    · rcases hk with hk | hk | rfl | ⟨i, hk⟩
      · exact ⟨(g0 k hk).1, q2.gd (g0 k hk).2.2 (g0 k hk).2.1⟩
      · exact ⟨(g1 k hk).1, q2.gd (g1 k hk).2.2 (g1 k hk).2.1⟩
      · exact ⟨hBl, hGB⟩
      · exact ⟨by have := (t1 i k hk).1; have := h.size; omega, (t1 i k hk).2.1⟩
    · rintro k hk (rfl | ⟨i, hk'⟩)
      · exact (g0 _ hk).2.2 rfl
      · have := (g0 k hk).2.1.lt; have := (t1 i k hk').1; omega
    · rintro k hk (rfl | ⟨i, hk'⟩)
      · exact (g1 _ hk).2.2 rfl
      · have := (g1 k hk).2.1.lt; have := (t1 i k hk').1; omega
    · rw [hd', hA]
      refine fun _ => ⟨B, cs', T, rfl, .inl rfl, hB', hsz, fun i k hT => ⟨.inr ⟨i, hT⟩, by have := (t1 i k hT).1; omega⟩, t2, fun i hi => ?_⟩
      obtain ⟨s', a5, b5, _⟩ := t3 i hi hi
      exact ⟨s', a5.2.2.1, a5.2.2.2.1, a5.2.2.2.2, b5⟩
    · rw [hd', hA]
      refine fun _ => ⟨B, 0, rfl, fun i hi => ?_⟩
      obtain ⟨s', a5, _, c5⟩ := t3 i hi hi
      refine ok_rdPl (s := s') ?_ ?_ ?_ ?_ ?_ c5
      all_goals simp only [hB'.cell, Nat.zero_add, Nat.add_zero]
      · exact a5.1
      · exact a5.2.1
      · exact a5.2.2.1
      · exact a5.2.2.2.1
      · exact a5.2.2.2.2
theorem StepP.nd {x : Ip} {W W1 : World} {B : Nat} {q : List (Pl × Sl3)} (h : StepP x W W1 B q) (hx : x.o % 5 = 0) {lo b o : Nat} {e : Pl} {s : Sl3} (hn : NdP W lo b o e s) (hne : ¬ (x.b = b ∧ x.o = o)) : NdP W1 lo b o e s := by
  obtain ⟨h1, h2, cs, hB, h5⟩ := hn
  by_cases hb : x.b = b
  · obtain ⟨cs0, cs1, hB0, hB1, hz, hout, _⟩ := h.self
    subst hb
    obtain ⟨_, rfl⟩ := hB0.same hB
    have ho : x.o ≠ o := fun e => hne ⟨rfl, e⟩
    exact ⟨h1, h2, cs1, hB1, h5.same fun j a b => hout j (by omega)⟩
  · exact ⟨h1, h2, cs, h.other _ _ _ (fun e => hb e.symm) (by decide) hB, h5⟩
theorem StepP.kid {x : Ip} {W W1 : World} {B : Nat} {q : List (Pl × Sl3)} (h : StepP x W W1 B q) {mo : Mv} {lo d : Nat} (hd : x.d = d + 1) (hlo : lo ≤ W.heap.size) (hq : q.map (·.1) = x.e.kids) (hk : ∀ y ∈ q, PlOk d mo y.1 y.2) (hsm : ndT x.d x.e ≤ 1048576) : ∀ y ∈ newsP x B, ∃ s, ItP mo W1 lo y s := by
  intro y hy
  obtain ⟨i, hi, rfl⟩ := mem_newsP hy
  have hne : x.e.kids ≠ [] := fun e => by rw [e] at hi; simp at hi
  obtain ⟨hB, hBl⟩ := h.new hne
  have hl : q.length = x.e.kids.length := by rw [← hq, List.length_map]
  have hiq : i < q.length := by omega
  have he : q[i].1 = x.e.kids[i] := by simp [← hq]
  have hkk := hk q[i] (List.getElem_mem hiq)
  rw [hd] at hsm
  have hcell : ∀ j (hj : j < (cellsP q[i].1 q[i].2).length), (q.flatMap fun y => cellsP y.1 y.2).toArray[i * 5 + j]? = some (cellsP q[i].1 q[i].2)[j] := fun j hj => by
    have := flatMap_get (f := fun y : Pl × Sl3 => cellsP y.1 y.2) (sz := 5) (fun _ => rfl) q i hiq j (by simpa [cellsP] using hj) hj
    simpa using this
  have e0 := hcell 0 (by simp [cellsP])
  have e1 := hcell 1 (by simp [cellsP])
  have e2 := hcell 2 (by simp [cellsP])
  have e3 := hcell 3 (by simp [cellsP])
  have e4 := hcell 4 (by simp [cellsP])
  simp only [cellsP, List.getElem_cons_zero, List.getElem_cons_succ, Nat.add_zero] at e0 e1 e2 e3 e4
  rw [he] at e0 e1 e2 e3 e4 hkk
  refine ⟨q[i].2, ⟨by show lo ≤ B; omega, Nat.mul_mod_left i 5, _, hBl, e0, e1, e2, e3, e4⟩, ?_, ?_⟩
  · show PlOk (x.d - 1) mo x.e.kids[i] q[i].2
    rw [hd]; exact hkk
  · show ndT (x.d - 1) x.e.kids[i] ≤ 1048576
    rw [hd]; exact ndT_kid hsm hi
/-- When the parts of the list have been done, the last first, R holds. -/
def FinR (R : World → Prop) : List Ip → World → Prop
  | [], W => R W
  | x :: r, W => ∀ W', DoneP x W W' → FinR R r W'
theorem finR_all {R : World → Prop} {f : Nat → Ip} {L : List Ip} : ∀ (m : Nat) (W : World), (∀ W', AllD f m W W' → FinR R L W') → FinR R (((List.range m).map f).reverse ++ L) W
  | 0, W, h => h W rfl
  | m + 1, W, h => by
    rw [List.range_succ, List.map_append, List.reverse_append]
    exact fun W' hD => finR_all m W' fun W2 hA => h W2 ⟨W', hD, hA⟩
theorem FinR.step {R : World → Prop} {L : List Ip} {x : Ip} {W W1 : World} {B : Nat} {q : List (Pl × Sl3)} (h : FinR R ((L ++ [x]).reverse) W) (hs : StepP x W W1 B q) (hd : x.e.kids ≠ [] → 0 < x.d) (hl0 : x.e.exprs.length ≤ maxLen) (hl1 : x.e.cols.length ≤ maxLen) (hl2 : x.e.kids.length ≤ maxLen) (hq : q.length = x.e.kids.length) :
    FinR R ((L ++ newsP x B).reverse) W1 := by
  rw [List.reverse_append]
  refine finR_all _ _ fun W' hA => ?_
  rw [List.reverse_append] at h
  exact h W' (hs.done hd hl0 hl1 hl2 hq hA)
end Go.Proofs.Ytlmiadeaiiehaaa
