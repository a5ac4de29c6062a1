/- Copies of lists of expressions, on the program's side: copied (CopyI over OwnP). -/
import Derived.Test.YtlmiadeaiiehaaaOwnP
import Derived.Test.YtlmiadeaiiehaaaMem2
import Derived.Test.YtlmiadeaiiehaaaShp
namespace Go.Proofs.Ytlmiadeaiiehaaa
open Go Go.RowKit

theorem laidOf {n : Nat} {m : Mv} {A : Option Addr} {xs : List Ex} (h : RdSl (rdEx (n + 1)) m 5 A xs) : ∃ q : List (Ex × Option Addr × Nat), q.map (·.1) = xs ∧ RdSl rdLaid m 5 A q ∧ ∀ x ∈ q, KidsOk n m x := by
  by_cases hne : xs = []
  · subst hne
    exact ⟨[], rfl, RdSl.nil, fun x hx => by simp at hx⟩
  obtain ⟨b, o, hA, hc⟩ := h hne
  have hp : ∀ i : Fin xs.length, ∃ p : Option Addr × Nat, rdLaid m (fun j => m ⟨b, o + i.1 * 5 + j, none⟩) (xs[i.1], p) ∧ KidsOk n m (xs[i.1], p) := fun i => by
    obtain ⟨g0, g1, g2, g3, B, c, h0, h1, h2, h3⟩ := hc i.1 i.2
    exact ⟨(B, c), ⟨g0, g1, g2, g3, h0⟩, h1, h2, h3⟩
  obtain ⟨f, hf⟩ := Classical.skolem.1 hp
  refine ⟨List.ofFn (fun i : Fin xs.length => (xs[i.1], f i)), ?_, ?_, ?_⟩
  · apply List.ext_getElem
    · simp
    · intro i h1 h2
      simp
  · intro _
    refine ⟨b, o, hA, fun i hi => ?_⟩
    simp only [List.length_ofFn] at hi
    have := (hf ⟨i, hi⟩).1
    simpa using this
  · intro x hx
    rw [List.mem_ofFn] at hx
    obtain ⟨i, rfl⟩ := hx
    exact (hf i).2
theorem rd_cellsE {m : Mv} {g p : Nat} {xs : List (Ex × Option Addr × Nat)} (h : RdSl rdLaid m 5 (some ⟨g, p, none⟩) xs) : ∀ (j : Nat) u, (xs.flatMap cellsE)[j]? = some u → m ⟨g, p + j, none⟩ = some u := by
  intro j u hu
  have hl := cellsE_len xs
  have hj : j < xs.length * 5 := by
    rw [← hl]; exact (List.getElem?_eq_some_iff.1 hu).1
  have hi : j / 5 < xs.length := by omega
  obtain ⟨b, o, hA, hc⟩ := h (by intro e; rw [e] at hi; simp at hi)
  injection hA with hA
  injection hA with h1 h2 _
  subst h1 h2
  obtain ⟨r0, r1, r2, r3, r4⟩ := hc (j / 5) hi
  have h2 := flatMap_get (f := cellsE) (sz := 5) (fun _ => rfl) xs (j / 5) hi (j % 5) (Nat.mod_lt _ (by decide)) (by simp [cellsE]; omega)
  have ej : j / 5 * 5 + j % 5 = j := by omega
  rw [ej, hu] at h2
  rcases (by omega : j % 5 = 0 ∨ j % 5 = 1 ∨ j % 5 = 2 ∨ j % 5 = 3 ∨ j % 5 = 4) with e | e | e | e | e
  all_goals simp only [e, cellsE] at h2
  all_goals injection h2 with h2
  all_goals rw [h2]
  all_goals first
    | (rw [show p + j = p + j / 5 * 5 + 0 by omega]; exact r0)
    | (rw [show p + j = p + j / 5 * 5 + 1 by omega]; exact r1)
    | (rw [show p + j = p + j / 5 * 5 + 2 by omega]; exact r2)
    | (rw [show p + j = p + j / 5 * 5 + 3 by omega]; exact r3)
    | (rw [show p + j = p + j / 5 * 5 + 4 by omega]; exact r4)
theorem copiedNil (A : Option Addr) (cap : Nat) (w : World) :
    Calls Try.prog 61 #[.slice A 0 cap] w fun r w' => r = .returned (.slice none 0 0) ∧ w' = w := by
  go_enter Try.func61, Try.ntmps61
  go_wp2
  go_ret
  exact ⟨rfl, rfl⟩
set_option maxRecDepth 100000 in
set_option maxHeartbeats 1000000 in
theorem copiedEx (A : Option Addr) (cap : Nat) (q : List (Ex × Option Addr × Nat)) (w : World) (hx : RdSl rdLaid w.cell? 5 A q) (hl : q.length ≤ 1048576) (hne : q ≠ []) :
    Calls Try.prog 61 #[.slice A q.length cap] w fun r w' => r = .returned (.slice (some ⟨w.heap.size, 0, none⟩) q.length q.length) ∧ Blk w' w.heap.size 93 (q.flatMap cellsE).toArray ∧ Fr w w' ∧ w'.heap.size = w.heap.size + 1 := by
  obtain ⟨b, o, hA, _⟩ := hx hne
  subst hA
  have HX := hid hx
  clear hx
  have hpos : 0 < q.length := List.length_pos_iff.2 hne
  have e0 : ((q.length : Int) == 0) = false := by simp; exact hne
  have hmk := mk_row (P := Try.prog) 44 93 (.agg #[.int .i64 0, .int .i64 0, .bool false, .int .i64 0, .slice none 0 0]) 5 56 Try.underlying44 (by kernel_rfl) q.length (by omega) (by omega)
  have hone := cellsE_one q
  have hlen := cellsE_len q
  clear hne
  go_enter Try.func61, Try.ntmps61
  go_wp2_with (refine wp_copyNew rfl _ _ 44 rfl 93 (.agg #[.int .i64 0, .int .i64 0, .bool false, .int .i64 0, .slice none 0 0]) 5 56 Try.underlying44 (by kernel_rfl) w.heap.size q.length rfl 93 _ (Blk.new _ _ _) (by simp [made_size]) b o cap rfl (q.flatMap cellsE) hlen (fun j u hu => ((Fr.refl w).alloc _).cell (rd_cellsE HX.out j u hu)) hone ?_; intro w5 hB5 hC5 hs5)
  go_ret
  exact ⟨rfl, hB5, hC5.fr (fun k hk => by omega) ((Fr.refl w).alloc _), by rw [hs5]; simp⟩
/- Copies of expressions, on the program's side: the list of parts whose kids are still to be copied. -/

/-- The least number of which P holds. -/
theorem least_ex {P : Nat → Prop} (h : ∃ k, P k) : ∃ k, P k ∧ ∀ j, P j → k ≤ j := by
  obtain ⟨k, hk⟩ := h
  induction k using Nat.strongRecOn with
  | _ k ih =>
    by_cases hj : ∃ j, j < k ∧ P j
    · obtain ⟨j, h1, h2⟩ := hj
      exact ih j h1 h2
    · exact ⟨k, hk, fun j h => by
        rcases Nat.lt_or_ge j k with h1 | h1
        · exact absurd ⟨j, h1, h⟩ hj
        · exact h1⟩
open Classical in
noncomputable def mn (P : Nat → Prop) : Nat := if h : ∃ k, P k then Classical.choose (least_ex h) else 0
theorem mn_spec {P : Nat → Prop} (h : ∃ k, P k) : P (mn P) := by
  unfold mn; rw [dif_pos h]; exact (Classical.choose_spec (least_ex h)).1
theorem mn_le {P : Nat → Prop} {k : Nat} (h : P k) : mn P ≤ k := by
  unfold mn; rw [dif_pos ⟨k, h⟩]; exact (Classical.choose_spec (least_ex ⟨k, h⟩)).2 k h

/-- A part e at (b, o), whose kids are still to be copied; d levels are below it. -/
structure It where
  b : Nat
  o : Nat
  e : Ex
  d : Nat
/-- How many parts. -/
def sumN (f : Ex → Nat) : List Ex → Nat
  | [] => 0
  | x :: r => f x + sumN f r
def parts : Nat → Ex → Nat
  | 0, _ => 1
  | n + 1, e => 1 + sumN (parts n) e.kids
def mu : List It → Nat
  | [] => 0
  | x :: r => parts x.d x.e + mu r
theorem mu_app : ∀ (a b : List It), mu (a ++ b) = mu a + mu b
  | [], b => by simp [mu]
  | x :: a, b => by simp only [List.cons_append, mu, mu_app a b]; omega
/-- A part in memory of one's own. -/
def Nd (W : World) (lo b o : Nat) (e : Ex) (A : Option Addr) (c : Nat) : Prop := lo ≤ b ∧ o % 5 = 0 ∧ e.kids.length ≤ maxLen ∧ e.kids.length ≤ c ∧
  ∃ cs, Blk W b 93 cs ∧ cs[o]? = some (.int .i64 e.kind) ∧ cs[o + 1]? = some (.int .i64 e.col) ∧ cs[o + 2]? = some (.bool e.val.null) ∧ cs[o + 3]? = some (.int .i64 e.val.n) ∧ cs[o + 4]? = some (.slice A e.kids.length c)
def KeepT (W W' : World) : Prop := ∀ k cs, Blk W k 93 cs → Blk W' k 93 cs
theorem KeepT.trans {a b c : World} (h : KeepT a b) (k : KeepT b c) : KeepT a c := fun i cs hB => k i cs (h i cs hB)
theorem Fr.keepT {a b : World} (h : Fr a b) : KeepT a b := fun _ _ hB => hB.fr h
/-- A row of other elements that grows leaves the parts as they are. -/
theorem keepT_grown {w w' : World} {v : Value} {base e sz n : Nat} {xs : List Value} (ho : w.ownsRow base e sz v n xs) (he : e ≠ 93) (hg : w.grownBy w' v.ownBlock) : KeepT w w' := fun k cs hB => by
  refine (hg.block k hB.lt fun e' => ?_).trans hB
  rcases ho.2 with ⟨rfl, _⟩ | ⟨g, cap, cur, rfl, _, hh, _⟩
  · cases e'
  · simp only [Value.ownBlock, Option.some.injEq] at e'
    subst e'
    rw [show w.heap[k]? = some (.cells cs 93 (0, 0)) from hB] at hh
    injection hh with hh
    injection hh with _ hh _
    exact he hh.symm
theorem Nd.keep {W W' : World} {lo b o : Nat} {e : Ex} {A : Option Addr} {c : Nat} (h : Nd W lo b o e A c) (hk : KeepT W W') : Nd W' lo b o e A c := by
  obtain ⟨h1, h2, h3, h4, cs, hB, hr⟩ := h
  exact ⟨h1, h2, h3, h4, cs, hk _ _ hB, hr⟩
structure ItOk (mo : Mv) (W : World) (lo : Nat) (x : It) (A : Option Addr) (c : Nat) : Prop where
  nd : Nd W lo x.b x.o x.e A c
  rd : RdSl (rdEx x.d) mo 5 A x.e.kids
  sm : exSm x.d x.e.kids
/-- The tree at (b, o): each part is done, or stands in L. ρ tells the path to the list that lies in a block. -/
def Prt (L : List It) (W : World) (lo : Nat) (ρ : Nat → List Nat) : Nat → Nat → Nat → Ex → Prop
  | 0, _, _, _ => False
  | n + 1, b, o, e => (⟨b, o, e, n⟩ : It) ∈ L ∨ ∃ A c, Nd W lo b o e A c ∧ (∀ x ∈ L, ¬ (x.b = b ∧ x.o = o)) ∧ (e.kids ≠ [] → ∃ b', A = some ⟨b', 0, none⟩ ∧ lo ≤ b' ∧ ρ b' = (o / 5) :: ρ b ∧ (∃ cs, Blk W b' 93 cs ∧ e.kids.length * 5 ≤ cs.size) ∧ ∀ i (h : i < e.kids.length), Prt L W lo ρ n b' (i * 5) e.kids[i])
theorem Prt.keep {L : List It} {W W' : World} {lo : Nat} {ρ : Nat → List Nat} (hk : KeepT W W') : ∀ {n b o : Nat} {e : Ex}, Prt L W lo ρ n b o e → Prt L W' lo ρ n b o e
  | 0, _, _, _, h => h
  | n + 1, b, o, e, h => by
    rcases h with h | ⟨A, c, h1, h2, h3⟩
    · exact .inl h
    · exact .inr ⟨A, c, h1.keep hk, h2, fun hne => by
        obtain ⟨b', hA, hl, hρ, ⟨cs, hB, hs⟩, hc⟩ := h3 hne
        exact ⟨b', hA, hl, hρ, ⟨cs, hk _ _ hB, hs⟩, fun i hi => Prt.keep hk (hc i hi)⟩⟩
/-- The blocks of the lists at and below a path. -/
def Sub (W : World) (lo : Nat) (ρ : Nat → List Nat) (π : List Nat) : Nat → Prop := fun k => lo ≤ k ∧ k < W.heap.size ∧ π <:+ ρ k
/-- Where nothing is left to be done, the tree lies in memory of its own, each list in a block of its own. -/
theorem Prt.fin {W : World} {lo : Nat} {ρ : Nat → List Nat} : ∀ {n b o : Nat} {e : Ex}, Prt [] W lo ρ (n + 1) b o e → ∃ A c, Nd W lo b o e A c ∧ RdSl (rdEx n) (fromB W lo) 5 A e.kids ∧ ShS n W (Sub W lo ρ ((o / 5) :: ρ b)) A e.kids
  | 0, b, o, e, h => by
    rcases h with h | ⟨A, c, h1, _, h3⟩
    · simp at h
    · have h0 : e.kids = [] := by
        by_cases hne : e.kids = []
        · exact hne
        · obtain ⟨b', _, _, _, _, hc⟩ := h3 hne
          exact (hc 0 (List.length_pos_iff.2 hne)).elim
      exact ⟨A, c, h1, fun hne => absurd h0 hne, h0⟩
  | n + 1, b, o, e, h => by
    rcases h with h | ⟨A, c, h1, _, h3⟩
    · simp at h
    · refine ⟨A, c, h1, fun hne => ?_, fun hne => ?_⟩
      · obtain ⟨b', hA, _, _, _, hc⟩ := h3 hne
        refine ⟨b', 0, hA, fun i hi => ?_⟩
        obtain ⟨K, kc, ⟨hlo, _, hm, hkc, cs, hB, c0, c1, c2, c3, c4⟩, hR, _⟩ := Prt.fin (hc i hi)
        have hcell : ∀ j u, cs[i * 5 + j]? = some u → fromB W lo ⟨b', 0 + i * 5 + j, none⟩ = some u := fun j u hu => by
          unfold fromB
          rw [if_pos hlo, hB.cell, Nat.zero_add]; exact hu
        exact ⟨hcell 0 _ c0, hcell 1 _ c1, hcell 2 _ c2, hcell 3 _ c3, K, kc, hcell 4 _ c4, hR, hm, hkc⟩
      · obtain ⟨b', hA, hl, hρ, ⟨cs, hB, hs⟩, hc⟩ := h3 hne
        refine ⟨b', cs, fun i => Sub W lo ρ (i :: ρ b'), hA, ⟨hl, hB.lt, by rw [hρ]; exact List.suffix_refl _⟩, hB, hs, fun i k hT => ⟨⟨hT.1, hT.2.1, ?_⟩, fun e => ?_⟩, fun i j k h1 h2 => ?_, fun i hi => ?_⟩
        · rw [← hρ]; exact (List.suffix_cons i (ρ b')).trans hT.2.2
        · have h2 := hT.2.2
          rw [e] at h2
          have := h2.length_le
          simp only [List.length_cons] at this
          omega
        · have h3 := List.suffix_of_suffix_length_le h1.2.2 h2.2.2 (by simp)
          have h4 := h3.eq_of_length (by simp)
          injection h4
        · obtain ⟨K, kc, ⟨_, _, _, _, cs', hB', _, _, _, _, c4⟩, _, hS⟩ := Prt.fin (hc i hi)
          obtain rfl : cs' = cs := by
            have := hB'.symm.trans hB
            injection this with this
            injection this
          rw [Nat.mul_div_cancel i (by decide : 0 < 5)] at hS
          exact ⟨K, kc, c4, hS⟩
/-- The kids of x, copied into block B. -/
def news (x : It) (B : Nat) : List It := (List.range x.e.kids.length).map fun i => ⟨B, i * 5, x.e.kids.getD i (.mk 0 0 ⟨false, 0⟩ []), x.d - 1⟩
theorem news_len (x : It) (B : Nat) : (news x B).length = x.e.kids.length := by simp [news]
theorem news_at {x : It} {B i : Nat} (h : i < x.e.kids.length) : (news x B)[i]'(by rw [news_len]; exact h) = ⟨B, i * 5, x.e.kids[i], x.d - 1⟩ := by
  simp [news, List.getD, List.getElem?_eq_getElem h]
theorem mem_news {x y : It} {B : Nat} (h : y ∈ news x B) : ∃ i, ∃ hi : i < x.e.kids.length, y = ⟨B, i * 5, x.e.kids[i], x.d - 1⟩ := by
  obtain ⟨i, hi, rfl⟩ := List.getElem_of_mem h
  rw [news_len] at hi
  exact ⟨i, hi, news_at hi⟩
theorem sumN_range (f : Ex → Nat) (d : Ex) : ∀ (xs : List Ex), sumN f xs = sumN f ((List.range xs.length).map fun i => xs.getD i d) := fun xs => by
  congr 1
  apply List.ext_getElem
  · simp
  · intro i h1 h2
    simp [List.getD, List.getElem?_eq_getElem h1]
theorem mu_map (f : Nat → It) (d : Nat) (hf : ∀ i, (f i).d = d) : ∀ l : List Nat, mu (l.map f) = sumN (parts d) (l.map fun i => (f i).e)
  | [] => rfl
  | i :: l => by simp only [List.map_cons, mu, sumN, mu_map f d hf l, hf]
theorem mu_news (x : It) (B : Nat) (h : x.e.kids ≠ [] → 0 < x.d) : mu (news x B) + 1 = parts x.d x.e := by
  unfold news
  rw [mu_map _ (x.d - 1) (fun _ => rfl)]
  cases hd : x.d with
  | zero =>
    have : x.e.kids = [] := by
      by_cases hk : x.e.kids = []
      · exact hk
      · have := h hk; omega
    rw [this]; rfl
  | succ n =>
    show sumN (parts n) ((List.range x.e.kids.length).map fun i => x.e.kids.getD i (.mk 0 0 ⟨false, 0⟩ [])) + 1 = 1 + sumN (parts n) x.e.kids
    rw [← sumN_range]; omega
/-- What a step does to memory: the kids' slice of x is the new block B's. -/
structure Stp (W W' : World) (x : It) (B : Nat) (q : List (Ex × Option Addr × Nat)) : Prop where
  other : ∀ k cs, k ≠ x.b → Blk W k 93 cs → Blk W' k 93 cs
  self : ∃ cs, Blk W x.b 93 cs ∧ Blk W' x.b 93 (cs.setIfInBounds (x.o + 4) (.slice (if x.e.kids = [] then none else some ⟨B, 0, none⟩) x.e.kids.length x.e.kids.length))
  new : x.e.kids ≠ [] → W.heap.size ≤ B ∧ Blk W' B 93 (q.flatMap cellsE).toArray
theorem Stp.nd {W W' : World} {x : It} {B : Nat} {q : List (Ex × Option Addr × Nat)} (h : Stp W W' x B q) (hx : x.o % 5 = 0) {lo b o : Nat} {e : Ex} {A : Option Addr} {c : Nat} (hn : Nd W lo b o e A c) (hne : ¬ (x.b = b ∧ x.o = o)) : Nd W' lo b o e A c := by
  obtain ⟨h1, h2, h3, h4, cs, hB, c0, c1, c2, c3, c4⟩ := hn
  by_cases hb : x.b = b
  · obtain ⟨cs', hB1, hB2⟩ := h.self
    rw [hb] at hB1 hB2
    have hcs : cs' = cs := by
      have := hB1.symm.trans hB
      injection this with this
      injection this
    subst hcs
    have ho : x.o ≠ o := fun e => hne ⟨hb, e⟩
    refine ⟨h1, h2, h3, h4, _, hB2, ?_⟩
    simp only [Array.getElem?_setIfInBounds]
    rw [if_neg (by omega), if_neg (by omega), if_neg (by omega), if_neg (by omega), if_neg (by omega)]
    exact ⟨c0, c1, c2, c3, c4⟩
  · exact ⟨h1, h2, h3, h4, cs, h.other _ _ (fun e => hb e.symm) hB, c0, c1, c2, c3, c4⟩
/-- The part itself, its kids copied. -/
theorem Stp.me {W W' : World} {x : It} {B : Nat} {q : List (Ex × Option Addr × Nat)} (h : Stp W W' x B q) {lo : Nat} {A : Option Addr} {c : Nat} (hn : Nd W lo x.b x.o x.e A c) : Nd W' lo x.b x.o x.e (if x.e.kids = [] then none else some ⟨B, 0, none⟩) x.e.kids.length := by
  obtain ⟨h1, h2, h3, h4, cs, hB, c0, c1, c2, c3, c4⟩ := hn
  obtain ⟨cs', hB1, hB2⟩ := h.self
  have hcs : cs' = cs := by
    have := hB1.symm.trans hB
    injection this with this
    injection this
  subst hcs
  have hlt : x.o + 4 < cs'.size := (Array.getElem?_eq_some_iff.1 c4).1
  refine ⟨h1, h2, h3, Nat.le_refl _, _, hB2, ?_⟩
  simp only [Array.getElem?_setIfInBounds]
  rw [if_neg (by omega), if_neg (by omega), if_neg (by omega), if_neg (by omega), if_pos trivial, if_pos hlt]
  exact ⟨c0, c1, c2, c3, rfl⟩
/-- The kids' items. -/
theorem Stp.kid {W W' : World} {x : It} {B : Nat} {q : List (Ex × Option Addr × Nat)} (h : Stp W W' x B q) {mo : Mv} {lo : Nat} {d : Nat} (hd : x.d = d + 1) (hlo : lo ≤ W.heap.size) (hq : q.map (·.1) = x.e.kids) (hk : ∀ y ∈ q, KidsOk d mo y) (hsm : exSm x.d x.e.kids) : ∀ y ∈ news x B, ∃ A c, ItOk mo W' lo y A c := by
  intro y hy
  obtain ⟨i, hi, rfl⟩ := mem_news hy
  have hne : x.e.kids ≠ [] := fun e => by rw [e] at hi; simp at hi
  obtain ⟨hB, hBl⟩ := h.new hne
  have hl : q.length = x.e.kids.length := by rw [← hq, List.length_map]
  have hiq : i < q.length := by omega
  have he : q[i].1 = x.e.kids[i] := by simp [← hq]
  obtain ⟨k1, k2, k3⟩ := hk q[i] (List.getElem_mem hiq)
  rw [hd] at hsm
  have hcell : ∀ j (hj : j < (cellsE q[i]).length), (q.flatMap cellsE).toArray[i * 5 + j]? = some (cellsE q[i])[j] := fun j hj => by
    have := flatMap_get (f := cellsE) (sz := 5) (fun _ => rfl) q i hiq j (by simpa [cellsE] using hj) hj
    simpa using this
  have e0 := hcell 0 (by simp [cellsE])
  have e1 := hcell 1 (by simp [cellsE])
  have e2 := hcell 2 (by simp [cellsE])
  have e3 := hcell 3 (by simp [cellsE])
  have e4 := hcell 4 (by simp [cellsE])
  simp only [cellsE, List.getElem_cons_zero, List.getElem_cons_succ, Nat.add_zero] at e0 e1 e2 e3 e4
  rw [he] at e0 e1 e2 e3 e4 k1 k2 k3
  have hm5 : i * 5 % 5 = 0 := Nat.mul_mod_left i 5
  refine ⟨q[i].2.1, q[i].2.2, ⟨by show lo ≤ B; omega, hm5, k2, k3, _, hBl, e0, e1, e2, e3, e4⟩, ?_, ?_⟩
  · show RdSl (rdEx (x.d - 1)) mo 5 q[i].2.1 x.e.kids[i].kids
    rw [hd]; exact k1
  · show exSm (x.d - 1) x.e.kids[i].kids
    rw [hd]; exact hsm.2 i hi
/-- A new list's path. -/
def upP (ρ : Nat → List Nat) (B : Nat) (π : List Nat) : Nat → List Nat := fun k => if k = B then π else ρ k
theorem upP_far {ρ : Nat → List Nat} {B k : Nat} {π : List Nat} (h : k ≠ B) : upP ρ B π k = ρ k := if_neg h
theorem upP_at {ρ : Nat → List Nat} {B : Nat} {π : List Nat} : upP ρ B π B = π := if_pos rfl
/-- The tree behind a step. -/
theorem Prt.step {L : List It} {W W' : World} {x : It} {B : Nat} {q : List (Ex × Option Addr × Nat)} (h : Stp W W' x B q) {lo : Nat} {A : Option Addr} {c : Nat} (hx : Nd W lo x.b x.o x.e A c) (hd : x.e.kids ≠ [] → 0 < x.d)
    (hp : ∀ y ∈ L, ¬ (y.b = x.b ∧ y.o = x.o)) (hBw : W.heap.size ≤ B) (hql : q.length = x.e.kids.length) {ρ : Nat → List Nat} : ∀ {n b o : Nat} {e : Ex}, Prt (L ++ [x]) W lo ρ n b o e → Prt (L ++ news x B) W' lo (upP ρ B ((x.o / 5) :: ρ x.b)) n b o e
  | 0, _, _, _, h => h
  | n + 1, b, o, e, hprt => by
    have hfar : ∀ {b : Nat}, b < W.heap.size → ∀ y ∈ news x B, ¬ y.b = b := fun hb y hy => by
      obtain ⟨i, hi, rfl⟩ := mem_news hy
      show ¬ B = _
      omega
    have hxlt : x.b < W.heap.size := by
      obtain ⟨_, _, _, _, cs, hB, _⟩ := hx
      exact hB.lt
    rcases hprt with hm | ⟨A', c', h1, h2, h3⟩
    · rcases List.mem_append.1 hm with hm | hm
      · exact .inl (List.mem_append_left _ hm)
      · have hxe : x = ⟨b, o, e, n⟩ := (List.mem_singleton.1 hm).symm
        have hlt : b < W.heap.size := by rw [hxe] at hxlt; exact hxlt
        have hme := h.me hx
        refine .inr ⟨_, _, by rw [hxe] at hme; exact hme, fun y hy => ?_, fun hne => ?_⟩
        · rcases List.mem_append.1 hy with hy | hy
          · have := hp y hy
            rw [hxe] at this
            exact this
          · exact fun hh => hfar hlt y hy hh.1
        · have hne' : x.e.kids ≠ [] := by rw [hxe]; exact hne
          obtain ⟨hB1, hB2⟩ := h.new hne'
          refine ⟨B, by rw [if_neg hne], by have := hx.1; omega, by rw [upP_at, upP_far (by omega), hxe], ⟨_, hB2, by rw [List.size_toArray, cellsE_len, hql, hxe]; exact Nat.le_refl _⟩, fun i hi => ?_⟩
          have hi' : i < x.e.kids.length := by rw [hxe]; exact hi
          have hd' := hd hne'
          have hxd : x.d = n := by rw [hxe]
          obtain ⟨m, rfl⟩ : ∃ m, n = m + 1 := ⟨n - 1, by omega⟩
          refine .inl (List.mem_append_right _ ?_)
          have hmem := List.getElem_mem (l := news x B) (n := i) (by rw [news_len]; exact hi')
          rw [news_at hi'] at hmem
          have ek : x.e.kids[i] = e.kids[i] := by simp [hxe]
          rw [ek, hxd, Nat.add_sub_cancel] at hmem
          exact hmem
    · have hxs := h2 x (by simp)
      have hlt : b < W.heap.size := by
        obtain ⟨_, _, _, _, cs, hB, _⟩ := h1
        exact hB.lt
      refine .inr ⟨A', c', h.nd hx.2.1 h1 hxs, fun y hy => ?_, fun hne => ?_⟩
      · rcases List.mem_append.1 hy with hy | hy
        · exact h2 y (List.mem_append_left _ hy)
        · exact fun hh => hfar hlt y hy hh.1
      · obtain ⟨b', hA, hl, hρ, ⟨cs, hB, hs⟩, hc⟩ := h3 hne
        have hb' := hB.lt
        refine ⟨b', hA, hl, by rw [upP_far (by omega), upP_far (by omega)]; exact hρ, ?_, fun i hi => Prt.step h hx hd hp hBw hql (hc i hi)⟩
        by_cases hbx : b' = x.b
        · obtain ⟨cs', hB1, hB2⟩ := h.self
          rw [← hbx] at hB1 hB2
          obtain rfl : cs' = cs := by
            have := hB1.symm.trans hB
            injection this with this
            injection this
          exact ⟨_, hB2, by simpa using hs⟩
        · exact ⟨cs, h.other _ _ hbx hB, hs⟩
end Go.Proofs.Ytlmiadeaiiehaaa
