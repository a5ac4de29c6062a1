/- Copies of lists, on the program's side: copied at ints, at plans; the loop over the expressions of a plan in plain words. -/
import Derived.Test.YtlmiadeaiiehaaaPlS
import Derived.Test.YtlmiadeaiiehaaaPlJ
import Derived.Test.YtlmiadeaiiehaaaCpyK
namespace Go.Proofs.Ytlmiadeaiiehaaa
open Go Go.RowKit

set_option maxRecDepth 100000 in
set_option maxHeartbeats 1000000 in
theorem copiedInts (A : Option Addr) (cap : Nat) (q : List Int) (w : World) (hx : RdSl rdInt w.cell? 1 A q) (hl : q.length ≤ 1048576) (hne : 0 < q.length) :
    Calls Try.prog 63 #[.slice A q.length cap] w fun r w' => r = .returned (.slice (some ⟨w.heap.size, 0, none⟩) q.length q.length) ∧ Blk w' w.heap.size 3 (q.map iv).toArray ∧ Fr w w' ∧ w'.heap.size = w.heap.size + 1 := by
  have hne' : q ≠ [] := by intro e; rw [e] at hne; simp at hne
  obtain ⟨b, o, hA, hc⟩ := hx hne'
  subst hA
  have HC := hid (show ∀ (j : Nat) u, (q.map iv)[j]? = some u → w.cell? ⟨b, o + j, none⟩ = some u from fun j u hu => by
    rw [List.getElem?_map] at hu
    cases hj : q[j]? with
    | none => rw [hj] at hu; simp at hu
    | some x =>
      rw [hj] at hu
      obtain ⟨hlt, rfl⟩ := List.getElem?_eq_some_iff.1 hj
      have h := hc j hlt
      simp only [rdInt, Nat.mul_one, Nat.add_zero] at h
      rw [h]; exact hu)
  clear hc hx
  have e0 : ((q.length : Int) == 0) = false := by simp; exact hne'
  have hmk := mk_row (P := Try.prog) 26 3 (.int .i64 0) 1 8 Try.underlying26 (by kernel_rfl) q.length (by omega) (by omega)
  have hone : (q.map iv).all (·.oneCell') = true := by
    rw [List.all_eq_true]
    intro x hx
    obtain ⟨y, _, rfl⟩ := List.mem_map.1 hx
    rfl
  have hlen : (q.map iv).length = q.length * 1 := by simp
  clear hne'
  go_enter Try.func63, Try.ntmps63
  go_wp2_with (refine wp_copyNew rfl _ _ 26 rfl 3 (.int .i64 0) 1 8 Try.underlying26 (by kernel_rfl) w.heap.size q.length rfl 3 _ (Blk.new _ _ _) (by simp [made_size]) b o cap rfl (q.map iv) hlen (fun j u hu => ((Fr.refl w).alloc _).cell (HC.out j u hu)) hone ?_; intro w5 hB5 hC5 hs5)
  go_ret
  exact ⟨rfl, hB5, hC5.fr (fun k hk => by omega) ((Fr.refl w).alloc _), by rw [hs5]; simp⟩
theorem rd_cellsP {m : Mv} {g p : Nat} {xs : List (Pl × Sl3)} (h : RdSl rdLaidP m 5 (some ⟨g, p, none⟩) xs) : ∀ (j : Nat) u, (xs.flatMap fun y => cellsP y.1 y.2)[j]? = some u → m ⟨g, p + j, none⟩ = some u := by
  intro j u hu
  have hl := cellsP_len xs
  have hj : j < xs.length * 5 := by
    rw [← hl]; exact (List.getElem?_eq_some_iff.1 hu).1
  have hi : j / 5 < xs.length := by omega
  obtain ⟨b, o, hA, hc⟩ := h (by intro e; rw [e] at hi; simp at hi)
  injection hA with hA
  injection hA with h1 h2 _
  subst h1 h2
  obtain ⟨r0, r1, r2, r3, r4⟩ := hc (j / 5) hi
  have h2 := flatMap_get (f := fun y : Pl × Sl3 => cellsP y.1 y.2) (sz := 5) (fun _ => rfl) xs (j / 5) hi (j % 5) (Nat.mod_lt _ (by decide)) (by simp [cellsP]; omega)
  have ej : j / 5 * 5 + j % 5 = j := by omega
  rw [ej, hu] at h2
  rcases (by omega : j % 5 = 0 ∨ j % 5 = 1 ∨ j % 5 = 2 ∨ j % 5 = 3 ∨ j % 5 = 4) with e | e | e | e | e
  all_goals simp only [e, cellsP] at h2
  all_goals injection h2 with h2
  all_goals rw [h2]
  all_goals first
    | (rw [show p + j = p + j / 5 * 5 + 0 by omega]; exact r0)
    | (rw [show p + j = p + j / 5 * 5 + 1 by omega]; exact r1)
    | (rw [show p + j = p + j / 5 * 5 + 2 by omega]; exact r2)
    | (rw [show p + j = p + j / 5 * 5 + 3 by omega]; exact r3)
    | (rw [show p + j = p + j / 5 * 5 + 4 by omega]; exact r4)
theorem copiedNilP (A : Option Addr) (cap : Nat) (w : World) :
    Calls Try.prog 64 #[.slice A 0 cap] w fun r w' => r = .returned (.slice none 0 0) ∧ w' = w := by
  go_enter Try.func64, Try.ntmps64
  go_wp2
  go_ret
  exact ⟨rfl, rfl⟩
set_option maxRecDepth 100000 in
set_option maxHeartbeats 1000000 in
theorem copiedPl (A : Option Addr) (cap : Nat) (q : List (Pl × Sl3)) (w : World) (hx : RdSl rdLaidP w.cell? 5 A q) (hl : q.length ≤ 1048576) (hne : q ≠ []) :
    Calls Try.prog 64 #[.slice A q.length cap] w fun r w' => r = .returned (.slice (some ⟨w.heap.size, 0, none⟩) q.length q.length) ∧ Blk w' w.heap.size 47 (q.flatMap fun y => cellsP y.1 y.2).toArray ∧ Fr w w' ∧ w'.heap.size = w.heap.size + 1 := by
  obtain ⟨b, o, hA, _⟩ := hx hne
  subst hA
  have HX := hid hx
  clear hx
  have hpos : 0 < q.length := List.length_pos_iff.2 hne
  have e0 : ((q.length : Int) == 0) = false := by simp; exact hne
  have hmk := mk_row (P := Try.prog) 45 47 (.agg #[.int .i64 0, .int .i64 0, .slice none 0 0, .slice none 0 0, .slice none 0 0]) 5 88 Try.underlying45 (by kernel_rfl) q.length (by omega) (by omega)
  have hone := cellsP_one q
  have hlen := cellsP_len q
  clear hne
  go_enter Try.func64, Try.ntmps64
  go_wp2_with (refine wp_copyNew rfl _ _ 45 rfl 47 (.agg #[.int .i64 0, .int .i64 0, .slice none 0 0, .slice none 0 0, .slice none 0 0]) 5 88 Try.underlying45 (by kernel_rfl) w.heap.size q.length rfl 47 _ (Blk.new _ _ _) (by simp [made_size]) b o cap rfl (q.flatMap fun y => cellsP y.1 y.2) hlen (fun j u hu => ((Fr.refl w).alloc _).cell (rd_cellsP HX.out j u hu)) hone ?_; intro w5 hB5 hC5 hs5)
  go_ret
  exact ⟨rfl, hB5, hC5.fr (fun k hk => by omega) ((Fr.refl w).alloc _), by rw [hs5]; simp⟩
/-- copied at ints: memory of its own. -/
theorem copiedI (A : Option Addr) (cap : Nat) (q : List Int) (w : World) (hx : RdSl rdInt w.cell? 1 A q) (hl : q.length ≤ 1048576) :
    Calls Try.prog 63 #[.slice A q.length cap] w fun r w' => ∃ A', r = .returned (.slice A' q.length q.length) ∧ Fr w w' ∧ RdSl rdInt w'.cell? 1 A' q ∧ ∃ S : Nat → Prop, (∀ k, S k → k = w.heap.size ∧ Gd w' k) ∧ ShI w' S A' q.length := by
  rcases Nat.eq_zero_or_pos q.length with h0 | h0
  · have hq : q = [] := List.eq_nil_of_length_eq_zero h0
    subst hq
    simp only [List.length_nil]
    clear hx hl h0
    go_enter Try.func63, Try.ntmps63
    go_wp2
    go_ret
    exact ⟨none, rfl, Fr.refl w, RdSl.nil, fun _ => False, fun k h => h.elim, fun h => absurd rfl h, fun k h => by obtain ⟨ad, h, _⟩ := h; cases h⟩
  · refine (copiedInts A cap q w hx hl h0).mono fun r w' ⟨h1, h2, h3, _⟩ => ⟨_, h1, h3, fun _ => ⟨_, 0, rfl, fun i hi => ?_⟩, (· = w.heap.size), fun k hk => ⟨hk, by rw [hk]; exact ⟨_, _, by decide, h2⟩⟩, fun _ => ⟨_, _, _, rfl, h2, by simp⟩, fun k hk => ?_⟩
    · simp only [rdInt, h2.cell, Nat.zero_add, Nat.mul_one, Nat.add_zero]
      simp [iv, hi]
    · obtain ⟨ad, h1, h2⟩ := hk
      injection h1 with h1
      subst h1
      exact h2.symm
theorem copiedAnyP (A : Option Addr) (c : Nat) (ks : List Pl) (q : List (Pl × Sl3)) (w : World) (hq : q.map (·.1) = ks) (hx : RdSl rdLaidP w.cell? 5 A q) (hl : ks.length ≤ 1048576) :
    Calls Try.prog 64 #[.slice A ks.length c] w fun r w' => ∃ A', r = .returned (.slice A' ks.length ks.length) ∧ A' = (if ks = [] then none else some ⟨w.heap.size, 0, none⟩) ∧ Fr w w' ∧ (ks ≠ [] → Blk w' w.heap.size 47 (q.flatMap fun y => cellsP y.1 y.2).toArray) := by
  have hlen : q.length = ks.length := by rw [← hq, List.length_map]
  by_cases hk : ks = []
  · subst hk
    refine (copiedNilP A c w).mono ?_
    rintro r w' ⟨rfl, rfl⟩
    exact ⟨none, rfl, by rw [if_pos rfl], Fr.refl _, fun h => absurd rfl h⟩
  · have hne : q ≠ [] := fun e => hk (by rw [← hq, e]; rfl)
    rw [← hlen]
    refine (copiedPl A c q w hx (by omega) hne).mono ?_
    rintro r w' ⟨rfl, h1, h2, _⟩
    exact ⟨_, rfl, by rw [if_neg hk], h2, fun _ => h1⟩
/-- The laid kids of a plan. -/
theorem laidP {d : Nat} {m : Mv} {A : Option Addr} {xs : List Pl} (h : RdSl (rdPl d) m 5 A xs) : ∃ q : List (Pl × Sl3), q.map (·.1) = xs ∧ RdSl rdLaidP m 5 A q ∧ (∀ n, d = n + 1 → ∀ x ∈ q, PlOk n m x.1 x.2) ∧ (xs ≠ [] → 0 < d) := by
  cases d with
  | zero =>
    have h0 := h.pl0
    exact ⟨[], by rw [h0]; rfl, RdSl.nil, fun n hn => by omega, fun hne => absurd h0 hne⟩
  | succ n =>
    by_cases hne : xs = []
    · subst hne
      exact ⟨[], rfl, RdSl.nil, fun _ _ x hx => by simp at hx, fun h => absurd rfl h⟩
    obtain ⟨b, o, hA, hc⟩ := h hne
    have hp : ∀ i : Fin xs.length, ∃ p : Sl3, rdLaidP m (fun j => m ⟨b, o + i.1 * 5 + j, none⟩) (xs[i.1], p) ∧ PlOk n m xs[i.1] p := fun i => by
      obtain ⟨s, g0, g1, g2, g3, g4, ok⟩ := rdPl_ok (hc i.1 i.2)
      exact ⟨s, ⟨g0, g1, g2, g3, g4⟩, ok⟩
    obtain ⟨f, hf⟩ := Classical.skolem.1 hp
    refine ⟨List.ofFn (fun i : Fin xs.length => (xs[i.1], f i)), ?_, ?_, fun n' hn' x hx => ?_, fun _ => by omega⟩
    · apply List.ext_getElem
      · simp
      · intro i h1 h2
        simp
    · intro _
      refine ⟨b, o, hA, fun i hi => ?_⟩
      simp only [List.length_ofFn] at hi
      have := (hf ⟨i, hi⟩).1
      simpa using this
    · rw [List.mem_ofFn] at hx
      obtain ⟨i, rfl⟩ := hx
      obtain rfl : n = n' := by omega
      exact (hf i).2
/-- The laid expressions of a plan. -/
theorem laidX {d : Nat} {m : Mv} {A : Option Addr} {xs : List Ex} (h : RdSl (rdEx d) m 5 A xs) : ∃ q : List (Ex × Option Addr × Nat), q.map (·.1) = xs ∧ RdSl rdLaid m 5 A q ∧ (∀ n, d = n + 1 → ∀ x ∈ q, KidsOk n m x) ∧ (xs ≠ [] → 0 < d) := by
  cases d with
  | zero =>
    have h0 := h.ex0
    exact ⟨[], by rw [h0]; rfl, RdSl.nil, fun n hn => by omega, fun hne => absurd h0 hne⟩
  | succ n =>
    obtain ⟨q, h1, h2, h3⟩ := laidOf h
    exact ⟨q, h1, h2, fun n' hn' y hy => by obtain rfl : n = n' := by omega
                                            exact h3 y hy, fun _ => by omega⟩
theorem parts_tot : ∀ (n : Nat) (e : Ex), parts n e ≤ 1 + tot n e.kids
  | 0, _ => by simp only [parts]; omega
  | n + 1, e => by
    simp only [parts, tot]
    have h2 : ∀ xs : List Ex, sumN (parts n) xs ≤ xs.length + sumT (fun x => tot n x.kids) xs := fun xs => by
      induction xs with
      | nil => exact Nat.le_refl _
      | cons a r ih => simp only [sumN, sumT, List.length_cons]; have := parts_tot n a; omega
    have := h2 e.kids
    omega
theorem parts_at {n : Nat} {xs : List Ex} (h : tot (n + 1) xs ≤ 1048576) {i : Nat} (hi : i < xs.length) : parts n xs[i] ≤ 1048576 := by
  have h1 := parts_tot n xs[i]
  have h2 := sumT_at (f := fun x => tot n x.kids) hi
  simp only [tot] at h
  omega
/-- Five cells of an expression. -/
def At5E (cs : Array Value) (o : Nat) (e : Ex) (K : Option Addr) (c : Nat) : Prop := cs[o]? = some (.int .i64 e.kind) ∧ cs[o + 1]? = some (.int .i64 e.col) ∧ cs[o + 2]? = some (.bool e.val.null) ∧ cs[o + 3]? = some (.int .i64 e.val.n) ∧ cs[o + 4]? = some (.slice K e.kids.length c)
/-- The loop over the expressions: those before i are copied, the others lie as they lay. -/
def ExL (d : Nat) (mo : Mv) (lo E : Nat) (xs : List Ex) (i : Nat) (W : World) : Prop := ∃ cs, ∃ T : Nat → Nat → Prop, Blk W E 93 cs ∧ cs.size = xs.length * 5 ∧ E < lo ∧ (∀ j k, T j k → lo ≤ k ∧ ∃ c, Blk W k 93 c) ∧ (∀ i j k, T i k → T j k → i = j) ∧
  ∀ j (h : j < xs.length), ∃ K c, At5E cs (j * 5) xs[j] K c ∧ xs[j].kids.length ≤ maxLen ∧ xs[j].kids.length ≤ c ∧ (i ≤ j → RdSl (rdEx d) mo 5 K xs[j].kids) ∧ (j < i → RdSl (rdEx d) W.cell? 5 K xs[j].kids ∧ ShS d W (T j) K xs[j].kids)
theorem ExL.start {d : Nat} {mo : Mv} {E lo : Nat} {xs : List Ex} {q : List (Ex × Option Addr × Nat)} {W : World} (hB : Blk W E 93 (q.flatMap cellsE).toArray) (hlo : E < lo) (hq : q.map (·.1) = xs) (hk : ∀ y ∈ q, KidsOk d mo y) : ExL d mo lo E xs 0 W := by
  have hl : q.length = xs.length := by rw [← hq, List.length_map]
  refine ⟨_, fun _ _ => False, hB, by rw [List.size_toArray, cellsE_len, hl], hlo, fun _ _ h => h.elim, fun _ _ _ h => h.elim, fun j hj => ?_⟩
  have hjq : j < q.length := by omega
  have he : q[j].1 = xs[j] := by simp [← hq]
  obtain ⟨k1, k2, k3⟩ := hk q[j] (List.getElem_mem hjq)
  have hcell : ∀ p (hp : p < (cellsE q[j]).length), (q.flatMap cellsE).toArray[j * 5 + p]? = some (cellsE q[j])[p] := fun p hp => by
    have := flatMap_get (f := cellsE) (sz := 5) (fun _ => rfl) q j hjq p (by simpa [cellsE] using hp) hp
    simpa using this
  have e0 := hcell 0 (by simp [cellsE])
  have e1 := hcell 1 (by simp [cellsE])
  have e2 := hcell 2 (by simp [cellsE])
  have e3 := hcell 3 (by simp [cellsE])
  have e4 := hcell 4 (by simp [cellsE])
  simp only [cellsE, List.getElem_cons_zero, List.getElem_cons_succ, Nat.add_zero] at e0 e1 e2 e3 e4
  rw [he] at e0 e1 e2 e3 e4 k1 k2 k3
  exact ⟨q[j].2.1, q[j].2.2, ⟨e0, e1, e2, e3, e4⟩, k2, k3, fun _ => k1, fun h => absurd h (by omega)⟩
/-- One expression copied. -/
theorem ExL.step {d : Nat} {mo : Mv} {E lo : Nat} {xs : List Ex} {i : Nat} {W w3 : World} (h : ExL d mo lo E xs i W) (hlW : lo ≤ W.heap.size) (hi : i < xs.length) (hf : Fr W w3) {A' : Option Addr} {c' : Nat} (hk : KidsOk d (fromB w3 W.heap.size) (xs[i], A', c')) {S : Nat → Prop} (hS : ShS d w3 S A' xs[i].kids) (hSk : ∀ k, S k → W.heap.size < k) :
    ExL d mo lo E xs (i + 1) (((((w3.setCell ⟨E, i * 5, none⟩ (.int .i64 xs[i].kind)).setCell ⟨E, i * 5 + 1, none⟩ (.int .i64 xs[i].col)).setCell ⟨E, i * 5 + 2, none⟩ (.bool xs[i].val.null)).setCell ⟨E, i * 5 + 3, none⟩ (.int .i64 xs[i].val.n)).setCell ⟨E, i * 5 + 4, none⟩ (.slice A' xs[i].kids.length c')) := by
  obtain ⟨cs, T, hB, hz, hE, t1, t2, t3⟩ := h
  have hC : Ch (· = E) w3 (((((w3.setCell ⟨E, i * 5, none⟩ (.int .i64 xs[i].kind)).setCell ⟨E, i * 5 + 1, none⟩ (.int .i64 xs[i].col)).setCell ⟨E, i * 5 + 2, none⟩ (.bool xs[i].val.null)).setCell ⟨E, i * 5 + 3, none⟩ (.int .i64 xs[i].val.n)).setCell ⟨E, i * 5 + 4, none⟩ (.slice A' xs[i].kids.length c')) := chSet (chSet (chSet (chSet (chSet (Ch.refl w3)))))
  have hEl := hB.lt
  have kS : ∀ {S : Nat → Prop}, (∀ k, S k → E < k) → KeepS S w3 _ := fun hS => hC.keepS fun k hk e => by have := hS k hk; omega
  refine ⟨_, fun j => if j = i then (fun k => S k ∧ ∃ c, Blk w3 k 93 c) else T j, (((((hB.fr hf).set_ _ _).set_ _ _).set_ _ _).set_ _ _).set_ _ _, by simpa using hz, hE, fun j k hT => ?_, fun a b k ha hb => ?_, fun j hj => ?_⟩
  · simp only at hT
    split at hT
    · obtain ⟨hs, c, hc⟩ := hT
      have := hSk k hs
      exact ⟨by omega, c, (hC.block k hc.lt (by omega)).trans hc⟩
    · obtain ⟨a, c, hc⟩ := t1 j k hT
      exact ⟨a, c, (hC.block k (hc.fr hf).lt (by omega)).trans (hc.fr hf)⟩
  · simp only at ha hb
    split at ha <;> split at hb
    · omega
    · have := hSk k ha.1
      obtain ⟨_, c, hc⟩ := t1 _ _ hb
      have := hc.lt
      omega
    · have := hSk k hb.1
      obtain ⟨_, c, hc⟩ := t1 _ _ ha
      have := hc.lt
      omega
    · exact t2 _ _ _ ha hb
  · by_cases e : j = i
    · subst e
      refine ⟨A', c', ?_, hk.2.1, hk.2.2, fun h => absurd h (by omega), fun _ => ⟨?_, ?_⟩⟩
      · unfold At5E
        simp only [Array.getElem?_setIfInBounds, Array.size_setIfInBounds]
        refine ⟨?_, ?_, ?_, ?_, ?_⟩ <;> simp <;> omega
      · exact shS_rd hS (kS fun k hk => by have := hSk k hk; omega) (hk.1.mono (rdEx_mono d) (fromB_le _ _))
      · simp only [if_true]
        exact hS.good.keep (kS fun k hk => by have := hSk k hk.1; omega)
    · obtain ⟨K, c, a5, l1, l2, h1, h2⟩ := t3 j hj
      refine ⟨K, c, ?_, l1, l2, fun h => h1 (by omega), fun h => ?_⟩
      · unfold At5E at a5 ⊢
        obtain ⟨b0, b1, b2, b3, b4⟩ := a5
        simp only [Array.getElem?_setIfInBounds, Array.size_setIfInBounds]
        refine ⟨?_, ?_, ?_, ?_, ?_⟩ <;> (repeat rw [if_neg (by omega)]) <;> assumption
      · obtain ⟨r, sh⟩ := h2 (by omega)
        have kk : KeepS (T j) W _ := hf.keepS.trans (kS fun k hk => by have := (t1 j k hk).1; omega)
        simp only [if_neg e]
        exact ⟨shS_rd sh kk r, sh.keep kk⟩
/-- All expressions copied: the list lies in memory of its own. -/
theorem ExL.fin {d : Nat} {mo : Mv} {E lo : Nat} {xs : List Ex} {W : World} (h : ExL d mo lo E xs xs.length W) : RdSl (rdEx (d + 1)) W.cell? 5 (some ⟨E, 0, none⟩) xs ∧ ∃ S : Nat → Prop, (∀ k, S k → E ≤ k ∧ Gd W k) ∧ ShS (d + 1) W S (some ⟨E, 0, none⟩) xs := by
  obtain ⟨cs, T, hB, hz, hE, t1, t2, t3⟩ := h
  refine ⟨fun _ => ⟨E, 0, rfl, fun i hi => ?_⟩, fun k => k = E ∨ ∃ j, T j k, fun k hk => ?_, fun _ => ⟨E, cs, T, rfl, .inl rfl, hB, by omega, fun i k hT => ⟨.inr ⟨i, hT⟩, by have := (t1 i k hT).1; omega⟩, t2, fun i hi => ?_⟩⟩
  · obtain ⟨K, c, ⟨b0, b1, b2, b3, b4⟩, l1, l2, _, h2⟩ := t3 i hi
    refine ⟨?_, ?_, ?_, ?_, K, c, ?_, (h2 hi).1, l1, l2⟩
    all_goals simp only [hB.cell, Nat.zero_add, Nat.add_zero]
    · exact b0
    · exact b1
    · exact b2
    · exact b3
    · exact b4
  · rcases hk with rfl | ⟨j, hk⟩
    · exact ⟨Nat.le_refl _, _, cs, by decide, hB⟩
    · obtain ⟨a, c, hc⟩ := t1 j k hk
      exact ⟨by omega, _, c, by decide, hc⟩
  · obtain ⟨K, c, ⟨b0, b1, b2, b3, b4⟩, l1, l2, _, h2⟩ := t3 i hi
    exact ⟨K, c, b4, (h2 hi).2⟩
end Go.Proofs.Ytlmiadeaiiehaaa
