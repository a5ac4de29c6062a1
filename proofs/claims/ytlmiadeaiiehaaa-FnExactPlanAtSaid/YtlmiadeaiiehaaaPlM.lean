/- Marks on plans whose lists lie in blocks of their own: what is written, what is held. -/
import Derived.Test.YtlmiadeaiiehaaaPlU
namespace Go.Proofs.Ytlmiadeaiiehaaa
open Go Go.RowKit

/-- How many marks a list of plans takes. -/
def mkT : Nat → List Pl → Nat
  | 0, _ => 0
  | n + 1, xs => sumP (fun x => 2 + (4 * tot n x.exprs + x.cols.length + mkT n x.kids)) xs
def mkN (n : Nat) (x : Pl) : Nat := 4 * tot n x.exprs + x.cols.length + mkT n x.kids
theorem mkT_succ (n : Nat) (xs : List Pl) : mkT (n + 1) xs = sumP (fun x => 2 + mkN n x) xs := rfl
theorem mkT_nil (n : Nat) : mkT n [] = 0 := by cases n <;> rfl
theorem sumP_one (f : Pl → Nat) : ∀ xs, sumP (fun x => 1 + f x) xs = xs.length + sumP f xs
  | [] => rfl
  | x :: r => by simp only [sumP, List.length_cons]; have := sumP_one f r; omega
theorem mkT_le : ∀ (n : Nat) (xs : List Pl), mkT n xs ≤ 4 * szT n xs
  | 0, _ => Nat.zero_le _
  | n + 1, xs => by
    rw [mkT_succ, szT_succ, ← sumP_one]
    refine sumP_mul (fun x => ?_) xs
    have := mkT_le n x.kids
    unfold mkN ndT; omega
theorem mkN_le (n : Nat) (x : Pl) : mkN n x ≤ 4 * ndT n x := by
  have := mkT_le n x.kids
  unfold mkN ndT; omega
/-- How many the first i take. -/
def mkAt (n : Nat) (xs : List Pl) (i : Nat) : Nat := sumP (fun x => 2 + mkN n x) (xs.take i)
theorem mkAt_le (n : Nat) (xs : List Pl) (i : Nat) : mkAt n xs i ≤ mkT (n + 1) xs := sumP_le i
theorem mkAt_end (n : Nat) (xs : List Pl) : mkAt n xs xs.length = mkT (n + 1) xs := by rw [mkT_succ]; unfold mkAt; rw [List.take_length]
theorem mkAt_step (n : Nat) (xs : List Pl) {i : Nat} (hi : i < xs.length) : mkAt n xs (i + 1) = mkAt n xs i + (2 + mkN n xs[i]) := by unfold mkAt; rw [sumP_take hi]
/-- Marked ints at the head of a block of S. -/
def MkI (w : World) (S : Nat → Prop) (A : Option Addr) (m k : Nat) : Prop := ShI w S A m ∧ RdSl rdInt w.cell? 1 A (marks k m)
theorem MkI.keep {w w' : World} {S : Nat → Prop} {A : Option Addr} {m k : Nat} (h : MkI w S A m k) (hk : KeepA S w w') : MkI w' S A m k := ⟨h.1.keep hk, fun hne => by
  have hm : m ≠ 0 := by rintro rfl; exact hne rfl
  obtain ⟨g, t, cs, hA, hB, hn⟩ := h.1.1 hm
  have hB' := hk g t cs (h.1.2 g (by rw [hA]; exact atB_self)) hB
  obtain ⟨b, o, hA', hc⟩ := h.2 hne
  rw [hA] at hA'
  injection hA' with hA'
  injection hA' with h1 h2 _
  subst h1 h2
  refine ⟨g, 0, hA, fun i hi => ?_⟩
  have := hc i hi
  simp only [rdInt, hB.cell, hB'.cell] at this ⊢
  exact this⟩
/-- What marks on the three lists of a plan leave. -/
def NdM (n : Nat) (MP : World → (Nat → Prop) → Option Addr → List Pl → Nat → Prop) (w : World) (S : Nat → Prop) (e : Pl) (s : Sl3) (k : Nat) : Prop :=
  ∃ S0 S1 S2 : Nat → Prop, (∀ k, S0 k → S k) ∧ (∀ k, S1 k → S k) ∧ (∀ k, S2 k → S k) ∧ MkS n w S0 s.a0 e.exprs k ∧ MkI w S1 s.a1 e.cols.length (k + 4 * tot n e.exprs) ∧ MP w S2 s.a2 e.kids (k + 4 * tot n e.exprs + e.cols.length)
/-- What marks that begin with k leave. -/
def MkP : Nat → World → (Nat → Prop) → Option Addr → List Pl → Nat → Prop
  | 0, _, _, _, xs, _ => xs = []
  | n + 1, w, S, A, xs, k => xs ≠ [] → ∃ b cs, ∃ T : Nat → Nat → Prop, A = some ⟨b, 0, none⟩ ∧ S b ∧ Blk w b 47 cs ∧ xs.length * 5 ≤ cs.size ∧ (∀ i k, T i k → S k ∧ k ≠ b) ∧
      ∀ i (h : i < xs.length), ∃ s : Sl3, cs[i * 5 + 2]? = some (.slice s.a0 xs[i].exprs.length s.c0) ∧ cs[i * 5 + 3]? = some (.slice s.a1 xs[i].cols.length s.c1) ∧ cs[i * 5 + 4]? = some (.slice s.a2 xs[i].kids.length s.c2) ∧
        cs[i * 5]? = some (.int .i64 ((k + mkAt n xs i : Nat) : Int)) ∧ cs[i * 5 + 1]? = some (.int .i64 (((k + mkAt n xs i : Nat) : Int) + 1)) ∧ NdM n (MkP n) w (T i) xs[i] s (k + mkAt n xs i + 2)
theorem NdM.keep {n : Nat} {MP : World → (Nat → Prop) → Option Addr → List Pl → Nat → Prop} (hp : ∀ {w w' : World} {S : Nat → Prop} {A : Option Addr} {xs : List Pl} {k : Nat}, KeepA S w w' → MP w S A xs k → MP w' S A xs k) {w w' : World} {S : Nat → Prop} {e : Pl} {s : Sl3} {k : Nat} (hk : KeepA S w w') (h : NdM n MP w S e s k) : NdM n MP w' S e s k := by
  obtain ⟨S0, S1, S2, h0, h1, h2, g0, g1, g2⟩ := h
  exact ⟨S0, S1, S2, h0, h1, h2, g0.keep (hk.sub h0).keepS, g1.keep (hk.sub h1), hp (hk.sub h2) g2⟩
theorem MkP.keep : ∀ {n : Nat} {w w' : World} {S : Nat → Prop} {A : Option Addr} {xs : List Pl} {k : Nat}, KeepA S w w' → MkP n w S A xs k → MkP n w' S A xs k
  | 0, _, _, _, _, _, _, _, h => h
  | n + 1, _, _, _, _, _, _, hk, h => fun hne => by
    obtain ⟨b, cs, T, hA, hb, hB, hs, h1, hc⟩ := h hne
    refine ⟨b, cs, T, hA, hb, hk b _ cs hb hB, hs, h1, fun i hi => ?_⟩
    obtain ⟨s, q2, q3, q4, q0, q1, h5⟩ := hc i hi
    exact ⟨s, q2, q3, q4, q0, q1, NdM.keep (fun hk h => MkP.keep hk h) (hk.sub fun k hT => (h1 i k hT).1) h5⟩
theorem NdM.kp {n : Nat} {w w' : World} {S : Nat → Prop} {e : Pl} {s : Sl3} {k : Nat} (hk : KeepA S w w') (h : NdM n (MkP n) w S e s k) : NdM n (MkP n) w' S e s k := NdM.keep (fun hk h => MkP.keep hk h) hk h
/-- The three lists of a plan are marked, one behind the other. -/
theorem NdS.marks {n : Nat} {w : World} {S : Nat → Prop} {e : Pl} {s : Sl3} (h : NdS n (ShP n) w S e s) (k : Nat) : ∃ S0 S2 : Nat → Prop, ShS n w S0 s.a0 e.exprs ∧ (∀ k, S0 k → S k) ∧ (∀ k, AtB s.a1 k → S k) ∧ (∀ k, S2 k → S k) ∧ ∀ w1, Ch S0 w w1 → MkS n w1 S0 s.a0 e.exprs k → Mk w1 s.a1 e.cols.length ∧
    ∀ w2, Ch (AtB s.a1) w1 w2 → Mk w2 s.a1 e.cols.length → RdSl rdInt w2.cell? 1 s.a1 (marks (k + 4 * tot n e.exprs) e.cols.length) → ShP n w2 S2 s.a2 e.kids ∧
    ∀ w3, Ch S2 w2 w3 → MkP n w3 S2 s.a2 e.kids (k + 4 * tot n e.exprs + e.cols.length) → NdM n (MkP n) w3 S e s k ∧ Ch S w w3 := by
  obtain ⟨S0, S1, S2, h0, h1, h2, d1, d2, d3, g0, g1, g2⟩ := h
  refine ⟨S0, S2, g0, h0, fun k hk => h1 k (g1.2 k hk), h2, fun w1 c1 m1 => ?_⟩
  have k1 : KeepA S1 w w1 := c1.keepA fun k hk hk' => d1 k hk' hk
  have k2 : KeepA S2 w w1 := c1.keepA fun k hk hk' => d2 k hk' hk
  have g1' := g1.keep k1
  refine ⟨g1'.1, fun w2 c2 mk2 r2 => ?_⟩
  have k3 : KeepA S2 w1 w2 := c2.keepA fun k hk hk' => d3 k (g1.2 k hk') hk
  have k4 : KeepA S0 w1 w2 := c2.keepA fun k hk hk' => d1 k hk (g1.2 k hk')
  refine ⟨g2.keep (k2.trans k3), fun w3 c3 m3 => ⟨⟨S0, S1, S2, h0, h1, h2, ?_, ?_, m3⟩, ?_⟩⟩
  · exact m1.keep (k4.trans (c3.keepA fun k hk hk' => d2 k hk hk')).keepS
  · exact MkI.keep ⟨⟨mk2, g1.2⟩, r2⟩ (c3.keepA fun k hk hk' => d3 k hk hk')
  · exact ((c1.mono h0).trans (c2.mono fun k hk => h1 k (g1.2 k hk))).trans (c3.mono h2)
/-- The first i plans marked, the others not yet. -/
def MpAt (n : Nat) (w : World) (b : Nat) (T : Nat → Nat → Prop) (xs : List Pl) (k i : Nat) : Prop := ∃ cs, Blk w b 47 cs ∧ xs.length * 5 ≤ cs.size ∧ ∀ j (h : j < xs.length), ∃ s : Sl3, cs[j * 5 + 2]? = some (.slice s.a0 xs[j].exprs.length s.c0) ∧ cs[j * 5 + 3]? = some (.slice s.a1 xs[j].cols.length s.c1) ∧ cs[j * 5 + 4]? = some (.slice s.a2 xs[j].kids.length s.c2) ∧ (i ≤ j → NdS n (ShP n) w (T j) xs[j] s) ∧
  (j < i → cs[j * 5]? = some (.int .i64 ((k + mkAt n xs j : Nat) : Int)) ∧ cs[j * 5 + 1]? = some (.int .i64 (((k + mkAt n xs j : Nat) : Int) + 1)) ∧ NdM n (MkP n) w (T j) xs[j] s (k + mkAt n xs j + 2))
theorem MpAt.step {n : Nat} {w w' : World} {b : Nat} {T : Nat → Nat → Prop} {xs : List Pl} {k i : Nat} {s : Sl3} {cs : Array Value} (h : MpAt n w b T xs k i) (hi : i < xs.length)
    (hB : Blk w b 47 cs) (h2 : cs[i * 5 + 2]? = some (.slice s.a0 xs[i].exprs.length s.c0)) (h3 : cs[i * 5 + 3]? = some (.slice s.a1 xs[i].cols.length s.c1)) (h4 : cs[i * 5 + 4]? = some (.slice s.a2 xs[i].kids.length s.c2))
    (hB' : Blk w' b 47 ((cs.setIfInBounds (i * 5) (.int .i64 ((k + mkAt n xs i : Nat) : Int))).setIfInBounds (i * 5 + 1) (.int .i64 (((k + mkAt n xs i : Nat) : Int) + 1))))
    (hk : ∀ j, j ≠ i → KeepA (T j) w w') (hm : NdM n (MkP n) w' (T i) xs[i] s (k + mkAt n xs i + 2)) : MpAt n w' b T xs k (i + 1) := by
  obtain ⟨cs0, hB0, hs, hc⟩ := h
  obtain rfl : cs0 = cs := by
    have := hB0.symm.trans hB
    injection this with this
    injection this
  refine ⟨_, hB', by simpa using hs, fun j hj => ?_⟩
  by_cases e : j = i
  · subst e
    refine ⟨s, ?_, ?_, ?_, fun hh => absurd hh (by omega), fun _ => ⟨?_, ?_, hm⟩⟩
    all_goals simp only [Array.getElem?_setIfInBounds, Array.size_setIfInBounds]
    · (repeat rw [if_neg (by omega)]); exact h2
    · (repeat rw [if_neg (by omega)]); exact h3
    · (repeat rw [if_neg (by omega)]); exact h4
    · rw [if_neg (by omega), if_pos trivial, if_pos (by omega)]
    · rw [if_pos trivial, if_pos (by omega)]
  · obtain ⟨s', q2, q3, q4, q5, q6⟩ := hc j hj
    refine ⟨s', ?_, ?_, ?_, fun hh => (q5 (by omega)).kp (hk j e), fun hh => ?_⟩
    · simp only [Array.getElem?_setIfInBounds, Array.size_setIfInBounds]
      (repeat rw [if_neg (by omega)]); exact q2
    · simp only [Array.getElem?_setIfInBounds, Array.size_setIfInBounds]
      (repeat rw [if_neg (by omega)]); exact q3
    · simp only [Array.getElem?_setIfInBounds, Array.size_setIfInBounds]
      (repeat rw [if_neg (by omega)]); exact q4
    · obtain ⟨g0, g1, g5⟩ := q6 (by omega)
      refine ⟨?_, ?_, g5.kp (hk j e)⟩
      all_goals simp only [Array.getElem?_setIfInBounds, Array.size_setIfInBounds]
      · (repeat rw [if_neg (by omega)]); exact g0
      · (repeat rw [if_neg (by omega)]); exact g1
def MarkP (n : Nat) : Prop := ∀ (A : Option Addr) (cap : Nat) (xs : List Pl) (k : Nat) (S : Nat → Prop) (w : World), ShP n w S A xs → k + mkT n xs ≤ 1048576000 → szT n xs ≤ 1048576 →
    Calls Try.prog 44 #[.slice A xs.length cap, .int .i64 k] w fun r w' => r = .returned (.int .i64 ((k + mkT n xs : Nat) : Int)) ∧ Ch S w w' ∧ MkP n w' S A xs k
set_option maxRecDepth 100000 in
set_option maxHeartbeats 2000000 in
theorem markP (n : Nat) : MarkP n := by
  induction n using Nat.strongRecOn with
  | _ n ih =>
    intro A cap xs k S w hsh hk hsz
    by_cases hne : xs = []
    · subst hne
      rw [mkT_nil]
      have MN : Hid (∀ w : World, MkP n w S A [] k) := hid fun w => by cases n <;> simp [MkP]
      clear ih hsh hk hsz
      go_enter Try.func44, Try.ntmps44
      go_wp2
      refine wp_loop_rounds 1 ?_
      rw [rounds_succ]
      go_wp2
      go_ret
      exact ⟨rfl, Ch.refl _, MN.out _⟩
    cases n with
    | zero => exact absurd (show xs = [] from hsh) hne
    | succ n =>
    have IH := hid ih
    have htl : xs.length ≤ 1048576 := by have := szT_len (n + 1) xs; omega
    have HSZ := hid hsz
    obtain ⟨b, cs0, T, rfl, hSb, hB0, hz0, hT1, hT2, hc0⟩ := hsh hne
    have HA : Hid (MpAt n w b T xs k 0) := hid ⟨cs0, hB0, hz0, fun j hj => by
      obtain ⟨s, q2, q3, q4, h5⟩ := hc0 j hj
      exact ⟨s, q2, q3, q4, fun _ => h5, fun h => absurd h (by omega)⟩⟩
    have HT1 := hid hT1
    have HT2 := hid hT2
    have HSb := hid hSb
    clear hsh ih hB0 hz0 hc0 hT1 hT2 hSb hsz
    have T0 : mkAt n xs 0 = 0 := by simp [mkAt, sumP]
    go_enter Try.func44, Try.ntmps44
    go_wp2
    go_loopw [1, 5] (fun kv iv wr => ∃ (i : Nat), i ≤ xs.length ∧ iv = .int .i64 i ∧ kv = .int .i64 ((k + mkAt n xs i : Nat) : Int) ∧ Ch S w wr ∧ Hid (MpAt n wr b T xs k i)) (fun _ iv _ => xs.length - (intOf iv).toNat)
    case atStart => exact ⟨0, by omega, rfl, by rw [T0]; rfl, Ch.refl _, HA⟩
    case round =>
      obtain ⟨i, hi', rfl, rfl, hC, hM⟩ := hrel
      by_cases hlt : i < xs.length
      · have hst := mkAt_step n xs hlt
        have hle2 := mkAt_le n xs (i + 1)
        obtain ⟨cs, hB, hs, hc⟩ := hM.out
        obtain ⟨s, h2, h3, h4, h5, _⟩ := hc i hlt
        have ND := h5 (Nat.le_refl _)
        obtain ⟨K0, hK0⟩ : ∃ K0, k + mkAt n xs i = K0 := ⟨_, rfl⟩
        have HST := hid (fun (w' : World) => MpAt.step (w' := w') hM.out hlt hB h2 h3 h4)
        rw [hK0] at HST
        obtain ⟨z0, c0⟩ := hB.cell_some (i := i * 5) (by omega)
        obtain ⟨z1, c1⟩ := hB.cell_some (i := i * 5 + 1) (by omega)
        have f0 := hB.frozen (i * 5)
        have f1 := hB.frozen (i * 5 + 1)
        have hsk : ndT n xs[i] ≤ 1048576 := by have := szT_kid (n := n) hlt; have := HSZ.out; omega
        have hp := ndT_parts hsk
        have P1 := hp.2.2.2.1
        have P2 := hp.2.2.2.2.1
        have hK1 : K0 + 2 + mkN n xs[i] ≤ 1048576000 := by omega
        have hT := hid hst
        have HK0 := hid hK0
        have HB := hid hB
        have HK1 := hid hK1
        obtain ⟨E4, hE4⟩ : ∃ E4, K0 + 2 + 4 * tot n xs[i].exprs = E4 := ⟨_, rfl⟩
        obtain ⟨E5, hE5⟩ : ∃ E5, E4 + xs[i].cols.length = E5 := ⟨_, rfl⟩
        have hE6 : E5 + mkT n xs[i].kids ≤ 1048576000 := by unfold mkN at hK1; omega
        have hE7 : E4 ≤ 1048576000 := by omega
        have HE4 := hid hE4
        have HE5 := hid hE5
        have hmt : K0 + 2 + 4 * tot n xs[i].exprs ≤ 1099511627776 := by omega
        rw [hK0]
        have B2 : ∀ (u0 u1 : Value), Ch (· = b) wr ((wr.setCell ⟨b, i * 5, none⟩ u0).setCell ⟨b, i * 5 + 1, none⟩ u1) ∧ Blk ((wr.setCell ⟨b, i * 5, none⟩ u0).setCell ⟨b, i * 5 + 1, none⟩ u1) b 47 ((cs.setIfInBounds (i * 5) u0).setIfInBounds (i * 5 + 1) u1) := fun u0 u1 =>
          ⟨chSet (chSet (Ch.refl wr)), (HB.out.set_ (i * 5) u0).set_ (i * 5 + 1) u1⟩
        have W2 := hid B2
        have q2 : wr.cell? ⟨b, i * 5 + 2, none⟩ = some (.slice s.a0 xs[i].exprs.length s.c0) := (hB.cell _).trans h2
        have H2 := hid h2
        have H3 := hid h3
        have H4 := hid h4
        have HND := hid ND
        have HSI := hid hs
        clear B2 h2 h3 h4 h5 hc hst hle2 hK0 hB ND hE4 hE5 hp hK1 hs
        go_wp2_with fail
        obtain ⟨g1, g2⟩ := W2.out (.int .i64 K0) (.int .i64 ((K0 : Int) + 1))
        obtain ⟨S0, S2, m0, u0, u1, u2, mm⟩ := NdS.marks (HND.out.kp (g1.keepA fun k hk e => (HT1.out i k hk).2 e)) (K0 + 2)
        have U0 := hid u0
        have U1 := hid u1
        have U2 := hid u2
        rw [show ((K0 : Int) + 1 + 1) = ((K0 + 2 : Nat) : Int) by omega]
        refine (markT n s.a0 s.c0 xs[i].exprs (K0 + 2) S0 _ m0 hmt).mono ?_
        rintro r w2 ⟨rfl, g4, g5⟩
        obtain ⟨mk1, mm2⟩ := mm w2 g4 g5
        have hB2 := (g4.block b g2.lt (fun h => (HT1.out i b (U0.out b h)).2 rfl)).trans g2
        have HB2 : Hid (Blk w2 b 47 _) := hid hB2
        have G1 := hid g1
        have MM2 := hid mm2
        clear mm mm2 g2 g1 g4 g5 m0 c0 c1 q2 f0 f1 u0 u1 u2
        rw [HE4.out]
        have q3 : w2.cell? ⟨b, i * 5 + 3, none⟩ = some (.slice s.a1 xs[i].cols.length s.c1) := by
          rw [Blk.cell hB2]
          simp only [Array.getElem?_setIfInBounds, Array.size_setIfInBounds]
          (repeat rw [if_neg (by omega)]); exact H3.out
        clear hB2
        go_wp2_with fail
        refine (markInts s.a1 xs[i].cols.length s.c1 E4 w2 (by omega) (by omega) mk1).mono ?_
        rintro r w3 ⟨rfl, c3, r3, mk3⟩
        obtain ⟨sh2, mm3⟩ := MM2.out w3 c3 mk3 (by rw [HE4.out]; exact r3)
        have hB3 := (c3.block b HB2.out.lt (fun h => (HT1.out i b (U1.out b h)).2 rfl)).trans HB2.out
        have HB3 : Hid (Blk w3 b 47 _) := hid hB3
        have MM3 := hid mm3
        clear mm3 c3 r3 mk3 q3 MM2
        rw [HE5.out]
        have q4 : w3.cell? ⟨b, i * 5 + 4, none⟩ = some (.slice s.a2 xs[i].kids.length s.c2) := by
          rw [Blk.cell hB3]
          simp only [Array.getElem?_setIfInBounds, Array.size_setIfInBounds]
          (repeat rw [if_neg (by omega)]); exact H4.out
        clear hB3
        go_wp2_with fail
        refine (IH.out n (by omega) s.a2 s.c2 xs[i].kids E5 S2 w3 sh2 hE6 P2).mono ?_
        rintro r w4 ⟨rfl, c4, m4⟩
        obtain ⟨nd, chS⟩ := MM3.out w4 c4 (by rw [HE4.out, HE5.out]; exact m4)
        have hB4 := (c4.block b HB3.out.lt (fun h => (HT1.out i b (U2.out b h)).2 rfl)).trans HB3.out
        have HN := hid (HST.out w4 hB4 (fun j hj => (G1.out.keepA fun k hk e => (HT1.out j k hk).2 e).trans (chS.keepA fun k hk hk' => hj (HT2.out j i k hk hk'))) nd)
        have hC2 : Ch S w w4 := (hC.trans (G1.out.mono fun k hk => by subst hk; exact HSb.out)).trans (chS.mono fun k hk => (HT1.out i k hk).1)
        clear nd chS hB4 q4 c4 m4 sh2 MM3
        go_wp2
        go_roundw
        case rel => exact ⟨i + 1, by omega, by go_num, by
          have h1 := hT.out
          have h2 := HK0.out
          have h3 := HE4.out
          have h4 := HE5.out
          unfold mkN at h1
          congr 1
          omega, hC2, HN⟩
        case measure => simp [intOf]; omega
      · obtain rfl : i = xs.length := by omega
        rw [mkAt_end]
        go_wp2
        go_ret
        refine ⟨rfl, hC, fun _ => ?_⟩
        obtain ⟨cs, hB, hs, hc⟩ := hM.out
        refine ⟨b, cs, T, rfl, HSb.out, hB, hs, HT1.out, fun j hj => ?_⟩
        obtain ⟨s, q2, q3, q4, _, h6⟩ := hc j hj
        obtain ⟨p0, p1, p5⟩ := h6 hj
        exact ⟨s, q2, q3, q4, p0, p1, p5⟩
set_option maxHeartbeats 1000000 in
theorem markPN (n : Nat) (e : Pl) (s : Sl3) (k : Nat) (S : Nat → Prop) (w : World) (hsh : NdS n (ShP n) w S e s) (hS : ∀ k, S k → k < w.heap.size) (hk : k + mkN n e ≤ 1048576000) (hsz : ndT n e ≤ 1048576) :
    Calls Try.prog 21 #[plV e s, .int .i64 k] w fun r w' => r = .returned (.int .i64 ((k + mkN n e : Nat) : Int)) ∧ Ch S w w' ∧ NdM n (MkP n) w' S e s k := by
  have hp := ndT_parts hsz
  have P1 := hp.2.2.2.1
  have P2 := hp.2.2.2.2.1
  obtain ⟨E4, hE4⟩ : ∃ E4, k + 4 * tot n e.exprs = E4 := ⟨_, rfl⟩
  obtain ⟨E5, hE5⟩ : ∃ E5, E4 + e.cols.length = E5 := ⟨_, rfl⟩
  have hE8 : k + mkN n e = E5 + mkT n e.kids := by unfold mkN; omega
  have hE6 : E5 + mkT n e.kids ≤ 1048576000 := by omega
  have hmt : k + 4 * tot n e.exprs ≤ 1099511627776 := by omega
  have hE7 : E4 ≤ 1048576000 := by omega
  rw [hE8]
  have HE4 := hid hE4
  have HE5 := hid hE5
  have F1 : Fr w (w.alloc (.cells #[.int .i64 e.kind, .int .i64 e.table, .slice s.a0 e.exprs.length s.c0, .slice s.a1 e.cols.length s.c1, .slice s.a2 e.kids.length s.c2] 47)) := (Fr.refl _).alloc _
  have BA := Blk.new w 47 #[.int .i64 e.kind, .int .i64 e.table, .slice s.a0 e.exprs.length s.c0, .slice s.a1 e.cols.length s.c1, .slice s.a2 e.kids.length s.c2]
  have hno : ∀ k, S k → k ≠ w.heap.size := fun k hk e => by have := hS k hk; omega
  obtain ⟨S0, S2, m0, u0, u1, u2, mm⟩ := NdS.marks (hsh.kp F1.keepA) k
  have U0 := hid u0
  have U1 := hid u1
  have U2 := hid u2
  have MM := hid mm
  have HB := hid BA
  have HNO := hid hno
  have HF1 := hid F1
  clear hsh hS hk hsz hp hE8 hE4 hE5 mm u0 u1 u2 BA hno F1
  obtain ⟨A0, c0, A1, c1, A2, c2⟩ := s
  unfold plV
  simp only at *
  go_enter Try.func21, Try.ntmps21
  go_wp2_with fail
  refine (markT n A0 c0 e.exprs k S0 _ m0 hmt).mono ?_
  rintro r w2 ⟨rfl, g4, g5⟩
  obtain ⟨mk1, mm2⟩ := MM.out w2 g4 g5
  have hB2 := (g4.block _ HB.out.lt (fun h => HNO.out _ (U0.out _ h) rfl)).trans HB.out
  have HB2 : Hid (Blk w2 _ 47 _) := hid hB2
  have MM2 := hid mm2
  obtain ⟨_, _, _, q3, _, _⟩ := Blk.five hB2
  rw [HE4.out]
  clear mm2 g4 g5 m0 hB2
  go_wp2_with fail
  refine (markInts A1 e.cols.length c1 E4 w2 (by omega) (by omega) mk1).mono ?_
  rintro r w3 ⟨rfl, c3, r3, mk3⟩
  obtain ⟨sh2, mm3⟩ := MM2.out w3 c3 mk3 (by rw [HE4.out]; exact r3)
  have hB3 := (c3.block _ HB2.out.lt (fun h => HNO.out _ (U1.out _ h) rfl)).trans HB2.out
  have MM3 := hid mm3
  obtain ⟨_, _, _, _, q4, _⟩ := Blk.five hB3
  rw [HE5.out]
  clear mm3 c3 r3 mk3 q3 MM2 hB3
  go_wp2_with fail
  refine (markP n A2 c2 e.kids E5 S2 w3 sh2 hE6 P2).mono ?_
  rintro r w4 ⟨rfl, c4, m4⟩
  obtain ⟨nd, chS⟩ := MM3.out w4 c4 (by rw [HE4.out, HE5.out]; exact m4)
  have ND := hid nd
  have HC := hid (HF1.out.ch (S := S) |>.trans chS)
  clear nd chS c4 m4 sh2 MM3 q4
  go_wp2
  go_ret
  exact ⟨rfl, HC.out, ND.out⟩
def HeldP (n : Nat) : Prop := ∀ (A : Option Addr) (cap : Nat) (xs : List Pl) (k : Nat) (S : Nat → Prop) (w : World), MkP n w S A xs k → k + mkT n xs ≤ 1048576000 → szT n xs ≤ 1048576 →
    Calls Try.prog 46 #[.slice A xs.length cap, .int .i64 k] w fun r w' => r = .returned (.int .i64 ((k + mkT n xs : Nat) : Int)) ∧ w = w'
set_option maxRecDepth 100000 in
set_option maxHeartbeats 2000000 in
theorem heldP (n : Nat) : HeldP n := by
  induction n using Nat.strongRecOn with
  | _ n ih =>
    intro A cap xs k S w hmk hk hsz
    by_cases hne : xs = []
    · subst hne
      rw [mkT_nil]
      clear ih hmk hk hsz
      go_enter Try.func46, Try.ntmps46
      go_wp2
      refine wp_loop_rounds 1 ?_
      rw [rounds_succ]
      go_wp2
      go_ret
      exact ⟨rfl, rfl⟩
    cases n with
    | zero => exact absurd (show xs = [] from hmk) hne
    | succ n =>
    have IH := hid ih
    have htl : xs.length ≤ 1048576 := by have := szT_len (n + 1) xs; omega
    have HSZ := hid hsz
    obtain ⟨b, cs, T, rfl, _, hB, _, _, hc⟩ := hmk hne
    have HC := hid hc
    have HB := hid hB
    clear hmk ih hc hB hsz
    have T0 : mkAt n xs 0 = 0 := by simp [mkAt, sumP]
    go_enter Try.func46, Try.ntmps46
    go_wp2
    go_loopw [1, 5] (fun kv iv wr => ∃ (i : Nat), i ≤ xs.length ∧ iv = .int .i64 i ∧ kv = .int .i64 ((k + mkAt n xs i : Nat) : Int) ∧ w = wr) (fun _ iv _ => xs.length - (intOf iv).toNat)
    case atStart => exact ⟨0, by omega, rfl, by rw [T0]; rfl, rfl⟩
    case round =>
      obtain ⟨i, hi', rfl, rfl, rfl⟩ := hrel
      by_cases hlt : i < xs.length
      · have hst := mkAt_step n xs hlt
        have hle2 := mkAt_le n xs (i + 1)
        obtain ⟨s, h2, h3, h4, h0, h1, S0, S1, S2, _, _, _, m0, m1, m2⟩ := HC.out i hlt
        obtain ⟨K0, hK0⟩ : ∃ K0, k + mkAt n xs i = K0 := ⟨_, rfl⟩
        rw [hK0] at h0 h1 m0 m1 m2
        have c0 := (HB.out.cell (i * 5)).trans h0
        have c1 := (HB.out.cell (i * 5 + 1)).trans h1
        have c2 := (HB.out.cell (i * 5 + 2)).trans h2
        have c3 := (HB.out.cell (i * 5 + 3)).trans h3
        have c4 := (HB.out.cell (i * 5 + 4)).trans h4
        have hsk : ndT n xs[i] ≤ 1048576 := by have := szT_kid (n := n) hlt; have := HSZ.out; omega
        have hp := ndT_parts hsk
        have P1 := hp.2.2.2.1
        have P2 := hp.2.2.2.2.1
        have hK1 : K0 + 2 + mkN n xs[i] ≤ 1048576000 := by omega
        have hT := hid hst
        have HK0 := hid hK0
        obtain ⟨E4, hE4⟩ : ∃ E4, K0 + 2 + 4 * tot n xs[i].exprs = E4 := ⟨_, rfl⟩
        obtain ⟨E5, hE5⟩ : ∃ E5, E4 + xs[i].cols.length = E5 := ⟨_, rfl⟩
        have hE6 : E5 + mkT n xs[i].kids ≤ 1048576000 := by unfold mkN at hK1; omega
        have hE7 : E4 ≤ 1048576000 := by omega
        rw [hE4] at m1 m2
        rw [hE5] at m2
        have HE4 := hid hE4
        have HE5 := hid hE5
        have hmt : K0 + 2 + 4 * tot n xs[i].exprs ≤ 1099511627776 := by omega
        have M0 := hid m0
        have M1 := hid m1.2
        have M2 := hid m2
        have dA : decide ((E4 : Int) < 0) = false := decide_eq_false (by omega)
        have dB : decide ((E5 : Int) < 0) = false := decide_eq_false (by omega)
        have dC : decide (((E5 + mkT n xs[i].kids : Nat) : Int) < 0) = false := decide_eq_false (by omega)
        rw [hK0]
        clear h0 h1 h2 h3 h4 hst hle2 hK0 hE4 hE5 hp hK1 m0 m1 m2
        go_wp2_with fail
        rw [show ((K0 : Int) + 1 + 1) = ((K0 + 2 : Nat) : Int) by omega]
        refine (heldT n s.a0 s.c0 xs[i].exprs (K0 + 2) S0 _ M0.out hmt).mono ?_
        rintro r w2 ⟨rfl, rfl⟩
        rw [HE4.out]
        go_wp2_with fail
        refine (heldInts s.a1 xs[i].cols.length s.c1 E4 w (by omega) (by omega) M1.out).mono ?_
        rintro r w3 ⟨rfl, rfl⟩
        rw [HE5.out]
        go_wp2_with fail
        refine (IH.out n (by omega) s.a2 s.c2 xs[i].kids E5 S2 w M2.out hE6 P2).mono ?_
        rintro r w4 ⟨rfl, rfl⟩
        go_wp2
        go_roundw
        case rel => exact ⟨i + 1, by omega, by go_num, by
          have h1 := hT.out
          have h2 := HK0.out
          have h3 := HE4.out
          have h4 := HE5.out
          unfold mkN at h1
          congr 1
          omega, trivial⟩
        case measure => simp [intOf]; omega
      · obtain rfl : i = xs.length := by omega
        rw [mkAt_end]
        go_wp2
        go_ret
        exact ⟨rfl, rfl⟩
set_option maxHeartbeats 1000000 in
theorem heldPN (n : Nat) (e : Pl) (s : Sl3) (k : Nat) (S : Nat → Prop) (w : World) (hmk : NdM n (MkP n) w S e s k) (hk : k + mkN n e ≤ 1048576000) (hsz : ndT n e ≤ 1048576) :
    Calls Try.prog 23 #[plV e s, .int .i64 k] w fun r w' => r = .returned (.int .i64 ((k + mkN n e : Nat) : Int)) ∧ Fr w w' := by
  have hp := ndT_parts hsz
  have P1 := hp.2.2.2.1
  have P2 := hp.2.2.2.2.1
  obtain ⟨E4, hE4⟩ : ∃ E4, k + 4 * tot n e.exprs = E4 := ⟨_, rfl⟩
  obtain ⟨E5, hE5⟩ : ∃ E5, E4 + e.cols.length = E5 := ⟨_, rfl⟩
  have hE8 : k + mkN n e = E5 + mkT n e.kids := by unfold mkN; omega
  have hE6 : E5 + mkT n e.kids ≤ 1048576000 := by omega
  have hmt : k + 4 * tot n e.exprs ≤ 1099511627776 := by omega
  have hE7 : E4 ≤ 1048576000 := by omega
  rw [hE8]
  have HE4 := hid hE4
  have HE5 := hid hE5
  have F1 : Fr w (w.alloc (.cells #[.int .i64 e.kind, .int .i64 e.table, .slice s.a0 e.exprs.length s.c0, .slice s.a1 e.cols.length s.c1, .slice s.a2 e.kids.length s.c2] 47)) := (Fr.refl _).alloc _
  obtain ⟨S0, S1, S2, _, _, _, m0, m1, m2⟩ := hmk.kp F1.keepA
  rw [hE4] at m1 m2
  rw [hE5] at m2
  have M0 := hid m0
  have M1 := hid m1.2
  have M2 := hid m2
  have dA : decide ((E4 : Int) < 0) = false := decide_eq_false (by omega)
  have dB : decide ((E5 : Int) < 0) = false := decide_eq_false (by omega)
  have dC : decide (((E5 + mkT n e.kids : Nat) : Int) < 0) = false := decide_eq_false (by omega)
  clear hmk hk hsz hp hE8 hE4 hE5 m0 m1 m2
  obtain ⟨A0, c0, A1, c1, A2, c2⟩ := s
  unfold plV
  simp only at *
  go_enter Try.func23, Try.ntmps23
  go_wp2_with fail
  refine (heldT n A0 c0 e.exprs k S0 _ M0.out hmt).mono ?_
  rintro r w2 ⟨rfl, rfl⟩
  rw [HE4.out]
  go_wp2_with fail
  refine (heldInts A1 e.cols.length c1 E4 _ (by omega) (by omega) M1.out).mono ?_
  rintro r w3 ⟨rfl, rfl⟩
  rw [HE5.out]
  go_wp2_with fail
  refine (heldP n A2 c2 e.kids E5 S2 _ M2.out hE6 P2).mono ?_
  rintro r w4 ⟨rfl, rfl⟩
  go_wp2
  go_ret
  exact ⟨rfl, F1⟩
end Go.Proofs.Ytlmiadeaiiehaaa
