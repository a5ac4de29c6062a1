/- Marks on expressions that lie in blocks of their own: what is written, what is held (MarkT over OwnP). -/
import Derived.Test.YtlmiadeaiiehaaaShp
import Derived.Test.YtlmiadeaiiehaaaOwnP
namespace Go.Proofs.Ytlmiadeaiiehaaa
open Go Go.RowKit

theorem tot_len (n : Nat) (xs : List Ex) : xs.length ≤ tot n xs := by cases n <;> simp only [tot] <;> omega
/-- How many parts the first i have. -/
def totAt : Nat → List Ex → Nat → Nat
  | 0, _, i => i
  | n + 1, xs, i => i + sumT (fun x => tot n x.kids) (xs.take i)
theorem totAt_le (n : Nat) (xs : List Ex) {i : Nat} (hi : i ≤ xs.length) : totAt n xs i ≤ tot n xs := by
  cases n with
  | zero => exact hi
  | succ n => simp only [totAt, tot]; have := sumT_le (f := fun x => tot n x.kids) (xs := xs) i; omega
theorem totAt_end (n : Nat) (xs : List Ex) : totAt n xs xs.length = tot n xs := by
  cases n with
  | zero => rfl
  | succ n => simp only [totAt, tot, List.take_length]
theorem totAt_step (n : Nat) (xs : List Ex) {i : Nat} (hi : i < xs.length) : totAt (n + 1) xs (i + 1) = totAt (n + 1) xs i + 1 + tot n xs[i].kids := by
  simp only [totAt, sumT_take hi]; omega

/-- What marks that begin with k leave. -/
def MkS : Nat → World → (Nat → Prop) → Option Addr → List Ex → Nat → Prop
  | 0, _, _, _, xs, _ => xs = []
  | n + 1, w, S, A, xs, k => xs ≠ [] → ∃ b cs, ∃ T : Nat → Nat → Prop, A = some ⟨b, 0, none⟩ ∧ S b ∧ Blk w b 93 cs ∧ xs.length * 5 ≤ cs.size ∧ (∀ i k, T i k → S k ∧ k ≠ b) ∧
      ∀ i (h : i < xs.length), ∃ K c, cs[i * 5 + 4]? = some (.slice K xs[i].kids.length c) ∧ cs[i * 5]? = some (.int .i64 ((k + 4 * totAt (n + 1) xs i : Nat) : Int)) ∧ cs[i * 5 + 1]? = some (.int .i64 (((k + 4 * totAt (n + 1) xs i : Nat) : Int) + 1)) ∧
        cs[i * 5 + 2]? = some (.bool ((((k + 4 * totAt (n + 1) xs i : Nat) : Int) + 1 + 1) % 3 == 0)) ∧ cs[i * 5 + 3]? = some (.int .i64 (((k + 4 * totAt (n + 1) xs i : Nat) : Int) + 1 + 1 + 1)) ∧ MkS n w (T i) K xs[i].kids (k + 4 * totAt (n + 1) xs i + 4)
theorem MkS.keep : ∀ {n : Nat} {w w' : World} {S : Nat → Prop} {A : Option Addr} {xs : List Ex} {k : Nat}, KeepS S w w' → MkS n w S A xs k → MkS n w' S A xs k
  | 0, _, _, _, _, _, _, _, h => h
  | n + 1, _, _, _, _, _, _, hk, h => fun hne => by
    obtain ⟨b, cs, T, hA, hb, hB, hs, h1, hc⟩ := h hne
    refine ⟨b, cs, T, hA, hb, hk b cs hb hB, hs, h1, fun i hi => ?_⟩
    obtain ⟨K, c, h4, g0, g1, g2, g3, h5⟩ := hc i hi
    exact ⟨K, c, h4, g0, g1, g2, g3, MkS.keep (hk.sub fun k hT => (h1 i k hT).1) h5⟩
/-- The first i elements marked, the others not yet. -/
def MkAt (n : Nat) (w : World) (b : Nat) (T : Nat → Nat → Prop) (xs : List Ex) (k i : Nat) : Prop := ∃ cs, Blk w b 93 cs ∧ xs.length * 5 ≤ cs.size ∧ ∀ j (h : j < xs.length), ∃ K c, cs[j * 5 + 4]? = some (.slice K xs[j].kids.length c) ∧ (i ≤ j → ShS n w (T j) K xs[j].kids) ∧
  (j < i → cs[j * 5]? = some (.int .i64 ((k + 4 * totAt (n + 1) xs j : Nat) : Int)) ∧ cs[j * 5 + 1]? = some (.int .i64 (((k + 4 * totAt (n + 1) xs j : Nat) : Int) + 1)) ∧
        cs[j * 5 + 2]? = some (.bool ((((k + 4 * totAt (n + 1) xs j : Nat) : Int) + 1 + 1) % 3 == 0)) ∧ cs[j * 5 + 3]? = some (.int .i64 (((k + 4 * totAt (n + 1) xs j : Nat) : Int) + 1 + 1 + 1)) ∧ MkS n w (T j) K xs[j].kids (k + 4 * totAt (n + 1) xs j + 4))
/-- One element marked. -/
theorem MkAt.step {n : Nat} {w w' : World} {b : Nat} {T : Nat → Nat → Prop} {xs : List Ex} {k i : Nat} {K : Option Addr} {c : Nat} {cs : Array Value} (h : MkAt n w b T xs k i) (hi : i < xs.length)
    (hB : Blk w b 93 cs) (h4 : cs[i * 5 + 4]? = some (.slice K xs[i].kids.length c)) (hB' : Blk w' b 93 ((((cs.setIfInBounds (i * 5) (.int .i64 ((k + 4 * totAt (n + 1) xs i : Nat) : Int))).setIfInBounds (i * 5 + 1) (.int .i64 (((k + 4 * totAt (n + 1) xs i : Nat) : Int) + 1))).setIfInBounds (i * 5 + 2) (.bool ((((k + 4 * totAt (n + 1) xs i : Nat) : Int) + 1 + 1) % 3 == 0))).setIfInBounds (i * 5 + 2 + 1) (.int .i64 (((k + 4 * totAt (n + 1) xs i : Nat) : Int) + 1 + 1 + 1))))
    (hk : ∀ j, j ≠ i → KeepS (T j) w w') (hm : MkS n w' (T i) K xs[i].kids (k + 4 * totAt (n + 1) xs i + 4)) : MkAt n w' b T xs k (i + 1) := by
  obtain ⟨cs0, hB0, hs, hc⟩ := h
  obtain rfl : cs0 = cs := by
    have := hB0.symm.trans hB
    injection this with this
    injection this
  refine ⟨_, hB', by simpa using hs, fun j hj => ?_⟩
  by_cases e : j = i
  · subst e
    refine ⟨K, c, ?_, fun hh => absurd hh (by omega), fun _ => ⟨?_, ?_, ?_, ?_, hm⟩⟩
    all_goals simp only [Array.getElem?_setIfInBounds, Array.size_setIfInBounds]
    · (repeat rw [if_neg (by omega)]); exact h4
    · rw [if_neg (by omega), if_neg (by omega), if_neg (by omega), if_pos trivial, if_pos (by omega)]
    · rw [if_neg (by omega), if_neg (by omega), if_pos trivial, if_pos (by omega)]
    · rw [if_neg (by omega), if_pos trivial, if_pos (by omega)]
    · rw [if_pos trivial, if_pos (by omega)]
  · obtain ⟨K', c', q4, q5, q6⟩ := hc j hj
    refine ⟨K', c', ?_, fun hh => (q5 (by omega)).keep (hk j e), fun hh => ?_⟩
    · simp only [Array.getElem?_setIfInBounds, Array.size_setIfInBounds]
      (repeat rw [if_neg (by omega)]); exact q4
    · obtain ⟨g0, g1, g2, g3, g5⟩ := q6 (by omega)
      refine ⟨?_, ?_, ?_, ?_, g5.keep (hk j e)⟩
      all_goals simp only [Array.getElem?_setIfInBounds, Array.size_setIfInBounds]
      · (repeat rw [if_neg (by omega)]); exact g0
      · (repeat rw [if_neg (by omega)]); exact g1
      · (repeat rw [if_neg (by omega)]); exact g2
      · (repeat rw [if_neg (by omega)]); exact g3
def MarkT (n : Nat) : Prop := ∀ (A : Option Addr) (cap : Nat) (xs : List Ex) (k : Nat) (S : Nat → Prop) (w : World), ShS n w S A xs → k + 4 * tot n xs ≤ 1099511627776 →
    Calls Try.prog 43 #[.slice A xs.length cap, .int .i64 k] w fun r w' => r = .returned (.int .i64 ((k + 4 * tot n xs : Nat) : Int)) ∧ Ch S w w' ∧ MkS n w' S A xs k
theorem tot_nil (n : Nat) : tot n [] = 0 := by cases n <;> simp [tot, sumT]
set_option maxRecDepth 100000 in
set_option maxHeartbeats 2000000 in
theorem markT (n : Nat) : MarkT n := by
  induction n using Nat.strongRecOn with
  | _ n ih =>
    intro A cap xs k S w hsh hk
    by_cases hne : xs = []
    · subst hne
      rw [tot_nil]
      have MN : Hid (∀ w : World, MkS n w S A [] k) := hid fun w => by cases n <;> simp [MkS]
      clear ih hsh hk
      go_enter Try.func43, Try.ntmps43
      go_wp2
      refine wp_loop_rounds 1 ?_
      rw [rounds_succ]
      go_wp2
      go_ret
      exact ⟨rfl, Ch.refl _, MN.out _⟩
    cases n with
    | zero => exact absurd (show xs = [] from hsh) hne
    | succ n =>
    have IH := hid ih
    have htl := tot_len (n + 1) xs
    obtain ⟨b, cs0, T, rfl, hSb, hB0, hz0, hT1, hT2, hc0⟩ := hsh hne
    have HA : Hid (MkAt n w b T xs k 0) := hid ⟨cs0, hB0, hz0, fun j hj => by
      obtain ⟨K, c, h4, h5⟩ := hc0 j hj
      exact ⟨K, c, h4, fun _ => h5, fun h => absurd h (by omega)⟩⟩
    have HT1 := hid hT1
    have HT2 := hid hT2
    have HSb := hid hSb
    clear hsh ih hB0 hz0 hc0 hT1 hT2 hSb
    have T0 : totAt (n + 1) xs 0 = 0 := by simp [totAt, sumT]
    go_enter Try.func43, Try.ntmps43
    go_wp2
    go_loopw [1, 5] (fun kv iv wr => ∃ (i : Nat), i ≤ xs.length ∧ iv = .int .i64 i ∧ kv = .int .i64 ((k + 4 * totAt (n + 1) xs i : Nat) : Int) ∧ Ch S w wr ∧ Hid (MkAt n wr b T xs k i)) (fun _ iv _ => xs.length - (intOf iv).toNat)
    case atStart => exact ⟨0, by omega, rfl, by rw [T0]; rfl, Ch.refl _, HA⟩
    case round =>
      obtain ⟨i, hi', rfl, rfl, hC, hM⟩ := hrel
      have hle := totAt_le (n + 1) xs hi'
      by_cases hlt : i < xs.length
      · have hst := totAt_step n xs hlt
        have hle2 := totAt_le (n + 1) xs (show i + 1 ≤ xs.length by omega)
        obtain ⟨cs, hB, hs, hc⟩ := hM.out
        obtain ⟨K, c, h4, h5, _⟩ := hc i hlt
        have HH5 := hid (h5 (Nat.le_refl _))
        obtain ⟨K0, hK0⟩ : ∃ K0, k + 4 * totAt (n + 1) xs i = K0 := ⟨_, rfl⟩
        have HST := hid (fun (w' : World) => MkAt.step (w' := w') hM.out hlt hB h4)
        rw [hK0] at HST
        obtain ⟨z0, c0⟩ := hB.cell_some (i := i * 5) (by omega)
        obtain ⟨z1, c1⟩ := hB.cell_some (i := i * 5 + 1) (by omega)
        obtain ⟨z2, c2⟩ := hB.cell_some (i := i * 5 + 2) (by omega)
        obtain ⟨z3, c3⟩ := hB.cell_some (i := i * 5 + 3) (by omega)
        have c4 : wr.cell? ⟨b, i * 5 + 4, none⟩ = some (.slice K xs[i].kids.length c) := (hB.cell _).trans h4
        have f0 := hB.frozen (i * 5)
        have f1 := hB.frozen (i * 5 + 1)
        have f2 := hB.frozen (i * 5 + 2)
        have f3 := hB.frozen (i * 5 + 3)
        have hK1 : K0 + 4 + 4 * tot n xs[i].kids ≤ 1099511627776 := by omega
        have hT := hid hst
        have HK0 := hid hK0
        have HB := hid hB
        rw [hK0]
        clear h4 h5 hc hst hle hle2 hK0 hB
        have W4 : Hid (∀ (u0 u1 u2 u3 : Value), Ch (· = b) wr ((((wr.setCell ⟨b, i * 5, none⟩ u0).setCell ⟨b, i * 5 + 1, none⟩ u1).setCell ⟨b, i * 5 + 2, none⟩ u2).setCell ⟨b, i * 5 + 2 + 1, none⟩ u3) ∧ Blk ((((wr.setCell ⟨b, i * 5, none⟩ u0).setCell ⟨b, i * 5 + 1, none⟩ u1).setCell ⟨b, i * 5 + 2, none⟩ u2).setCell ⟨b, i * 5 + 2 + 1, none⟩ u3) b 93 ((((cs.setIfInBounds (i * 5) u0).setIfInBounds (i * 5 + 1) u1).setIfInBounds (i * 5 + 2) u2).setIfInBounds (i * 5 + 2 + 1) u3)) := hid fun u0 u1 u2 u3 =>
          ⟨chSet (chSet (chSet (chSet (Ch.refl wr)))), (((HB.out.set_ (i * 5) u0).set_ (i * 5 + 1) u1).set_ (i * 5 + 2) u2).set_ (i * 5 + 2 + 1) u3⟩
        go_wp2_with fail
        obtain ⟨g1, g2⟩ := W4.out (.int .i64 K0) (.int .i64 ((K0 : Int) + 1)) (.bool (((K0 : Int) + 1 + 1) % 3 == 0)) (.int .i64 ((K0 : Int) + 1 + 1 + 1))
        rw [show ((K0 : Int) + 1 + 1 + 1 + 1) = ((K0 + 4 : Nat) : Int) by omega]
        refine (IH.out n (by omega) K c xs[i].kids (K0 + 4) (T i) _ (HH5.out.keep (g1.keepS fun k hk e => (HT1.out i k hk).2 e)) hK1).mono ?_
        rintro r w2 ⟨rfl, g4, g5⟩
        have hB2 := (g4.block b g2.lt (fun h => (HT1.out i b h).2 rfl)).trans g2
        have HN := hid (HST.out w2 hB2 (fun j hj => (g1.keepS fun k hk e => (HT1.out j k hk).2 e).trans (g4.keepS fun k hk hk' => hj (HT2.out j i k hk hk'))) g5)
        have hC2 : Ch S w w2 := (hC.trans (g1.mono fun k hk => by subst hk; exact HSb.out)).trans (g4.mono fun k hk => (HT1.out i k hk).1)
        clear g1 g2 g4 g5 hB2
        go_wp2
        go_roundw
        case rel => exact ⟨i + 1, by omega, by go_num, by
          have h1 := hT.out
          have h2 := HK0.out
          congr 1
          omega, hC2, HN⟩
        case measure => simp [intOf]; omega
      · obtain rfl : i = xs.length := by omega
        rw [totAt_end]
        go_wp2
        go_ret
        refine ⟨rfl, hC, fun _ => ?_⟩
        obtain ⟨cs, hB, hs, hc⟩ := hM.out
        refine ⟨b, cs, T, rfl, HSb.out, hB, hs, HT1.out, fun j hj => ?_⟩
        obtain ⟨K, c, h4, _, h6⟩ := hc j hj
        obtain ⟨p0, p1, p2, p3, p5⟩ := h6 hj
        exact ⟨K, c, h4, p0, p1, p2, p3, p5⟩
def HeldT (n : Nat) : Prop := ∀ (A : Option Addr) (cap : Nat) (xs : List Ex) (k : Nat) (S : Nat → Prop) (w : World), MkS n w S A xs k → k + 4 * tot n xs ≤ 1099511627776 →
    Calls Try.prog 45 #[.slice A xs.length cap, .int .i64 k] w fun r w' => r = .returned (.int .i64 ((k + 4 * tot n xs : Nat) : Int)) ∧ w = w'
set_option maxRecDepth 100000 in
set_option maxHeartbeats 2000000 in
theorem heldT (n : Nat) : HeldT n := by
  induction n using Nat.strongRecOn with
  | _ n ih =>
    intro A cap xs k S w hmk hk
    by_cases hne : xs = []
    · subst hne
      rw [tot_nil]
      clear ih hmk hk
      go_enter Try.func45, Try.ntmps45
      go_wp2
      refine wp_loop_rounds 1 ?_
      rw [rounds_succ]
      go_wp2
      go_ret
      exact ⟨rfl, rfl⟩
    cases n with
    | zero => exact absurd (show xs = [] from hmk) hne
    | succ n =>
    have IH := hid ih
    have htl := tot_len (n + 1) xs
    obtain ⟨b, cs, T, rfl, _, hB, _, _, hc⟩ := hmk hne
    have HC := hid hc
    have HB := hid hB
    clear hmk ih hc hB
    have T0 : totAt (n + 1) xs 0 = 0 := by simp [totAt, sumT]
    go_enter Try.func45, Try.ntmps45
    go_wp2
    go_loopw [1, 5] (fun kv iv wr => ∃ (i : Nat), i ≤ xs.length ∧ iv = .int .i64 i ∧ kv = .int .i64 ((k + 4 * totAt (n + 1) xs i : Nat) : Int) ∧ w = wr) (fun _ iv _ => xs.length - (intOf iv).toNat)
    case atStart => exact ⟨0, by omega, rfl, by rw [T0]; rfl, rfl⟩
    case round =>
      obtain ⟨i, hi', rfl, rfl, rfl⟩ := hrel
      have hle := totAt_le (n + 1) xs hi'
      by_cases hlt : i < xs.length
      · have hst := totAt_step n xs hlt
        have hle2 := totAt_le (n + 1) xs (show i + 1 ≤ xs.length by omega)
        obtain ⟨K, c, h4, h0, h1, h2, h3, h5⟩ := HC.out i hlt
        obtain ⟨K0, hK0⟩ : ∃ K0, k + 4 * totAt (n + 1) xs i = K0 := ⟨_, rfl⟩
        rw [hK0] at h0 h1 h2 h3 h5
        have c0 := (HB.out.cell (i * 5)).trans h0
        have c1 := (HB.out.cell (i * 5 + 1)).trans h1
        have c2 := (HB.out.cell (i * 5 + 2)).trans h2
        have c3 : w.cell? ⟨b, i * 5 + 2 + 1, none⟩ = some (.int .i64 ((K0 : Int) + 1 + 1 + 1)) := (HB.out.cell (i * 5 + 3)).trans h3
        have c4 := (HB.out.cell (i * 5 + 4)).trans h4
        have HH5 := hid h5
        have hK1 : K0 + 4 + 4 * tot n xs[i].kids ≤ 1099511627776 := by omega
        have hT := hid hst
        have HK0 := hid hK0
        rw [hK0]
        clear h0 h1 h2 h3 h4 h5 hst hle hle2 hK0
        go_wp2_with fail
        rw [show ((K0 : Int) + 1 + 1 + 1 + 1) = ((K0 + 4 : Nat) : Int) by omega]
        refine (IH.out n (by omega) K c xs[i].kids (K0 + 4) (T i) _ HH5.out hK1).mono ?_
        rintro r w2 ⟨rfl, rfl⟩
        go_wp2
        go_roundw
        case rel => exact ⟨i + 1, by omega, by go_num, by
          have h1 := hT.out
          have h2 := HK0.out
          congr 1
          omega, trivial⟩
        case measure => simp [intOf]; omega
      · obtain rfl : i = xs.length := by omega
        rw [totAt_end]
        go_wp2
        go_ret
        exact ⟨rfl, rfl⟩
end Go.Proofs.Ytlmiadeaiiehaaa
