/- The walk of the laws' marks on expressions. -/
import Derived.Test.YtfillcjpdnpaiaaShp
import Derived.Test.YtfillcjpdnpaiaaMem2
namespace Go.Proofs.Ytfillcjpdnpaiaa
open Go Go.RowKit

def In (lo hi : Nat) : Nat → Prop := fun b => lo ≤ b ∧ b < hi
def MarkS (n : Nat) : Prop := ∀ (A : Option Addr) (cap : Nat) (xs : List Ex) (k lo hi : Nat) (w : World), Sh n w lo hi A xs → k + 4 * tot n xs ≤ 1099511627776 →
    Calls Try.prog 21 #[.slice A xs.length cap, .int .i64 k] w fun r w' => r = .returned (.int .i64 ((k + 4 * tot n xs : Nat) : Int)) ∧ Ch (In lo hi) w w' ∧ KM lo w w'
theorem tot_len (n : Nat) (xs : List Ex) : xs.length ≤ tot n xs := by cases n <;> simp only [tot] <;> omega
/-- How many parts the first i have. -/
def totAt : Nat → List Ex → Nat → Nat
  | 0, _, i => i
  | n + 1, xs, i => i + sumT (fun x => tot n x.kids) (xs.take i)
theorem totAt_le (n : Nat) (xs : List Ex) {i : Nat} (hi : i ≤ xs.length) : totAt n xs i ≤ tot n xs := by
  cases n with
  | zero => exact hi
  | succ n => simp only [totAt, tot]; have := sumT_le (f := fun x => tot n x.kids) (xs := xs) i; omega
theorem totAt_end (n : Nat) (xs : List Ex) : totAt n xs xs.length = tot n xs := by
  cases n with
  | zero => rfl
  | succ n => simp only [totAt, tot, List.take_length]
theorem totAt_step (n : Nat) (xs : List Ex) {i : Nat} (hi : i < xs.length) : totAt (n + 1) xs (i + 1) = totAt (n + 1) xs i + 1 + tot n xs[i].kids := by
  simp only [totAt, sumT_take hi]; omega
set_option maxRecDepth 100000 in
set_option maxHeartbeats 2000000 in
theorem markS (n : Nat) : MarkS n := by
  induction n using Nat.strongRecOn with
  | _ n ih =>
    intro A cap xs k lo hi w hsh hk
    have HS := hid hsh
    have IH := hid ih
    have htl := tot_len n xs
    clear hsh ih
    have T0 : totAt n xs 0 = 0 := by cases n <;> simp [totAt, sumT]
    go_enter Try.func21, Try.ntmps21
    go_wp2
    go_loopw [1, 5] (fun kv iv wr => ∃ (i : Nat), i ≤ xs.length ∧ iv = .int .i64 i ∧ kv = .int .i64 ((k + 4 * totAt n xs i : Nat) : Int) ∧ Ch (In lo hi) w wr ∧ KM lo w wr) (fun _ iv _ => xs.length - (intOf iv).toNat)
    case atStart => exact ⟨0, by omega, rfl, by rw [T0]; rfl, Ch.refl _, KM.refl _⟩
    case round =>
      obtain ⟨i, hi', rfl, rfl, hC, hK⟩ := hrel
      have hle := totAt_le n xs hi'
      by_cases hlt : i < xs.length
      · cases n with
        | zero => exfalso; have h0 := HS.out; rw [show xs = [] from h0] at hlt; simp at hlt
        | succ n =>
          have hst := totAt_step n xs hlt
          have hle2 := totAt_le (n + 1) xs (show i + 1 ≤ xs.length by omega)
          obtain ⟨b, cs, hA, h1, h2, hB, hs, hc⟩ := (HS.out.km hK) (by intro e; rw [e] at hlt; simp at hlt)
          subst hA
          obtain ⟨K, c, h4, h5⟩ := hc i hlt
          obtain ⟨K0, hK0⟩ : ∃ K0, k + 4 * totAt (n + 1) xs i = K0 := ⟨_, rfl⟩
          obtain ⟨z0, c0⟩ := hB.cell_some (i := i * 5) (by omega)
          obtain ⟨z1, c1⟩ := hB.cell_some (i := i * 5 + 1) (by omega)
          obtain ⟨z2, c2⟩ := hB.cell_some (i := i * 5 + 2) (by omega)
          obtain ⟨z3, c3⟩ := hB.cell_some (i := i * 5 + 3) (by omega)
          have c4 : wr.cell? ⟨b, i * 5 + 4, none⟩ = some (.slice K xs[i].kids.length c) := (hB.cell _).trans h4
          have f0 := hB.frozen (i * 5)
          have f1 := hB.frozen (i * 5 + 1)
          have f2 := hB.frozen (i * 5 + 2)
          have f3 := hB.frozen (i * 5 + 3)
          have HH5 := hid h5
          have HST := hid hst
          have hK1 : K0 + 4 + 4 * tot n xs[i].kids ≤ 1099511627776 := by omega
          have HK0 := hid hK0
          rw [hK0]
          clear h4 h5 hc hst hle hle2 hK0
          have W4 : ∀ (u0 u1 u2 u3 : Value), Ch (In lo hi) w ((((wr.setCell ⟨b, i * 5, none⟩ u0).setCell ⟨b, i * 5 + 1, none⟩ u1).setCell ⟨b, i * 5 + 2, none⟩ u2).setCell ⟨b, i * 5 + 2 + 1, none⟩ u3) ∧ KM lo w ((((wr.setCell ⟨b, i * 5, none⟩ u0).setCell ⟨b, i * 5 + 1, none⟩ u1).setCell ⟨b, i * 5 + 2, none⟩ u2).setCell ⟨b, i * 5 + 2 + 1, none⟩ u3) ∧ KM lo wr ((((wr.setCell ⟨b, i * 5, none⟩ u0).setCell ⟨b, i * 5 + 1, none⟩ u1).setCell ⟨b, i * 5 + 2, none⟩ u2).setCell ⟨b, i * 5 + 2 + 1, none⟩ u3) := fun u0 u1 u2 u3 => by
            have q := (((KM.set (lo := lo) (w := wr) (p := ⟨b, i * 5, none⟩) (by show i * 5 % 5 ≠ 4; omega) rfl u0).trans (KM.set (p := ⟨b, i * 5 + 1, none⟩) (by show (i * 5 + 1) % 5 ≠ 4; omega) rfl u1)).trans (KM.set (p := ⟨b, i * 5 + 2, none⟩) (by show (i * 5 + 2) % 5 ≠ 4; omega) rfl u2)).trans (KM.set (p := ⟨b, i * 5 + 2 + 1, none⟩) (by show (i * 5 + 2 + 1) % 5 ≠ 4; omega) rfl u3)
            exact ⟨(((hC.set (p := ⟨b, i * 5, none⟩) (.inl ⟨h1, h2⟩) u0).set (p := ⟨b, i * 5 + 1, none⟩) (.inl ⟨h1, h2⟩) u1).set (p := ⟨b, i * 5 + 2, none⟩) (.inl ⟨h1, h2⟩) u2).set (p := ⟨b, i * 5 + 2 + 1, none⟩) (.inl ⟨h1, h2⟩) u3, hK.trans q, q⟩
          replace W4 := hid W4
          go_wp2_with fail
          obtain ⟨g1, g2, g3⟩ := W4.out (.int .i64 K0) (.int .i64 ((K0 : Int) + 1)) (.bool (((K0 : Int) + 1 + 1) % 3 == 0)) (.int .i64 ((K0 : Int) + 1 + 1 + 1))
          rw [show ((K0 : Int) + 1 + 1 + 1 + 1) = ((K0 + 4 : Nat) : Int) by omega]
          refine (IH.out n (by omega) K c xs[i].kids (K0 + 4) lo hi _ (HH5.out.km g3) hK1).mono ?_
          rintro r w2 ⟨rfl, g4, g5⟩
          go_wp2
          go_roundw
          case rel => exact ⟨i + 1, by omega, by go_num, by
            have h1 := HST.out
            have h2 := HK0.out
            congr 1
            omega, g1.trans g4, g2.trans g5⟩
          case measure => simp [intOf]; omega
      · obtain rfl : i = xs.length := by omega
        rw [totAt_end]
        go_wp2
        go_ret
        exact ⟨rfl, hC, hK⟩
set_option maxHeartbeats 1000000 in
theorem markE (n : Nat) (e : Ex) (A : Option Addr) (c : Nat) (k lo hi : Nat) (w : World) (hsh : Sh n w lo hi A e.kids) (hk : k + 4 * tot n e.kids ≤ 1099511627776) :
    Calls Try.prog 15 #[.agg #[.int .i64 e.kind, .int .i64 e.col, .bool e.val.null, .int .i64 e.val.n, .slice A e.kids.length c], .int .i64 k] w fun r w' => r = .returned (.int .i64 ((k + 4 * tot n e.kids : Nat) : Int)) ∧ Ch (In lo hi) w w' := by
  have HS := hid hsh
  clear hsh
  have F1 : Fr w (w.alloc (.cells #[.int .i64 e.kind, .int .i64 e.col, .bool e.val.null, .int .i64 e.val.n, .slice A e.kids.length c] 33)) := (Fr.refl _).alloc _
  go_enter Try.func15, Try.ntmps15
  go_wp2_with fail
  refine (markS n A c e.kids k lo hi _ (HS.out.km F1.km) hk).mono ?_
  rintro r w2 ⟨rfl, g4, _⟩
  go_wp2
  go_ret
  exact ⟨rfl, (F1.ch (S := In lo hi)).trans g4⟩
end Go.Proofs.Ytfillcjpdnpaiaa
