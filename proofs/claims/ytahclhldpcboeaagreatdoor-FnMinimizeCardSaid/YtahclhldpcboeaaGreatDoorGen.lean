/- Walks of the reader that draws numbers from a code. -/
import Derived.Test.YtahclhldpcboeaaGreatDoorProg
import Derived.Test.YtahclhldpcboeaaGreatDoorMem
import Derived.Test.YtahclhldpcboeaaGreatDoorOpen
import Derived.WalkKit
import Derived.WalkSpells
import Derived.WalkLawsBesides
import Derived.BigQuiet
import Derived.Deep.QuietTactic
import Derived.StillTailTactics
import Derived.Laws.BitsAllLaws
import Derived.Laws.BitsLemmas
import Derived.IntWalk
namespace Go.Proofs.YtahclhldpcboeaaGreatDoor
open Go Go.RowKit

/-- A code that can be read: n bytes at A, outside block r. -/
def Code1 (w : World) (r : Nat) (A : Option Addr) (n : Nat) : Prop := n ≠ 0 → ∃ b o, A = some ⟨b, o, none⟩ ∧ b < r ∧ ∀ i, i < n → ∃ x : Nat, x < 256 ∧ w.cell? ⟨b, o + i, none⟩ = some (.int .u8 (x : Int))
/-- The reader in block r, its place p. -/
def Rdr (w : World) (r p : Nat) : Prop := ∃ A n cap, n ≤ 2000 ∧ Blk w r 74 #[.slice A n cap, .int .i64 (p : Int)] ∧ Code1 w r A n
theorem Rdr.lt {w : World} {r p : Nat} (h : Rdr w r p) : r < w.heap.size := by
  obtain ⟨A, n, cap, _, hB, _⟩ := h
  exact hB.lt
theorem Code1.fr {w w' : World} {r : Nat} {A : Option Addr} {n : Nat} (h : Code1 w r A n) (hf : Fr w w') : Code1 w' r A n := fun hn => by
  obtain ⟨b, o, hA, hb, hc⟩ := h hn
  exact ⟨b, o, hA, hb, fun i hi => by obtain ⟨x, hx, h1⟩ := hc i hi; exact ⟨x, hx, hf.cell h1⟩⟩
theorem Code1.ch {w w' : World} {r : Nat} {A : Option Addr} {n : Nat} (h : Code1 w r A n) (hf : Ch (· = r) w w') : Code1 w' r A n := fun hn => by
  obtain ⟨b, o, hA, hb, hc⟩ := h hn
  exact ⟨b, o, hA, hb, fun i hi => by obtain ⟨x, hx, h1⟩ := hc i hi; exact ⟨x, hx, hf.cell (fun e => by simp only at e; omega) h1⟩⟩
theorem Rdr.fr {w w' : World} {r p : Nat} (h : Rdr w r p) (hf : Fr w w') : Rdr w' r p := by
  obtain ⟨A, n, cap, hn, hB, hC⟩ := h
  exact ⟨A, n, cap, hn, hB.fr hf, hC.fr hf⟩

theorem Rdr.keep {w w' : World} {r p : Nat} (h : Rdr w r p) (hk : ∀ k, k ≤ r → w'.heap[k]? = w.heap[k]?) : Rdr w' r p := by
  obtain ⟨A, n, cap, hn, hB, hC⟩ := h
  refine ⟨A, n, cap, hn, (hk r (Nat.le_refl _)).trans hB, fun hne => ?_⟩
  obtain ⟨b, o, hA, hb, hc⟩ := hC hne
  exact ⟨b, o, hA, hb, fun i hi => by
    obtain ⟨x, hx, h1⟩ := hc i hi
    exact ⟨x, hx, (World.cell?_of_block (w := w) (hk b (by omega))).trans h1⟩⟩
theorem Rdr.alloc {w : World} {r p : Nat} (h : Rdr w r p) (o : Obj) : Rdr (w.alloc o) r p := h.fr ((Fr.refl w).alloc o)
theorem Rdr.drew {w : World} {r p : Nat} (h : Rdr w r p) : Rdr w.drew r p := h.fr (Fr.refl w).drew
theorem Rdr.set {w : World} {r p : Nat} (h : Rdr w r p) {q : Addr} (hq : r < q.block) (u : Value) : Rdr (w.setCell q u) r p := h.keep fun k hk => Below.heap_setCell w q u k (by omega)
theorem Rdr.set2 {w : World} {r p : Nat} {q : Addr} (hq : r < q.block) (h : Rdr w r p) (u : Value) : Rdr (w.setCell q u) r p := h.set hq u
theorem Rdr.grown {w w' : World} {r p : Nat} (h : Rdr w r p) {row : Option Nat} (hg : w.grownBy w' row) (hr : ∀ k, row = some k → r < k) : Rdr w' r p :=
  h.keep fun k hk => hg.block k (Nat.lt_of_le_of_lt hk h.lt) fun e => by have := hr k e.symm; omega
theorem Blk.ch {S : Nat → Prop} {w w' : World} {g : Nat} {t : TypeId} {cs : Array Value} (h : Blk w g t cs) (hc : Ch S w w') (hS : ¬ S g) : Blk w' g t cs := (hc.block g h.lt hS).trans h
theorem Ch.setNew {S : Nat → Prop} {a w : World} (h : Ch S a w) {p : Addr} (hp : a.heap.size ≤ p.block) (u : Value) : Ch S a (w.setCell p u) := h.set (.inr hp) u
theorem Ch.setNew2 {S : Nat → Prop} {a w : World} {p : Addr} (hp : a.heap.size ≤ p.block) (h : Ch S a w) (u : Value) : Ch S a (w.setCell p u) := h.set (.inr hp) u
theorem Ch.grown {S : Nat → Prop} {a w w' : World} (h : Ch S a w) {row : Option Nat} (hg : w.grownBy w' row) (hr : ∀ k, row = some k → a.heap.size ≤ k) : Ch S a w' :=
  ⟨hg.os.trans h.os, hg.tape.trans h.tape, hg.output.trans h.output, Nat.le_trans h.size hg.size, fun k hk hS => (hg.block k (Nat.lt_of_lt_of_le hk h.size) fun e => by have := hr k e.symm; omega).trans (h.block k hk hS)⟩
theorem Blk.two {w : World} {g : Nat} {t : TypeId} {a b : Value} (h : Blk w g t #[a, b]) : w.cell? ⟨g, 0, none⟩ = some a ∧ w.cell? ⟨g, 1, none⟩ = some b ∧ w.frozen? ⟨g, 0, none⟩ = false ∧ w.frozen? ⟨g, 1, none⟩ = false :=
  ⟨h.cell 0, h.cell 1, h.frozen 0, h.frozen 1⟩
/-- At most K picks have been made from the reader in block r. -/
def Drawn (K r p : Nat) (w w' : World) : Prop := ∃ p', p' ≤ p + K ∧ Rdr w' r p' ∧ Ch (· = r) w w'

theorem xor_i64 (a b : Nat) (ha : a < 4611686018427387904) (hb : b < 4611686018427387904) : bits .xor .i64 (a : Int) (b : Int) = ((a ^^^ b : Nat) : Int) := by
  have e : ∀ a : Nat, a < 4611686018427387904 → (BitVec.ofInt 64 (a : Int)).toNat = a := fun a ha => by
    rw [BitVec.ofInt_natCast, BitVec.toNat_ofNat]; exact Nat.mod_eq_of_lt (by omega)
  have hx : a ^^^ b < 2 ^ 62 := Nat.xor_lt_two_pow (by omega) (by omega)
  show IntKind.i64.wrap ((BitVec.ofInt 64 (a : Int) ^^^ BitVec.ofInt 64 (b : Int)).toNat : Int) = _
  rw [BitVec.toNat_xor, e a ha, e b hb, IntKind.wrap_i64]
  omega

theorem chSet {r o : Nat} {a w : World} {u : Value} (h : Ch (· = r) a w) : Ch (· = r) a (w.setCell ⟨r, o, none⟩ u) := h.set (p := ⟨r, o, none⟩) (.inl rfl) u
/-- What pick hands back. -/
def Picked (n : Int) (r p : Nat) (w : World) (e : Ending) (w' : World) : Prop := ∃ v : Nat, e = .returned (.int .i64 (v : Int)) ∧ ((v : Int) < n ∨ v = 0) ∧ Rdr w' r (p + 1) ∧ Ch (· = r) w w'

theorem pick_zero (n : Int) (r p : Nat) (w : World) (hr : Rdr w r p) (hp : p ≤ 1000000000) (hn : n < 1) :
    Calls Tryz.prog 48 #[.pointer (some ⟨r, 0, none⟩), .int .i64 n] w (Picked n r p w) := by
  obtain ⟨A, len, cap, hl, hB, hC⟩ := hr
  have c0 := hB.cell 0
  have c1 := hB.cell 1
  have f1 := hB.frozen 1
  simp only [List.getElem?_toArray, List.getElem?_cons_zero, List.getElem?_cons_succ] at c0 c1
  have HB := hid hB
  have HC := hid hC
  clear hB hC
  go_enter Tryz.func48, Tryz.ntmps48
  go_wp2
  go_ret
  exact ⟨0, rfl, .inr rfl, ⟨A, len, cap, hl, by have := HB.out.set_ 1 (.int .i64 ((p + 1 : Nat) : Int)); simpa using this, HC.out.ch (chSet (Ch.refl w))⟩, chSet (Ch.refl w)⟩

theorem pick_pos (n : Nat) (r p : Nat) (w : World) (hr : Rdr w r p) (hp : p ≤ 1000000000) (hn : 1 ≤ n) (hn2 : n ≤ 1000000000) :
    Calls Tryz.prog 48 #[.pointer (some ⟨r, 0, none⟩), .int .i64 n] w (Picked n r p w) := by
  obtain ⟨A, len, cap, hl, hB, hC⟩ := hr
  have c0 := hB.cell 0
  have c1 := hB.cell 1
  have f1 := hB.frozen 1
  simp only [List.getElem?_toArray, List.getElem?_cons_zero, List.getElem?_cons_succ] at c0 c1
  have HB := hid hB
  have HC := hid hC
  clear hB hC
  have hfin : Hid (Rdr (w.setCell ⟨r, 1, none⟩ (.int .i64 ((p : Int) + 1))) r (p + 1) ∧ Ch (· = r) w (w.setCell ⟨r, 1, none⟩ (.int .i64 ((p : Int) + 1)))) :=
    hid ⟨⟨A, len, cap, hl, by have := HB.out.set_ 1 (.int .i64 ((p + 1 : Nat) : Int)); simpa using this, HC.out.ch (chSet (Ch.refl w))⟩, chSet (Ch.refl w)⟩
  by_cases h0 : len = 0
  · subst h0
    go_enter Tryz.func48, Tryz.ntmps48
    go_wp2
    go_ret
    exact ⟨0, rfl, .inr rfl, hfin.out.1, hfin.out.2⟩
  · obtain ⟨b, o, rfl, hbr, hby⟩ := HC.out h0
    have hbr' : b ≠ r := by omega
    have e0 : ((len : Int) == 0) = false := by simp; omega
    by_cases hlt : p < len
    · obtain ⟨x, hx, cx⟩ := hby p hlt
      clear hby
      go_enter Tryz.func48, Tryz.ntmps48
      go_wp2
      go_ret
      exact ⟨x % n, rfl, .inl (by have := Nat.mod_lt x (show 0 < n by omega); omega), hfin.out.1, hfin.out.2⟩
    · obtain ⟨q1, h1, h1', m1⟩ : ∃ q1 : Nat, q1 < len ∧ q1 < 2001 ∧ (p : Int).tmod (len : Int) = (q1 : Int) := ⟨p % len, Nat.mod_lt _ (by omega), by have := Nat.mod_lt p (show 0 < len by omega); omega, by rw [← Int.ofNat_tmod]⟩
      obtain ⟨q2, h2, h2', m2⟩ : ∃ q2 : Nat, q2 < len ∧ q2 < 2001 ∧ ((p : Int) * 7 + 3).tmod (len : Int) = (q2 : Int) := ⟨(p * 7 + 3) % len, Nat.mod_lt _ (by omega), by have := Nat.mod_lt (p * 7 + 3) (show 0 < len by omega); omega, by
        rw [Int.ofNat_tmod]; simp⟩
      obtain ⟨d, hd, m3⟩ : ∃ d : Nat, d ≤ p ∧ (p : Int).tdiv (len : Int) = (d : Int) := ⟨p / len, Nat.div_le_self _ _, by rw [Int.ofNat_tdiv]⟩
      obtain ⟨x, hx, cx⟩ := hby q1 h1
      obtain ⟨y, hy, cy⟩ := hby q2 h2
      clear hby
      have s0 : IntKind.i64.wrap (d : Int) = (d : Int) := IntWalk.i64_in _ (by omega)
      have s1 : IntKind.i64.wrap ((x : Int) * 131) = (x : Int) * 131 := IntWalk.i64_in _ (by omega)
      have s2 : IntKind.i64.wrap ((y : Int) * 1117) = (y : Int) * 1117 := IntWalk.i64_in _ (by omega)
      have s3 : IntKind.i64.wrap ((x : Int) * 131 + (y : Int) * 1117) = (x : Int) * 131 + (y : Int) * 1117 := IntWalk.i64_in _ (by omega)
      have s4 : IntKind.i64.wrap ((p : Int) * 29) = (p : Int) * 29 := IntWalk.i64_in _ (by omega)
      have s5 : IntKind.i64.wrap ((x : Int) * 131 + (y : Int) * 1117 + (p : Int) * 29) = (x : Int) * 131 + (y : Int) * 1117 + (p : Int) * 29 := IntWalk.i64_in _ (by omega)
      have s6 : IntKind.i64.wrap ((d : Int) * 53) = (d : Int) * 53 := IntWalk.i64_in _ (by omega)
      have s8 : IntKind.i64.wrap ((p : Int) * 7) = (p : Int) * 7 := IntWalk.i64_in _ (by omega)
      have s9 : IntKind.i64.wrap ((p : Int) * 7 + 3) = (p : Int) * 7 + 3 := IntWalk.i64_in _ (by omega)
      obtain ⟨X, hX, s7⟩ : ∃ X : Nat, X ≤ 1000000000000 ∧ IntKind.i64.wrap ((x : Int) * 131 + (y : Int) * 1117 + (p : Int) * 29 + (d : Int) * 53) = (X : Int) :=
        ⟨x * 131 + y * 1117 + p * 29 + d * 53, by omega, by rw [IntWalk.i64_in _ (by omega)]; simp⟩
      obtain ⟨Z, hZ⟩ : ∃ Z : Nat, bits .xor .i64 (X : Int) ((X : Int) / 64) = (Z : Int) := ⟨X ^^^ (X / 64), by
        have := xor_i64 X (X / 64) (by omega) (by omega); simpa using this⟩
      go_enter Tryz.func48, Tryz.ntmps48
      go_wp2_with fail
      go_quiet (fail)
      clear m1 m2 m3 s0 s1 s2 s3 s4 s5 s6 s7 s8 s9
      go_wp2
      go_ret
      exact ⟨Z % n, rfl, .inl (by have := Nat.mod_lt Z (show 0 < n by omega); omega), hfin.out.1.fr ((Fr.refl _).drewN _), hfin.out.2.trans ((Fr.refl _).drewN _).ch⟩

theorem pick (n : Int) (r p : Nat) (w : World) (hr : Rdr w r p) (hp : p ≤ 1000000000) (hn2 : n ≤ 1000000000) :
    Calls Tryz.prog 48 #[.pointer (some ⟨r, 0, none⟩), .int .i64 n] w (Picked n r p w) := by
  by_cases h : n < 1
  · exact pick_zero n r p w hr hp h
  · obtain ⟨m, rfl⟩ : ∃ m : Nat, n = m := ⟨n.toNat, by omega⟩
    exact pick_pos m r p w hr hp (by omega) (by omega)

def Oned (xs : List Int) (r p : Nat) (w : World) (e : Ending) (w' : World) : Prop := ∃ v, v ∈ xs ∧ e = .returned (.int .i64 v) ∧ Rdr w' r (p + 1) ∧ Ch (· = r) w w'
theorem one (A : Option Addr) (cap : Nat) (xs : List Int) (r p : Nat) (w : World) (hr : Rdr w r p) (hp : p ≤ 1000000000) (hx : RdSl rdInt (fromB w (r + 1)) 1 A xs) (h0 : 0 < xs.length) (hl : xs.length ≤ 1000) :
    Calls Tryz.prog 50 #[.pointer (some ⟨r, 0, none⟩), .slice A xs.length cap] w (Oned xs r p w) := by
  have H := hid hx
  clear hx
  go_enter Tryz.func50, Tryz.ntmps50
  go_wp2_with fail
  refine (pick _ _ _ _ hr hp (by omega)).mono ?_
  rintro e w1 ⟨v, rfl, hv, hr1, hc1⟩
  have hvl : v < xs.length := by omega
  obtain ⟨b, o, rfl, c0⟩ := H.out.at_ hvl
  have c1 := fromB_le _ _ _ _ (hc1.mle_from (lo := r + 1) (by intro k hk; omega) _ _ c0)
  simp only [Nat.mul_one, Nat.add_zero] at c1
  clear c0 hv
  have HR := hid (And.intro hr1 hc1)
  clear hr1 hc1
  go_wp2
  go_ret
  exact ⟨xs[v], List.getElem_mem hvl, rfl, HR.out.1, HR.out.2⟩

/-- A slice literal of ints, just laid. -/
theorem lit_ints {w : World} {t : TypeId} {xs : List Int} {lo : Nat} (h : lo ≤ w.heap.size) : RdSl rdInt (fromB (w.alloc (.cells (xs.map iv).toArray t)) lo) 1 (some ⟨w.heap.size, 0, none⟩) xs := fun _ =>
  ⟨w.heap.size, 0, rfl, fun i hi => by
    have hB := (Blk.new w t (xs.map iv).toArray).cell i
    unfold rdInt fromB
    show (if lo ≤ w.heap.size then _ else none) = _
    rw [if_pos h]
    simp only [Nat.mul_one, Nat.zero_add, Nat.add_zero]
    rw [hB]
    simp [hi]⟩

def Made (w : World) (e : Ending) (w' : World) : Prop := ∃ r, e = .returned (.pointer (some ⟨r, 0, none⟩)) ∧ w.heap.size ≤ r ∧ Rdr w' r 0 ∧ Fr w w'
theorem newReader (A : Option Addr) (cap : Nat) (xs : List Nat) (w : World) (hx : RdSl rdByte w.cell? 1 A xs) (hl : xs.length ≤ 1048576) (hc : xs.length ≤ cap) :
    Calls Tryz.prog 22 #[.slice A xs.length cap] w (Made w) := by
  have H := hid hx
  clear hx
  by_cases h : 2000 < xs.length
  · obtain ⟨b, o, rfl, hb⟩ := H.out (by intro e; rw [e] at h; simp at h)
    have e0 : decide ((2000 : Int) < (xs.length : Int)) = true := by simp; omega
    go_enter Tryz.func22, Tryz.ntmps22
    go_wp2
    go_ret
    refine ⟨w.heap.size, rfl, Nat.le_refl _, ⟨_, 2000, cap, by omega, Blk.new _ _ _, fun hne => ⟨b, o, rfl, ?_, fun i hi => ?_⟩⟩, (Fr.refl _).alloc _⟩
    · have := cell_lt (hb 0 (by omega)).1
      simp only at this
      omega
    · have := hb i (by omega)
      exact ⟨_, this.2, ((Fr.refl w).alloc _).cell (by simpa using this.1)⟩
  · have e0 : decide ((2000 : Int) < (xs.length : Int)) = false := by simp; omega
    go_enter Tryz.func22, Tryz.ntmps22
    go_wp2
    go_ret
    refine ⟨w.heap.size, rfl, Nat.le_refl _, ⟨A, xs.length, cap, by omega, Blk.new _ _ _, fun hne => ?_⟩, (Fr.refl _).alloc _⟩
    obtain ⟨b, o, rfl, hb⟩ := H.out (by intro e; rw [e] at hne; simp at hne)
    refine ⟨b, o, rfl, ?_, fun i hi => ?_⟩
    · have := cell_lt (hb 0 (by omega)).1
      simp only at this
      omega
    · have := hb i (by omega)
      exact ⟨_, this.2, ((Fr.refl w).alloc _).cell (by simpa using this.1)⟩
end Go.Proofs.YtahclhldpcboeaaGreatDoor
