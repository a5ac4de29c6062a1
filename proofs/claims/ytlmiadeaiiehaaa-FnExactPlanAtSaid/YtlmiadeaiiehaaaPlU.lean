/- Plans whose lists lie in blocks of their own: the shape, and copies of arguments. -/
import Derived.Test.YtlmiadeaiiehaaaPlR
import Derived.Test.YtlmiadeaiiehaaaRExprV
import Derived.Test.YtlmiadeaiiehaaaMark
namespace Go.Proofs.Ytlmiadeaiiehaaa
open Go Go.RowKit

/-- Blocks of S stand. -/
def KeepA (S : Nat → Prop) (w w' : World) : Prop := ∀ k t cs, S k → Blk w k t cs → Blk w' k t cs
theorem KeepA.keepS {S : Nat → Prop} {w w' : World} (h : KeepA S w w') : KeepS S w w' := fun k cs hk hB => h k _ cs hk hB
theorem KeepA.sub {S T : Nat → Prop} {w w' : World} (h : KeepA S w w') (hs : ∀ k, T k → S k) : KeepA T w w' := fun k t cs hk hB => h k t cs (hs k hk) hB
theorem KeepA.trans {S : Nat → Prop} {a b c : World} (h : KeepA S a b) (k : KeepA S b c) : KeepA S a c := fun i t cs hi hB => k i t cs hi (h i t cs hi hB)
theorem Fr.keepA {S : Nat → Prop} {w w' : World} (h : Fr w w') : KeepA S w w' := fun _ _ _ _ hB => hB.fr h
theorem Ch.keepA {D S : Nat → Prop} {w w' : World} (h : Ch D w w') (hd : ∀ k, S k → ¬ D k) : KeepA S w w' := fun k _ _ hk hB => (h.block k hB.lt (hd k hk)).trans hB
/-- m ints lie at the head of a block of S. -/
def ShI (w : World) (S : Nat → Prop) (A : Option Addr) (m : Nat) : Prop := Mk w A m ∧ ∀ k, AtB A k → S k
theorem ShI.keep {w w' : World} {S : Nat → Prop} {A : Option Addr} {m : Nat} (h : ShI w S A m) (hk : KeepA S w w') : ShI w' S A m := ⟨fun hne => by
  obtain ⟨g, t, cs, hA, hB, hn⟩ := h.1 hne
  exact ⟨g, t, cs, hA, hk g t cs (h.2 g (by rw [hA]; exact atB_self)) hB, hn⟩, h.2⟩
theorem ShI.sub {w : World} {S T : Nat → Prop} {A : Option Addr} {m : Nat} (h : ShI w S A m) (hs : ∀ k, S k → T k) : ShI w T A m := ⟨h.1, fun k hk => hs k (h.2 k hk)⟩
/-- The three lists of a plan, apart from one another. -/
def NdS (n : Nat) (SP : World → (Nat → Prop) → Option Addr → List Pl → Prop) (w : World) (S : Nat → Prop) (e : Pl) (s : Sl3) : Prop :=
  ∃ S0 S1 S2 : Nat → Prop, (∀ k, S0 k → S k) ∧ (∀ k, S1 k → S k) ∧ (∀ k, S2 k → S k) ∧ (∀ k, S0 k → ¬ S1 k) ∧ (∀ k, S0 k → ¬ S2 k) ∧ (∀ k, S1 k → ¬ S2 k) ∧
    ShS n w S0 s.a0 e.exprs ∧ ShI w S1 s.a1 e.cols.length ∧ SP w S2 s.a2 e.kids
/-- A list of plans lies at the head of a block of S, what belongs to its plans in other blocks of S, all different. -/
def ShP : Nat → World → (Nat → Prop) → Option Addr → List Pl → Prop
  | 0, _, _, _, xs => xs = []
  | n + 1, w, S, A, xs => xs ≠ [] → ∃ b cs, ∃ T : Nat → Nat → Prop, A = some ⟨b, 0, none⟩ ∧ S b ∧ Blk w b 47 cs ∧ xs.length * 5 ≤ cs.size ∧ (∀ i k, T i k → S k ∧ k ≠ b) ∧ (∀ i j k, T i k → T j k → i = j) ∧
      ∀ i (h : i < xs.length), ∃ s : Sl3, cs[i * 5 + 2]? = some (.slice s.a0 xs[i].exprs.length s.c0) ∧ cs[i * 5 + 3]? = some (.slice s.a1 xs[i].cols.length s.c1) ∧ cs[i * 5 + 4]? = some (.slice s.a2 xs[i].kids.length s.c2) ∧ NdS n (ShP n) w (T i) xs[i] s
theorem NdS.keep {n : Nat} {SP : World → (Nat → Prop) → Option Addr → List Pl → Prop} (hp : ∀ {w w' : World} {S : Nat → Prop} {A : Option Addr} {xs : List Pl}, KeepA S w w' → SP w S A xs → SP w' S A xs) {w w' : World} {S : Nat → Prop} {e : Pl} {s : Sl3} (hk : KeepA S w w') (h : NdS n SP w S e s) : NdS n SP w' S e s := by
  obtain ⟨S0, S1, S2, h0, h1, h2, d1, d2, d3, g0, g1, g2⟩ := h
  exact ⟨S0, S1, S2, h0, h1, h2, d1, d2, d3, g0.keep (hk.sub h0).keepS, g1.keep (hk.sub h1), hp (hk.sub h2) g2⟩
theorem NdS.sub {n : Nat} {SP : World → (Nat → Prop) → Option Addr → List Pl → Prop} {w : World} {S S' : Nat → Prop} {e : Pl} {s : Sl3} (hs : ∀ k, S k → S' k) (h : NdS n SP w S e s) : NdS n SP w S' e s := by
  obtain ⟨S0, S1, S2, h0, h1, h2, d1, d2, d3, g0, g1, g2⟩ := h
  exact ⟨S0, S1, S2, fun k hk => hs k (h0 k hk), fun k hk => hs k (h1 k hk), fun k hk => hs k (h2 k hk), d1, d2, d3, g0, g1, g2⟩
theorem ShP.keep : ∀ {n : Nat} {w w' : World} {S : Nat → Prop} {A : Option Addr} {xs : List Pl}, KeepA S w w' → ShP n w S A xs → ShP n w' S A xs
  | 0, _, _, _, _, _, _, h => h
  | n + 1, _, _, _, _, _, hk, h => fun hne => by
    obtain ⟨b, cs, T, hA, hb, hB, hs, h1, h2, hc⟩ := h hne
    refine ⟨b, cs, T, hA, hb, hk b _ cs hb hB, hs, h1, h2, fun i hi => ?_⟩
    obtain ⟨s, q2, q3, q4, h5⟩ := hc i hi
    exact ⟨s, q2, q3, q4, NdS.keep (fun hk h => ShP.keep hk h) (hk.sub fun k hT => (h1 i k hT).1) h5⟩
theorem NdS.kp {n : Nat} {w w' : World} {S : Nat → Prop} {e : Pl} {s : Sl3} (hk : KeepA S w w') (h : NdS n (ShP n) w S e s) : NdS n (ShP n) w' S e s := NdS.keep (fun hk h => ShP.keep hk h) hk h
theorem ShP.nil {n : Nat} {w : World} {S : Nat → Prop} {A : Option Addr} : ShP n w S A [] := by
  cases n with
  | zero => rfl
  | succ n => exact fun h => absurd rfl h
def plToS (n : Nat) : Prop := ∀ (A : Option Addr) (cap : Nat) (xs : List Pl) (w : World), RdSl (rdPl n) w.cell? 5 A xs → szT n xs ≤ 1048576 →
    Calls Try.prog 38 #[.slice A xs.length cap] w fun e w' => ∃ g, e = .returned (.slice (some ⟨g, 0, none⟩) xs.length xs.length) ∧ RdSl (rdPl n) (fromB w' w.heap.size) 5 (some ⟨g, 0, none⟩) xs ∧ ShP n w' (Inn w.heap.size w'.heap.size) (some ⟨g, 0, none⟩) xs ∧ Fr w w'
set_option maxRecDepth 100000 in
set_option maxHeartbeats 2000000 in
theorem toPl {n : Nat} (hS : plToS n) (e : Pl) (s : Sl3) (w : World) (hx : PlOk n w.cell? e s) (hm : ndT n e ≤ 1048576) :
    Calls Try.prog 16 #[plV e s] w fun r w' => ∃ s' : Sl3, r = .returned (plV e s') ∧ PlOk n (fromB w' w.heap.size) e s' ∧ NdS n (ShP n) w' (Inn w.heap.size w'.heap.size) e s' ∧ Fr w w' := by
  obtain ⟨A0, c0, A1, c1, A2, c2⟩ := s
  have HX := hid hx
  have HS := hid hS
  have HM := hid (ndT_parts hm)
  clear hx hS hm
  unfold plV
  simp only
  go_enter Try.func16, Try.ntmps16
  go_wp2_with fail
  refine absW fun V0 hV0 => ?_
  have VA : Blk V0 w.heap.size 42 #[.int .i64 e.kind, .int .i64 e.table, .slice A0 e.exprs.length c0, .slice A1 e.cols.length c1, .slice A2 e.kids.length c2] := by
    rw [hV0]; exact ((Blk.new _ _ _).alloc _).alloc _
  have VR : Blk V0 (w.heap.size + 1) 47 #[.int .i64 0, .int .i64 0, .slice none 0 0, .slice none 0 0, .slice none 0 0] := by
    rw [hV0]; exact (blk_new1 _ _ _ _).alloc _
  have VL : Blk V0 (w.heap.size + 2) 47 #[.int .i64 e.kind, .int .i64 e.table, .slice none 0 0, .slice none 0 0, .slice none 0 0] := by
    have := Blk.new ((w.alloc (.cells #[.int .i64 e.kind, .int .i64 e.table, .slice A0 e.exprs.length c0, .slice A1 e.cols.length c1, .slice A2 e.kids.length c2] 42)).alloc (.cells #[.int .i64 0, .int .i64 0, .slice none 0 0, .slice none 0 0, .slice none 0 0] 47)) 47 #[.int .i64 e.kind, .int .i64 e.table, .slice none 0 0, .slice none 0 0, .slice none 0 0]
    rw [World.size_alloc, World.size_alloc] at this
    rw [hV0]; exact this
  have VF : Fr w V0 := by rw [hV0]; (repeat (first | with_reducible exact Fr.refl _ | with_reducible assumption | with_reducible refine Fr.alloc ?_ _ | with_reducible refine Fr.drew ?_ | with_reducible refine Fr.drewN ?_ _ | (with_reducible refine Fr.setNew2 ?_ ?_ _; · (simp <;> omega)) | with_reducible refine Fr.trans ?_ (by assumption)))
  clear hV0
  have vs := VL.lt
  -- the expressions
  refine (toExSV n A0 c0 e.exprs V0 (HX.out.r0.fr (rdEx_mono n) VF) HM.out.2.1).mono ?_
  rintro r w1 ⟨g0, rfl, x1, s1, b1⟩
  have X1 := hid x1
  have S1 := hid s1
  clear x1 s1
  have z1 := b1.size
  obtain ⟨p0, p1, p2, p3, p4, f0, f1, f2, f3, f4⟩ := (VL.fr b1).five
  obtain ⟨a0, a1, a2, a3, a4, _⟩ := (VA.fr b1).five
  go_wp2_with fail
  refine absW fun W1 hW1 => ?_
  have VA1 : Blk W1 w.heap.size 42 #[.int .i64 e.kind, .int .i64 e.table, .slice A0 e.exprs.length c0, .slice A1 e.cols.length c1, .slice A2 e.kids.length c2] := by rw [hW1]; exact (VA.fr b1).far (by dsimp only; omega) _
  have VR1 : Blk W1 (w.heap.size + 1) 47 #[.int .i64 0, .int .i64 0, .slice none 0 0, .slice none 0 0, .slice none 0 0] := by rw [hW1]; exact (VR.fr b1).far (by dsimp only; omega) _
  have VL1 : Blk W1 (w.heap.size + 2) 47 #[.int .i64 e.kind, .int .i64 e.table, .slice (some ⟨g0, 0, none⟩) e.exprs.length e.exprs.length, .slice none 0 0, .slice none 0 0] := by rw [hW1]; exact (VL.fr b1).set_ 2 _
  have F1 : Fr w W1 := by rw [hW1]; exact (VF.trans b1).setNew (by dsimp only; omega) _
  have C1 : Ch (· = w.heap.size + 2) w1 W1 := by rw [hW1]; exact Ch.set (S := (· = w.heap.size + 2)) (Ch.refl w1) (.inl rfl) _
  have e1 : W1.heap.size = w1.heap.size := by rw [hW1]; simp
  clear hW1 p0 p1 p2 p3 p4 f0 f1 f2 f3 f4 a0 a1 a2 a3 a4
  -- the columns
  refine (toInts A1 c1 e.cols W1 (HX.out.r1.fr rdInt_mono F1) HM.out.2.2.2.1).mono ?_
  rintro r w2 ⟨g1, ci, rfl, hg1, hB1, hn1, x2, b2⟩
  have X2 := hid (x2.toB (lo := g1) rdInt_flat (Nat.le_refl _))
  have HB1 := hid hB1
  have HN1 := hid hn1
  have lg1 := hB1.lt
  clear x2 hB1 hn1
  have z2 := b2.size
  obtain ⟨p0, p1, p2, p3, p4, f0, f1, f2, f3, f4⟩ := (VL1.fr b2).five
  obtain ⟨a0, a1, a2, a3, a4, _⟩ := (VA1.fr b2).five
  go_wp2_with fail
  refine absW fun W2 hW2 => ?_
  have VR2 : Blk W2 (w.heap.size + 1) 47 #[.int .i64 0, .int .i64 0, .slice none 0 0, .slice none 0 0, .slice none 0 0] := by rw [hW2]; exact (VR1.fr b2).far (by dsimp only; omega) _
  have VL2 : Blk W2 (w.heap.size + 2) 47 #[.int .i64 e.kind, .int .i64 e.table, .slice (some ⟨g0, 0, none⟩) e.exprs.length e.exprs.length, .slice (some ⟨g1, 0, none⟩) e.cols.length e.cols.length, .slice none 0 0] := by rw [hW2]; exact (VL1.fr b2).set_ 3 _
  have F2 : Fr w W2 := by rw [hW2]; exact (F1.trans b2).setNew (by dsimp only; omega) _
  have C2 : Ch (· = w.heap.size + 2) w2 W2 := by rw [hW2]; exact Ch.set (S := (· = w.heap.size + 2)) (Ch.refl w2) (.inl rfl) _
  have e2 : W2.heap.size = w2.heap.size := by rw [hW2]; simp
  clear hW2 p0 p1 p2 p3 p4 f0 f1 f2 f3 f4 a0 a1 a2 a3 a4
  -- the kids
  refine (HS.out A2 c2 e.kids W2 (HX.out.r2.fr (rdPl_mono n) F2) HM.out.2.2.2.2.1).mono ?_
  rintro r w3 ⟨g2, rfl, x3, s3, b3⟩
  have X3 := hid x3
  have S3 := hid s3
  clear x3 s3
  have z3 := b3.size
  obtain ⟨p0, p1, p2, p3, p4, f0, f1, f2, f3, f4⟩ := (VL2.fr b3).five
  obtain ⟨d0, d1, d2, d3, d4, h0, h1, h2, h3, h4⟩ := (VR2.fr b3).five
  go_wp2
  have RR := (((((((VR2.fr b3).far (p := ⟨w.heap.size + 1 + 1, 4, none⟩) (by simp) (.slice (some ⟨g2, 0, none⟩) e.kids.length e.kids.length)).set_ 0 (.int .i64 e.kind)).set_ 1 (.int .i64 e.table)).set_ 2 (.slice (some ⟨g0, 0, none⟩) e.exprs.length e.exprs.length)).set_ 3 (.slice (some ⟨g1, 0, none⟩) e.cols.length e.cols.length)).set_ 4 (.slice (some ⟨g2, 0, none⟩) e.kids.length e.kids.length)).five
  have C3 : Ch (fun k => k = w.heap.size + 1 ∨ k = w.heap.size + 2) w3 ((((((w3.setCell ⟨w.heap.size + 1 + 1, 4, none⟩ (.slice (some ⟨g2, 0, none⟩) e.kids.length e.kids.length)).setCell ⟨w.heap.size + 1, 0, none⟩ (.int .i64 e.kind)).setCell ⟨w.heap.size + 1, 1, none⟩ (.int .i64 e.table)).setCell ⟨w.heap.size + 1, 2, none⟩ (.slice (some ⟨g0, 0, none⟩) e.exprs.length e.exprs.length)).setCell ⟨w.heap.size + 1, 3, none⟩ (.slice (some ⟨g1, 0, none⟩) e.cols.length e.cols.length)).setCell ⟨w.heap.size + 1, 4, none⟩ (.slice (some ⟨g2, 0, none⟩) e.kids.length e.kids.length)) := Ch.set (Ch.set (Ch.set (Ch.set (Ch.set (Ch.set (Ch.refl _) (.inl (.inr rfl)) _) (.inl (.inl rfl)) _) (.inl (.inl rfl)) _) (.inl (.inl rfl)) _) (.inl (.inl rfl)) _) (.inl (.inl rfl)) _
  have z4 := C3.size
  refine bodyPost_ret (v := plV e ⟨some ⟨g0, 0, none⟩, e.exprs.length, some ⟨g1, 0, none⟩, e.cols.length, some ⟨g2, 0, none⟩, e.kids.length⟩) ?_ rfl ⟨⟨some ⟨g0, 0, none⟩, e.exprs.length, some ⟨g1, 0, none⟩, e.cols.length, some ⟨g2, 0, none⟩, e.kids.length⟩, rfl, ?_, ?_, C3.fr (fun k hk => by omega) (F2.trans b3)⟩
  · obtain ⟨r0, r1, r2, r3, r4, _⟩ := RR
    simp [results, Try.results16, go_sem, r0, r1, r2, r3, r4]
  · have m1 : Mle (fromU w1 V0.heap.size) (fromB w2 V0.heap.size) := ((fromU_le _ _).trans (C1.mle_from (fun k hk => by omega))).trans (b2.mle_from _)
    have m2 : ∀ lo, w.heap.size + 2 < lo → Mle (fromB w2 lo) (fromB w3 lo) := fun lo h => (C2.mle_from (fun k hk => by omega)).trans (b3.mle_from _)
    have m3 : ∀ lo, w.heap.size + 2 < lo → Mle (fromB w3 lo) (fromB _ w.heap.size) := fun lo h => (C3.mle_from (lo := lo) (fun k hk => by omega)).trans (fromB_lo (by omega))
    exact ⟨X1.out.mono (rdEx_mono n) ((m1.trans (m2 _ vs)).trans (m3 _ vs)), HX.out.l0, Nat.le_refl _, X2.out.mono rdInt_mono ((m2 _ (by omega)).trans (m3 _ (by omega))), HX.out.l1, Nat.le_refl _, X3.out.mono (rdPl_mono n) (m3 _ (by omega)), HX.out.l2, Nat.le_refl _⟩
  · refine ⟨Inn V0.heap.size w1.heap.size, (· = g1), Inn W2.heap.size w3.heap.size, fun k hk => ⟨by have := hk.1; omega, by have := hk.2; omega⟩, fun k hk => by rw [hk]; exact ⟨by omega, by omega⟩, fun k hk => ⟨by have := hk.1; omega, Nat.lt_of_lt_of_le hk.2 z4⟩, fun k hk hk' => by have := hk.2; omega, fun k hk hk' => by have := hk.2; have := hk'.1; omega, fun k hk hk' => by have := hk'.1; omega, ?_, ?_, ?_⟩
    · exact ShS.keep ((((C1.keepS (fun k hk hd => by have := hk.1; omega)).trans b2.keepS).trans (C2.keepS (fun k hk hd => by have := hk.1; omega))).trans (b3.keepS.trans (C3.keepS (fun k hk hd => by have := hk.1; omega)))) S1.out
    · refine ⟨fun _ => ⟨g1, 3, ci, rfl, ?_, by rw [HN1.out]; exact Nat.le_refl _⟩, fun k hk => ?_⟩
      · have hb := (C2.block g1 lg1 (by show ¬ g1 = _; omega)).trans HB1.out
        have hb3 := Blk.fr (show Blk W2 g1 _ ci from hb) b3
        exact (C3.block g1 hb3.lt (by omega)).trans hb3
      · obtain ⟨ad, h1, h2⟩ := hk
        injection h1 with h1
        subst h1
        exact h2.symm
    · exact ShP.keep (C3.keepA (fun k hk hd => by have := hk.1; omega)) S3.out
set_option maxRecDepth 100000 in
set_option maxHeartbeats 2000000 in
theorem toPlS (n : Nat) : plToS n := by
  induction n using Nat.strongRecOn with
  | _ n ih =>
    intro A cap xs w hx hm
    have HX := hid hx
    have IH := hid ih
    have hl : xs.length ≤ 1048576 := by have := szT_len n xs; omega
    have HM := hid hm
    clear hx ih hm
    have hmk := mk_row (P := Try.prog) 45 47 (.agg #[.int .i64 0, .int .i64 0, .slice none 0 0, .slice none 0 0, .slice none 0 0]) 5 88 Try.underlying45 (by kernel_rfl) xs.length (by omega) (by omega)
    go_enter Try.func38, Try.ntmps38
    go_wp2
    go_loopw [4] (fun t wr => ∃ (k : Nat) (cs : Array Value) (T : Nat → Nat → Prop), k ≤ xs.length ∧ t = .int .i64 k ∧ Fr w wr ∧ Blk wr w.heap.size 47 cs ∧ cs.size = xs.length * 5 ∧ Hid (Tok T (w.heap.size + 1) wr.heap.size) ∧
        Hid (∀ i (h : i < xs.length), i < k → ∃ s : Sl3, cs[i * 5]? = some (.int .i64 xs[i].kind) ∧ cs[i * 5 + 1]? = some (.int .i64 xs[i].table) ∧ cs[i * 5 + 2]? = some (.slice s.a0 xs[i].exprs.length s.c0) ∧ cs[i * 5 + 3]? = some (.slice s.a1 xs[i].cols.length s.c1) ∧ cs[i * 5 + 4]? = some (.slice s.a2 xs[i].kids.length s.c2) ∧ ∃ n', n = n' + 1 ∧ PlOk n' (fromB wr (w.heap.size + 1)) xs[i] s ∧ NdS n' (ShP n') wr (T i) xs[i] s)) (fun t _ => xs.length - (intOf t).toNat)
    case atStart => exact ⟨0, _, fun _ _ => False, by omega, rfl, by (repeat (first | with_reducible exact Fr.refl _ | with_reducible assumption | with_reducible refine Fr.alloc ?_ _ | with_reducible refine Fr.drew ?_ | with_reducible refine Fr.drewN ?_ _ | (with_reducible refine Fr.setNew2 ?_ ?_ _; · (simp <;> omega)) | with_reducible refine Fr.trans ?_ (by assumption))), Blk.new _ _ _, by simp [made_size], hid (Tok.none _ _), hid fun i h h' => absurd h' (by omega)⟩
    case round =>
      obtain ⟨k, cs, T, hk, rfl, hf, hB, hz, HT, HV⟩ := hrel
      have HZ := hid hz
      clear hz
      by_cases hlt : k < xs.length
      · cases n with
        | zero => exfalso; rw [HX.out.pl0] at hlt; simp at hlt
        | succ n =>
          obtain ⟨b, o, s, hA, d0, d1, d2, d3, d4, ok⟩ := HX.out.pl hlt
          subst hA
          have OK := hid (ok.fr hf)
          have MK := hid (show ndT n xs[k] ≤ 1048576 by have := szT_kid (n := n) hlt; have := HM.out; omega)
          clear ok
          replace d0 := hf.cell d0
          replace d1 := hf.cell d1
          replace d2 := hf.cell d2
          replace d3 := hf.cell d3
          replace d4 := hf.cell d4
          have hs := hB.lt
          go_wp2_with fail
          refine (toPl (IH.out n (by omega)) _ s _ OK.out MK.out).mono ?_
          rintro r w1 ⟨s', rfl, x1, s1, b1⟩
          have X1 := hid x1
          have S1 := hid s1
          clear x1 s1 d0 d1 d2 d3 d4
          have hB1 := hB.fr b1
          obtain ⟨u0, d0⟩ := hB1.cell_some (i := k * 5) (by have := HZ.out; omega)
          have f0 := hB1.frozen (k * 5)
          obtain ⟨u1, d1⟩ := hB1.cell_some (i := k * 5 + 1) (by have := HZ.out; omega)
          have f1 := hB1.frozen (k * 5 + 1)
          obtain ⟨u2, d2⟩ := hB1.cell_some (i := k * 5 + 2) (by have := HZ.out; omega)
          have f2 := hB1.frozen (k * 5 + 2)
          obtain ⟨u3, d3⟩ := hB1.cell_some (i := k * 5 + 3) (by have := HZ.out; omega)
          have f3 := hB1.frozen (k * 5 + 3)
          obtain ⟨u4, d4⟩ := hB1.cell_some (i := k * 5 + 4) (by have := HZ.out; omega)
          have f4 := hB1.frozen (k * 5 + 4)
          go_wp2
          go_roundw
          case rel =>
            have C1 : Ch (· = w.heap.size) w1 (((((w1.setCell ⟨w.heap.size, k * 5, none⟩ (.int .i64 xs[k].kind)).setCell ⟨w.heap.size, k * 5 + 1, none⟩ (.int .i64 xs[k].table)).setCell ⟨w.heap.size, k * 5 + 2, none⟩ (.slice s'.a0 xs[k].exprs.length s'.c0)).setCell ⟨w.heap.size, k * 5 + 3, none⟩ (.slice s'.a1 xs[k].cols.length s'.c1)).setCell ⟨w.heap.size, k * 5 + 4, none⟩ (.slice s'.a2 xs[k].kids.length s'.c2)) := chSet (chSet (chSet (chSet (chSet (Ch.refl w1)))))
            refine ⟨k + 1, _, upT T k wr.heap.size w1.heap.size, by omega, by go_num, ((((((hf.trans b1).setNew (Nat.le_refl _) _).setNew (Nat.le_refl _) _).setNew (Nat.le_refl _) _).setNew (Nat.le_refl _) _).setNew (Nat.le_refl _) _), (((((hB1.set_ _ _).set_ _ _).set_ _ _).set_ _ _).set_ _ _), by simpa using HZ.out, hid (HT.out.next (by have := hB.lt; omega) b1.size C1.size k), hid fun i h hi => ?_⟩
            have hz := HZ.out
            by_cases e : i = k
            · subst e
              refine ⟨s', by simp only [Array.getElem?_setIfInBounds, Array.size_setIfInBounds]; simp; omega, by simp only [Array.getElem?_setIfInBounds, Array.size_setIfInBounds]; simp; omega, by simp only [Array.getElem?_setIfInBounds, Array.size_setIfInBounds]; simp; omega, by simp only [Array.getElem?_setIfInBounds, Array.size_setIfInBounds]; simp; omega, by simp only [Array.getElem?_setIfInBounds, Array.size_setIfInBounds]; simp; omega, n, rfl, X1.out.mono ((C1.mle_from (fun k hk => by omega)).trans (fromB_lo (by omega))), by rw [upT_self]; exact NdS.kp (C1.keepA (fun k hk hd => by have := hk.1; omega)) S1.out⟩
            · obtain ⟨s2, q0, q1, q2, q3, q4, n', hn', h2, h3⟩ := HV.out i h (by omega)
              refine ⟨s2, by simp only [Array.getElem?_setIfInBounds, Array.size_setIfInBounds]; (repeat rw [if_neg (by omega)]); exact q0, by simp only [Array.getElem?_setIfInBounds, Array.size_setIfInBounds]; (repeat rw [if_neg (by omega)]); exact q1, by simp only [Array.getElem?_setIfInBounds, Array.size_setIfInBounds]; (repeat rw [if_neg (by omega)]); exact q2, by simp only [Array.getElem?_setIfInBounds, Array.size_setIfInBounds]; (repeat rw [if_neg (by omega)]); exact q3, by simp only [Array.getElem?_setIfInBounds, Array.size_setIfInBounds]; (repeat rw [if_neg (by omega)]); exact q4, n', by omega, h2.mono ((b1.mle_from _).trans (C1.mle_from (fun k hk => by omega))), by rw [upT_far e]; exact NdS.kp (b1.keepA.trans (C1.keepA (fun k hk hd => by have := (HT.out.1 i k hk).1; omega))) h3⟩
          case measure => simp [intOf]; omega
      · obtain rfl : k = xs.length := by omega
        go_wp2
        go_ret
        refine ⟨_, rfl, fun hne => ⟨_, 0, rfl, fun i h => ?_⟩, ?_, hf⟩
        rotate_left
        · cases n with
          | zero => exact HX.out.pl0
          | succ n =>
            refine fun _ => ⟨_, cs, T, rfl, ⟨Nat.le_refl _, hB.lt⟩, hB, by have := HZ.out; omega, fun i k hT => ⟨⟨by have := (HT.out.1 i k hT).1; omega, (HT.out.1 i k hT).2⟩, by have := (HT.out.1 i k hT).1; omega⟩, HT.out.2, fun i h => ?_⟩
            obtain ⟨s2, _, _, q2, q3, q4, n', hn', _, h3⟩ := HV.out i h h
            obtain rfl : n = n' := by omega
            exact ⟨s2, q2, q3, q4, h3⟩
        obtain ⟨s2, q0, q1, q2, q3, q4, n', rfl, h2, _⟩ := HV.out i h h
        have cell : ∀ j, (fun j => fromB wr w.heap.size ⟨w.heap.size, 0 + i * 5 + j, none⟩) j = cs[i * 5 + j]? := fun j => by
          show (if w.heap.size ≤ w.heap.size then _ else none) = _
          rw [if_pos (Nat.le_refl _), hB.cell, Nat.zero_add]
        exact ok_rdPl ((cell 0).trans q0) ((cell 1).trans q1) ((cell 2).trans q2) ((cell 3).trans q3) ((cell 4).trans q4) (h2.mono (fromB_lo (by omega)))
end Go.Proofs.Ytlmiadeaiiehaaa
