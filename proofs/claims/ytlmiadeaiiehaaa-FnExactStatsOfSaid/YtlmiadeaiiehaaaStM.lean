/- Statistics as results: read, compared, marked, held. -/
import Derived.Test.YtlmiadeaiiehaaaStatW
import Derived.Test.YtlmiadeaiiehaaaMark
import Derived.Test.YtlmiadeaiiehaaaStoP
namespace Go.Proofs.Ytlmiadeaiiehaaa
open Go Go.RowKit

structure St where
  r : Int
  ds : List Int
  ns : List Int
deriving DecidableEq
def St.length (s : St) : Nat := s.ds.length + s.ns.length
structure StRd (m : Mv) (A B : Option Addr) (L : St) : Prop where
  r1 : RdSl rdInt m 1 A L.ds
  r2 : RdSl rdInt m 1 B L.ns
theorem StRd.mono {m m' : Mv} {A B : Option Addr} {L : St} (h : StRd m A B L) (_ : RdMono rdInt) (hm : Mle m m') : StRd m' A B L := ⟨h.r1.mono rdInt_mono hm, h.r2.mono rdInt_mono hm⟩
theorem StRd.fr {w w' : World} {A B : Option Addr} {L : St} (h : StRd w.cell? A B L) (_ : RdMono rdInt) (hf : Fr w w') : StRd w'.cell? A B L := ⟨h.r1.fr rdInt_mono hf, h.r2.fr rdInt_mono hf⟩
def AtSt (A B : Option Addr) (k : Nat) : Prop := AtB A k ∨ AtB B k
structure MkSt (w : World) (A B : Option Addr) (L : St) : Prop where
  m1 : Mk w A L.ds.length
  m2 : Mk w B L.ns.length
  ne : ∀ k, AtB A k → AtB B k → False
  lt : ∀ k, AtSt A B k → k < w.heap.size
theorem MkSt.fr {w w' : World} {A B : Option Addr} {L : St} (h : MkSt w A B L) (hf : Fr w w') : MkSt w' A B L := ⟨h.m1.fr hf, h.m2.fr hf, h.ne, fun k hk => Nat.lt_of_lt_of_le (h.lt k hk) hf.size⟩
theorem MkSt.from_ {S : Nat → Prop} {w w' w'' : World} {A B : Option Addr} {L : St} (h : MkSt w A B L) (hf : Fr w w') (hc : Ch S w' w'') (hS : ∀ k, AtSt A B k → ¬ S k) : MkSt w'' A B L :=
  ⟨h.m1.from_ hf hc (fun k hk => hS k (.inl hk)), h.m2.from_ hf hc (fun k hk => hS k (.inr hk)), h.ne, fun k hk => Nat.lt_of_lt_of_le (h.lt k hk) (Nat.le_trans hf.size hc.size)⟩
structure HeldSt (w : World) (A B : Option Addr) (L : St) (k : Nat) : Prop where
  h1 : RdSl rdInt w.cell? 1 A (marks k L.ds.length)
  h2 : RdSl rdInt w.cell? 1 B (marks (k + L.ds.length) L.ns.length)
theorem HeldSt.fr {w w' : World} {A B : Option Addr} {L : St} {k : Nat} (h : HeldSt w A B L k) (_ : RdMono rdInt) (hf : Fr w w') : HeldSt w' A B L k := ⟨h.h1.fr rdInt_mono hf, h.h2.fr rdInt_mono hf⟩
/-- Statistics of the call's own. -/
def StPost (base : Nat) (L : St) (r : Ending) (w' : World) : Prop := ∃ A c B d, r = .returned (.agg #[.int .i64 L.r, .slice A L.ds.length c, .slice B L.ns.length d]) ∧ StRd (fromB w' base) A B L ∧ MkSt w' A B L ∧ ∀ k, AtSt A B k → base ≤ k
theorem stPost_out {base : Nat} {L : St} {r : Ending} {w' : World} (h : StPost base L r w') : ∃ A c B d, r = .returned (.agg #[.int .i64 L.r, .slice A L.ds.length c, .slice B L.ns.length d]) ∧ StRd (fromB w' base) A B L ∧ MkSt w' A B L ∧ ∀ k, AtSt A B k → base ≤ k := h
/-- Statistics, wherever they lie. -/
def StS (L : St) (r : Ending) (w' : World) : Prop := ∃ A c B d, r = .returned (.agg #[.int .i64 L.r, .slice A L.ds.length c, .slice B L.ns.length d]) ∧ StRd (fromB w' 0) A B L
theorem stS_out {L : St} {r : Ending} {w' : World} (h : StS L r w') : ∃ A c B d, r = .returned (.agg #[.int .i64 L.r, .slice A L.ds.length c, .slice B L.ns.length d]) ∧ StRd (fromB w' 0) A B L := h
theorem eqSt (A A' B B' : Option Addr) (c c' e e' : Nat) (L : St) (w : World) (hx : StRd w.cell? A A' L) (hy : StRd w.cell? B B' L) (hl : L.length ≤ maxLen) :
    Calls Try.prog 9 #[.agg #[.int .i64 L.r, .slice A L.ds.length c, .slice A' L.ns.length c'], .agg #[.int .i64 L.r, .slice B L.ds.length e, .slice B' L.ns.length e']] w fun e w' => e = .returned (.bool (decide (L = L))) ∧ Fr w w' := by
  rw [show decide (L = L) = true from decide_eq_true rfl]
  unfold St.length at hl
  exact eqStats L.r A A' B B' c c' e e' L.ds L.ns w hx.r1 hx.r2 hy.r1 hy.r2 (by omega) (by omega)
set_option maxHeartbeats 1000000 in
theorem markSt (A B : Option Addr) (L : St) (c d k : Nat) (w : World) (hl : L.length ≤ 100000) (hk : k ≤ 100000) (hM : MkSt w A B L) :
    Calls Try.prog 12 #[.agg #[.int .i64 L.r, .slice A L.ds.length c, .slice B L.ns.length d], .int .i64 k] w fun e w' => e = .returned (.int .i64 ((k + L.length : Nat) : Int)) ∧ Ch (AtSt A B) w w' ∧ HeldSt w' A B L k ∧ MkSt w' A B L := by
  unfold St.length at hl ⊢
  have HM := hid hM
  obtain ⟨n1, e1⟩ : ∃ n, L.ds.length = n := ⟨_, rfl⟩
  obtain ⟨n2, e2⟩ : ∃ n, L.ns.length = n := ⟨_, rfl⟩
  have M1 := hM.m1
  have M2 := hM.m2
  have E1 := hid e1
  have E2 := hid e2
  rw [e1, e2] at hl ⊢
  rw [e1] at M1
  rw [e2] at M2
  have BA := Blk.new w 28 #[.int .i64 L.r, .slice A n1 c, .slice B n2 d]
  have F1 : Fr w (w.alloc (.cells #[.int .i64 L.r, .slice A n1 c, .slice B n2 d] 28)) := (Fr.refl _).alloc _
  have MA := hid M1
  have MB := hid M2
  have NE := hM.ne
  have LT := hM.lt
  clear hM e1 e2
  have NEH := hid NE
  have LTH := hid LT
  clear M1 M2 NE LT
  go_enter Try.func12, Try.ntmps12
  go_wp2_with fail
  refine (markInts A n1 c k _ (by omega) (by omega) (MA.out.fr F1)).mono ?_
  rintro r w2 ⟨rfl, C2, R2, N2⟩
  obtain ⟨K, eK⟩ : ∃ K, k + n1 = K := ⟨_, rfl⟩
  have EK := hid eK
  rw [eK]
  have hK : K ≤ 1099511627776 := by omega
  clear eK
  have F2 : Ch (AtB A) w w2 := F1.ch.trans C2
  have BA2 := (C2.block w.heap.size BA.lt (fun hb => by have := LTH.out _ (.inl hb); omega)).trans BA
  obtain ⟨a0, a1, a2, _⟩ := (show Blk w2 w.heap.size 28 #[.int .i64 L.r, .slice A n1 c, .slice B n2 d] from BA2).three
  have R2H := hid R2
  have N2H := hid N2
  have M2 := hid (MB.out.from_ F1 C2 (fun k hk hA => NEH.out k hA hk))
  clear R2 N2 BA2
  go_wp2_with fail
  refine (markInts B n2 d K _ (by omega) hK M2.out).mono ?_
  rintro r w3 ⟨rfl, C3, R3, N3⟩
  have FIN := hid (show ((K + n2 : Nat) : Int) = ((k + (n1 + n2) : Nat) : Int) ∧ Ch (AtSt A B) w w3 ∧ HeldSt w3 A B L k ∧ MkSt w3 A B L from by
    have CA : Ch (AtSt A B) w w2 := F1.ch.trans ⟨C2.os, C2.tape, C2.output, C2.size, fun k hk hS => C2.block k hk (fun h => hS (.inl h))⟩
    have CB : Ch (AtSt A B) w2 w3 := ⟨C3.os, C3.tape, C3.output, C3.size, fun k hk hS => C3.block k hk (fun h => hS (.inr h))⟩
    have RA : RdSl rdInt w3.cell? 1 A (marks k n1) := fun hne => by
      obtain ⟨b, o, hA, hc⟩ := R2H.out hne
      refine ⟨b, o, hA, fun i hi => ?_⟩
      have h := hc i hi
      simp only [rdInt] at h ⊢
      have hb : ¬ AtB B b := fun hB => NEH.out b ⟨_, hA, rfl⟩ hB
      exact C3.cell hb h
    have e3 : K = k + n1 := EK.out.symm
    refine ⟨by rw [e3, Nat.add_assoc], CA.trans CB, ⟨by rw [E1.out]; exact RA, by rw [E1.out, E2.out, ← e3]; exact R3⟩, ⟨?_, by rw [E2.out]; exact N3, NEH.out, fun k hk => Nat.lt_of_lt_of_le (LTH.out k hk) (CA.trans CB).size⟩⟩
    rw [E1.out]
    exact N2H.out.from_ (Fr.refl _) C3 (fun k hk hB => NEH.out k hk hB))
  clear C2 C3 R3 N3
  go_wp2
  go_ret
  obtain ⟨q1, q2⟩ := FIN.out
  exact ⟨ret_int q1, q2⟩
set_option maxHeartbeats 1000000 in
theorem heldSt (A B : Option Addr) (L : St) (c d k : Nat) (w : World) (hl : L.length ≤ 100000) (hk : k ≤ 100000) (hH : HeldSt w A B L k) :
    Calls Try.prog 13 #[.agg #[.int .i64 L.r, .slice A L.ds.length c, .slice B L.ns.length d], .int .i64 k] w fun e w' => e = .returned (.int .i64 ((k + L.length : Nat) : Int)) ∧ Fr w w' := by
  unfold St.length at hl ⊢
  obtain ⟨h1, h2⟩ := hH
  obtain ⟨n1, e1⟩ : ∃ n, L.ds.length = n := ⟨_, rfl⟩
  obtain ⟨n2, e2⟩ : ∃ n, L.ns.length = n := ⟨_, rfl⟩
  rw [e1, e2] at hl h2 ⊢
  rw [e1] at h1
  clear e1 e2
  have F1 : Fr w (w.alloc (.cells #[.int .i64 L.r, .slice A n1 c, .slice B n2 d] 28)) := (Fr.refl _).alloc _
  have H1 := hid (h1.fr rdInt_mono F1)
  obtain ⟨K, eK⟩ : ∃ K, k + n1 = K := ⟨_, rfl⟩
  rw [eK] at h2
  have H2 := hid (h2.fr rdInt_mono F1)
  have hK : K ≤ 1099511627776 := by omega
  have EK := hid eK
  clear h1 h2 eK
  go_enter Try.func13, Try.ntmps13
  go_wp2_with fail
  refine (heldInts A n1 c k _ (by omega) (by omega) H1.out).mono ?_
  rintro r w2 ⟨rfl, rfl⟩
  rw [EK.out]
  have d1 : decide ((K : Int) < 0) = false := by simp
  go_wp2_with fail
  refine (heldInts B n2 d K _ (by omega) hK H2.out).mono ?_
  rintro r w3 ⟨rfl, rfl⟩
  have e3 : K + n2 = k + (n1 + n2) := by rw [← EK.out, Nat.add_assoc]
  rw [e3]
  clear EK e3
  obtain ⟨T, eT⟩ : ∃ T, k + (n1 + n2) = T := ⟨_, rfl⟩
  have ET := hid eT
  rw [eT]
  have d2 : decide ((T : Int) < 0) = false := by simp
  clear eT
  go_wp2
  go_ret
  rw [ET.out]
  exact ⟨rfl, F1⟩
/-- What StatsOf answers. -/
def statOf (wd : Int) (rows : List (List V)) : St := if vtab wd rows then ⟨rows.length, dstL wd.toNat rows, nulL wd.toNat rows⟩ else ⟨0, [], []⟩
theorem vtab_parts {wd : Int} {rows : List (List V)} (h : vtab wd rows = true) : 1 ≤ wd ∧ wd ≤ 6 ∧ rows.length ≤ 400 := by
  unfold vtab wid at h
  simp only [Bool.and_eq_true, decide_eq_true_eq] at h
  exact ⟨h.1.1.1, h.1.1.2, h.1.2⟩
theorem statOf_len {wd : Int} {rows : List (List V)} : (statOf wd rows).length ≤ 2000 := by
  unfold statOf St.length
  split
  · rename_i h
    obtain ⟨h1, h2, _⟩ := vtab_parts h
    simp only [dstL, nulL, List.length_map, List.length_range]
    omega
  · simp
end Go.Proofs.Ytlmiadeaiiehaaa
