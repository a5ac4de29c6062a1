/- Walks of the laws' marks on slices of atoms that a call has made. -/
import Derived.Test.YtahclhldpcboeaaDoorMark
import Derived.Test.YtahclhldpcboeaaDoorTAtom
import Derived.Test.YtahclhldpcboeaaDoorRedI
namespace Go.Proofs.YtahclhldpcboeaaDoor
open Go Go.RowKit

/-- The numbers from k on, three for each fact. -/
def marksA (k n : Nat) : List Atom := (List.range n).map fun i => ⟨((k + i * 3 : Nat) : Int), ((k + i * 3 : Nat) : Int) + 1, ((k + i * 3 : Nat) : Int) + 1 + 1⟩
theorem marksA_len (k n : Nat) : (marksA k n).length = n := by simp [marksA]
set_option maxHeartbeats 1000000 in
theorem markAtoms (A : Option Addr) (n cap k : Nat) (w : World) (hn : n ≤ 1048576) (hk : k ≤ 1099511627776) (hB : Mk w A (n * 3)) :
    Calls Tryd.prog 44 #[.slice A n cap, .int .i64 k] w fun e w' => e = .returned (.int .i64 ((k + n * 3 : Nat) : Int)) ∧ Ch (AtB A) w w' ∧ RdSl rdAtom w'.cell? 3 A (marksA k n) ∧ Mk w' A (n * 3) := by
  by_cases h0 : n = 0
  · subst h0
    go_enter Tryd.func44, Tryd.ntmps44
    go_wp2
    refine wp_loop_rounds 1 ?_
    rw [rounds_succ]
    go_wp2
    go_ret
    exact ⟨by simp, Ch.refl _, RdSl.nil, fun h => absurd rfl h⟩
  · obtain ⟨g, t, cs, rfl, hB, hz⟩ := hB (by omega)
    have HB := hid hB
    have HZ := hid hz
    clear hB hz
    go_enter Tryd.func44, Tryd.ntmps44
    go_wp2
    go_loopw [1, 5] (fun kv iv wr => ∃ (i : Nat) (cs : Array Value), i ≤ n ∧ iv = .int .i64 i ∧ kv = .int .i64 ((k + i * 3 : Nat) : Int) ∧ Ch (AtB (some ⟨g, 0, none⟩)) w wr ∧ Hid (Blk wr g t cs ∧ n * 3 ≤ cs.size ∧ ∀ j, j < i → cs[j * 3]? = some (.int .i64 ((k + j * 3 : Nat) : Int)) ∧ cs[j * 3 + 1]? = some (.int .i64 (((k + j * 3 : Nat) : Int) + 1)) ∧ cs[j * 3 + 2]? = some (.int .i64 (((k + j * 3 : Nat) : Int) + 1 + 1)))) (fun _ iv _ => n - (intOf iv).toNat)
    case atStart => exact ⟨0, cs, by omega, rfl, by simp, Ch.refl _, hid ⟨HB.out, HZ.out, fun j h => absurd h (by omega)⟩⟩
    case round =>
      obtain ⟨i, cs', hi, rfl, rfl, hc, hH⟩ := hrel
      by_cases hlt : i < n
      · obtain ⟨u0, c0⟩ := hH.out.1.cell_some (i := i * 3) (by have := hH.out.2.1; omega)
        obtain ⟨u1, c1⟩ := hH.out.1.cell_some (i := i * 3 + 1) (by have := hH.out.2.1; omega)
        obtain ⟨u2, c2⟩ := hH.out.1.cell_some (i := i * 3 + 2) (by have := hH.out.2.1; omega)
        have f0 := hH.out.1.frozen (i * 3)
        have f1 := hH.out.1.frozen (i * 3 + 1)
        have f2 := hH.out.1.frozen (i * 3 + 2)
        obtain ⟨K, hK⟩ : ∃ K, k + i * 3 = K := ⟨_, rfl⟩
        have HK := hid hK
        rw [hK]
        have hKb : K ≤ 1099511627776 + 3145728 := by omega
        clear hK
        go_wp2
        go_roundw
        case rel =>
          refine ⟨i + 1, _, by omega, by go_num, by have := HK.out; congr 1; omega, ((hc.set (p := ⟨g, i * 3, none⟩) (.inl atB_self) _).set (p := ⟨g, i * 3 + 1, none⟩) (.inl atB_self) _).set (p := ⟨g, i * 3 + 2, none⟩) (.inl atB_self) _, hid ⟨((hH.out.1.set_ _ _).set_ _ _).set_ _ _, by simpa using hH.out.2.1, fun j hj => ?_⟩⟩
          obtain ⟨h1, h2, h3⟩ := hH.out
          simp only [Array.getElem?_setIfInBounds, Array.size_setIfInBounds]
          by_cases e : i = j
          · subst e
            rw [HK.out]
            refine ⟨?_, ?_, ?_⟩
            · rw [if_neg (by omega), if_neg (by omega), if_pos rfl, if_pos (by omega)]
            · rw [if_neg (by omega), if_pos rfl, if_pos (by omega)]
            · rw [if_pos rfl, if_pos (by omega)]
          · obtain ⟨q0, q1, q2⟩ := h3 j (by omega)
            refine ⟨?_, ?_, ?_⟩
            · rw [if_neg (by omega), if_neg (by omega), if_neg (by omega)]; exact q0
            · rw [if_neg (by omega), if_neg (by omega), if_neg (by omega)]; exact q1
            · rw [if_neg (by omega), if_neg (by omega), if_neg (by omega)]; exact q2
        case measure => simp [intOf]; omega
      · obtain rfl : i = n := by omega
        go_wp2
        go_ret
        obtain ⟨h1, h2, h3⟩ := hH.out
        refine ⟨rfl, hc, fun _ => ⟨g, 0, rfl, fun j hj => ?_⟩, fun _ => ⟨g, t, cs', rfl, h1, h2⟩⟩
        rw [marksA_len] at hj
        obtain ⟨q0, q1, q2⟩ := h3 j hj
        simp only [rdAtom, marksA, List.getElem_map, List.getElem_range, Nat.zero_add, Nat.add_zero, h1.cell]
        exact ⟨q0, q1, q2⟩
set_option maxHeartbeats 1000000 in
theorem heldAtoms (A : Option Addr) (n cap k : Nat) (w : World) (hn : n ≤ 1048576) (hk : k ≤ 1099511627776) (hR : RdSl rdAtom w.cell? 3 A (marksA k n)) :
    Calls Tryd.prog 52 #[.slice A n cap, .int .i64 k] w fun e w' => e = .returned (.int .i64 ((k + n * 3 : Nat) : Int)) ∧ w = w' := by
  have H := hid hR
  clear hR
  go_enter Tryd.func52, Tryd.ntmps52
  go_wp2
  go_loopw [1, 5] (fun kv iv wr => ∃ (i : Nat), i ≤ n ∧ iv = .int .i64 i ∧ kv = .int .i64 ((k + i * 3 : Nat) : Int) ∧ w = wr) (fun _ iv _ => n - (intOf iv).toNat)
  case atStart => exact ⟨0, by omega, rfl, by simp, rfl⟩
  case round =>
    obtain ⟨i, hi, rfl, rfl, rfl⟩ := hrel
    by_cases hlt : i < n
    · obtain ⟨b, o, rfl, c0, c1, c2⟩ := H.out.atom (k := i) (by rw [marksA_len]; exact hlt)
      simp only [marksA, List.getElem_map, List.getElem_range] at c0 c1 c2
      obtain ⟨K, hK⟩ : ∃ K, k + i * 3 = K := ⟨_, rfl⟩
      have HK := hid hK
      rw [hK] at c0 c1 c2 ⊢
      have hKb : K ≤ 1099511627776 + 3145728 := by omega
      clear hK
      go_wp2
      go_roundw
      case rel => exact ⟨i + 1, by omega, by go_num, by have := HK.out; congr 1; omega, trivial⟩
      case measure => simp [intOf]; omega
    · obtain rfl : i = n := by omega
      go_wp2
      go_ret
      exact ⟨rfl, rfl⟩
/- Walks of the laws' marks on a query that a call has made. -/

/-- The two slices of a query, as memory shows them. -/
def RuR (m : Mv) (A B : Option Addr) (hd : List Int) (bd : List Atom) : Prop := RdSl rdInt m 1 A hd ∧ RdSl rdAtom m 3 B bd
theorem RuR.mono {m m' : Mv} {A B : Option Addr} {hd : List Int} {bd : List Atom} (h : RuR m A B hd bd) (he : Mle m m') : RuR m' A B hd bd := ⟨h.1.mono rdInt_mono he, h.2.mono rdAtom_mono he⟩
theorem RuR.fr {w w' : World} {A B : Option Addr} {hd : List Int} {bd : List Atom} (h : RuR w.cell? A B hd bd) (hf : Fr w w') : RuR w'.cell? A B hd bd := h.mono hf.mle
def AtR (A B : Option Addr) : Nat → Prop := fun j => AtB A j ∨ AtB B j
/-- Both slices lie in blocks known whole, in different ones. -/
def MkR (w : World) (A B : Option Addr) (n m : Nat) : Prop := Mk w A n ∧ Mk w B (m * 3) ∧ (∀ j, AtB A j → ¬ AtB B j) ∧ ∀ j, AtR A B j → j < w.heap.size
theorem MkR.fr {w w' : World} {A B : Option Addr} {n m : Nat} (h : MkR w A B n m) (hf : Fr w w') : MkR w' A B n m := ⟨h.1.fr hf, h.2.1.fr hf, h.2.2.1, fun j hj => Nat.lt_of_lt_of_le (h.2.2.2 j hj) hf.size⟩
theorem MkR.from_ {S : Nat → Prop} {w w' w'' : World} {A B : Option Addr} {n m : Nat} (h : MkR w A B n m) (hf : Fr w w') (hc : Ch S w' w'') (hS : ∀ k, AtR A B k → ¬ S k) : MkR w'' A B n m :=
  ⟨h.1.from_ hf hc fun k hk => hS k (.inl hk), h.2.1.from_ hf hc fun k hk => hS k (.inr hk), h.2.2.1, fun j hj => Nat.lt_of_lt_of_le (h.2.2.2 j hj) (Nat.le_trans hf.size hc.size)⟩
theorem own_ltB {w : World} {base e sz n cap : Nat} {A : Option Addr} {xs : List Value} (h : w.ownsRow base e sz (.slice A n cap) n xs) : ∀ k, AtB A k → k < w.heap.size := fun k ⟨ad, h1, h2⟩ => by
  subst h1
  exact (own_lt h k (by simp [Value.ownBlock, h2])).2
theorem RulOut.mk {base : Nat} {q : Int} {hd : List Int} {bd : List Atom} {r : Ending} {w' : World} (h : RulOut base q hd bd r w') : ∃ A c B d, r = .returned (.agg #[.int .i64 q, .slice A hd.length c, .slice B bd.length d]) ∧ RuR (fromB w' base) A B hd bd ∧ MkR w' A B hd.length bd.length ∧ ∀ k, AtR A B k → base ≤ k := by
  obtain ⟨A, c, B, d, h1, h2, h3⟩ := h
  refine ⟨A, c, B, d, h1, ⟨own_int h2 rfl, own_A h3 rfl⟩, ⟨by simpa using mk_of_own h2, mk_of_own h3, fun j ha hb => ?_, fun j hj => hj.elim (own_ltB h2 j) (own_ltB h3 j)⟩, fun k hk => hk.elim (own_atB h2 k) (own_atB h3 k)⟩
  obtain ⟨ad, e1, e2⟩ := ha
  obtain ⟨ad', e3, e4⟩ := hb
  subst e1 e3
  rcases h2.2 with ⟨h4, _⟩ | ⟨g, c', cur, hv, _, hh, _⟩
  · cases h4
  · rcases h3.2 with ⟨h5, _⟩ | ⟨g', d', cur', hv', _, hh', _⟩
    · cases h5
    · cases hv
      cases hv'
      have e : g = g' := by simpa using e2.trans e4.symm
      subst e
      rw [hh] at hh'
      injection hh' with hh'
      injection hh' with _ hh' _
      exact absurd hh' (by decide)
set_option maxRecDepth 100000 in
set_option maxHeartbeats 1000000 in
theorem markRuleR (q : Int) (A B : Option Addr) (c d n m k : Nat) (w : World) (hn : n ≤ 1048576) (hm : m ≤ 1048576) (hk : k ≤ 1000000000) (hM : MkR w A B n m) :
    Calls Tryd.prog 19 #[.agg #[.int .i64 q, .slice A n c, .slice B m d], .int .i64 k] w fun e w' => e = .returned (.int .i64 ((k + n + m * 3 : Nat) : Int)) ∧ Ch (AtR A B) w w' ∧ RuR w'.cell? A B (marks k n) (marksA (k + n) m) := by
  obtain ⟨M0, M1, hD, hlt⟩ := hM
  have HM0 := hid M0
  have HM1 := hid M1
  have HD := hid hD
  have hna : ¬ (AtB A w.heap.size ∨ AtB B w.heap.size) := fun h => absurd (hlt _ h) (by omega)
  clear M0 M1 hD
  have BA := Blk.new w 30 #[.int .i64 q, .slice A n c, .slice B m d]
  have F1 : Fr w (w.alloc (.cells #[.int .i64 q, .slice A n c, .slice B m d] 30)) := (Fr.refl _).alloc _
  · have HNA := hid hna
    go_enter Tryd.func19, Tryd.ntmps19
    go_wp2_with fail
    refine (markInts A n c k _ (by omega) (by omega) (HM0.out.fr F1)).mono ?_
    rintro r w2 ⟨rfl, C2, R2, _⟩
    have HR2 := hid R2
    obtain ⟨K, eK⟩ : ∃ K, k + n = K := ⟨_, rfl⟩
    have EK := hid eK
    rw [eK]
    have hK : K ≤ 1099511627776 := by omega
    obtain ⟨a0, a1, a2, _⟩ := (show Blk w2 w.heap.size 30 #[.int .i64 q, .slice A n c, .slice B m d] from (C2.block w.heap.size BA.lt (fun hb => HNA.out (.inl hb))).trans BA).three
    clear eK R2 hlt
    go_wp2_with fail
    refine (markAtoms B m d K _ hm hK (HM1.out.from_ F1 C2 (fun j hb ha => HD.out j ha hb))).mono ?_
    rintro r w3 ⟨rfl, C3, R3, _⟩
    have R23 : RdSl rdInt w3.cell? 1 A (marks k n) := fun hne => by
      obtain ⟨b, o, hA, hc⟩ := HR2.out hne
      exact ⟨b, o, hA, fun i hi => C3.cell (fun hb => HD.out b ⟨_, hA, rfl⟩ hb) (hc i hi)⟩
    have HR3 := hid R3
    have HR23 := hid R23
    have CC : Ch (AtR A B) w w3 := (F1.ch.trans (show Ch (AtR A B) _ w2 from ⟨C2.os, C2.tape, C2.output, C2.size, fun j hj hn => C2.block j hj (fun h => hn (.inl h))⟩)).trans ⟨C3.os, C3.tape, C3.output, C3.size, fun j hj hn => C3.block j hj (fun h => hn (.inr h))⟩
    clear R3 R23
    go_wp2
    go_ret
    rw [EK.out]
    exact ⟨rfl, CC, HR23.out, HR3.out⟩
set_option maxRecDepth 100000 in
set_option maxHeartbeats 1000000 in
theorem heldRuleR (q : Int) (A B : Option Addr) (c d n m k : Nat) (w : World) (hn : n ≤ 1048576) (hm : m ≤ 1048576) (hk : k ≤ 1000000000) (hR : RuR w.cell? A B (marks k n) (marksA (k + n) m)) :
    Calls Tryd.prog 26 #[.agg #[.int .i64 q, .slice A n c, .slice B m d], .int .i64 k] w fun e w' => e = .returned (.int .i64 ((k + n + m * 3 : Nat) : Int)) ∧ Fr w w' := by
  have HR := hid hR
  clear hR
  have BA := Blk.new w 30 #[.int .i64 q, .slice A n c, .slice B m d]
  have F1 : Fr w (w.alloc (.cells #[.int .i64 q, .slice A n c, .slice B m d] 30)) := (Fr.refl _).alloc _
  go_enter Tryd.func26, Tryd.ntmps26
  go_wp2_with fail
  refine (heldInts A n c k _ (by omega) (by omega) (HR.out.fr F1).1).mono ?_
  rintro r w2 ⟨rfl, rfl⟩
  obtain ⟨K, eK⟩ : ∃ K, k + n = K := ⟨_, rfl⟩
  have EK := hid eK
  rw [eK] at HR ⊢
  have hK : K ≤ 1099511627776 := by omega
  obtain ⟨a0, a1, a2, _⟩ := BA.three
  clear eK
  have g1 : decide ((K : Int) < 0) = false := by simp
  go_wp2_with fail
  refine (heldAtoms B m d K _ hm hK (HR.out.fr F1).2).mono ?_
  rintro r w3 ⟨rfl, rfl⟩
  obtain ⟨K2, eK2⟩ : ∃ x, K + m * 3 = x := ⟨_, rfl⟩
  have EK2 := hid eK2
  rw [eK2]
  have g2 : decide ((K2 : Int) < 0) = false := by simp
  clear eK2
  go_wp2
  go_ret
  rw [EK.out, EK2.out]
  exact ⟨rfl, F1⟩
end Go.Proofs.YtahclhldpcboeaaDoor
