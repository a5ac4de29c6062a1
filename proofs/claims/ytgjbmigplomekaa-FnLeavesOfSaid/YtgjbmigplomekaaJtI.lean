/- Walks of the program's functions on join trees. -/
import Derived.Test.YtgjbmigplomekaaJtS
import Derived.Test.YtgjbmigplomekaaGraphW
import Derived.Test.YtgjbmigplomekaaJtZ
namespace Go.Proofs.Ytgjbmigplomekaa
open Go Go.RowKit

def Bd (l : Int) : Int := 1000000000000000 * ((2 ^ l.toNat - 1 : Nat) : Int)
theorem Bd_step {l s x y : Int} (h : 1 ≤ l) (hl : l ≤ 5) (hs : 1 ≤ s ∧ s ≤ 1000000000000000) (hx : 0 ≤ x ∧ x ≤ Bd (l - 1)) (hy : 0 ≤ y ∧ y ≤ Bd (l - 1)) : s + x + y ≤ Bd l ∧ x ≤ 20000000000000000 ∧ y ≤ 20000000000000000 := by
  unfold Bd at *
  have e : l.toNat = (l - 1).toNat + 1 := by omega
  rw [e, Nat.pow_succ]
  have hp : 2 ^ (l - 1).toNat ≤ 2 ^ 4 := Nat.pow_le_pow_right (by omega) (by omega)
  have hp1 : 1 ≤ 2 ^ (l - 1).toNat := Nat.one_le_two_pow
  generalize 2 ^ (l - 1).toNat = p at *
  omega
theorem Bd_zero {l : Int} : 0 ≤ Bd l := by unfold Bd; omega
theorem jml_two' {n : Nat} {N l : Int} {e : JT} (hl1 : 1 ≤ l) (h : e.kids.length = 2) (hl : e.leaf = 0) : jml (n + 1) N l.toNat e = mk2 (jml n N (l - 1).toNat (e.kids[0]'(by omega))) (jml n N (l - 1).toNat (e.kids[1]'(by omega))) := by
  obtain ⟨m, hm⟩ : ∃ m, l.toNat = m + 1 := ⟨(l - 1).toNat, by omega⟩
  have hm' : (l - 1).toNat = m := by omega
  rw [hm, hm']; exact jml_two h hl
def ImplMs (n : Nat) : Prop := ∀ (e : JT) (b o : Nat) (l : Int) (gb : Nat) (rs : List Int) (es : List Edge) (w : World), rdJT (n + 1) w.cell? (fun j => w.cell? ⟨b, o + j, none⟩) e → GrAt w gb rs es → vgraph rs es = true → 0 ≤ l → l ≤ 5 →
    Calls Try.prog 58 #[.pointer (some ⟨b, o, none⟩), .pointer (some ⟨gb, 0, none⟩), .int .i64 l] w fun r w' => ∃ cst : Int, r = .returned (.tuple #[.int .i64 ((jml n rs.length l.toNat e : Nat) : Int), .int .i64 cst]) ∧ 0 ≤ cst ∧ cst ≤ Bd l ∧ Fr w w'
set_option maxRecDepth 100000 in
set_option maxHeartbeats 2000000 in
theorem implMs (n : Nat) : ImplMs n := by
  induction n using Nat.strongRecOn with
  | _ n ih =>
    intro e b o l gb rs es w hr hg hv hl0 hl5
    have IH := hid ih
    have HG := hid hg
    have HV := hid hv
    obtain ⟨g1, g5, _⟩ := vgraph_facts hv
    obtain ⟨RA0, rc0, RA1, rc1, r0, r1, rr0, rr1⟩ := hg
    obtain ⟨a0, A, c, a1, hx, hxl, _⟩ := hr
    simp only [Nat.add_zero] at a0 a1
    have HX := hid hx
    have HB := Bd_zero (l := l)
    clear hx ih hv rr0 rr1
    by_cases h0 : e.kids.length = 0
    · rw [h0] at a1
      by_cases hl : 0 ≤ e.leaf ∧ e.leaf < rs.length
      · have R := hid (show jml n rs.length l.toNat e = 2 ^ e.leaf.toNat by rw [jml_leaf h0]; unfold lfM; rw [if_pos hl])
        obtain ⟨hl1, hl2⟩ := hl
        have e1 : decide (e.leaf < 0) = false := by simp; omega
        have e2 : decide ((rs.length : Int) ≤ e.leaf) = false := by simp; omega
        rcases (by omega : e.leaf = 0 ∨ e.leaf = 1 ∨ e.leaf = 2 ∨ e.leaf = 3 ∨ e.leaf = 4) with h | h | h | h | h
        all_goals rw [h] at a0 e1 e2 hl2
        all_goals have R2 := hid (show jml n rs.length l.toNat e = 2 ^ Int.toNat _ by rw [R.out, h])
        all_goals clear h hl1 R h0
        all_goals go_enter Try.func58, Try.ntmps58
        all_goals go_wp2_with fail
        all_goals go_quiet (fail)
        all_goals go_wp2
        all_goals first
          | (exfalso; rename_i hh; first | omega | (simp [hh] at g1; done))
          | exact bodyPost_ret (v := .tuple #[.int .i64 1, .int .i64 0]) (by simp [results, Try.results58, go_sem]; done) rfl ⟨0, by rw [R2.out]; rfl, by omega, HB, (Fr.refl _).drewN _⟩
          | exact bodyPost_ret (v := .tuple #[.int .i64 2, .int .i64 0]) (by simp [results, Try.results58, go_sem]; done) rfl ⟨0, by rw [R2.out]; rfl, by omega, HB, (Fr.refl _).drewN _⟩
          | exact bodyPost_ret (v := .tuple #[.int .i64 4, .int .i64 0]) (by simp [results, Try.results58, go_sem]; done) rfl ⟨0, by rw [R2.out]; rfl, by omega, HB, (Fr.refl _).drewN _⟩
          | exact bodyPost_ret (v := .tuple #[.int .i64 8, .int .i64 0]) (by simp [results, Try.results58, go_sem]; done) rfl ⟨0, by rw [R2.out]; rfl, by omega, HB, (Fr.refl _).drewN _⟩
          | exact bodyPost_ret (v := .tuple #[.int .i64 16, .int .i64 0]) (by simp [results, Try.results58, go_sem]; done) rfl ⟨0, by rw [R2.out]; rfl, by omega, HB, (Fr.refl _).drewN _⟩
          | fail
      · have R := hid (show jml n rs.length l.toNat e = 0 by rw [jml_leaf h0]; unfold lfM; rw [if_neg hl])
        have hc : decide (e.leaf < 0) = true ∨ (decide (e.leaf < 0) = false ∧ decide ((rs.length : Int) ≤ e.leaf) = true) := by
          by_cases h : e.leaf < 0
          · exact .inl (by simp [h])
          · exact .inr ⟨by simp; omega, by simp; omega⟩
        clear hl h0
        rcases hc with h | ⟨h, h'⟩
        all_goals go_enter Try.func58, Try.ntmps58
        all_goals go_wp2_with fail
        all_goals go_quiet (fail)
        all_goals go_wp2
        all_goals exact bodyPost_ret (v := .tuple #[.int .i64 0, .int .i64 0]) (by simp [results, Try.results58, go_sem]) rfl ⟨0, by rw [R.out]; rfl, by omega, HB, (Fr.refl _).drewN _⟩
    · have e0 : ((e.kids.length : Int) == 0) = false := beq_eq_false_iff_ne.2 (by omega)
      by_cases hb : e.kids.length = 2 ∧ e.leaf = 0 ∧ l ≠ 0
      · cases n with
        | zero => exfalso; rw [HX.out.jt0] at h0; simp at h0
        | succ n =>
          obtain ⟨hb2, hbl, hl⟩ := hb
          obtain ⟨kb, ko, hA, rK0⟩ := HX.out.at_ (k := 0) (by omega)
          obtain ⟨kb', ko', hA', rK1⟩ := HX.out.at_ (k := 1) (by omega)
          subst hA
          injection hA' with hA'
          injection hA' with q1 q2 _
          subst q1 q2
          simp only [Nat.zero_mul, Nat.add_zero, Nat.one_mul] at rK0 rK1
          have R := hid (jml_two' (n := n) (N := rs.length) (l := l) (by omega) hb2 hbl)
          obtain ⟨x0, ex0⟩ : ∃ x, e.kids[0] = x := ⟨_, rfl⟩
          obtain ⟨x1, ex1⟩ : ∃ x, e.kids[1] = x := ⟨_, rfl⟩
          rw [ex0] at rK0 R
          rw [ex1] at rK1 R
          have RK0 := hid rK0
          have RK1 := hid rK1
          clear rK0 rK1 ex0 ex1
          have l0 := jml_lt (N := (rs.length : Int)) (by omega) n (l - 1).toNat x0
          have l1 := jml_lt (N := (rs.length : Int)) (by omega) n (l - 1).toNat x1
          obtain ⟨a, ea⟩ : ∃ a, jml n rs.length (l - 1).toNat x0 = a := ⟨_, rfl⟩
          obtain ⟨b', eb⟩ : ∃ b', jml n rs.length (l - 1).toNat x1 = b' := ⟨_, rfl⟩
          rw [ea] at l0 R
          rw [eb] at l1 R
          have EA := hid ea
          have EB := hid eb
          have hway := mk2_ways a b' l0 l1
          have hM5 := mk2_lt l0 l1
          clear ea eb l0 l1 e0 h0 HX
          obtain ⟨M, hM⟩ : ∃ M, mk2 a b' = M := ⟨_, rfl⟩
          rw [hM] at hway R hM5
          clear hM
          rw [R.out]
          clear R
          rw [hb2] at a1
          rw [hbl] at a0
          have el : (l == 0) = false := by simp [hl]
          have hl1 : 1 ≤ l := by omega
          have A1 := hid a1
          go_enter Try.func58, Try.ntmps58
          go_wp2_with fail
          refine (IH.out n (by omega) x0 kb ko (l - 1) gb rs es _ RK0.out HG.out HV.out (by omega) (by omega)).mono ?_
          rintro r w1 ⟨c1, rfl, p1, p2, b1⟩
          rw [EA.out]
          clear a0 a1 r0 r1
          have a1 := b1.cell A1.out
          have RK1' := hid (rdJT_mono (n + 1) _ w1.cell? _ (fun j => w1.cell? ⟨kb, ko + 2 + j, none⟩) _ b1.mle (fun j v hv => b1.cell hv) RK1.out)
          have HP := hid (And.intro p1 p2)
          clear p1 p2
          rcases hway with ⟨h1, h2⟩ | ⟨h1, h2, h3⟩ | ⟨h1, h2, h3, h4⟩ | ⟨h1, h2, h3, h4⟩
          · go_wp2
            exact bodyPost_ret (v := .tuple #[.int .i64 0, .int .i64 0]) (by simp [results, Try.results58, go_sem]) rfl ⟨0, by rw [h2]; rfl, by omega, HB, b1⟩
          all_goals go_wp2_with fail
          all_goals refine (IH.out n (by omega) x1 kb (ko + 2) (l - 1) gb rs es _ RK1'.out (HG.out.fr b1) HV.out (by omega) (by omega)).mono ?_
          all_goals rintro r w2 ⟨c2, rfl, p1, p2, b2⟩
          all_goals rw [EB.out]
          all_goals have F2 := b1.trans b2
          · go_wp2
            exact bodyPost_ret (v := .tuple #[.int .i64 0, .int .i64 0]) (by simp [results, Try.results58, go_sem]) rfl ⟨0, by rw [h3]; rfl, by omega, HB, F2⟩
          · go_wp2
            exact bodyPost_ret (v := .tuple #[.int .i64 0, .int .i64 0]) (by simp [results, Try.results58, go_sem]) rfl ⟨0, by rw [h4]; rfl, by omega, HB, F2⟩
          · have HP2 := hid (And.intro p1 p2)
            clear p1 p2
            go_wp2_with fail
            refine (implSize gb rs es M _ (HG.out.fr F2) HV.out hM5).mono ?_
            rintro r w3 ⟨s, rfl, s1, s2, b3⟩
            obtain ⟨q1, q2, q3⟩ := Bd_step hl1 hl5 ⟨s1, s2⟩ HP.out HP2.out
            have p1 := HP.out.1
            have p2 := HP2.out.1
            have Q1 := hid q1
            clear q1 HB
            go_wp2
            exact bodyPost_ret (v := .tuple #[.int .i64 (M : Int), .int .i64 (s + c1 + c2)]) (by simp [results, Try.results58, go_sem]) rfl ⟨s + c1 + c2, rfl, by omega, Q1.out, F2.trans b3⟩
      · have R := hid (show jml n rs.length l.toNat e = 0 from jml_bad h0 (by omega))
        have hc : (e.leaf != 0) = true ∨ ((e.leaf != 0) = false ∧ ((e.kids.length : Int) != 2) = true) ∨ ((e.leaf != 0) = false ∧ ((e.kids.length : Int) != 2) = false ∧ (l == 0) = true) := by
          by_cases h1 : e.leaf = 0
          · by_cases h2 : e.kids.length = 2
            · exact .inr (.inr ⟨by simp [h1], by simp [h2], by simp; omega⟩)
            · exact .inr (.inl ⟨by simp [h1], by rw [bne_iff_ne]; omega⟩)
          · exact .inl (by simp [h1])
        clear hb h0
        rcases hc with h | ⟨h, h'⟩ | ⟨h, h', h''⟩
        all_goals go_enter Try.func58, Try.ntmps58
        all_goals go_wp2
        all_goals exact bodyPost_ret (v := .tuple #[.int .i64 0, .int .i64 0]) (by simp [results, Try.results58, go_sem]) rfl ⟨0, by rw [R.out]; rfl, by omega, HB, Fr.refl _⟩
def ImplLv (n : Nat) : Prop := ∀ (e : JT) (b o : Nat) (N : Int) (W0 w : World) (v : Value) (xs : List Int), rdJT (n + 1) W0.cell? (fun j => W0.cell? ⟨b, o + j, none⟩) e → N ≤ 5 → jm n N e ≠ 0 → Fr W0 w →
    w.ownsRow W0.heap.size 3 1 v xs.length (xs.map iv) → xs.length + (lvs n e).length ≤ 1000 →
    Calls Try.prog 33 #[.pointer (some ⟨b, o, none⟩), v] w fun r w' => ∃ v', r = .returned v' ∧ w'.ownsRow W0.heap.size 3 1 v' (xs ++ lvs n e).length ((xs ++ lvs n e).map iv) ∧ Fr W0 w'
theorem two_flat {f : JT → List Int} : ∀ (ks : List JT) (h : ks.length = 2), f (ks[0]'(by omega)) ++ f (ks[1]'(by omega)) = ks.flatMap f
  | [x, y], _ => by simp
theorem lvs_kids {n : Nat} {e : JT} (h : e.kids.length = 2) : lvs (n + 1) e = e.kids.flatMap (lvs n) := by
  rw [lvs_two h]; exact two_flat _ h
theorem lvs_take {n : Nat} {e : JT} {k : Nat} (h : k < e.kids.length) : (e.kids.take (k + 1)).flatMap (lvs n) = (e.kids.take k).flatMap (lvs n) ++ lvs n e.kids[k] := by
  rw [List.take_succ_eq_append_getElem h, List.flatMap_append]; simp
theorem lvs_takele {n : Nat} {e : JT} {k : Nat} : ((e.kids.take k).flatMap (lvs n)).length ≤ (e.kids.flatMap (lvs n)).length := by
  have h : e.kids.flatMap (lvs n) = (e.kids.take k).flatMap (lvs n) ++ (e.kids.drop k).flatMap (lvs n) := by rw [← List.flatMap_append, List.take_append_drop]
  rw [h, List.length_append]; omega
set_option maxRecDepth 100000 in
set_option maxHeartbeats 2000000 in
theorem implLv (n : Nat) : ImplLv n := by
  induction n using Nat.strongRecOn with
  | _ n ih =>
    intro e b o N W0 w v xs hr hN hj hf hO hlen
    have IH := hid ih
    have HO := hid hO
    obtain ⟨a0, A, c, a1, hx, hxl, _⟩ := hr
    simp only [Nat.add_zero] at a0 a1
    have HX := hid hx
    clear hx ih hO
    have hs0 := hf.size
    by_cases h0 : e.kids.length = 0
    · have R := hid (lvs_leaf (n := n) h0)
      rw [h0] at a1
      rw [lvs_leaf h0] at hlen
      simp only [List.length_cons, List.length_nil] at hlen
      have c0 := hf.cell a0
      have c1 := hf.cell a1
      clear h0 hj a0 a1
      have F2 : Fr w (w.alloc (.cells #[.int .i64 e.leaf] 3)) := (Fr.refl _).alloc _
      go_enter Try.func33, Try.ntmps33
      go_wp2_with (at_builtin; refine wp_app1 rfl _ _ 23 rfl W0.heap.size 3 (.int .i64 0) 1 8 Try.underlying23 (by kernel_rfl) rfl (by decide) (by decide) _ _ _ rfl (own_fr HO.out F2) (by omega) (by simp; omega) w.heap.size [.int .i64 e.leaf] rfl (blk_new rfl) rfl rfl ?_; intro v5 w5 hO5 hg5)
      have F5 : Fr W0 w5 := Fr.grown (hf.trans F2) hg5 (own_fr HO.out F2)
      have HO5 := hid hO5
      clear hO5
      go_wp2
      go_ret
      refine ⟨v5, rfl, ?_, F5⟩
      rw [R.out]
      simpa using HO5.out
    · have e0 : ((e.kids.length : Int) == 0) = false := beq_eq_false_iff_ne.2 (by omega)
      cases n with
      | zero => exfalso; rw [HX.out.jt0] at h0; simp at h0
      | succ n =>
        have hb : e.kids.length = 2 ∧ e.leaf = 0 := by
          by_cases hb : e.kids.length = 2 ∧ e.leaf = 0
          · exact hb
          · exact absurd (jm_bad h0 (by omega)) hj
        obtain ⟨hb2, hbl⟩ := hb
        rw [jm_two hb2 hbl] at hj
        obtain ⟨j0, j1, _, _⟩ := mk2_yes hj
        have J := hid (show ∀ k (h : k < e.kids.length), jm n N e.kids[k] ≠ 0 from fun k h => by
          rcases (by omega : k = 0 ∨ k = 1) with rfl | rfl
          · exact j0
          · exact j1)
        have R := hid (lvs_kids (n := n) hb2)
        rw [lvs_kids hb2] at hlen
        have c1 := hf.cell a1
        have A1 := hid a1
        clear a0 a1 hj j0 j1 hbl
        go_enter Try.func33, Try.ntmps33
        go_wp2
        clear c1
        go_loopw [1, 24] (fun u t wr => ∃ (k : Nat) (v' : Value), k ≤ e.kids.length ∧ t = .int .i64 k ∧ v' = u ∧ Fr W0 wr ∧ Hid (wr.ownsRow W0.heap.size 3 1 v' (xs ++ (e.kids.take k).flatMap (lvs n)).length ((xs ++ (e.kids.take k).flatMap (lvs n)).map iv))) (fun _ t _ => e.kids.length - (intOf t).toNat)
        case atStart => exact ⟨0, v, by omega, rfl, rfl, hf, hid (by simpa using HO.out)⟩
        case round =>
          obtain ⟨k, v', hk, rfl, rfl, hf', hO'⟩ := hrel
          have a1 := hf'.cell A1.out
          by_cases hlt : k < e.kids.length
          · obtain ⟨kb, ko, hA, rK⟩ := HX.out.at_ hlt
            subst hA
            have RK := hid rK
            have hT := lvs_take (n := n) hlt
            have hT2 := lvs_takele (n := n) (e := e) (k := k + 1)
            have HL : (xs ++ (e.kids.take k).flatMap (lvs n)).length + (lvs n e.kids[k]).length ≤ 1000 := by
              rw [hT, List.length_append] at hT2
              rw [List.length_append]; omega
            have HT := hid hT
            clear rK hT hT2
            go_wp2_with fail
            refine (IH.out n (by omega) e.kids[k] kb (ko + k * 2) N W0 _ v' (xs ++ (e.kids.take k).flatMap (lvs n)) RK.out hN (J.out k hlt) hf' hO'.out HL).mono ?_
            rintro r w1 ⟨v1, rfl, hO1, b1⟩
            have HO1 := hid hO1
            clear hO1
            go_wp2
            go_roundw
            case rel => exact ⟨k + 1, v1, by omega, by go_num, rfl, b1, hid (by rw [HT.out, ← List.append_assoc]; exact HO1.out)⟩
            case measure => simp [intOf]; omega
          · obtain rfl : k = e.kids.length := by omega
            go_wp2
            go_ret
            refine ⟨v', rfl, ?_, hf'⟩
            rw [R.out]
            have := hO'.out
            rw [List.take_length] at this
            exact this
end Go.Proofs.Ytgjbmigplomekaa
