/- The parts of a conjunction, on the program's side: eachConjunct, Conjuncts; on the spec's side Conjuncts. -/
import Derived.Test.YtfillcjpdnpaiaaConjC
import Derived.Test.YtfillcjpdnpaiaaExprI
import Derived.Test.YtfillcjpdnpaiaaColW
namespace Go.Proofs.Ytfillcjpdnpaiaa
open Go Go.RowKit

theorem cnj_all {wd : Int} : ∀ {n deep : Nat} {e : Ex}, vE wd n deep e = true → (cnj n e).length ≤ 2 ^ deep := fun h => (cnj_len h).2
def EachConj (W0 : World) (Lb N n : Nat) : Prop := ∀ (e : Ex) (b o : Nat) (wd : Int) (deep : Nat) (q : List (Ex × Option Addr × Nat)) (v : Value) (w : World), rdEx (n + 1) W0.cell? (fun j => W0.cell? ⟨b, o + j, none⟩) e → exSm n e.kids → vE wd n deep e = true → deep ≤ 8 → n ≤ N → CjInv W0 Lb N w q v → q.length + 2 ^ deep ≤ 1000 →
    Calls Try.prog 45 #[.pointer (some ⟨b, o, none⟩), .func (.func 46) #[] #[.pointer (some ⟨Lb, 0, none⟩)]] w fun r w' => r = .returned (.tuple #[]) ∧ ∃ p v', p.map (·.1) = cnj n e ∧ CjInv W0 Lb N w' (q ++ p) v'
set_option maxRecDepth 100000 in
set_option maxHeartbeats 2000000 in
theorem eachConj (W0 : World) (Lb N n : Nat) : EachConj W0 Lb N n := by
  induction n using Nat.strongRecOn with
  | _ n ih =>
    intro e b o wd deep q v w hr hs hv hd hn hI hq
    have IH := hid ih
    have HR := hid hr
    have HS := hid hs
    have HV := hid hv
    have HI := hid hI
    obtain ⟨a0, _, _, _, A, c, a4, hx, _, _⟩ := hr
    have A4 := hid a4
    replace a0 := hI.fr.cell a0
    replace a4 := hI.fr.cell a4
    simp only [Nat.add_zero] at a0 a4
    have HX := hid hx
    have hpd : 1 ≤ 2 ^ deep := Nat.two_pow_pos deep
    clear hx ih hs hv hI
    by_cases hk : e.kind = 8
    rotate_left
    · have e1 : (e.kind != 8) = true := by simp [hk]
      have R := hid (show cnj n e = [e] from cnj_one hk)
      have hpl := parts_le HV.out
      have hp9 : 2 ^ (deep + 1) ≤ 2 ^ 9 := Nat.pow_le_pow_right (by omega) (by omega)
      clear hk
      go_enter Try.func45, Try.ntmps45
      go_wp2_with fail
      refine (addPart W0 Lb N n hn e b o q v w HR.out HS.out (by omega) HI.out (by omega)).mono ?_
      rintro r w1 ⟨rfl, x, v', hx, hI'⟩
      have HI' := hid hI'
      clear hI'
      go_wp2
      refine bodyPost_ret (results_none rfl _ _ _) rfl ?_
      exact ⟨rfl, [x], v', by rw [R.out]; simp [hx], HI'.out⟩
    · have e1 : (e.kind != 8) = false := by simp [hk]
      have HK := hid hk
      cases n with
      | zero =>
        exfalso
        obtain ⟨x, y, h2⟩ := kids8 HV.out hk
        rw [HX.out.ex0] at h2; cases h2
      | succ n =>
        have R := hid (show cnj (n + 1) e = e.kids.flatMap (cnj n) by rw [cnj_succ, if_pos HK.out])
        have hl2 : e.kids.length ≤ 2 := vE_two HV.out
        clear hk
        go_enter Try.func45, Try.ntmps45
        go_wp2
        clear a0 a4
        go_loopw [18] (fun t wr => ∃ (k : Nat) (p : List (Ex × Option Addr × Nat)) (v' : Value), k ≤ e.kids.length ∧ t = .int .i64 k ∧ Hid (p.map (·.1) = (e.kids.take k).flatMap (cnj n)) ∧ Hid (CjInv W0 Lb N wr (q ++ p) v')) (fun t _ => e.kids.length - (intOf t).toNat)
        case atStart => exact ⟨0, [], v, by omega, rfl, hid (by simp), hid (by simpa using HI.out)⟩
        case round =>
          obtain ⟨k, p, v', hk, rfl, hp, hI⟩ := hrel
          have FI := hI.out.fr
          have a4 := FI.cell A4.out
          simp only [Nat.add_zero] at a4
          by_cases hlt : k < e.kids.length
          · obtain ⟨kb, ko, hA, rK⟩ := HX.out.at_ hlt
            subst hA
            have RK := hid rK
            clear rK
            obtain ⟨d, rfl, hvk⟩ := vE_down HV.out hlt
            have HVK := hid hvk
            have hpl : p.length ≤ 2 ^ d := by
              have h := congrArg List.length hp.out
              rw [List.length_map] at h
              rw [h]
              rcases (by omega : k = 0 ∨ k = 1) with rfl | rfl
              · simp
              · obtain ⟨d', hd', h0⟩ := vE_down HV.out (i := 0) (by omega)
                obtain rfl : d = d' := by omega
                rw [show e.kids.take 1 = [e.kids[0]] by rw [List.take_succ_eq_append_getElem (by omega)]; simp]
                simpa using (cnj_len h0).2
            have h2d : 2 ^ (d + 1) = 2 ^ d + 2 ^ d := by rw [Nat.pow_succ]; omega
            have PP := hid hpl
            clear hvk hpl hpd
            go_wp2_with fail
            refine (IH.out n (by omega) e.kids[k] kb (ko + k * 5) wd d (q ++ p) v' _ RK.out (HS.out.2 k hlt) HVK.out (by omega) (by omega) hI.out (by have := PP.out; rw [List.length_append]; omega)).mono ?_
            rintro r w1 ⟨rfl, p1, v1, hp1, hI1⟩
            have HP1 := hid hp1
            have HI1 := hid hI1
            clear hp1 hI1
            go_wp2
            go_roundw
            case rel => exact ⟨k + 1, p ++ p1, v1, by omega, by go_num, hid (by rw [List.map_append, hp.out, HP1.out, List.take_succ_eq_append_getElem hlt, List.flatMap_append, List.flatMap_cons, List.flatMap_nil, List.append_nil]), hid (by rw [← List.append_assoc]; exact HI1.out)⟩
            case measure => simp [intOf]; omega
          · obtain rfl : k = e.kids.length := by omega
            go_wp2
            go_end0
            exact ⟨rfl, p, v', by rw [R.out, hp.out, List.take_of_length_le (Nat.le_refl _)], hI.out⟩
/-- The parts of a valid expression. -/
def xconj (n : Nat) (e : Ex) : List Ex := if vexpr 6 n e then cnj n e else []
set_option maxRecDepth 100000 in
set_option maxHeartbeats 2000000 in
theorem specConjuncts (n : Nat) (e : Ex) (A : Option Addr) (c : Nat) (w : World) (hx : RdSl (rdEx n) w.cell? 5 A e.kids) (hs : exSm n e.kids) :
    Calls Try.prog 18 #[.agg #[.int .i64 e.kind, .int .i64 e.col, .bool e.val.null, .int .i64 e.val.n, .slice A e.kids.length c]] w fun r w' => ∃ A' cap', r = .returned (.slice A' (xconj n e).length cap') ∧ RdSl (rdEx (n + 1)) w'.cell? 5 A' (xconj n e) ∧ Fr w w' := by
  have HX := hid hx
  clear hx
  have BA := Blk.new w 33 #[.int .i64 e.kind, .int .i64 e.col, .bool e.val.null, .int .i64 e.val.n, .slice A e.kids.length c]
  have F1 : Fr w (w.alloc (.cells #[.int .i64 e.kind, .int .i64 e.col, .bool e.val.null, .int .i64 e.val.n, .slice A e.kids.length c] 33)) := (Fr.refl _).alloc _
  cases hv : vexpr 6 n e
  · have R := hid (show xconj n e = [] by unfold xconj; rw [hv]; rfl)
    go_enter Try.func18, Try.ntmps18
    go_wp2_with (go_at_call 39; refine (specValidExpr n _ _ _ _ _ (HX.out.fr (rdEx_mono n) F1) hs).mono ?_; rintro r w1 ⟨rfl, b1⟩; rw [hv])
    go_ret
    rw [R.out]
    exact ⟨none, 0, rfl, RdSl.nil, F1.trans b1⟩
  · have R := hid (show xconj n e = cnj n e by unfold xconj; rw [hv]; simp)
    have HVE := hid (vexpr_vE hv)
    go_enter Try.func18, Try.ntmps18
    go_wp2_with fail
    refine (specValidExpr n _ _ _ _ _ (HX.out.fr (rdEx_mono n) F1) hs).mono ?_
    rintro r w1 ⟨rfl, b1⟩
    rw [hv]
    obtain ⟨a0, a1, a2, a3, a4, _⟩ := (BA.fr b1).five
    go_wp2_with fail
    refine (specConj n e A c 6 8 w1 (HX.out.fr (rdEx_mono n) (F1.trans b1)) hs HVE.out (by omega)).mono ?_
    rintro r w2 ⟨v, q, rfl, hRow, hq, b2⟩
    obtain ⟨VA, vc, rfl⟩ := own_form hRow.own
    have HR := hid hRow
    have HQ := hid hq
    clear hRow hq
    go_wp2
    go_ret
    have hl : q.length = (xconj n e).length := by rw [R.out, ← HQ.out, List.length_map]
    refine ⟨VA, vc, by rw [hl]; rfl, ?_, (F1.trans b1).trans b2⟩
    have h := HR.out.rd
    rw [HQ.out, ← R.out] at h
    exact h.mono (rdEx_mono (n + 1)) (fromB_le _ _)
set_option maxRecDepth 100000 in
set_option maxHeartbeats 2000000 in
theorem implConjuncts2 (n : Nat) (e : Ex) (A : Option Addr) (c : Nat) (w : World) (hx : RdSl (rdEx n) w.cell? 5 A e.kids) (hs : exSm n e.kids) (hc : e.kids.length ≤ c) :
    Calls Try.prog 19 #[.agg #[.int .i64 e.kind, .int .i64 e.col, .bool e.val.null, .int .i64 e.val.n, .slice A e.kids.length c]] w fun r w' => ∃ v q, r = .returned v ∧ RowE n w' w.heap.size v q ∧ q.map (·.1) = xconj n e ∧ Fr w w' ∧ RowT n w' w.heap.size v q := by
  have HX := hid hx
  clear hx
  have BA := Blk.new w 33 #[.int .i64 e.kind, .int .i64 e.col, .bool e.val.null, .int .i64 e.val.n, .slice A e.kids.length c]
  have F1 : Fr w (w.alloc (.cells #[.int .i64 e.kind, .int .i64 e.col, .bool e.val.null, .int .i64 e.val.n, .slice A e.kids.length c] 33)) := (Fr.refl _).alloc _
  cases hv : vexpr 6 n e
  · have R := hid (show xconj n e = [] by unfold xconj; rw [hv]; rfl)
    go_enter Try.func19, Try.ntmps19
    go_wp2_with (go_at_call 35; refine (implValidExpr n _ _ _ _ _ (HX.out.fr (rdEx_mono n) F1) hs hc).mono ?_; rintro r w1 ⟨rfl, b1⟩; rw [hv])
    go_ret
    exact ⟨_, [], rfl, ⟨own_nil, fun x hx => by simp at hx⟩, by rw [R.out]; rfl, F1.trans b1, RowT.nil⟩
  · have R := hid (show xconj n e = cnj n e by unfold xconj; rw [hv]; simp)
    have HVE := hid (vexpr_vE hv)
    go_enter Try.func19, Try.ntmps19
    go_wp2_with fail
    refine (implValidExpr n _ _ _ _ _ (HX.out.fr (rdEx_mono n) F1) hs hc).mono ?_
    rintro r w1 ⟨rfl, b1⟩
    rw [hv]
    have P := hid (ptrEx (BA.fr b1) (HX.out.fr (rdEx_mono n) (F1.trans b1)) (exSm_len hs) hc)
    have K1 : Fr w1 (w1.alloc (.cells #[.slice none 0 0] 31)) := (Fr.refl _).alloc _
    have INV : CjInv w1 w1.heap.size n (w1.alloc (.cells #[.slice none 0 0] 31)) [] (.slice none 0 0) := ⟨K1, Nat.le_refl _, Blk.new _ _ _, ⟨own_nil, fun x hx => by simp at hx⟩, RowT.nil⟩
    have HI := hid INV
    clear INV
    go_wp2_with fail
    refine (eachConj w1 w1.heap.size n n e w.heap.size 0 6 8 [] (.slice none 0 0) _ P.out hs HVE.out (by omega) (Nat.le_refl _) HI.out (by simp)).mono ?_
    rintro r w2 ⟨rfl, q, v, hq, hI⟩
    have HQ := hid hq
    have HI2 := hid hI
    have c0 : w2.cell? ⟨w1.heap.size, 0, none⟩ = some v := hI.var.cell 0
    obtain ⟨VA, vc, rfl⟩ := own_form hI.row.own
    clear hq hI
    go_wp2
    go_ret
    have hs1 := (F1.trans b1).size
    exact ⟨_, q, rfl, HI2.out.row.lo (by omega), by rw [R.out]; exact HQ.out, (F1.trans b1).trans HI2.out.fr, HI2.out.tr.lo (by omega)⟩
theorem implConjuncts (n : Nat) (e : Ex) (A : Option Addr) (c : Nat) (w : World) (hx : RdSl (rdEx n) w.cell? 5 A e.kids) (hs : exSm n e.kids) (hc : e.kids.length ≤ c) :
    Calls Try.prog 19 #[.agg #[.int .i64 e.kind, .int .i64 e.col, .bool e.val.null, .int .i64 e.val.n, .slice A e.kids.length c]] w fun r w' => ∃ v q, r = .returned v ∧ RowE n w' w.heap.size v q ∧ q.map (·.1) = xconj n e ∧ Fr w w' :=
  (implConjuncts2 n e A c w hx hs hc).mono fun r w' h => by
    obtain ⟨v, q, h1, h2, h3, h4, _⟩ := h
    exact ⟨v, q, h1, h2, h3, h4⟩
end Go.Proofs.Ytfillcjpdnpaiaa
