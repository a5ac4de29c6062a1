/- Plain laws of the conjunction of a list: it is true exactly if all are, its parts are their parts. -/
import Derived.Test.YtfillcjpdnpaiaaCjnS
import Derived.Test.YtfillcjpdnpaiaaConjD
import Derived.Test.YtfillcjpdnpaiaaConjL
namespace Go.Proofs.Ytfillcjpdnpaiaa
open Go Go.RowKit

theorem sm_vE {wd : Int} : ∀ {n d : Nat} {e : Ex}, vE wd n d e = true → exSm n e.kids
  | 0, d, e, hv => by have := vE_two hv; show e.kids.length ≤ 1048576; omega
  | n + 1, d, e, hv => ⟨by have := vE_two hv; omega, fun i hi => by
    obtain ⟨d0, rfl, hv0⟩ := vE_down hv hi
    exact sm_vE hv0⟩
theorem xconj_facts {n : Nat} {e : Ex} (hd : Dp n e) : (xconj n e).length ≤ 256 ∧ exSm (n + 1) (xconj n e) ∧ ∀ x ∈ xconj n e, x.kind ≠ 8 := by
  unfold xconj
  cases hv : vexpr 6 n e
  · simp only [Bool.false_eq_true, if_false, List.length_nil]
    exact ⟨by omega, exSm_nil _, fun x hx => by simp at hx⟩
  · simp only [if_true]
    have hvE := vexpr_vE hv
    have hl : (cnj n e).length ≤ 256 := (cnj_len hvE).2
    refine ⟨hl, ⟨by omega, fun i hi => ?_⟩, fun x hx => (cnj_parts hvE hd x hx).2.2⟩
    obtain ⟨_, ⟨d', _, h3⟩, _⟩ := cnj_parts hvE hd _ (List.getElem_mem hi)
    exact sm_vE h3
theorem vScal_wide {a b : Int} (h : a ≤ b) {e : Ex} (hs : vScal a e = true) : vScal b e = true := by
  unfold vScal at hs ⊢
  by_cases hk : e.kind = 1
  · rw [if_pos hk] at hs ⊢
    simp only [Bool.and_eq_true, decide_eq_true_eq] at hs ⊢
    exact ⟨⟨hs.1.1, by omega⟩, hs.2⟩
  · rw [if_neg hk] at hs ⊢
    exact hs
theorem vE_wide {a b : Int} (h : a ≤ b) : ∀ {n : Nat} {d : Int} {e : Ex}, vE a n d e = true → vE b n d e = true
  | 0, d, e, hv => by
    simp only [vE, Bool.and_eq_true] at hv ⊢
    exact ⟨hv.1, vScal_wide h hv.2⟩
  | n + 1, d, e, hv => by
    simp only [vE, Bool.and_eq_true, List.all_eq_true] at hv ⊢
    exact ⟨⟨hv.1.1, vScal_wide h hv.1.2⟩, fun x hx => vE_wide h (hv.2 x hx)⟩
theorem vexpr_wide {a b : Int} (h : a ≤ b) (hb : b ≤ 6) {n : Nat} {e : Ex} (hv : vexpr a n e = true) : vexpr b n e = true := by
  unfold vexpr at hv ⊢
  simp only [Bool.and_eq_true, wid, decide_eq_true_eq] at hv ⊢
  exact ⟨⟨by omega, hb⟩, vE_wide h hv.2⟩
theorem dp_le {n : Nat} {e : Ex} (h : Dp n e) : ∀ k, Dp (n + k) e
  | 0 => h
  | k + 1 => dp_up (dp_le h k)
theorem vE_le {wd : Int} {n : Nat} {d : Int} {e : Ex} (h : Dp n e) : ∀ k, vE wd (n + k) d e = vE wd n d e
  | 0 => rfl
  | k + 1 => by rw [show n + (k + 1) = (n + k) + 1 from rfl, vE_lift (n + k) d e (dp_le h k), vE_le h k]
theorem ev_le {row : List V} {wd : Int} {n d : Nat} {e : Ex} (h : Dp n e) (hv : vE wd n d e = true) : ∀ k, ev row (n + k) e = ev row n e
  | 0 => rfl
  | k + 1 => by rw [show n + (k + 1) = (n + k) + 1 from rfl, ev_lift (n + k) d e (dp_le h k) (by rw [vE_le h k]; exact hv), ev_le h hv k]
theorem flat_congr {X Y : Type} {f g : X → List Y} : ∀ {l : List X}, (∀ x ∈ l, f x = g x) → l.flatMap f = l.flatMap g
  | [], _ => rfl
  | x :: r, h => by rw [List.flatMap_cons, List.flatMap_cons, h x (by simp), flat_congr fun y hy => h y (by simp [hy])]
theorem cnj_lift {wd : Int} : ∀ {n d : Nat} {e : Ex}, vE wd n d e = true → Dp n e → cnj (n + 1) e = cnj n e
  | 0, d, e, hv, hd => by
    have hk : e.kind ≠ 8 := fun hk => by
      obtain ⟨a, b, h2⟩ := kids8 hv hk
      rw [show e.kids = [] from hd] at h2; cases h2
    rw [cnj_one hk, cnj_one hk]
  | n + 1, d, e, hv, hd => by
    by_cases hk : e.kind = 8
    · rw [cnj_succ, if_pos hk, cnj_succ, if_pos hk]
      refine flat_congr fun x hx => ?_
      obtain ⟨i, hi, rfl⟩ := List.getElem_of_mem hx
      obtain ⟨d0, _, hv0⟩ := vE_down hv hi
      exact cnj_lift hv0 (hd i hi)
    · rw [cnj_one hk, cnj_one hk]
theorem cnj_le {wd : Int} {n d : Nat} {e : Ex} (h : Dp n e) (hv : vE wd n d e = true) : ∀ k, cnj (n + k) e = cnj n e
  | 0 => rfl
  | k + 1 => by rw [show n + (k + 1) = (n + k) + 1 from rfl, cnj_lift (wd := wd) (d := d) (by rw [vE_le h k]; exact hv) (dp_le h k), cnj_le h hv k]
/-- A valid conjunction of a list: every element is valid, it is true exactly if all are, its parts are theirs. -/
theorem cjn_main {row : List V} {wd : Int} {n : Nat} : ∀ (k d : Nat) (xs : List Ex), xs ≠ [] → xs.length ≤ k + 1 → (∀ x ∈ xs, Dp n x) → vE wd (n + k) d (cjn xs) = true →
    (∀ x ∈ xs, vE wd n d x = true) ∧ tT (ev row (n + k) (cjn xs)) = xs.all (fun x => tT (ev row n x)) ∧ cnj (n + k) (cjn xs) = xs.flatMap (cnj n)
  | k, d, xs, hne, hl, hd, hv => by
    rcases List.eq_nil_or_concat xs with rfl | ⟨ys, x, rfl⟩
    · exact absurd rfl hne
    rw [List.concat_eq_append] at hl hd hv ⊢
    by_cases hy : ys = []
    · subst hy
      have hx := hd x (by simp)
      rw [List.nil_append, cjn_one] at hv ⊢
      have hv' : vE wd n d x = true := by rw [← vE_le hx k]; exact hv
      refine ⟨fun z hz => ?_, ?_, ?_⟩
      · obtain rfl := List.mem_singleton.1 hz; exact hv'
      · rw [ev_le hx hv' k]; simp
      · rw [cnj_le hx hv' k]; simp
    · rw [cjn_snoc hy] at hv ⊢
      rw [List.length_append, List.length_singleton] at hl
      have hp : 0 < ys.length := List.length_pos_iff.2 hy
      obtain ⟨k, rfl⟩ : ∃ k', k = k' + 1 := ⟨k - 1, by omega⟩
      obtain ⟨d0, rfl, h0⟩ := vE_down (n := n + k) hv (i := 0) (by simp [Ex.kids])
      obtain ⟨d1, hd1, h1⟩ := vE_down (n := n + k) hv (i := 1) (by simp [Ex.kids])
      obtain rfl : d0 = d1 := by omega
      replace h0 : vE wd (n + k) d0 (cjn ys) = true := h0
      replace h1 : vE wd (n + k) d0 x = true := h1
      have hx := hd x (by simp)
      have hx' : vE wd n d0 x = true := by rw [← vE_le hx k]; exact h1
      obtain ⟨i1, i2, i3⟩ := cjn_main (row := row) k d0 ys hy (by omega) (fun z hz => hd z (by simp [hz])) h0
      refine ⟨fun z hz => ?_, ?_, ?_⟩
      · rcases List.mem_append.1 hz with hz | hz
        · exact vE_mono n d0 (d0 + 1) z (i1 z hz) (by omega)
        · obtain rfl := List.mem_singleton.1 hz
          exact vE_mono n d0 (d0 + 1) z hx' (by omega)
      · rw [show n + (k + 1) = (n + k) + 1 from rfl, ev_mk2 (by decide), tT_and, i2, ev_le hx hx' k, List.all_append]
        simp
      · rw [show n + (k + 1) = (n + k) + 1 from rfl, cnj_succ, if_pos (show (Ex.mk 8 0 ⟨false, 0⟩ [cjn ys, x]).kind = 8 from rfl)]
        show [cjn ys, x].flatMap (cnj (n + k)) = _
        rw [List.flatMap_append, List.flatMap_cons, List.flatMap_cons, List.flatMap_nil, i3, cnj_le hx hx' k]
        simp
/-- What stands where Conjoin's answer is valid for the row. -/
theorem xcjn_law {row : List V} {n : Nat} {xs : List Ex} (hr : vrow row = true) (hd : ∀ x ∈ xs, Dp n x) (h : vexpr row.length (n + 9) (xcjn n xs) = true) :
    xcjn n xs = cjn xs ∧ xs.length ≤ 9 ∧ isT row (n + 9) (cjn xs) = xs.all (isT row n) ∧ (xs ≠ [] → cnj (n + 9) (cjn xs) = xs.flatMap (cnj n)) ∧ ∀ x ∈ xs, ∃ d : Nat, d ≤ 8 ∧ vE row.length n d x = true := by
  have hvE := vexpr_vE' h
  have hc : (xs.all (vexpr 6 n) && decide (xs.length ≤ 9) && vexpr 6 (n + 9) (cjn xs)) = true := by
    cases hc : (xs.all (vexpr 6 n) && decide (xs.length ≤ 9) && vexpr 6 (n + 9) (cjn xs))
    · unfold xcjn at hvE
      rw [hc] at hvE
      replace hvE : vE row.length (n + 9) (8 : Nat) e0 = true := hvE
      rcases kind_cases hvE with ⟨hk, _⟩ | ⟨hk, _⟩ | ⟨hk, _⟩ | ⟨hk, _⟩ | ⟨hk, hl⟩
      · exact absurd hk (by decide)
      · exact absurd hk (by decide)
      · exact absurd hk (by decide)
      · exact absurd hk (by decide)
      · exact absurd hl (by decide)
    · rfl
  have hx : xcjn n xs = cjn xs := by unfold xcjn; rw [hc]; rfl
  simp only [Bool.and_eq_true, decide_eq_true_eq] at hc
  rw [hx] at h hvE
  have hev : evOk row (n + 9) (cjn xs) = true := by unfold evOk; rw [hr]; exact h
  by_cases hne : xs = []
  · subst hne
    refine ⟨hx, by simp, ?_, fun q => absurd rfl q, fun x hx => by simp at hx⟩
    rw [isT_ev hev]
    simp [cjn, ev_succ, Ex.kind, Ex.val, tT]
  · obtain ⟨i1, i2, i3⟩ := cjn_main (row := row) 9 8 xs hne (by omega) hd hvE
    refine ⟨hx, hc.1.2, ?_, fun _ => i3, fun x hx => ⟨8, Nat.le_refl _, i1 x hx⟩⟩
    rw [isT_ev hev, i2]
    refine all_congr fun x hx => (isT_ev ?_).symm
    rw [evOk_eq, hr, i1 x hx]; rfl
end Go.Proofs.Ytfillcjpdnpaiaa
