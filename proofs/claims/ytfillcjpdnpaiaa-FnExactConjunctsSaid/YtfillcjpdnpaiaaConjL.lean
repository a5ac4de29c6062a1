/- Plain laws of conjunctions: an expression is true exactly if all its parts are. -/
import Derived.Test.YtfillcjpdnpaiaaConjS
import Derived.Test.YtfillcjpdnpaiaaEvalL
namespace Go.Proofs.Ytfillcjpdnpaiaa
open Go

/-- True: a number other than zero. -/
def tT (v : V) : Bool := !v.null && v.n != 0
theorem tT_and (a b : V) : tT (comb 8 a b) = (tT a && tT b) := by
  rcases a with ⟨an, a⟩
  rcases b with ⟨bn, b⟩
  cases an <;> cases bn <;> by_cases ha : a = 0 <;> by_cases hb : b = 0 <;> simp [tT, comb, V.tr, trV, ha, hb, show min (0 : Int) 1 = 0 by decide, show min (0 : Int) 2 = 0 by decide, show min (1 : Int) 0 = 0 by decide, show min (1 : Int) 2 = 1 by decide, show min (2 : Int) 0 = 0 by decide, show min (2 : Int) 1 = 1 by decide]
theorem dp_up : ∀ {n : Nat} {e : Ex}, Dp n e → Dp (n + 1) e
  | 0, e, h => fun i hi => by rw [show e.kids = [] from h] at hi; simp at hi
  | n + 1, e, h => fun i hi => dp_up (h i hi)
/-- What is true of the parts. -/
theorem cnj_parts {wd : Int} : ∀ {n d : Nat} {e : Ex}, vE wd n d e = true → Dp n e → ∀ x ∈ cnj n e, Dp n x ∧ (∃ d' : Nat, d' ≤ d ∧ vE wd n d' x = true) ∧ x.kind ≠ 8
  | 0, d, e, hv, hd, x, hx => by
    have hxe : x = e := by simpa [cnj] using hx
    subst hxe
    refine ⟨hd, ⟨d, Nat.le_refl _, hv⟩, fun hk => ?_⟩
    obtain ⟨a, b, h2⟩ := kids8 hv hk
    rw [show x.kids = [] from hd] at h2; cases h2
  | n + 1, d, e, hv, hd, x, hx => by
    rw [cnj_succ] at hx
    by_cases hk : e.kind = 8
    · rw [if_pos hk] at hx
      obtain ⟨y, hy, hxy⟩ := List.mem_flatMap.1 hx
      obtain ⟨i, hi, rfl⟩ := List.getElem_of_mem hy
      obtain ⟨d0, rfl, hv0⟩ := vE_down hv hi
      obtain ⟨h1, ⟨d', hd', h2⟩, h3⟩ := cnj_parts hv0 (hd i hi) x hxy
      exact ⟨dp_up h1, ⟨d', by omega, by rw [vE_lift n _ _ h1]; exact h2⟩, h3⟩
    · rw [if_neg hk] at hx
      have hxe : x = e := by simpa using hx
      subst hxe
      exact ⟨hd, ⟨d, Nat.le_refl _, hv⟩, hk⟩
theorem all_congr {X : Type} {f g : X → Bool} : ∀ {l : List X}, (∀ x ∈ l, f x = g x) → l.all f = l.all g
  | [], _ => rfl
  | x :: r, h => by simp only [List.all_cons]; rw [h x (by simp), all_congr fun y hy => h y (by simp [hy])]
theorem cnj_true {row : List V} {wd : Int} : ∀ {n d : Nat} {e : Ex}, vE wd n d e = true → Dp n e → (cnj n e).all (fun x => tT (ev row n x)) = tT (ev row n e)
  | 0, d, e, hv, hd => by simp [cnj]
  | n + 1, d, e, hv, hd => by
    rw [cnj_succ]
    by_cases hk : e.kind = 8
    · rw [if_pos hk]
      obtain ⟨a, b, h2⟩ := kids8 hv hk
      have l0 : 0 < e.kids.length := by rw [h2]; simp
      have l1 : 1 < e.kids.length := by rw [h2]; simp
      obtain ⟨d0, rfl, hv0⟩ := vE_down hv l0
      obtain ⟨d1, hd1, hv1⟩ := vE_down hv l1
      obtain rfl : d0 = d1 := by omega
      have D0 := hd 0 l0
      have D1 := hd 1 l1
      have e2 : ev row (n + 1) e = comb 8 (ev row n a) (ev row n b) := by
        rw [ev_two (by omega) l0 l1, hk]
        simp [h2]
      simp only [h2, List.getElem_cons_zero, List.getElem_cons_succ] at hv0 hv1 D0 D1
      have up : ∀ {z : Ex}, vE wd n d0 z = true → Dp n z → (cnj n z).all (fun x => tT (ev row (n + 1) x)) = tT (ev row n z) := fun {z} hz hD => by
        rw [← cnj_true hz hD]
        refine all_congr fun x hx => ?_
        obtain ⟨h1, ⟨d', _, h3⟩, _⟩ := cnj_parts hz hD x hx
        rw [ev_lift n d' x h1 h3]
      rw [e2, tT_and, h2]
      simp only [List.flatMap_cons, List.flatMap_nil, List.append_nil, List.all_append]
      rw [up hv0 D0, up hv1 D1]
    · rw [if_neg hk]; simp
/-- Where the expression is valid for the row, each part is true or not as its value is. -/
theorem isT_ev {row : List V} {n : Nat} {e : Ex} (h : evOk row n e = true) : isT row n e = tT (ev row n e) := by
  unfold isT tT
  rw [evRes_ok h, h]; simp
theorem cnj_law {row : List V} {n : Nat} {e : Ex} (h : evOk row n e = true) (hd : Dp n e) : (cnj n e).all (isT row n) = isT row n e := by
  rw [isT_ev h, ← cnj_true (evOk_vE h) hd]
  refine all_congr fun x hx => ?_
  obtain ⟨_, ⟨d', hd', h3⟩, _⟩ := cnj_parts (evOk_vE h) hd x hx
  refine isT_ev ?_
  rw [evOk_eq, evOk_row h, vE_mono n d' 8 x h3 hd']
  rfl
end Go.Proofs.Ytfillcjpdnpaiaa
