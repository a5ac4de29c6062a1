/- The laws of closures, implications and derivations in plain Lean. -/
import Derived.Test.YtabbcepdinplfaaDepW5
namespace Go.Proofs.Ytabbcepdinplfaa
open Go Go.RowKit

/-- Steps, each of which extends the set, lead from s to r. -/
def Stp (xs : List Dep) : List Nat → Nat → Nat → Prop
  | [], s, r => s = r
  | i :: is, s, r => ∃ h : i < xs.length, app xs[i] s = true ∧ Stp xs is (s ||| xs[i].t) r
theorem Stp.append {xs : List Dep} : ∀ {a b : List Nat} {s m r : Nat}, Stp xs a s m → Stp xs b m r → Stp xs (a ++ b) s r
  | [], _, _, _, _, h, k => by cases h; exact k
  | i :: is, _, _, _, _, ⟨h1, h2, h3⟩, k => ⟨h1, h2, Stp.append h3 k⟩
theorem Stp.pass (xs : List Dep) : ∀ (ds : List Dep) (i s : Nat), xs.drop i = ds → Stp xs (passL ds i s).1 s (passL ds i s).2
  | [], _, _, _ => rfl
  | d :: ds, i, s, h => by
    have hi : i < xs.length := by
      rcases Nat.lt_or_ge i xs.length with h1 | h1
      · exact h1
      · rw [List.drop_eq_nil_of_le h1] at h; cases h
    rw [List.drop_eq_getElem_cons hi] at h
    injection h with h1 h2
    unfold passL
    split
    · rename_i ha
      refine ⟨hi, by rw [h1]; exact ha, ?_⟩
      rw [h1]
      exact Stp.pass xs ds (i + 1) _ h2
    · exact Stp.pass xs ds (i + 1) _ h2
theorem Stp.drv {xs : List Dep} (hd : ∀ d ∈ xs, d.ok) {s : Nat} (hs : s < 64) : Stp xs (drv xs s).1 s (drv xs s).2 :=
  drv_induct hd (M := fun s r => Stp xs r.1 s r.2) (fun s _ _ => rfl) (fun s _ _ h => Stp.append (Stp.pass xs xs 0 s rfl) h) s hs
theorem Stp.ext {xs : List Dep} : ∀ {a : List Nat} {s r : Nat}, Stp xs a s r → sub s r = true
  | [], _, _, h => by cases h; exact sub_refl _
  | _ :: _, _, _, ⟨_, _, h⟩ => sub_trans (sub_or_left _ _) (Stp.ext h)
theorem Stp.least {xs : List Dep} {c : Nat} (hc : ∀ d ∈ xs, app d c = false) : ∀ {a : List Nat} {s r : Nat}, Stp xs a s r → sub s c = true → sub r c = true
  | [], _, _, h, k => by cases h; exact k
  | i :: _, _, _, ⟨hi, ha, h⟩, k => by
    refine Stp.least hc h (or_sub k ?_)
    have := hc xs[i] (List.getElem_mem _)
    simp only [app, Bool.and_eq_true, Bool.and_eq_false_iff, Bool.not_eq_true', Bool.not_eq_false'] at this ha
    rcases this with h1 | h1
    · rw [sub_trans ha.1 k] at h1; cases h1
    · exact h1
theorem Stp.lt {xs : List Dep} {n : Nat} (hd : ∀ d ∈ xs, d.t < 2 ^ n) : ∀ {a : List Nat} {s r : Nat}, Stp xs a s r → s < 2 ^ n → r < 2 ^ n
  | [], _, _, h, k => by cases h; exact k
  | i :: _, _, _, ⟨hi, _, h⟩, k => Stp.lt hd h (Nat.or_lt_two_pow k (hd _ (List.getElem_mem _)))
theorem Stp.chk {xs : List Dep} : ∀ {a : List Nat} {s r : Nat}, Stp xs a s r → chk xs (a.map fun (n : Nat) => (n : Int)) s = some r
  | [], _, _, h => by cases h; rfl
  | i :: _, _, _, ⟨hi, ha, h⟩ => by
    simp only [app, Bool.and_eq_true] at ha
    rw [List.map_cons, chk_yes hi ha.1]
    exact Stp.chk h
theorem Stp.new {xs : List Dep} : ∀ {a : List Nat} {s r i : Nat}, Stp xs a s r → i ∈ a → ∃ h : i < xs.length, sub xs[i].t s = false
  | [], _, _, _, _, h => by cases h
  | j :: a, s, r, i, ⟨hj, ha, h⟩, hi => by
    rcases List.mem_cons.1 hi with rfl | hi
    · simp only [app, Bool.and_eq_true, Bool.not_eq_true'] at ha
      exact ⟨hj, ha.2⟩
    · obtain ⟨h1, h2⟩ := Stp.new h hi
      refine ⟨h1, ?_⟩
      cases e : sub xs[i].t s
      · rfl
      · rw [sub_trans e (sub_or_left s xs[j].t)] at h2; cases h2
theorem Stp.nodup {xs : List Dep} : ∀ {a : List Nat} {s r : Nat}, Stp xs a s r → a.Pairwise (· ≠ ·)
  | [], _, _, _ => .nil
  | i :: a, s, r, ⟨hi, ha, h⟩ => by
    refine .cons (fun j hj e => ?_) (Stp.nodup h)
    subst e
    obtain ⟨h1, h2⟩ := Stp.new h hj
    rw [sub_or_right] at h2; cases h2
theorem countP_lt {α : Type} {p q : α → Bool} : ∀ {l : List α} {x : α}, x ∈ l → (∀ y, p y = true → q y = true) → q x = true → p x = false → l.countP p < l.countP q
  | y :: l, x, h, hm, h1, h2 => by
    have hle : ∀ l : List α, l.countP p ≤ l.countP q := fun l => List.countP_mono_left fun y _ => hm y
    rcases List.mem_cons.1 h with rfl | h
    · rw [List.countP_cons_of_neg (by simp [h2]), List.countP_cons_of_pos h1]
      have := hle l; omega
    · have := countP_lt h hm h1 h2
      rw [List.countP_cons, List.countP_cons]
      have : (if p y = true then 1 else 0) ≤ (if q y = true then 1 else 0) := by
        cases e : p y
        · simp
        · simp [hm y e]
      omega
theorem Stp.len {xs : List Dep} : ∀ {a : List Nat} {s r : Nat}, Stp xs a s r → a.length + xs.countP (fun d => !sub d.t r) ≤ xs.countP (fun d => !sub d.t s)
  | [], _, _, h => by cases h; simp
  | i :: a, s, r, ⟨hi, ha, h⟩ => by
    have := Stp.len h
    have k : xs.countP (fun d => !sub d.t (s ||| xs[i].t)) < xs.countP (fun d => !sub d.t s) := by
      refine countP_lt (List.getElem_mem hi) ?_ ?_ ?_
      · intro y hy
        simp only [Bool.not_eq_true'] at hy ⊢
        cases e : sub y.t s
        · rfl
        · rw [sub_trans e (sub_or_left s xs[i].t)] at hy; cases hy
      · simp only [app, Bool.and_eq_true] at ha; exact ha.2
      · simp [sub_or_right]
    simp only [List.length_cons]
    omega
theorem passL_closed : ∀ {ds : List Dep} {i s : Nat}, (passL ds i s).1 = [] → ∀ d ∈ ds, app d s = false
  | [], _, _, _, _, h => by cases h
  | e :: ds, i, s, h, d, hd => by
    unfold passL at h
    split at h
    · cases h
    · rename_i ha
      rcases List.mem_cons.1 hd with rfl | hd
      · simpa using ha
      · exact passL_closed h d hd
theorem drv_end {xs : List Dep} (hd : ∀ d ∈ xs, d.ok) {s : Nat} (hs : s < 64) : (passL xs 0 (drv xs s).2).1 = [] :=
  drv_induct hd (M := fun _ r => (passL xs 0 r.2).1 = []) (fun _ _ h => h) (fun _ _ _ h => h) s hs
theorem drv_closed {xs : List Dep} (hd : ∀ d ∈ xs, d.ok) {s : Nat} (hs : s < 64) : ∀ d ∈ xs, app d (drv xs s).2 = false := passL_closed (drv_end hd hs)
theorem drv_idem {xs : List Dep} (hd : ∀ d ∈ xs, d.ok) {s : Nat} (hs : s < 64) : (drv xs (drv xs s).2).2 = (drv xs s).2 := by
  rw [drv_eq hd (drv_lt hd hs), if_pos (drv_end hd hs)]
theorem drv_mono {xs : List Dep} (hd : ∀ d ∈ xs, d.ok) {s l : Nat} (hs : s < 64) (hl : l < 64) (h : sub s l = true) : sub (drv xs s).2 (drv xs l).2 = true :=
  (Stp.drv hd hs).least (drv_closed hd hl) (sub_trans h (Stp.drv hd hl).ext)
theorem drv_nil (s : Nat) : (drv [] s).2 = s := by
  unfold drv run; simp [passL]
theorem sub_and {a b : Nat} (h : sub a b = true) : b &&& a = a := by
  unfold sub at h; rw [beq_iff_eq, Nat.and_comm] at h; exact h
theorem pow_nat {wd : Int} : (2 : Int) ^ wd.toNat = ((2 ^ wd.toNat : Nat) : Int) := by simp
theorem vset_nat {wd : Int} {n : Nat} : vset (n : Int) wd = decide (n < 2 ^ wd.toNat) := by
  unfold vset
  rw [pow_nat]
  rw [Bool.eq_iff_iff]
  simp only [Bool.and_eq_true, decide_eq_true_eq]
  omega
theorem vdeps_pow {xs : List Dep} {wd : Int} (h : vdeps xs wd = true) : ∀ d ∈ xs, d.t < 2 ^ wd.toNat := by
  intro d hd
  have ok := vdeps_ok h d hd
  simp only [vdeps, Bool.and_eq_true, List.all_eq_true] at h
  have := h.2 d hd
  simp only [Dep.valid, Bool.and_eq_true] at this
  have := this.2
  rw [(Dep.ok_f ok).2.2.2, vset_nat, decide_eq_true_eq] at this
  exact this
theorem vdeps_nil {xs : List Dep} {wd : Int} (h : vdeps xs wd = true) : vdeps [] wd = true := by
  have := vwd_of h
  simp [vdeps, this]

theorem clo_yes {xs : List Dep} {wd s : Int} (h : 0 ≤ cloD xs wd s) : vdeps xs wd = true ∧ vset s wd = true := by
  unfold cloD at h
  split at h
  · rename_i h2; simpa using h2
  · omega
theorem clo_law {xs : List Dep} {wd s : Int} (h : 0 ≤ cloD xs wd s) : ∃ S N : Nat, s = (S : Int) ∧ cloD xs wd s = (N : Int) ∧ S < 64 ∧ N < 64 ∧ 1 ≤ wd ∧ wd ≤ 6 ∧ N &&& S = S ∧ cloD xs wd (N : Int) = (N : Int) ∧ cloD [] wd s = s ∧ ∀ m : Nat, S ||| m % 2 ^ wd.toNat < 64 ∧ ∃ M : Nat, cloD xs wd ((S ||| m % 2 ^ wd.toNat : Nat) : Int) = (M : Int) ∧ M < 64 ∧ M &&& N = N := by
  obtain ⟨h1, h2⟩ := clo_yes h
  obtain ⟨w1, w2⟩ := wd_of (vwd_of h1)
  obtain ⟨S, rfl, hS⟩ := nat_of_vset w1 w2 h2
  have hd := vdeps_ok h1
  have hp := pow_bd w1 w2
  rw [pow_nat] at hp
  have e : cloD xs wd (S : Int) = ((drv xs S).2 : Int) := by rw [cloD_yes (by simp [h1, h2])]; rfl
  rw [vset_nat, decide_eq_true_eq] at h2
  have hN : (drv xs S).2 < 2 ^ wd.toNat := (Stp.drv hd hS).lt (vdeps_pow h1) h2
  refine ⟨S, (drv xs S).2, rfl, e, hS, drv_lt hd hS, w1, w2, sub_and (Stp.drv hd hS).ext, ?_, ?_, ?_⟩
  · rw [cloD_yes (by simp [h1, vset_nat, hN]), Int.toNat_natCast, drv_idem hd hS]
  · rw [cloD_yes (by simp [vdeps_nil h1, vset_nat, h2]), Int.toNat_natCast, drv_nil]
  · intro m
    have hm : m % 2 ^ wd.toNat < 2 ^ wd.toNat := Nat.mod_lt _ (by omega)
    have hL : S ||| m % 2 ^ wd.toNat < 2 ^ wd.toNat := Nat.or_lt_two_pow h2 hm
    have hL6 : S ||| m % 2 ^ wd.toNat < 64 := by omega
    refine ⟨hL6, (drv xs (S ||| m % 2 ^ wd.toNat)).2, ?_, drv_lt hd hL6, sub_and (drv_mono hd hS hL6 (sub_or_left _ _))⟩
    rw [cloD_yes (by simp [h1, vset_nat, hL]), Int.toNat_natCast]

theorem chk_least {xs : List Dep} {c : Nat} (hc : ∀ d ∈ xs, app d c = false) : ∀ {st : List Int} {s r : Nat}, chk xs st s = some r → sub s c = true → sub r c = true
  | [], _, _, h, k => by simp [Go.Proofs.Ytabbcepdinplfaa.chk] at h; subst h; exact k
  | i :: st, s, r, h, k => by
    by_cases hi : 0 ≤ i ∧ i < xs.length
    · obtain ⟨j, rfl⟩ : ∃ j : Nat, i = (j : Int) := ⟨i.toNat, by omega⟩
      have hj : j < xs.length := by omega
      cases hs : sub xs[j].f s
      · rw [chk_no hj hs] at h; cases h
      · rw [chk_yes hj hs] at h
        refine chk_least hc h (or_sub k ?_)
        have := hc xs[j] (List.getElem_mem _)
        simp only [app, Bool.and_eq_false_iff, Bool.not_eq_false'] at this
        rcases this with h1 | h1
        · rw [sub_trans hs k] at h1; cases h1
        · exact h1
    · rw [chk_bad hi] at h; cases h
/-- What a derivation proves is implied. -/
theorem chk_imp {xs : List Dep} {wd : Int} {f : Dep} {st : List Int} (h : chkD xs wd f st = true) : impD xs wd f = true := by
  unfold chkD at h
  simp only [Bool.and_eq_true, decide_eq_true_eq] at h
  obtain ⟨h1, h2, h3, h4⟩ := h
  unfold impD
  simp only [h1, h2, Bool.true_and]
  obtain ⟨w1, w2⟩ := wd_of (vwd_of h1)
  have hd := vdeps_ok h1
  have hf : f.f < 64 := by
    simp only [Dep.valid, Bool.and_eq_true] at h2
    have := vset_lt h2.1 w1 w2
    unfold Dep.f; omega
  cases e : chk xs st f.f with
  | none => rw [e] at h4; cases h4
  | some r =>
    rw [e] at h4
    exact sub_trans h4 (chk_least (drv_closed hd hf) e (Stp.drv hd hf).ext)
/-- Every given dependency is implied. -/
theorem imp_given {xs : List Dep} {wd : Int} (h1 : vdeps xs wd = true) {d : Dep} (hd' : d ∈ xs) : impD xs wd d = true := by
  have hd := vdeps_ok h1
  have hf := Dep.ok_f (hd d hd')
  have hv := h1
  simp only [vdeps, Bool.and_eq_true, List.all_eq_true] at hv
  unfold impD
  simp only [h1, hv.2 d hd', Bool.true_and]
  have := drv_closed hd hf.1 d hd'
  simp only [app, Bool.and_eq_false_iff, Bool.not_eq_false'] at this
  rcases this with h | h
  · rw [(Stp.drv hd hf.1).ext] at h; cases h
  · exact h
theorem imp_law {xs : List Dep} {wd x y : Int} (h : 0 ≤ cloD xs wd x) (hy : 0 ≤ y) (hy2 : y < 2 ^ wd.toNat) : ∃ N Y : Nat, cloD xs wd x = (N : Int) ∧ y = (Y : Int) ∧ N < 64 ∧ Y < 64 ∧ impD xs wd ⟨x, y⟩ = (N &&& Y == Y) := by
  obtain ⟨h1, h2⟩ := clo_yes h
  obtain ⟨w1, w2⟩ := wd_of (vwd_of h1)
  obtain ⟨S, rfl, hS⟩ := nat_of_vset w1 w2 h2
  have hd := vdeps_ok h1
  have hp := pow_bd w1 w2
  have e : cloD xs wd (S : Int) = ((drv xs S).2 : Int) := by rw [cloD_yes (by simp [h1, h2])]; rfl
  refine ⟨(drv xs S).2, y.toNat, e, by omega, drv_lt hd hS, by omega, ?_⟩
  have hv : vset y wd = true := by simp [vset, hy, hy2]
  rw [impD_eq]
  simp [h1, Dep.valid, h2, hv, sub, Nat.and_comm]
/-- Derivations are accepted, and their steps are distinct. -/
theorem drv_law {xs : List Dep} {wd s : Int} (h : 0 ≤ cloD xs wd s) : chkD xs wd ⟨s, cloD xs wd s⟩ ((drvD xs wd s).map fun (n : Nat) => (n : Int)) = true ∧ (drvD xs wd s).Pairwise (· ≠ ·) := by
  obtain ⟨S, N, rfl, hN, hS, hN6, w1, w2, -⟩ := clo_law h
  obtain ⟨h1, h2⟩ := clo_yes h
  have hd := vdeps_ok h1
  have e : cloD xs wd (S : Int) = ((drv xs S).2 : Int) := by rw [cloD_yes (by simp [h1, h2])]; rfl
  have e2 : drvD xs wd (S : Int) = (drv xs S).1 := by unfold drvD; rw [if_pos (by simp [h1, h2])]; rfl
  have hk := h2
  rw [vset_nat, decide_eq_true_eq] at hk
  have st := Stp.drv hd hS
  have hR : (drv xs S).2 < 2 ^ wd.toNat := st.lt (vdeps_pow h1) hk
  rw [e2]
  refine ⟨?_, st.nodup⟩
  rw [chkD_eq, e]
  have hl : (drv xs S).1.length ≤ 40 := by
    have := st.len
    have k := List.countP_le_length (p := fun d : Dep => !sub d.t S) (l := xs)
    have := len_of h1
    omega
  rw [Int.toNat_natCast, st.chk]
  simp [h1, Dep.valid, h2, vset_nat, hR, sub_refl, hl]
end Go.Proofs.Ytabbcepdinplfaa
