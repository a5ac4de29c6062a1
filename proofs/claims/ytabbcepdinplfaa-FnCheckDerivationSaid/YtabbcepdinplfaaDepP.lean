/- Dependencies in plain Lean: sets of columns as numbers below 64; a pass over the dependencies; the closure. -/
import Derived.Test.YtabbcepdinplfaaMem
import Derived.Laws.BitsAllLaws
import Derived.Laws.BitsLemmas
namespace Go.Proofs.Ytabbcepdinplfaa
open Go Go.RowKit

structure Dep where
  fr : Int
  to : Int
deriving DecidableEq
def rdDep : Rd Dep := fun _ c d => c 0 = some (.int .i64 d.fr) ∧ c 1 = some (.int .i64 d.to)
theorem rdDep_mono : RdMono rdDep := fun _ _ _ _ _ _ hc h => ⟨hc _ _ h.1, hc _ _ h.2⟩
theorem RdSl.dep {m : Mv} {A : Option Addr} {xs : List Dep} (h : RdSl rdDep m 2 A xs) {k : Nat} (hk : k < xs.length) :
    ∃ b o, A = some ⟨b, o, none⟩ ∧ m ⟨b, o + k * 2, none⟩ = some (.int .i64 xs[k].fr) ∧ m ⟨b, o + k * 2 + 1, none⟩ = some (.int .i64 xs[k].to) := by
  obtain ⟨b, o, hA, hc⟩ := h.at_ hk
  exact ⟨b, o, hA, hc.1, hc.2⟩


def vset (s wd : Int) : Bool := decide (0 ≤ s) && decide (s < 2 ^ wd.toNat)
def Dep.valid (d : Dep) (wd : Int) : Bool := vset d.fr wd && vset d.to wd
def vwd (wd : Int) : Bool := decide (1 ≤ wd) && decide (wd ≤ 6)
def vdeps (xs : List Dep) (wd : Int) : Bool := vwd wd && decide (xs.length ≤ 8) && xs.all (·.valid wd)
theorem pow_bd {wd : Int} (h1 : 1 ≤ wd) (h2 : wd ≤ 6) : (2 : Int) ^ wd.toNat ≤ 64 ∧ 2 ≤ (2 : Int) ^ wd.toNat := by
  have : wd = 1 ∨ wd = 2 ∨ wd = 3 ∨ wd = 4 ∨ wd = 5 ∨ wd = 6 := by omega
  rcases this with rfl | rfl | rfl | rfl | rfl | rfl <;> decide

/-! ### Sets as numbers -/
def sub (a b : Nat) : Bool := a &&& b == a
theorem ofInt_i64 (a : Nat) (ha : a < 9223372036854775808) : (BitVec.ofInt 64 (a : Int)).toNat = a := by
  rw [BitVec.ofInt_natCast, BitVec.toNat_ofNat]; exact Nat.mod_eq_of_lt (by omega)
theorem i64_and (a b : Nat) (ha : a < 64) (hb : b < 64) : bits .and .i64 (a : Int) (b : Int) = ((a &&& b : Nat) : Int) := by
  have hx : a &&& b < 2 ^ 6 := Nat.and_lt_two_pow _ (by omega)
  show IntKind.i64.wrap ((BitVec.ofInt 64 (a : Int) &&& BitVec.ofInt 64 (b : Int)).toNat : Int) = _
  rw [BitVec.toNat_and, ofInt_i64 a (by omega), ofInt_i64 b (by omega), IntKind.wrap_i64]
  omega
theorem i64_or (a b : Nat) (ha : a < 64) (hb : b < 64) : bits .or .i64 (a : Int) (b : Int) = ((a ||| b : Nat) : Int) := by
  have hx : a ||| b < 2 ^ 6 := Nat.or_lt_two_pow (by omega) (by omega)
  show IntKind.i64.wrap ((BitVec.ofInt 64 (a : Int) ||| BitVec.ofInt 64 (b : Int)).toNat : Int) = _
  rw [BitVec.toNat_or, ofInt_i64 a (by omega), ofInt_i64 b (by omega), IntKind.wrap_i64]
  omega
theorem or_lt {a b : Nat} (ha : a < 64) (hb : b < 64) : a ||| b < 64 := Nat.or_lt_two_pow (n := 6) ha hb
theorem bv_andNot (x y : BitVec 64) : (x &&& ~~~y = 0#64) ↔ (x &&& y = x) := by
  constructor
  · intro h
    ext i hi
    have := congrArg (fun z : BitVec 64 => z.getLsbD i) h
    simp [hi] at this ⊢
    exact this
  · intro h
    ext i hi
    have := congrArg (fun z : BitVec 64 => z.getLsbD i) h
    simp [hi] at this ⊢
    exact this
theorem i64_andNot (a b : Nat) (ha : a < 64) (hb : b < 64) : (bits .andNot .i64 (a : Int) (b : Int) == 0) = sub a b := by
  show (IntKind.i64.wrap ((BitVec.ofInt 64 (a : Int) &&& ~~~ BitVec.ofInt 64 (b : Int)).toNat : Int) == 0) = _
  have k := bv_andNot (BitVec.ofInt 64 (a : Int)) (BitVec.ofInt 64 (b : Int))
  have hle : (BitVec.ofInt 64 (a : Int) &&& ~~~ BitVec.ofInt 64 (b : Int)).toNat ≤ a := by
    rw [BitVec.toNat_and, ofInt_i64 a (by omega)]; exact Nat.and_le_left
  have e1 : (BitVec.ofInt 64 (a : Int) &&& ~~~ BitVec.ofInt 64 (b : Int) = 0#64) ↔ (BitVec.ofInt 64 (a : Int) &&& ~~~ BitVec.ofInt 64 (b : Int)).toNat = 0 := by
    rw [← BitVec.toNat_inj]; simp
  have e2 : (BitVec.ofInt 64 (a : Int) &&& BitVec.ofInt 64 (b : Int) = BitVec.ofInt 64 (a : Int)) ↔ a &&& b = a := by
    rw [← BitVec.toNat_inj, BitVec.toNat_and, ofInt_i64 a (by omega), ofInt_i64 b (by omega)]
  rw [IntKind.wrap_i64]
  unfold sub
  rw [Bool.eq_iff_iff, beq_iff_eq, beq_iff_eq, ← e2, ← k, e1]
  omega

theorem sub_iff {a b : Nat} : sub a b = true ↔ ∀ i, a.testBit i = true → b.testBit i = true := by
  unfold sub
  rw [beq_iff_eq]
  constructor
  · intro h i hi
    rw [← h] at hi
    simp at hi
    exact hi.2
  · intro h
    apply Nat.eq_of_testBit_eq
    intro i
    rw [Nat.testBit_and]
    cases ha : a.testBit i
    · rfl
    · rw [h i ha]; rfl
theorem sub_refl (a : Nat) : sub a a = true := by simp [sub]
theorem sub_trans {a b c : Nat} (h : sub a b = true) (k : sub b c = true) : sub a c = true := by
  rw [sub_iff] at *; exact fun i hi => k i (h i hi)
theorem sub_or_left (a b : Nat) : sub a (a ||| b) = true := by rw [sub_iff]; intro i hi; simp [hi]
theorem sub_or_right (a b : Nat) : sub b (a ||| b) = true := by rw [sub_iff]; intro i hi; simp [hi]
theorem or_sub {a b c : Nat} (h : sub a c = true) (k : sub b c = true) : sub (a ||| b) c = true := by
  rw [sub_iff] at *; intro i hi; simp at hi; rcases hi with hi | hi
  · exact h i hi
  · exact k i hi
theorem or_eq_of_sub {a b : Nat} (h : sub b a = true) : a ||| b = a := by
  rw [sub_iff] at h
  apply Nat.eq_of_testBit_eq
  intro i
  rw [Nat.testBit_or]
  cases hb : b.testBit i
  · simp
  · rw [h i hb]; rfl
theorem or_gt {a b : Nat} (h : sub b a = false) : a < a ||| b := by
  have h1 : a ≤ a ||| b := Nat.left_le_or
  rcases Nat.lt_or_eq_of_le h1 with h2 | h2
  · exact h2
  · exfalso
    have : sub b a = true := by rw [h2]; exact sub_or_right a b
    rw [h] at this; cases this
theorem sub_antisymm {a b : Nat} (h : sub a b = true) (k : sub b a = true) : a = b := by
  unfold sub at h k
  rw [beq_iff_eq] at h k
  rw [← h, Nat.and_comm, k]

/-! ### A pass over the dependencies; the closure -/
def Dep.f (d : Dep) : Nat := d.fr.toNat
def Dep.t (d : Dep) : Nat := d.to.toNat
def Dep.ok (d : Dep) : Prop := 0 ≤ d.fr ∧ d.fr < 64 ∧ 0 ≤ d.to ∧ d.to < 64
theorem Dep.ok_f {d : Dep} (h : d.ok) : d.f < 64 ∧ d.t < 64 ∧ d.fr = (d.f : Int) ∧ d.to = (d.t : Int) := by
  unfold Dep.ok Dep.f Dep.t at *; omega
theorem vset_lt {s wd : Int} (h : vset s wd = true) (h1 : 1 ≤ wd) (h2 : wd ≤ 6) : 0 ≤ s ∧ s < 64 := by
  have := pow_bd h1 h2
  simp [vset] at h
  omega
theorem vdeps_ok {xs : List Dep} {wd : Int} (h : vdeps xs wd = true) : ∀ d ∈ xs, d.ok := by
  intro d hd
  simp only [vdeps, vwd, Bool.and_eq_true, decide_eq_true_eq, List.all_eq_true] at h
  obtain ⟨⟨⟨h1, h2⟩, _⟩, h3⟩ := h
  have := h3 d hd
  simp only [Dep.valid, Bool.and_eq_true] at this
  have a := vset_lt this.1 h1 h2
  have b := vset_lt this.2 h1 h2
  exact ⟨a.1, a.2, b.1, b.2⟩

def app (d : Dep) (s : Nat) : Bool := sub d.f s && !sub d.t s
def passL : List Dep → Nat → Nat → List Nat × Nat
  | [], _, s => ([], s)
  | d :: ds, i, s => if app d s then let r := passL ds (i + 1) (s ||| d.t); (i :: r.1, r.2) else passL ds (i + 1) s
def run : Nat → List Dep → Nat → List Nat × Nat
  | 0, _, s => ([], s)
  | n + 1, ds, s => let r := passL ds 0 s; if r.1 = [] then ([], s) else let q := run n ds r.2; (r.1 ++ q.1, q.2)
/-- The steps that extend a set, and the extended set. -/
def drv (ds : List Dep) (s : Nat) : List Nat × Nat := run 64 ds s

theorem passL_lt {ds : List Dep} (hd : ∀ d ∈ ds, d.ok) : ∀ {i s : Nat}, s < 64 → (passL ds i s).2 < 64 := by
  induction ds with
  | nil => intro i s h; exact h
  | cons d ds ih =>
    intro i s h
    have hr := fun e he => hd e (List.mem_cons_of_mem _ he)
    have := Dep.ok_f (hd d List.mem_cons_self)
    unfold passL
    split
    · exact ih hr (or_lt h this.2.1)
    · exact ih hr h
theorem passL_sub (ds : List Dep) : ∀ (i s : Nat), sub s (passL ds i s).2 = true := by
  induction ds with
  | nil => intro i s; exact sub_refl s
  | cons d ds ih =>
    intro i s
    unfold passL
    split
    · exact sub_trans (sub_or_left s d.t) (ih _ _)
    · exact ih _ _
theorem passL_nil {ds : List Dep} : ∀ {i s : Nat}, (passL ds i s).1 = [] → (passL ds i s).2 = s := by
  induction ds with
  | nil => intro i s _; rfl
  | cons d ds ih =>
    intro i s
    unfold passL
    split
    · intro h; cases h
    · exact ih
theorem passL_gt {ds : List Dep} : ∀ {i s : Nat}, (passL ds i s).1 ≠ [] → s < (passL ds i s).2 := by
  induction ds with
  | nil => intro i s h; exact absurd rfl h
  | cons d ds ih =>
    intro i s
    unfold passL
    split
    · rename_i h
      intro _
      simp only [app, Bool.and_eq_true, Bool.not_eq_true'] at h
      have h1 := or_gt h.2
      have h2 : s ||| d.t ≤ (passL ds (i + 1) (s ||| d.t)).2 := by
        have := passL_sub ds (i + 1) (s ||| d.t)
        unfold sub at this
        rw [beq_iff_eq] at this
        calc s ||| d.t = (s ||| d.t) &&& (passL ds (i + 1) (s ||| d.t)).2 := this.symm
          _ ≤ _ := Nat.and_le_right
      exact Nat.lt_of_lt_of_le h1 h2
    · exact ih
theorem run_more {ds : List Dep} (hd : ∀ d ∈ ds, d.ok) : ∀ (n m s : Nat), s < 64 → 64 - s ≤ n → n ≤ m → run m ds s = run n ds s := by
  intro n
  induction n with
  | zero => intro m s h1 h2 _; omega
  | succ n ih =>
    intro m s h1 h2 h3
    obtain ⟨m, rfl⟩ : ∃ m', m = m' + 1 := ⟨m - 1, by omega⟩
    unfold run
    simp only
    split
    · rfl
    · rename_i h
      have := passL_gt h
      rw [ih m _ (passL_lt hd h1) (by omega) (by omega)]
theorem drv_eq {ds : List Dep} (hd : ∀ d ∈ ds, d.ok) {s : Nat} (hs : s < 64) :
    drv ds s = if (passL ds 0 s).1 = [] then ([], s) else ((passL ds 0 s).1 ++ (drv ds (passL ds 0 s).2).1, (drv ds (passL ds 0 s).2).2) := by
  unfold drv
  conv => lhs; unfold run
  simp only
  split
  · rfl
  · rename_i h
    have h1 := passL_gt h
    have h2 := passL_lt hd (i := 0) hs
    rw [run_more hd 63 64 _ h2 (by omega) (by omega)]
/-- To reason on the closure: by the passes. -/
theorem drv_induct {ds : List Dep} (hd : ∀ d ∈ ds, d.ok) {M : Nat → List Nat × Nat → Prop} (h0 : ∀ s, s < 64 → (passL ds 0 s).1 = [] → M s ([], s))
    (h1 : ∀ s, s < 64 → (passL ds 0 s).1 ≠ [] → M (passL ds 0 s).2 (drv ds (passL ds 0 s).2) → M s ((passL ds 0 s).1 ++ (drv ds (passL ds 0 s).2).1, (drv ds (passL ds 0 s).2).2)) :
    ∀ s, s < 64 → M s (drv ds s) := by
  have key : ∀ n s, s < 64 → 64 - s ≤ n → M s (drv ds s) := by
    intro n
    induction n with
    | zero => intro s h1 h2; omega
    | succ n ih =>
      intro s hs hn
      rw [drv_eq hd hs]
      split
      · rename_i h; exact h0 s hs h
      · rename_i h
        have := passL_gt h
        exact h1 s hs h (ih _ (passL_lt hd hs) (by omega))
  exact fun s hs => key 64 s hs (by omega)

/-! ### A pass, element by element -/
/-- At index k of a pass that began at S0: p: the steps so far; S: the set so far. -/
def Mid (xs : List Dep) (S0 k : Nat) (p : List Nat) (S : Nat) : Prop :=
  passL xs 0 S0 = (p ++ (passL (xs.drop k) k S).1, (passL (xs.drop k) k S).2) ∧ S0 ≤ S ∧ (p = [] → S = S0) ∧ (p ≠ [] → S0 < S) ∧ S < 64 ∧ p.length + S0 ≤ S
theorem Mid.start (xs : List Dep) {S0 : Nat} (h : S0 < 64) : Mid xs S0 0 [] S0 := ⟨by simp, Nat.le_refl _, fun _ => rfl, fun h => absurd rfl h, h, by simp⟩
theorem Mid.yes {xs : List Dep} {S0 k S : Nat} {p : List Nat} (h : Mid xs S0 k p S) (hk : k < xs.length) (hok : xs[k].ok) (ha : app xs[k] S = true) : Mid xs S0 (k + 1) (p ++ [k]) (S ||| xs[k].t) := by
  obtain ⟨h1, h2, h3, h4, h5, h6⟩ := h
  have hgt : S < S ||| xs[k].t := by
    simp only [app, Bool.and_eq_true, Bool.not_eq_true'] at ha
    exact or_gt ha.2
  refine ⟨?_, by omega, fun h => by simp at h, fun _ => by omega, or_lt h5 (Dep.ok_f hok).2.1, by simp; omega⟩
  rw [h1, List.drop_eq_getElem_cons hk]
  simp [passL, ha]
theorem Mid.no {xs : List Dep} {S0 k S : Nat} {p : List Nat} (h : Mid xs S0 k p S) (hk : k < xs.length) (ha : app xs[k] S = false) : Mid xs S0 (k + 1) p S := by
  obtain ⟨h1, h2⟩ := h
  refine ⟨?_, h2⟩
  rw [h1, List.drop_eq_getElem_cons hk]
  simp [passL, ha]
theorem Mid.end_ {xs : List Dep} {S0 S : Nat} {p : List Nat} (h : Mid xs S0 xs.length p S) : passL xs 0 S0 = (p, S) := by
  rw [h.1]; simp [passL]

/-- The rounds: st: the steps so far; S: the set so far; ch: whether another pass is to come. -/
def Rounds (xs : List Dep) (s0 : Nat) (st : List Nat) (S : Nat) (ch : Bool) : Prop :=
  S < 64 ∧ st.length ≤ S ∧ (ch = true → (st ++ (drv xs S).1, (drv xs S).2) = drv xs s0) ∧ (ch = false → (st, S) = drv xs s0)
theorem Rounds.start (xs : List Dep) {s0 : Nat} (h : s0 < 64) : Rounds xs s0 [] s0 true := ⟨h, by simp, fun _ => by simp, fun h => by cases h⟩
theorem Rounds.next {xs : List Dep} (hd : ∀ d ∈ xs, d.ok) {s0 S0 S : Nat} {st p : List Nat} (h : Rounds xs s0 st S0 true) (hp : Mid xs S0 xs.length p S) : Rounds xs s0 (st ++ p) S (!p.isEmpty) := by
  have he := hp.end_
  obtain ⟨h1, h8, h2, _⟩ := h
  have h3 := h2 rfl
  rw [drv_eq hd h1, he] at h3
  obtain ⟨_, _, h5, h6, h7, h9⟩ := hp
  refine ⟨h7, by simp; omega, ?_, ?_⟩
  · intro hc
    have : p ≠ [] := by intro e; subst e; simp at hc
    rw [if_neg this] at h3
    rw [← h3]; try simp
  · intro hc
    have : p = [] := by cases p; · rfl
                        · simp at hc
    subst this
    rw [if_pos rfl] at h3
    rw [← h3, h5 rfl]; try simp
theorem Rounds.done {xs : List Dep} {s0 S : Nat} {st : List Nat} (h : Rounds xs s0 st S false) : (st, S) = drv xs s0 := h.2.2.2 rfl
theorem drv_lt {ds : List Dep} (hd : ∀ d ∈ ds, d.ok) {s : Nat} (hs : s < 64) : (drv ds s).2 < 64 :=
  drv_induct hd (M := fun _ r => r.2 < 64) (fun s h _ => h) (fun _ _ _ h => h) s hs

/-! ### Checking a derivation -/
def chk (xs : List Dep) : List Int → Nat → Option Nat
  | [], s => some s
  | i :: is, s => if h : 0 ≤ i ∧ i < xs.length then (if sub (xs[i.toNat]'(by omega)).f s then chk xs is (s ||| (xs[i.toNat]'(by omega)).t) else none) else none
def chkD (xs : List Dep) (wd : Int) (f : Dep) (steps : List Int) : Bool :=
  vdeps xs wd && (f.valid wd && (decide (steps.length ≤ 40) && (match chk xs steps f.f with | some s => sub f.t s | none => false)))
theorem chk_lt {xs : List Dep} (hd : ∀ d ∈ xs, d.ok) : ∀ {steps : List Int} {s r : Nat}, s < 64 → chk xs steps s = some r → r < 64
  | [], s, r, hs, h => by simp [chk] at h; omega
  | i :: is, s, r, hs, h => by
    unfold chk at h
    split at h
    · split at h
      · exact chk_lt hd (or_lt hs (Dep.ok_f (hd _ (List.getElem_mem _))).2.1) h
      · cases h
    · cases h
theorem chk_bad {xs : List Dep} {i : Int} {is : List Int} {s : Nat} (h : ¬ (0 ≤ i ∧ i < xs.length)) : chk xs (i :: is) s = none := by
  unfold chk; rw [dif_neg h]
theorem chk_no {xs : List Dep} {j : Nat} {is : List Int} {s : Nat} (h : j < xs.length) (hs : sub xs[j].f s = false) : chk xs ((j : Int) :: is) s = none := by
  unfold chk; rw [dif_pos (by omega)]; simp [hs]
theorem chk_yes {xs : List Dep} {j : Nat} {is : List Int} {s : Nat} (h : j < xs.length) (hs : sub xs[j].f s = true) : chk xs ((j : Int) :: is) s = chk xs is (s ||| xs[j].t) := by
  conv => lhs; unfold chk
  rw [dif_pos (by omega)]; simp [hs]
theorem chkD_eq (xs : List Dep) (wd x y : Int) (steps : List Int) : chkD xs wd ⟨x, y⟩ steps = (vdeps xs wd && ((Dep.mk x y).valid wd && (decide (steps.length ≤ 40) && (match chk xs steps x.toNat with | some s => sub y.toNat s | none => false)))) := rfl
theorem passL_len {ds : List Dep} : ∀ {i s : Nat}, (passL ds i s).1.length + s ≤ (passL ds i s).2 := by
  induction ds with
  | nil => intro i s; simp [passL]
  | cons d ds ih =>
    intro i s
    unfold passL
    split
    · rename_i h
      simp only [app, Bool.and_eq_true, Bool.not_eq_true'] at h
      have h1 := or_gt h.2
      have h2 := @ih (i + 1) (s ||| d.t)
      simp only [List.length_cons]
      omega
    · exact ih
theorem drv_len {ds : List Dep} (hd : ∀ d ∈ ds, d.ok) {s : Nat} (hs : s < 64) : (drv ds s).1.length ≤ 64 := by
  have h := drv_induct hd (M := fun s r => r.1.length + s ≤ r.2) (fun s _ _ => by simp) (fun s _ _ h => by
    have := @passL_len ds 0 s
    simp only [List.length_append] at h ⊢
    omega) s hs
  have := drv_lt hd hs
  omega
end Go.Proofs.Ytabbcepdinplfaa
