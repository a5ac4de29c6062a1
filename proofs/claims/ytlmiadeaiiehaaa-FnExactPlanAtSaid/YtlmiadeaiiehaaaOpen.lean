/- Arguments opened: what reads as data, as lists and structures of my own. -/
import Derived.Test.YtlmiadeaiiehaaaMem
import Derived.ProofKit
import Derived.ChangeArms
import Derived.DataReads

namespace Go.Proofs.Ytlmiadeaiiehaaa
open Go Go.RowKit Go.ChangeShapes Go.WideShapes

def I64 (n : Int) : Prop := -9223372036854775808 ≤ n ∧ n ≤ 9223372036854775807
theorem i64_of_wf {n : Int} (h : (Lit.int .i64 n).wf = true) : I64 n := by
  simp [Lit.wf, IntKind.min, IntKind.max, IntKind.signed, IntKind.bits] at h
  exact ⟨by omega, by omega⟩

section
variable {H : Type} (enc : TypeId × Value → H) (P : Program) (W : World)
/-- Whatever reads at type t (with n rounds of the reader) is sz cells that rd reads. -/
def Op {X : Type} (n : Nat) (t : TypeId) (sz : Nat) (rd : Rd X) : Prop :=
  ∀ cs x, DataW.trod enc P W 0 (fun _ => true) true n t cs = some x → cs.length = sz ∧ ∃ a, rd W.cell? (fun j => cs[j]?) a
end
def rdIntB : Rd Int := fun _ c x => c 0 = some (.int .i64 x) ∧ I64 x
def rdBool : Rd Bool := fun _ c x => c 0 = some (.bool x)
def rdByte : Rd Nat := fun _ c x => c 0 = some (.int .u8 (x : Int)) ∧ x < 256
theorem rdIntB_mono : RdMono rdIntB := fun _ _ _ _ _ _ hc h => ⟨hc _ _ h.1, h.2⟩
theorem rdBool_mono : RdMono rdBool := fun _ _ _ _ _ _ hc h => hc _ _ h
theorem rdByte_mono : RdMono rdByte := fun _ _ _ _ _ _ hc h => ⟨hc _ _ h.1, h.2⟩
def rdSlice {X : Type} (rd : Rd X) (sz : Nat) : Rd (List X) := fun m c xs => ∃ A cap, c 0 = some (.slice A xs.length cap) ∧ RdSl rd m sz A xs ∧ xs.length ≤ maxLen ∧ xs.length ≤ cap
theorem rdSlice_mono {X : Type} {rd : Rd X} {sz : Nat} (hk : RdMono rd) : RdMono (rdSlice rd sz) := fun _ _ _ _ _ hm hc ⟨A, cap, h0, h1, h2⟩ => ⟨A, cap, hc _ _ h0, h1.mono hk hm, h2⟩
theorem rdInt_of_B {m : Mv} {sz : Nat} {A : Option Addr} {xs : List Int} (h : RdSl rdIntB m sz A xs) : RdSl rdInt m sz A xs ∧ ∀ x ∈ xs, I64 x := by
  constructor
  · intro hne
    obtain ⟨b, o, hA, hc⟩ := h hne
    exact ⟨b, o, hA, fun i hi => (hc i hi).1⟩
  · intro x hx
    obtain ⟨b, o, hA, hc⟩ := h (List.ne_nil_of_mem hx)
    obtain ⟨i, hi, rfl⟩ := List.getElem_of_mem hx
    exact (hc i hi).2

section
variable {H : Type} {enc : TypeId × Value → H} {P : Program} {W : World} {X : Type} {rd : Rd X} {n : Nat} {t e : TypeId} {sz : Nat}
theorem op_int (ht : P.underlying t = some (.int .i64)) : Op enc P W n t 1 rdIntB := fun cs x h => by
  obtain ⟨k, rfl, _, hw⟩ := DataW.trod_int ht h
  exact ⟨rfl, k, rfl, i64_of_wf hw⟩
theorem op_bool (ht : P.underlying t = some .bool) : Op enc P W n t 1 rdBool := fun cs x h => by
  obtain ⟨b, rfl, _⟩ := DataW.trod_bool ht h
  exact ⟨rfl, b, rfl⟩
theorem op_byte (ht : P.underlying t = some (.int .u8)) : Op enc P W n t 1 rdByte := fun cs x h => by
  obtain ⟨k, rfl, _, hw⟩ := DataW.trod_int ht h
  simp [Lit.wf, IntKind.min, IntKind.max, IntKind.signed, IntKind.bits] at hw
  refine ⟨rfl, k.toNat, ?_, by omega⟩
  show some (Value.int .u8 k) = some (Value.int .u8 (k.toNat : Int))
  rw [Int.toNat_of_nonneg hw.1]
theorem list_of {X : Type} {Pr : Nat → X → Prop} : ∀ (n : Nat), (∀ i, i < n → ∃ x, Pr i x) → ∃ xs : List X, xs.length = n ∧ ∀ i (h : i < xs.length), Pr i xs[i]
  | 0, _ => ⟨[], rfl, fun i h => by simp at h⟩
  | n + 1, h => by
    obtain ⟨xs, hl, hx⟩ := list_of n fun i hi => h i (by omega)
    obtain ⟨x, hp⟩ := h n (by omega)
    refine ⟨xs ++ [x], by simp [hl], fun i hi => ?_⟩
    rw [List.getElem_append]
    split
    · exact hx i _
    · rename_i hge
      have : i = n := by simp at hi; omega
      subst this
      simpa using hp
theorem op_slice (hk : RdMono rd) (ht : P.underlying t = some (.slice e)) (hC : P.cellsOf e = sz) (hsz : 0 < sz) (hop : ∀ k, k < n → Op enc P W k e sz rd) : Op enc P W n t 1 (rdSlice rd sz) := fun cs x h => by
  rcases DataW.trod_slice ht h with ⟨rfl, _⟩ | ⟨a, len, cap, elems, rest, k, rfl, rfl, _, _, hle, hcap, hlen, hel, _, _⟩
  · exact ⟨rfl, [], none, 0, rfl, RdSl.nil, by unfold maxLen; simp, Nat.le_refl _⟩
  · refine ⟨rfl, ?_⟩
    have hex : ∀ i, i < len → ∃ y : X, a.spot = none ∧ rd W.cell? (fun j => W.cell? ⟨a.block, a.off + i * sz + j, none⟩) y := by
      intro i hi
      have h1 := hel i hi
      rw [hC] at h1
      have hei : elems[i]? = some (elems[i]'(by omega)) := List.getElem?_eq_getElem (by omega)
      rw [hei] at h1
      obtain ⟨cs', hc, ht'⟩ := Option.bind_eq_some_iff.1 h1
      obtain ⟨_, hcl, hat⟩ := World.cells?_some hc
      obtain ⟨_, y, hy⟩ := hop k (by omega) cs' _ ht'
      have hadd : ∀ j, j < sz → a.spot = none ∧ W.cell? ⟨a.block, a.off + i * sz + j, none⟩ = cs'[j]? := by
        intro j hj
        have h2 := hat j (by omega)
        have h3 : cs'[j]? = some (cs'[j]'(by omega)) := List.getElem?_eq_getElem (by omega)
        have hs : ((a.add (i * sz)).add j).spot = none := by
          rw [h3] at h2
          unfold World.cell? at h2
          split at h2
          · split at h2
            · cases h2
            · rename_i hn; simpa using hn
          · cases h2
        have hs0 : a.spot = none ∨ (i * sz ≠ 0 ∨ j ≠ 0) := by
          by_cases h4 : i * sz = 0
          · by_cases h5 : j = 0
            · left; simpa [Addr.add, h4, h5] using hs
            · exact .inr (.inr h5)
          · exact .inr (.inl h4)
        have e1 : (a.add (i * sz)).add j = ⟨a.block, a.off + i * sz + j, ((a.add (i * sz)).add j).spot⟩ := by
          unfold Addr.add
          by_cases h4 : i * sz = 0 <;> by_cases h5 : j = 0 <;> simp [h4, h5]
        rw [hs] at e1
        rw [e1] at h2
        refine ⟨?_, h2⟩
        -- the first element's first cell shows that the slice's own address bears no spot
        have h6 := hel 0 (by omega)
        have hei0 : elems[0]? = some (elems[0]'(by omega)) := List.getElem?_eq_getElem (by omega)
        rw [hC, hei0] at h6
        obtain ⟨cs0, hc0, _⟩ := Option.bind_eq_some_iff.1 h6
        obtain ⟨_, hcl0, hat0⟩ := World.cells?_some hc0
        have h7 := hat0 0 (by omega)
        have h8 : cs0[0]? = some (cs0[0]'(by omega)) := List.getElem?_eq_getElem (by omega)
        rw [h8] at h7
        have e2 : (a.add (0 * sz)).add 0 = a := by simp [Addr.add]
        rw [e2] at h7
        unfold World.cell? at h7
        split at h7
        · split at h7
          · cases h7
          · rename_i hn; simpa using hn
        · cases h7
      refine ⟨y, (hadd 0 hsz).1, hk _ _ _ _ y (Mle.refl _) (fun j v hv => ?_) hy⟩
      have hj : j < sz := by
        rcases Nat.lt_or_ge j sz with h9 | h9
        · exact h9
        · rw [List.getElem?_eq_none (by omega)] at hv; cases hv
      rw [(hadd j hj).2]; exact hv
    obtain ⟨ys, hyl, hy⟩ := list_of len hex
    refine ⟨ys, some a, cap, by rw [hyl]; rfl, fun hne => ?_, by omega, by omega⟩
    have h0 : 0 < ys.length := List.length_pos_iff.2 hne
    refine ⟨a.block, a.off, ?_, fun i hi => (hy i hi).2⟩
    have := (hy 0 h0).1
    cases a
    simp_all
/-- A field of a struct. -/
theorem op_field (hk : RdMono rd) {fs : Array Field} {f : Field} {i off : Nat} (ht : P.underlying t = some (.struct fs)) (hi : fs[i]? = some f) (ho : f.offset = off) (hz : P.cellsOf f.type = sz) (hop : ∀ k, k < n → Op enc P W k f.type sz rd)
    {cs : List Value} {x : DataW H × List MemPlace} (h : DataW.trod enc P W 0 (fun _ => true) true n t cs = some x) : ∃ a, rd W.cell? (fun j => cs[off + j]?) a := by
  obtain ⟨xs, k, rfl, _, _, hxl, hf⟩ := DataW.trod_struct ht h
  have h1 := hf i f hi
  have hlt : i < fs.size := (Array.getElem?_eq_some_iff.1 hi).1
  rw [List.getElem?_eq_getElem (by omega), ho, hz] at h1
  obtain ⟨_, a, ha⟩ := hop k (by omega) _ _ h1
  refine ⟨a, hk _ _ _ _ a (Mle.refl _) (fun j v hv => ?_) ha⟩
  rw [List.getElem?_take] at hv
  split at hv
  · rw [List.getElem?_drop] at hv; exact hv
  · cases hv
theorem op_len {fs : Array Field} (ht : P.underlying t = some (.struct fs)) (hC : P.cellsOf t = sz) {cs : List Value} {x : DataW H × List MemPlace} (h : DataW.trod enc P W 0 (fun _ => true) true n t cs = some x) : cs.length = sz := by
  obtain ⟨xs, k, rfl, _, hl, _⟩ := DataW.trod_struct ht h
  omega
/-- From an argument: a value that is no struct. -/
theorem arg_one {v : Value} {d : DataW H} {p : List MemPlace} (h : DataW.Trod enc P W 0 (fun _ => true) true t v d p) (hv : ∀ cs, v ≠ .agg cs) (hop : ∀ n, Op enc P W n t 1 rd) : ∃ a, rd W.cell? (fun j => [v][j]?) a := by
  obtain ⟨fuel, hf⟩ := h
  have e : v.cells.toList = [v] := by cases v <;> first | rfl | exact absurd rfl (hv _)
  rw [e] at hf
  exact (hop fuel _ _ hf).2
theorem arg_agg {cs : Array Value} {d : DataW H} {p : List MemPlace} (h : DataW.Trod enc P W 0 (fun _ => true) true t (.agg cs) d p) (hop : ∀ n, Op enc P W n t sz rd) : cs.size = sz ∧ ∃ a, rd W.cell? (fun j => cs[j]?) a := by
  obtain ⟨fuel, hf⟩ := h
  obtain ⟨h1, a, ha⟩ := hop fuel cs.toList _ hf
  refine ⟨by simpa using h1, a, ?_⟩
  have e : (fun j => cs.toList[j]?) = fun j => cs[j]? := funext fun j => Array.getElem?_toList ..
  rw [← e]; exact ha
end
theorem arr2 {cs : Array Value} {a b : Value} (hs : cs.size = 2) (h0 : cs[0]? = some a) (h1 : cs[1]? = some b) : cs = #[a, b] := by
  obtain ⟨l⟩ := cs
  match l, hs with
  | [x, y], _ => simp at h0 h1; subst h0 h1; rfl
theorem arr3 {cs : Array Value} {a b c : Value} (hs : cs.size = 3) (h0 : cs[0]? = some a) (h1 : cs[1]? = some b) (h2 : cs[2]? = some c) : cs = #[a, b, c] := by
  obtain ⟨l⟩ := cs
  match l, hs with
  | [x, y, z], _ => simp at h0 h1 h2; subst h0 h1 h2; rfl

/-! A slice argument; a slice of bytes. -/
theorem open_sl {H : Type} {enc : TypeId × Value → H} {P : Program} {W : World} {X : Type} {rd : Rd X} {t e : TypeId} {sz base : Nat} {v : Value} {d : DataW H} {p : List MemPlace} (hk : RdMono rd) (ht : P.underlying t = some (.slice e)) (hC : P.cellsOf e = sz) (hsz : 0 < sz)
    (hop : ∀ k, Op enc P W k e sz rd) (hv : Value.okWide P W .any base t v) (h : DataW.Trod enc P W 0 (fun _ => true) true t v d p) : ∃ A cap xs, v = .slice A xs.length cap ∧ RdSl rd W.cell? sz A xs ∧ xs.length ≤ maxLen ∧ xs.length ≤ cap := by
  obtain ⟨a0, len, cap, rfl⟩ := okWide_slice ht hv
  obtain ⟨xs, A, c, h0, h1, h2⟩ := arg_one h (fun cs e => by cases e) (fun n => op_slice (n := n) hk ht hC hsz fun k _ => hop k)
  simp only [List.getElem?_cons_zero, Option.some.injEq] at h0
  exact ⟨A, c, xs, h0, h1, h2⟩
theorem open_i {H : Type} {enc : TypeId × Value → H} {P : Program} {W : World} {t : TypeId} {base : Nat} {v : Value} {d : DataW H} {p : List MemPlace} (ht : P.underlying t = some (.int .i64)) (hv : Value.okWide P W .any base t v) (h : DataW.Trod enc P W 0 (fun _ => true) true t v d p) : ∃ n, v = .int .i64 n ∧ I64 n := by
  obtain ⟨n, rfl, _, _, w⟩ := open_int ht hv h
  exact ⟨n, rfl, i64_of_wf w⟩
theorem open_bs {H : Type} {enc : TypeId × Value → H} {P : Program} {W : World} {t e : TypeId} {base : Nat} {v : Value} {d : DataW H} {p : List MemPlace} (ht : P.underlying t = some (.slice e)) (he : P.underlying e = some (.int .u8)) (hC : P.cellsOf e = 1)
    (hv : Value.okWide P W .any base t v) (h : DataW.Trod enc P W 0 (fun _ => true) true t v d p) : ∃ A cap xs, v = .slice A xs.length cap ∧ RdSl rdByte W.cell? 1 A xs ∧ xs.length ≤ maxLen ∧ xs.length ≤ cap :=
  open_sl rdByte_mono ht hC (by decide) (fun _ => op_byte he) hv h
end Go.Proofs.Ytlmiadeaiiehaaa
