/- A region that draws its order, its loads taken first; the condition on the world is asked behind every operation but the last one, for which all others wait. -/
import Derived.Test.YtlmiadeaiiehaaaMemQ
import Derived.OrdersHeld
import Derived.Deep.RegionHeld3
namespace Go.Proofs.Ytlmiadeaiiehaaa
open Go Go.RowKit
section
variable {P : Program} {ops : Array Oper} {Q : Exit → Act → World → Prop} {md : Region.Mode} {S : World → Prop} {n : Nat}
/-- Whatever order is picked from here on, and S holds behind every operation that is carried out before number n. -/
def wpAnyT (P : Program) (md : Region.Mode) (ops : Array Oper) (Q : Exit → Act → World → Prop) (S : World → Prop) (n : Nat) : Nat → Array Bool → Act → World → Prop
  | 0, b, a, w => Region.ready md ops b = [] ∧ Q .normal a w
  | f + 1, b, a, w => (Region.ready md ops b = [] → Q .normal a w) ∧
    ∀ i ∈ Region.ready md ops b, wpOp P ops Q i (fun a' w' => (i ≠ n → S w') ∧ wpAnyT P md ops Q S n f (b.setIfInBounds i true) a' w') a w
theorem wpAny_of_T : ∀ (f : Nat) (b : Array Bool) (a : Act) (w : World), wpAnyT P md ops Q S n f b a w → wpAny P md ops Q f b a w
  | 0, _, _, _, h => h
  | f + 1, _, _, _, h => ⟨h.1, fun i hi => wpOp_mono (fun a' w' h' => wpAny_of_T f _ a' w' h'.2) (h.2 i hi)⟩
/-- All the others have come up before number n, and it has not. -/
def HeadB (md : Region.Mode) (ops : Array Oper) (n : Nat) (b : Array Bool) : Bool :=
  decide (b.size = ops.size) && !b.getD n true && (List.range ops.size).all fun j => !b.getD j false || ((ops[j]?).map (·.after.all fun e => !Region.binds md e || b.getD e.on false)).getD true
theorem headB_inv {b : Array Bool} (hn : n + 1 = ops.size) (h : HeadB md ops n b = true) : HeadInv md ops n b := by
  simp only [HeadB, Bool.and_eq_true, decide_eq_true_eq, Bool.not_eq_true'] at h
  obtain ⟨⟨h1, h2⟩, h3⟩ := h
  refine ⟨h1, fun j oj hj hl e he hb => ?_, fun t ht ht' => ?_⟩
  · have hlt : j < ops.size := (Array.getElem?_eq_some_iff.1 hj).1
    have h4 := List.all_eq_true.1 h3 j (List.mem_range.2 hlt)
    rw [hl, hj] at h4
    simp only [Bool.not_true, Bool.false_or, Option.map_some, Option.getD_some, Array.all_eq_true_iff_forall_mem, Bool.or_eq_true, Bool.not_eq_true'] at h4
    rcases h4 e he with h5 | h5
    · rw [hb] at h5; cases h5
    · exact h5
  · obtain rfl : t = n := by omega
    exact h2
theorem wpAnyT_first {i : Nat} {oi : Oper} {v : Value} (hi : ops[i]? = some oi) (hsel : ∀ (j : Nat) (o : Oper) cs b, ops[j]? = some o → o.op ≠ .select cs b)
    (hQ : ∀ c a w, Q (.panic c) (a.put oi.dst v) w → Q (.panic c) a w) (hs : Region.sinkB md ops n = true) (hc : Region.chainB md ops n = true) (hn : n < ops.size) (hin : i < n) :
    ∀ (f : Nat) (b : Array Bool) (a : Act) (w : World), HeadInv md ops n b →
      (∀ j oj, ops[j]? = some oj → j ≠ i → b.getD j true = false → (∀ e ∈ oj.after, Region.binds md e = true → e.on ≠ i) → oi.apart ops oj = true) →
      i ∈ Region.ready md ops b → YieldsIf P ops S oi v a → S w →
      wpAnyT P md ops Q S n f (b.setIfInBounds i true) (a.put oi.dst v) w → wpAnyT P md ops Q S n (f + 1) b a w := by
  intro f
  induction f with
  | zero =>
    intro b a w inv _ hr hy hS H
    refine ⟨fun h => absurd h (List.ne_nil_of_mem hr), fun j hj => ?_⟩
    by_cases e : j = i
    · subst e; exact hy.wpOp hi hS ⟨fun _ => hS, H⟩
    · have := ready_mono hj e
      rw [H.1] at this
      cases this
  | succ f ih =>
    intro b a w inv hfree hr hy hS H
    refine ⟨fun h => absurd h (List.ne_nil_of_mem hr), fun j hj => ?_⟩
    by_cases e : j = i
    · subst e; exact hy.wpOp hi hS ⟨fun _ => hS, H⟩
    · have hun := (mem_ready.1 hr).1
      have hlt : j < n := Nat.lt_of_not_le fun hge => tail_waits hs hc hn inv _ i rfl hin hun j hge hj
      obtain ⟨hjun, oj, hoj, hall⟩ := mem_ready.1 hj
      have hno : ∀ ed ∈ oj.after, Region.binds md ed = true → ed.on ≠ i := fun ed he hb hq => by
        have h1 := hall ed he hb
        rw [hq, getD_both hun] at h1
        cases h1
      have h2 := wpOp_putIf hoj (hfree j oj hoj e hjun hno) (fun cs b => hsel i oi cs b hi) (fun cs b => hsel j oj cs b hoj) hQ hy (H.2 j (ready_mono hj e))
      refine wpOp_mono (fun a' w' h3 => ⟨h3.2.1, ih (b.setIfInBounds j true) a' w' (inv.set hj hlt) (fun k ok hk hki hku hkn => hfree k ok hk hki ?_ hkn) (ready_mono hr (Ne.symm e)) h3.1 (h3.2.1 (by omega)) ?_⟩) h2
      · by_cases q : j = k
        · subst q; exact hjun
        · rwa [getD_set_ne true q] at hku
      · rw [Array.setIfInBounds_comm _ _ e]; exact h3.2.2
theorem drop_at {i : Nat} {o : Oper} {r : List Oper} (h : List.drop i ops.toList = o :: r) : ops[i]? = some o := by
  have h1 : (List.drop i ops.toList)[0]? = some o := by rw [h]; rfl
  rw [List.getElem?_drop] at h1
  simpa using h1
theorem wpAnyT_take (i : Nat) {oi : Oper} {r : List Oper} {v : Value} {f : Nat} {b : Array Bool} {a : Act} {w : World} (hi : List.drop i ops.toList = oi :: r)
    (hB : (Region.noSelect ops && Region.sinkB md ops n && Region.chainB md ops n && decide (n + 1 = ops.size) && decide (i < n) && HeadB md ops n b && Region.free md ops b i && (Region.ready md ops b).contains i) = true)
    (hQ : ∀ c a w, Q (.panic c) (a.put oi.dst v) w → Q (.panic c) a w) (hy : YieldsIf P ops S oi v a) (hS : S w)
    (h : wpAnyT P md ops Q S n f (b.setIfInBounds i true) (a.put oi.dst v) w) : wpAnyT P md ops Q S n (f + 1) b a w := by
  simp only [Bool.and_eq_true, decide_eq_true_eq] at hB
  obtain ⟨⟨⟨⟨⟨⟨⟨h1, h2⟩, h3⟩, h4⟩, h5⟩, h6⟩, h7⟩, h8⟩ := hB
  exact wpAnyT_first (drop_at hi) (Region.noSelect_spec h1) hQ h2 h3 (by omega) h5 f b a w (headB_inv h4 h6) (Region.free_spec (drop_at hi) h7) (by simpa using h8) hy hS h
/-- Number i alone may come up. -/
theorem wpAnyT_one (i : Nat) {o : Oper} {r : List Oper} {f : Nat} {b : Array Bool} {a : Act} {w : World} (ho : List.drop i ops.toList = o :: r) (hr : Region.ready md ops b = [i])
    (h : ∀ K' : Act → World → Prop, Shut (∀ a w, (i ≠ n → S w) → ((i ≠ n → S w) → wpAnyT P md ops Q S n f (b.setIfInBounds i true) a w) → K' a w) → if Region.wanted o (yielded ops a.tmps) = true then Oper.wp P o a w K' Q else K' (a.put o.dst undef) w) :
    wpAnyT P md ops Q S n (f + 1) b a w := by
  refine ⟨fun h0 => by (rw [hr] at h0; cases h0), fun j hj => ?_⟩
  rw [hr] at hj
  obtain rfl : j = i := by simpa using hj
  exact wpOp_step (drop_at ho) (fun K' hK => h K' (fun a w hS hW => hK a w ⟨hS, hW hS⟩))
/-- Number i and number j may come up. -/
theorem wpAnyT_two (i j : Nat) {o o' : Oper} {r r' : List Oper} {f : Nat} {b : Array Bool} {a : Act} {w : World} (ho : List.drop i ops.toList = o :: r) (ho' : List.drop j ops.toList = o' :: r') (hr : Region.ready md ops b = [i, j])
    (h : ∀ K' : Act → World → Prop, Shut (∀ a w, (i ≠ n → S w) → ((i ≠ n → S w) → wpAnyT P md ops Q S n f (b.setIfInBounds i true) a w) → K' a w) → if Region.wanted o (yielded ops a.tmps) = true then Oper.wp P o a w K' Q else K' (a.put o.dst undef) w)
    (h' : ∀ K' : Act → World → Prop, Shut (∀ a w, (j ≠ n → S w) → ((j ≠ n → S w) → wpAnyT P md ops Q S n f (b.setIfInBounds j true) a w) → K' a w) → if Region.wanted o' (yielded ops a.tmps) = true then Oper.wp P o' a w K' Q else K' (a.put o'.dst undef) w) :
    wpAnyT P md ops Q S n (f + 1) b a w := by
  refine ⟨fun h0 => by (rw [hr] at h0; cases h0), fun k hk => ?_⟩
  rw [hr] at hk
  rcases List.mem_cons.1 hk with rfl | hk
  · exact wpOp_step (drop_at ho) (fun K' hK => h K' (fun a w hS hW => hK a w ⟨hS, hW hS⟩))
  · obtain rfl : k = j := by simpa using hk
    exact wpOp_step (drop_at ho') (fun K' hK => h' K' (fun a w hS hW => hK a w ⟨hS, hW hS⟩))
theorem wpAnyT_done {b : Array Bool} {a : Act} {w : World} (hr : Region.ready md ops b = []) (h : Q .normal a w) : ∀ f, wpAnyT P md ops Q S n f b a w
  | 0 => ⟨hr, h⟩
  | _ + 1 => ⟨fun _ => h, by rw [hr]; simp⟩
theorem wp_region_T {id : Nat} {a : Act} {w : World} (S : World → Prop) (n : Nat) (hm : P.follows .mixedOrders = true)
    (h : wpAnyT P .any ops Q S n ops.size (Array.replicate ops.size false) a w.drew) : (Code.region id ops true).wp P Q a w :=
  wp_region_any hm (wpAny_of_T _ _ _ _ h)
end
end Go.Proofs.Ytlmiadeaiiehaaa
