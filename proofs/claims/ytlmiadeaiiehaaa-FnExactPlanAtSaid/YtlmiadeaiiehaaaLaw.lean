/- The last step of a law's row: from 'every call returns true and keeps what was there' to the row's statement. -/
import Derived.Test.YtlmiadeaiiehaaaRows
import Derived.Test.YtlmiadeaiiehaaaMem
import Derived.ProofKit
import Derived.OpenShut
import Derived.ChangeSame
import Derived.WideKeyArgs
import Derived.JoinedOf
import Derived.KernelRfl
namespace Go.Proofs.Ytlmiadeaiiehaaa
open Go Go.ChangeShapes Go.WideShapes Go.ChangeAt Go.RowKit

theorem lawOwn : ownKnob Try.prog.godebug = none := by kernel_rfl
theorem lawLaidOut : laidOutB Try.prog = true := by kernel_rfl

section
variable {H : Type} {enc : TypeId × Value → H} {P : Program}
theorem trodAll_fr (hl : laidOutB P = true) {W W' : World} (hb : Fr W W') : ∀ (ts : List TypeId) (vs : List Value) (ds : List (DataW H)) (ps : List MemPlace),
    (∀ t ∈ ts, P.readableRec t = true ∧ t < P.types.size) → DataW.TrodAll enc P W 0 (fun _ => true) true ts vs ds ps → (∀ x ∈ ps, x.block < W.heap.size) →
    ∀ sp : Nat → Bool, (∀ x ∈ ps, sp x.block = true) → DataW.TrodAll enc P W' 0 sp true ts vs ds ps
  | [], [], [], _, _, h, _, _, _ => h
  | [], _ :: _, _, _, _, h, _, _, _ => by cases h
  | [], [], _ :: _, _, _, h, _, _, _ => by cases h
  | _ :: _, [], _, _, _, h, _, _, _ => by cases h
  | _ :: _, _ :: _, [], _, _, h, _, _, _ => by cases h
  | t :: ts, v :: vs, d :: ds, ps, hr, h, hlt, sp, hs => by
    obtain ⟨p, q, h1, h2, rfl⟩ := h
    exact ⟨p, q, WideElems.Trod_stays hl (hr t List.mem_cons_self).1 (hr t List.mem_cons_self).2 h1 (fun x hx => Below.same hb (hlt x (List.mem_append_left _ hx))) (fun x hx => hs x (List.mem_append_left _ hx)),
      trodAll_fr hl hb ts vs ds q (fun t' ht' => hr t' (List.mem_cons_of_mem _ ht')) h2 (fun x hx => hlt x (List.mem_append_right _ hx)) sp (fun x hx => hs x (List.mem_append_right _ hx)), rfl⟩

theorem law_post {fn : Func} {s : ChangeSpec} {apart fresh handsOn again : Bool} {tb : TypeId} {W W' : World} {args : Array Value} {ds gs : List (DataW H)} {before : List MemPlace} (hl : laidOutB P = true)
    (hrt : fn.resultTypes = #[tb]) (htb : P.underlying tb = some .bool) (hvars : s.vars = []) (hr0 : (fn.params.toList.all fun t => P.readableRec t && decide (t < P.types.size)) = true)
    (hfn : s.fn H ds = { results := [.lit (.bool true)], args := ds })
    (hW : DataW.Whole enc P fn.params.toList s.vars apart W args.toList ds gs before) (hb : Fr W W') : s.post enc P fn apart fresh handsOn again W args (.bool true) W' := by
  have hr : ∀ t ∈ fn.params.toList, P.readableRec t = true ∧ t < P.types.size := fun t ht => by
    have := List.all_eq_true.1 hr0 t ht
    simpa using this
  have hW' := hW
  obtain ⟨p, q, hA, hV, rfl, hfz, hnd⟩ := hW
  rw [hvars] at hV
  obtain ⟨rfl, rfl⟩ := trodVars_none hV
  have hlt : ∀ x ∈ p, x.block < W.heap.size := fun x hx => by simpa using hW'.lt x (List.mem_append_left _ hx)
  have hargs : ∀ sp : Nat → Bool, (∀ x ∈ p, sp x.block = true) → DataW.TrodAll enc P W' 0 sp true fn.params.toList args.toList ds p := trodAll_fr hl hb _ _ _ _ hr hA hlt
  have hres : ∀ (b : Nat) (sp : Nat → Bool) (hd : Bool), DataW.TrodAll enc P W' b sp hd fn.resultTypes.toList ((Value.bool true).resultList fn.resultTypes.size) [.lit (.bool true)] [] := fun _ _ _ => by
    rw [hrt]; exact trodAll_mk1 (shut_bool htb _)
  have hok : ∀ (j : Nat) (t : TypeId) (r : Value), fn.resultTypes[j]? = some t → ((Value.bool true).resultList fn.resultTypes.size)[j]? = some r → Value.okWide P W' .any 0 t r := ok_one hrt rfl (okWide_bool_mk htb _)
  have e0 : s.fn H (ds ++ []) = { results := [.lit (.bool true)], args := ds } := by rw [List.append_nil]; exact hfn
  have hargs' : ∀ sp : Nat → Bool, (∀ x ∈ p, sp x.block = true) → DataW.TrodAll enc P W' 0 sp true fn.params.toList args.toList (s.fn H (ds ++ [])).args p := by rw [e0]; exact hargs
  have hres' : ∀ (b : Nat) (sp : Nat → Bool) (hd : Bool), DataW.TrodAll enc P W' b sp hd fn.resultTypes.toList ((Value.bool true).resultList fn.resultTypes.size) (s.fn H (ds ++ [])).results [] := by rw [e0]; exact hres
  have hvars' : ∀ sp : Nat → Bool, DataW.TrodVars enc P W' sp s.vars (s.fn H (ds ++ [])).vars [] := fun _ => by rw [e0, hvars]; rfl
  refine ⟨ds, [], p ++ [], [], p, [], hW', hres' _ _ _, hargs' _ (fun x hx => by simpa using hlt x hx), hvars' _, World.keptBut_mono (fun x hx => ⟨hx, ?_⟩) (Below.frame hb (· ∈ p ++ [])), fun _ => ?_⟩
  · exact Or.inr (by simpa using hx)
  · refine ⟨hok, _, _, ([] ++ p) ++ [], ⟨[] ++ p, [], trodAll_append (hargs' _ (fun _ _ => rfl)) (hres' _ _ _), hvars' _, rfl, ?_, ?_⟩, ?_⟩
    · intro b off hp
      have hin : MemPlace.cell b off ∈ p := by simpa using hp
      rw [Below.frozen hb (p := ⟨b, off, none⟩) (hlt _ hin)]
      exact hfz b off (List.mem_append_left _ hin)
    · intro ha
      simpa using hnd ha
    · intro x hx _
      simpa using hx
end

/-! The program's head line, read once (as a list of its signs): three facts on the whole program. -/
theorem toList_of {s : String} {l : List Char} (e : s = String.ofList l) : s.toList = l := by rw [e, String.toList_ofList]

theorem make_of {P : Program} {l : List Char} {ws rest : List (List Char)} {c : List Char} (e : P.initOrder = String.ofList l) (h : behindMainWord (wordsSigns l) = ws) (hw : ws = c :: rest)
    (h1 : (c == "gc".toList || c == "spec".toList) = false) (h2 : (c == "cut".toList) = true) : P.make = some .cut := by
  unfold Program.make
  rw [toList_of e, h, hw]
  simp only [h1, h2, Bool.true_or, if_true, Bool.false_eq_true, if_false]

theorem lifts_of {P : Program} {l : List Char} {ws : List (List Char)} (e : P.initOrder = String.ofList l) (h : behindMainWord (wordsSigns l) = ws)
    (h1 : (ws.head? == some "carried".toList) = false) (h2 : (stripLifts liftWords ws).1.contains "finals" = false) : P.liftsFinal = false := by
  unfold Program.liftsFinal Program.headLifts
  simp only [toList_of e, h, h1, Bool.false_and, Bool.false_or]
  split
  · exact h2
  · rfl

theorem enter_of {P : Program} {l : List Char} {ws rest : List (List Char)} {c : List Char} (e : P.initOrder = String.ofList l) (h : behindMainWord (wordsSigns l) = ws) (hw : ws = c :: rest)
    (h1 : ((stripLifts liftWords (c :: rest)).2.head? == some "cut".toList) = true) (h2 : (stripLifts liftWords (c :: rest)).1 = []) (h3 : P.laysLater = false) (h4 : P.bearsReflect = false) (h5 : P.doorFits [] = true) : P.mayEnter = true := by
  unfold Program.mayEnter
  rw [toList_of e, h, hw]
  simp only [h1, h2, h3, h4, h5, List.contains_nil, Bool.not_false, Bool.or_true, Bool.and_true]

def headWords (l : List Char) : List (List Char) := behindMainWord (wordsSigns l)
set_option maxRecDepth 100000 in
theorem heads : ∃ l : List Char, Try.prog.initOrder = String.ofList l ∧ headWords l = (headWords l).headD [] :: (headWords l).tail ∧
    ((headWords l).headD [] == "gc".toList || (headWords l).headD [] == "spec".toList) = false ∧ ((headWords l).headD [] == "cut".toList) = true ∧ ((headWords l).head? == some "carried".toList) = false ∧ (stripLifts liftWords (headWords l)).1.contains "finals" = false ∧
    ((stripLifts liftWords ((headWords l).headD [] :: (headWords l).tail)).2.head? == some "cut".toList) = true ∧ (stripLifts liftWords ((headWords l).headD [] :: (headWords l).tail)).1 = [] :=
  ⟨_, rfl, by kernel_rfl, by kernel_rfl, by kernel_rfl, by kernel_rfl, by kernel_rfl, by kernel_rfl, by kernel_rfl⟩
theorem headLaysLater : Try.prog.laysLater = false := by kernel_rfl
theorem headBearsReflect : Try.prog.bearsReflect = false := by kernel_rfl
theorem headDoorFits : Try.prog.doorFits [] = true := by kernel_rfl
theorem headEnter : Try.prog.mayEnter = true := by
  obtain ⟨l, e, hw, a1, a2, a3, a4, a5, a6⟩ := heads
  exact enter_of e rfl hw a5 a6 headLaysLater headBearsReflect headDoorFits
theorem headLifts : Try.prog.liftsFinal = false := by
  obtain ⟨l, e, hw, a1, a2, a3, a4, a5, a6⟩ := heads
  exact lifts_of e rfl a3 a4
theorem headMake : Try.prog.make = some .cut := by
  obtain ⟨l, e, hw, a1, a2, a3, a4, a5, a6⟩ := heads
  exact make_of e rfl hw a1 a2

theorem headMaps : mapsRowed Try.prog = true := by kernel_rfl
theorem headStops : (Try.prog.stops == []) = true := by kernel_rfl
theorem headKnobs : (Try.prog.stopKnobs == []) = true := by kernel_rfl
theorem headHeard : Try.prog.stopsHeard = true := by kernel_rfl

set_option maxRecDepth 100000 in
/-- The row's closed facts, those on the whole program given. -/
theorem law_closed {f : FuncId} {fn : Func} {s : ChangeSpec} {c : OpenClaim} (k1 : c.wf (OpenSpec.ofChange s) = true) (k2 : fn.params.all (Try.prog.readableRec ·) = true) (k3 : namedTie Try.prog c.named s.vars = true)
    (k4 : ((c.stops == []) && (c.knobs == [])) = true) (k5 : ((c.inPlace == Try.prog.inPlace f) && (c.unfollowed == Try.prog.unfollowed f) && (c.recurses == Try.prog.recurses f) && (c.named == Try.prog.varsNamed f)) = true)
    (k6 : ((c.maps == (fn.params.toList ++ s.plain.varTypes Try.prog).any (Try.prog.mapsRec ·)) && (c.ifaces == (fn.params.toList ++ s.plain.varTypes Try.prog).any (Try.prog.ifacesRec ·)) && (c.mapsOut == Try.prog.mapsAmong fn.resultTypes.toList)) = true)
    (k7 : ((c.loops == (fn.params.toList ++ s.plain.varTypes Try.prog).any (Try.prog.loopsFrom ·)) && (c.wideKeys == (fn.params.toList ++ s.plain.varTypes Try.prog ++ fn.resultTypes.toList).any (Try.prog.wideKeysFrom ·))) = true)
    (k8 : (s.vars.all (Try.prog.varReadable ·) && fn.resultTypes.all (fun t => Try.prog.readableRec t && decide (t < Try.prog.types.size)) && (c.ifacesOut == fn.resultTypes.toList.any (Try.prog.ifacesRec ·)) && (c.loopsOut == fn.resultTypes.toList.any (Try.prog.loopsFrom ·)) && (c.plainKeys == Try.prog.plainKeys) && c.shortTexts.isNone) = true)
    (k9 : (c.lifted == false && (some Make.cut == some c.make)) = true)
    (k10 : ((c.kinds == (if c.domain.isEmpty then [] else fn.params.toList.map fun t => match Try.prog.underlying t with | some (.int k) => some k | _ => none)) && (c.pinned == c.pinnedBy)) = true)
    (k11 : ((c.veiled == (fn.params.toList ++ s.plain.varTypes Try.prog ++ fn.resultTypes.toList).any (Try.prog.veiledRec ·)) && c.veiledFits Try.prog fn.params.toList (fn.params.toList ++ s.plain.varTypes Try.prog ++ fn.resultTypes.toList)) = true) :
    joinedFacts Try.prog f fn s c = true := by
  simp only [Bool.and_eq_true] at k4 k5 k6 k7 k8 k9 k10 k11
  simp only [joinedFacts, Bool.and_eq_true, k1, k2, k3, k4, k5, k6, k7, k8, k9, k11, lawLaidOut, headMaps, headStops, headKnobs, headHeard, headEnter, headLifts, headMake, and_self, and_true, true_and]
  exact k10
end Go.Proofs.Ytlmiadeaiiehaaa
