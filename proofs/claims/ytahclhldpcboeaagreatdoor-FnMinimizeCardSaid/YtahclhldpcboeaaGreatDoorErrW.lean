/- Walks of errors.Is at errors of errors.New's make: nil against one, one against itself. -/
import Derived.Test.YtahclhldpcboeaaGreatDoorChecked
import Derived.Test.YtahclhldpcboeaaGreatDoorMem
import Derived.LaidEql
import Derived.Stop.Asserts
import Derived.RowKitTokens
import Derived.Test.YtahclhldpcboeaaGreatDoorMapI
namespace Go.Proofs.YtahclhldpcboeaaGreatDoor
open Go Go.RowKit Go.Extern.Stop Go.Stop Go.Extern

theorem isTypeOf (v : Value) (w : World) : (Extern.ReflectliteType.typeOf #[.iface 158 v]).run Tryz.prog w = .ok (.iface 142 (.agg #[.pointer (some ⟨2, 158, none⟩)])) w := by kernel_rfl
/-- The model's entry for a type's Comparable. -/
def compExt : Array Value → Sem Value := Extern.ReflectliteType.method fun t => do Extern.Rtype.noPackHeld "Comparable" t; pure (.bool (← typeInfo t).comparable)
theorem isComparable (w : World) : (compExt #[.agg #[.pointer (some ⟨2, 158, none⟩)]]).run Tryz.prog w = .ok (.bool true) w := by kernel_rfl
theorem isMethodComparable (v : Value) (w : World) : (Go.method 294 142 v "Comparable").run Tryz.prog w = .ok (133, v) w := by kernel_rfl
theorem isComp : (Tryz.prog.info? 158).map (·.comparable) = some true := by kernel_rfl
theorem isSize : (Tryz.prog.info? 182).map (·.size) = some 1 := by kernel_rfl
set_option maxRecDepth 100000 in
/-- errors.Is(x, x). -/
theorem is_same (a : Addr) (w : World) :
    Calls Tryz.prog 74 #[.iface 158 (.pointer (some a)), .iface 158 (.pointer (some a))] w fun e w' => e = .returned (.bool true) ∧ w' = w := by
  obtain ⟨i, hi, hcmp⟩ := Option.map_eq_some_iff.1 isComp
  obtain ⟨j, hj, hjs⟩ := Option.map_eq_some_iff.1 isSize
  have h8 := @run_callFunc_extern Tryz.prog 94 _ Extern.ReflectliteType.typeOf Tryz.func94 (by kernel_rfl) (by kernel_rfl) (by kernel_rfl) (by kernel_rfl)
  have h32 := @run_callFunc_extern Tryz.prog 133 _ compExt Tryz.func133 (by kernel_rfl) (by kernel_rfl) (by kernel_rfl) (by kernel_rfl)
  have tT := isTypeOf
  have cT := isComparable
  have mR := isMethodComparable
  have heq := run_eql_iface_ptr_same (P := Tryz.prog) w a Tryz.underlying48 Tryz.underlying158 hi hcmp hj
  go_enter Tryz.func74, Tryz.ntmps74
  go_wp2
  refine wp_loop_rounds 1 ?_
  rw [rounds_succ]
  go_wp2
  go_ret
  exact ⟨rfl, rfl⟩
set_option maxRecDepth 100000 in
/-- errors.Is(nil, x). -/
theorem is_nil (b : Addr) (w : World) :
    Calls Tryz.prog 74 #[.nilIface, .iface 158 (.pointer (some b))] w fun e w' => e = .returned (.bool false) ∧ w' = w := by
  have hn := run_eql_iface_nil_left (P := Tryz.prog) w 158 (.pointer (some b)) Tryz.underlying48
  go_enter Tryz.func74, Tryz.ntmps74
  go_wp2
  go_ret
  exact ⟨rfl, rfl⟩
/- Walk of the program's search: extended. -/

theorem rd_tail {X : Type} {rd : Rd X} {m : Mv} {b o sz : Nat} {x : X} {xs : List X} (h : RdSl rd m sz (some ⟨b, o, none⟩) (x :: xs)) : RdSl rd m sz (some ⟨b, o + sz, none⟩) xs := fun _ => by
  obtain ⟨b', o', hA, hc⟩ := h (by simp)
  cases hA
  refine ⟨b, o + sz, rfl, fun i hi => ?_⟩
  have h1 := hc (i + 1) (by simpa using hi)
  simp only [List.getElem_cons_succ] at h1
  rwa [show o + (i + 1) * sz = o + sz + i * sz by rw [Nat.succ_mul]; omega] at h1
/-- The error that says that there is no homomorphism. -/
abbrev noHom (a : Addr) : Value := .iface 158 (.pointer (some a))
/-- What extended answers. -/
def ExdPost (w : World) (mb n : Nat) (ea : Addr) (o : Option (List Int)) (r : Ending) (w' : World) : Prop := match o with
  | some m' => ∃ g c cs, r = .returned (.tuple #[.slice (some ⟨g, 0, none⟩) n c, .nilIface]) ∧ Blk w' g 3 cs ∧ IAt cs m' ∧ m'.length = n ∧ n ≤ cs.size ∧ (g = mb ∨ w.heap.size ≤ g)
  | none => r = .returned (.tuple #[.slice none 0 0, noHom ea])
theorem ExdPost.some {w w' : World} {mb n : Nat} {ea : Addr} {o : Option (List Int)} {r : Ending} {m' : List Int} (h : ExdPost w mb n ea o r w') (ho : o = some m') : ∃ g c cs, r = .returned (.tuple #[.slice (some ⟨g, 0, none⟩) n c, .nilIface]) ∧ Blk w' g 3 cs ∧ IAt cs m' ∧ m'.length = n ∧ n ≤ cs.size ∧ (g = mb ∨ w.heap.size ≤ g) := by
  subst ho; exact h
theorem ExdPost.none {w w' : World} {mb n : Nat} {ea : Addr} {o : Option (List Int)} {r : Ending} (h : ExdPost w mb n ea o r w') (ho : o = none) : r = .returned (.tuple #[.slice none 0 0, noHom ea]) := by
  subst ho; exact h
theorem ExdPost.form {w w' : World} {mb n : Nat} {ea : Addr} {o : Option (List Int)} {r : Ending} (h : ExdPost w mb n ea o r w') : ∃ v e, r = .returned (.tuple #[v, e]) := by
  cases o with
  | none => exact ⟨_, _, h⟩
  | some m' => obtain ⟨g, c, cs, h, _⟩ := h; exact ⟨_, _, h⟩
set_option maxRecDepth 100000 in
set_option maxHeartbeats 4000000 in
theorem extendedW (n : Nat) (B : Int) (fs : List Fact) (F : Option Addr) (fc : Nat) (ea : Addr) (hn : 0 < n) (hn2 : n ≤ 1000) (hf6 : fs.length ≤ 1000) (hfr : ∀ f ∈ fs, (0 ≤ f.x ∧ f.x < B) ∧ 0 ≤ f.y ∧ f.y < B) (bd : List Atom) :
    ∀ (A : Option Addr) (ac mb mc : Nat) (cs : Array Value) (m : List Int) (w : World), bd.length ≤ ac → ac ≤ maxLen → Blk w mb 3 cs → IAt cs m → m.length = n → n ≤ cs.size → Rng B m →
    RdSl rdAtom w.cell? 3 A bd → RdSl rdFact w.cell? 3 F fs → (∀ a ∈ bd, 0 ≤ a.x ∧ a.x < n ∧ 0 ≤ a.y ∧ a.y < n) → w.cell? ⟨1, 0, none⟩ = some (noHom ea) →
    Calls Tryz.prog 52 #[.slice (some ⟨mb, 0, none⟩) n mc, .slice A bd.length ac, .slice F fs.length fc] w fun r w' => ExdPost w mb n ea (mts bd fs m).head? r w' ∧ Fr w w' := by
  induction bd with
  | nil =>
    intro A ac mb mc cs m w _ _ hB hI hm hs _ _ _ _ hg
    have RES := hid (show ExdPost w mb n ea (mts [] fs m).head? (.returned (.tuple #[.slice (some ⟨mb, 0, none⟩) n mc, .nilIface])) w ∧ Fr w w from ⟨⟨mb, mc, cs, rfl, hB, hI, hm, hs, .inl rfl⟩, Fr.refl w⟩)
    clear hB hI hs hm hfr
    go_enter Tryz.func52, Tryz.ntmps52
    go_wp2
    go_ret2
    exact RES.out
  | cons a bd ih =>
    intro A ac mb mc cs m w hac hac2 hB hI hm hs hr hA hF hv hg
    have IH := hid ih
    have HFR := hid hfr
    have HF := hid hF
    have HB := hid hB
    have HI := hid hI
    have HR := hid hr
    have HV := hid hv
    obtain ⟨ab, ao, hA1, d0, d1, d2⟩ := hA.atom (k := 0) (by simp)
    subst hA1
    have HA := hid (rd_tail hA)
    simp only [Nat.zero_mul, Nat.add_zero, List.getElem_cons_zero] at d0 d1 d2
    obtain ⟨x0, x1, y0, y1⟩ := hv a (by simp)
    simp only [List.length_cons] at hac ⊢
    obtain ⟨L, hL⟩ : ∃ L, bd.length + 1 = L := ⟨_, rfl⟩
    have hne : ((L : Int) == 0) = false := by simp; omega
    have hL0 : (0 : Int) < (L : Int) := by omega
    have HL := hid hL
    rw [hL] at hac ⊢
    clear hL
    clear ih hfr hF hB hI hr hv hA
    obtain ⟨ar, ax, ay⟩ := a
    simp only at d0 d1 d2 x0 x1 y0 y1
    have EST := hid (mts_cons ⟨ar, ax, ay⟩ bd fs m)
    obtain ⟨st, est⟩ : ∃ st, step bd fs m ⟨ar, ax, ay⟩ = st := ⟨_, rfl⟩
    have ST := hid est
    rw [est] at EST
    have BA := Blk.new w 63 #[.int .i64 ar, .int .i64 ax, .int .i64 ay]
    have FA := (Fr.refl w).alloc (.cells #[.int .i64 ar, .int .i64 ax, .int .i64 ay] 63)
    clear est
    go_enter Tryz.func52, Tryz.ntmps52
    go_wp2_with fail
    generalize w.alloc (.cells #[.int .i64 ar, .int .i64 ax, .int .i64 ay] 63) = w1 at BA FA ⊢
    have HBA := hid BA
    clear d0 d1 d2 BA hne
    go_loopw [23] (fun t wr => ∃ k : Nat, k ≤ fs.length ∧ t = .int .i64 k ∧ Fr w1 wr ∧ Hid (∀ i (h : i < fs.length), i < k → st fs[i] = [])) (fun t _ => fs.length - (intOf t).toNat)
    case atStart => exact ⟨0, by omega, rfl, Fr.refl _, hid (fun i _ h => absurd h (by omega))⟩
    case round =>
      obtain ⟨k, hk, rfl, hf, HN⟩ := hrel
      have FWr := FA.trans hf
      by_cases hlt : k < fs.length
      · obtain ⟨fb, fo, hFA, f0, f1, f2⟩ := (HF.out.fr rdFact_mono FWr).fact hlt
        subst hFA
        obtain ⟨f, ef⟩ : ∃ f, fs[k] = f := ⟨_, rfl⟩
        have hfk := HFR.out fs[k] (List.getElem_mem hlt)
        rw [ef] at f0 f1 f2 hfk
        obtain ⟨r, x, y⟩ := f
        simp only at f0 f1 f2 hfk
        have BF := Blk.new wr 54 #[.int .i64 r, .int .i64 x, .int .i64 y]
        have F2 := (Fr.refl wr).alloc (.cells #[.int .i64 r, .int .i64 x, .int .i64 y] 54)
        have BA2 := HBA.out.fr (hf.trans F2)
        go_wp2_with fail
        generalize wr.alloc (.cells #[.int .i64 r, .int .i64 x, .int .i64 y] 54) = w2 at BF F2 BA2 ⊢
        clear f0 f1 f2
        have FW2 := FWr.trans F2
        have hrd : RdSl rdInt w2.cell? 1 (some ⟨mb, 0, none⟩) m := fun _ => ⟨mb, 0, rfl, fun i hi => by
          show w2.cell? ⟨mb, 0 + i * 1 + 0, none⟩ = _
          rw [(HB.out.fr FW2).cell, ← HI.out i hi]; simp⟩
        have CP := copiedInts (some ⟨mb, 0, none⟩) mc m w2 hrd (by omega) (by omega)
        rw [hm] at CP
        clear hrd
        go_wp2_with fail
        refine CP.mono ?_
        rintro _ w3 ⟨rfl, hB3, hF3, hs3⟩
        clear hs3
        have hw2 := F2.size
        obtain ⟨a0, a1, a2, _⟩ := (BA2.fr hF3).three
        obtain ⟨b0, b1, b2, _⟩ := (BF.fr hF3).three
        have HB3 := hid hB3
        have hlt3 := hB3.lt
        have hbf := (BF.fr hF3).lt
        have hba := (BA2.fr hF3).lt
        clear CP hB3 BF BA2
        by_cases hrel : r = ar
        · subst hrel
          have hne2 : (r != r) = false := by simp
          have hfb : fit m ⟨r, ax, ay⟩ ⟨r, x, y⟩ = bindH [ax, ay] [x, y] m := fit_bind rfl
          have F4 : Fr w3 ((w3.alloc (.cells #[.int .i64 ax, .int .i64 ay] 3)).alloc (.cells #[.int .i64 x, .int .i64 y] 3)) := by (repeat (first | with_reducible exact Fr.refl _ | with_reducible assumption | with_reducible refine Fr.alloc ?_ _ | with_reducible refine Fr.drew ?_ | with_reducible refine Fr.drewN ?_ _ | (with_reducible refine Fr.setNew2 ?_ ?_ _; · (simp <;> omega)) | with_reducible refine Fr.trans ?_ (by assumption)))
          have LIT : ∀ (g : Nat) (u v : Int) (W : World), Blk W g 3 #[.int .i64 u, .int .i64 v] → g ≠ w2.heap.size → RdSl rdInt (noB W w2.heap.size) 1 (some ⟨g, 0, none⟩) [u, v] := fun g u v W hW hg _ => ⟨g, 0, rfl, fun i hi => by
            show noB W w2.heap.size ⟨g, 0 + i * 1 + 0, none⟩ = _
            unfold noB
            rw [if_neg (by exact hg), hW.cell]
            match i, hi with
            | 0, _ => rfl
            | 1, _ => rfl⟩
          have hx := LIT w3.heap.size ax ay _ ((Blk.new w3 3 #[.int .i64 ax, .int .i64 ay]).alloc (.cells #[.int .i64 x, .int .i64 y] 3)) (by omega)
          have hy := LIT (w3.heap.size + 1) x y ((w3.alloc (.cells #[.int .i64 ax, .int .i64 ay] 3)).alloc (.cells #[.int .i64 x, .int .i64 y] 3)) (by have h := Blk.new (w3.alloc (.cells #[.int .i64 ax, .int .i64 ay] 3)) 3 #[.int .i64 x, .int .i64 y]; rw [World.size_alloc] at h; exact h) (by omega)
          have MP := mapToW w2.heap.size n _ _ _ 2 2 m [ax, ay] [x, y] B _ (HB3.out.fr F4) (iAt_map m) (by simp) (by omega) hx hy (by simp) (by simp) (by
            intro v hv
            simp only [List.mem_cons, List.not_mem_nil, or_false] at hv
            rcases hv with rfl | rfl <;> omega) HR.out (by
            intro v hv
            simp only [List.mem_cons, List.not_mem_nil, or_false] at hv
            rcases hv with rfl | rfl
            · exact hfk.1
            · exact hfk.2)
          rw [hm] at MP
          have HMP := hid MP
          clear LIT hx hy MP
          go_wp2_with fail
          refine HMP.out.mono ?_
          rintro _ w5 ⟨rfl, hC5, m5, cs5, hB5, hI5, hs5, hl5, hm5⟩
          have F5 : Fr w2 w5 := hC5.fr (fun k hk => by have : k = w2.heap.size := hk; omega) (hF3.trans F4)
          clear HMP
          have FF5 : Fr w1 w5 := hf.trans (F2.trans F5)
          cases hbb : bindH [ax, ay] [x, y] m with
          | none =>
            have HN1 : Hid (∀ i (h : i < fs.length), i < k + 1 → st fs[i] = []) := hid fun i h hi => by
              by_cases q : i = k
              · subst q; rw [← ST.out, ef]; exact step_none (by rw [hfb, hbb])
              · exact HN.out i h (by omega)
            clear hm5 hfb hbb hB5 hI5 hs5 hl5 hC5
            go_wp2
            go_roundw
            case rel => exact ⟨k + 1, by omega, by go_num, FF5, HN1⟩
            case measure => simp [intOf]; omega
          | some m1 =>
            obtain rfl := hm5 m1 hbb
            have hst : st fs[k] = mts bd fs m5 := by rw [← ST.out, ef]; exact step_some (by rw [hfb, hbb])
            have hR5 : Rng B m5 := bindH_rng hbb HR.out (by
              intro v hv
              simp only [List.mem_cons, List.not_mem_nil, or_false] at hv
              rcases hv with rfl | rfl
              · exact hfk.1
              · exact hfk.2)
            have FW5 : Fr w w5 := FA.trans FF5
            have g1 : (1 : Int) ≤ (L : Int) := by omega
            have CALL : ∀ (A' : Option Addr) (ac' : Nat), bd.length ≤ ac' → ac' ≤ maxLen → RdSl rdAtom w5.cell? 3 A' bd → Hid (Calls Tryz.prog 52 #[.slice (some ⟨w2.heap.size, 0, none⟩) n n, .slice A' (L - 1) ac', .slice (some ⟨fb, fo, none⟩) fs.length fc] w5 fun r w' => ExdPost w5 w2.heap.size n ea (mts bd fs m5).head? r w' ∧ Fr w5 w') := fun A' ac' h1 h2 h3 => by
              have h := IH.out A' ac' w2.heap.size n cs5 m5 w5 h1 h2 hB5 hI5 hl5 (by rw [hs5]; simp; omega) hR5 h3 (HF.out.fr rdFact_mono FW5) (fun a ha => HV.out a (by simp [ha])) (FW5.cell hg)
              rw [show bd.length = L - 1 by have := HL.out; omega] at h
              exact hid h
            clear hm5 hfb hbb hB5 hI5 hs5 hl5 hC5 hR5
            have C1 : 1 < ac → Hid (Calls Tryz.prog 52 #[.slice (some ⟨w2.heap.size, 0, none⟩) n n, .slice (some ⟨ab, ao + 3, none⟩) (L - 1) (ac - 1), .slice (some ⟨fb, fo, none⟩) fs.length fc] w5 fun r w' => ExdPost w5 w2.heap.size n ea (mts bd fs m5).head? r w' ∧ Fr w5 w') := fun h => CALL _ _ (by have := HL.out; omega) (by omega) (HA.out.fr rdAtom_mono FW5)
            have C2 : ac = 1 → Hid (Calls Tryz.prog 52 #[.slice (some ⟨w2.heap.size, 0, none⟩) n n, .slice (some ⟨ab, ao, none⟩) (L - 1) 0, .slice (some ⟨fb, fo, none⟩) fs.length fc] w5 fun r w' => ExdPost w5 w2.heap.size n ea (mts bd fs m5).head? r w' ∧ Fr w5 w') := fun h => by
              have hb0 : bd = [] := List.eq_nil_of_length_eq_zero (by have := HL.out; omega)
              exact CALL _ _ (by have := HL.out; omega) (by omega) (by rw [hb0]; exact RdSl.nil)
            have hgw := fun W (h : Fr w5 W) => (FW5.trans h).cell hg
            have HGW := hid hgw
            have NEXT : mts bd fs m5 = [] → Hid (∀ i (h : i < fs.length), i < k + 1 → st fs[i] = []) := fun h0 => hid fun i h hi => by
              by_cases q : i = k
              · subst q; rw [hst, h0]
              · exact HN.out i h (by omega)
            have FOUND : ∀ (m6 : List Int), (mts bd fs m5).head? = some m6 → (mts (⟨r, ax, ay⟩ :: bd) fs m).head? = some m6 := fun m6 h6 => by
              rw [EST.out]; exact flat_first hlt (fun i h hi => HN.out i h hi) (by rw [hst]; exact h6)
            have HFOUND := hid FOUND
            have hw25 : w.heap.size ≤ w2.heap.size := FW2.size
            have hw5 : w.heap.size ≤ w5.heap.size := FW5.size
            clear CALL hgw FOUND
            go_wp2_with fail
            all_goals (first
              | (with_reducible refine (C1 (by omega)).out.mono ?_)
              | (obtain rfl : ac = 1 := (by omega); with_reducible refine (C2 rfl).out.mono ?_)
              | fail)
            all_goals clear C1 C2
            all_goals (
              rintro r6 w6 ⟨hP, hF6⟩
              have g6 := HGW.out w6 hF6
              cases hh : (mts bd fs m5).head? with
              | none =>
                obtain rfl := hP.none hh
                have NX := NEXT (head_nil hh)
                have FF6 := FF5.trans hF6
                clear hP hh NEXT HFOUND
                go_wp2_with (first | (go_at_call 74; refine (is_same ea _).mono ?_; rintro _ _ ⟨rfl, rfl⟩) | fail)
                go_roundw
                case rel => exact ⟨k + 1, by omega, by go_num, FF6, NX⟩
                case measure => simp [intOf]; omega
              | some m6 =>
                obtain ⟨g, c, cs6, rfl, hB6, hI6, hl6, hs6, hg6⟩ := hP.some hh
                have RES := hid (show ExdPost w mb n ea (mts (⟨r, ax, ay⟩ :: bd) fs m).head? (.returned (.tuple #[.slice (some ⟨g, 0, none⟩) n c, .nilIface])) w6 ∧ Fr w w6 from ⟨by
                  rw [HFOUND.out m6 hh]
                  exact ⟨g, c, cs6, rfl, hB6, hI6, hl6, hs6, .inr (by omega)⟩, FW5.trans hF6⟩)
                clear hP hh NEXT HFOUND hB6 hI6 hg6
                go_wp2_with (first | (go_at_call 74; refine (is_nil ea _).mono ?_; rintro _ _ ⟨rfl, rfl⟩) | fail)
                go_ret2
                exact RES.out)
        · have hne2 : (r != ar) = true := by simp [hrel]
          have HN1 : Hid (∀ i (h : i < fs.length), i < k + 1 → st fs[i] = []) := hid fun i h hi => by
            by_cases q : i = k
            · subst q; rw [← ST.out, ef]; exact step_none (fit_rel hrel)
            · exact HN.out i h (by omega)
          go_wp2
          go_roundw
          case rel => exact ⟨k + 1, by omega, by go_num, hf.trans (F2.trans hF3), HN1⟩
          case measure => simp [intOf]; omega
      · obtain rfl : k = fs.length := by omega
        have RES := hid (show ∀ w2, ExdPost w mb n ea (mts (⟨ar, ax, ay⟩ :: bd) fs m).head? (.returned (.tuple #[.slice none 0 0, noHom ea])) w2 from fun w2 => by
          rw [EST.out, flat_none (fun i h => HN.out i h h)]; exact rfl)
        have hg1 := FWr.cell hg
        clear HN
        go_wp2_with fail
        (refine wp_region_quietC (fun w' => Fr _ w') (by kernel_rfl) (by kernel_rfl) (Fr.refl _).drew ?_; (repeat go_big_quiet_step (first | exact fun _ => rfl | exact fun _ => ⟨rfl, rfl⟩ | (intro hw'; replace hg1 := hw'.cell hg1; go_simp; first | done | exact rfl | exact ⟨rfl, rfl⟩) )); refine wpQuiet_nil ?_; intro wq hq)
        go_wp2
        go_ret2
        exact ⟨RES.out _, FWr.trans hq⟩
end Go.Proofs.YtahclhldpcboeaaGreatDoor
