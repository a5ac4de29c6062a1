/- Walk of impl.ValidRule. -/
import Derived.Test.YtahclhldpcboeaaGreatDoorRuleW
namespace Go.Proofs.YtahclhldpcboeaaGreatDoor
open Go Go.RowKit

def usedIn (bd : List Atom) (k v : Nat) : Bool := (bd.take k).any (Atom.has (v : Int))
theorem usedIn_succ {bd : List Atom} {k : Nat} (hk : k < bd.length) (v : Nat) : usedIn bd (k + 1) v = (usedIn bd k v || bd[k].has (v : Int)) := by
  unfold usedIn
  rw [List.take_succ_eq_append_getElem hk, List.any_append]
  simp
theorem usedIn_all {bd : List Atom} {k : Nat} (hk : bd.length ≤ k) (v : Nat) : usedIn bd k v = bd.any (Atom.has (v : Int)) := by
  unfold usedIn; rw [List.take_of_length_le hk]
def Used (cs : Array Value) (bd : List Atom) (k : Nat) : Prop := cs.size = 6 ∧ ∀ v, v < 6 → cs[v]? = some (.bool (usedIn bd k v))
theorem Used.step {cs : Array Value} {bd : List Atom} {k nx ny : Nat} (h : Used cs bd k) (hk : k < bd.length) (hx : bd[k].x = nx) (hy : bd[k].y = ny) (h1 : nx < 6) (h2 : ny < 6) :
    Used ((cs.setIfInBounds nx (.bool true)).setIfInBounds ny (.bool true)) bd (k + 1) := by
  refine ⟨by simpa using h.1, fun v hv => ?_⟩
  rw [usedIn_succ hk]
  simp only [Array.getElem?_setIfInBounds, Array.size_setIfInBounds]
  have hz := h.1
  by_cases e2 : ny = v
  · subst e2
    rw [if_pos rfl, if_pos (by omega)]
    simp [Atom.has, hy]
  · rw [if_neg e2]
    by_cases e1 : nx = v
    · subst e1
      rw [if_pos rfl, if_pos (by omega)]
      simp [Atom.has, hx]
    · rw [if_neg e1, h.2 v hv]
      have : bd[k].has (v : Int) = false := by
        simp only [Atom.has, hx, hy, Bool.or_eq_false_iff, beq_eq_false_iff_ne]
        constructor <;> omega
      rw [this, Bool.or_false]
theorem any_out {q : Int} {bd : List Atom} (h : bd.all (Atom.ok q) = true) {v : Int} (hv : hasV q v = false) : bd.any (Atom.has v) = false := by
  rw [List.any_eq_false]
  intro a ha
  rw [List.all_eq_true] at h
  obtain ⟨_, _, h1, h2, h3, h4⟩ := atomOk_yes (h a ha)
  simp [hasV] at hv
  simp [Atom.has]
  omega

set_option maxRecDepth 100000 in
set_option maxHeartbeats 4000000 in
theorem implValidRule (q : Int) (A0 : Option Addr) (c0 : Nat) (hd : List Int) (A1 : Option Addr) (c1 : Nat) (bd : List Atom) (w : World) (hx0 : RdSl rdInt w.cell? 1 A0 hd) (hx1 : RdSl rdAtom w.cell? 3 A1 bd) (hl0 : hd.length ≤ 1048576) (hl1 : bd.length ≤ 1048576) :
    Calls Tryz.prog 12 #[.agg #[.int .i64 q, .slice A0 hd.length c0, .slice A1 bd.length c1]] w fun e w' => e = .returned (.bool (vrule q hd bd)) ∧ Fr w w' := by
  have HX := hid hx0
  have HY := hid hx1
  clear hx0 hx1
  have BA := Blk.new w 26 #[.int .i64 q, .slice A0 hd.length c0, .slice A1 bd.length c1]
  have F1 : Fr w (w.alloc (.cells #[.int .i64 q, .slice A0 hd.length c0, .slice A1 bd.length c1] 26)) := (Fr.refl _).alloc _
  by_cases hn : ((1 ≤ q ∧ q ≤ 6) ∧ hd.length ≤ 6) ∧ (1 ≤ bd.length ∧ bd.length ≤ 6)
  · have HN := hid (show ((decide (1 ≤ q) && decide (q ≤ 6)) && decide (hd.length ≤ 6) && (decide (1 ≤ bd.length) && decide (bd.length ≤ 6))) = true by simp [hn])
    obtain ⟨⟨⟨h1, h2⟩, h3⟩, h4, h5⟩ := hn
    go_enter Tryz.func12, Tryz.ntmps12
    go_wp2
    generalize hW1 : w.alloc (.cells #[.int .i64 q, .slice A0 hd.length c0, .slice A1 bd.length c1] 26) = W1 at BA F1 ⊢
    have hS : W1.heap.size = w.heap.size + 1 := by rw [← hW1, World.size_alloc]
    clear hW1
    go_loopw [35] (fun t wr => ∃ (k : Nat), k ≤ bd.length ∧ t = .int .i64 k ∧ Fr W1 wr ∧ (∀ i (h1 : i < bd.length), i < k → bd[i].ok q = true) ∧ ∃ t cs, Blk wr (w.heap.size + 1) t cs ∧ Used cs bd k) (fun t _ => bd.length - (intOf t).toNat)
    case atStart =>
      refine ⟨0, by omega, rfl, (Fr.refl _).alloc _, fun i _ h => absurd h (by omega), _, _, (by rw [← hS]; exact Blk.new _ _ _), rfl, fun v hv => ?_⟩
      have : v = 0 ∨ v = 1 ∨ v = 2 ∨ v = 3 ∨ v = 4 ∨ v = 5 := by omega
      rcases this with rfl | rfl | rfl | rfl | rfl | rfl <;> simp [usedIn]
    case round =>
      obtain ⟨k, hk, rfl, hf, hv, ty, cs, hB, hU⟩ := hrel
      have HV := hid hv
      have HU := hid hU
      clear hv hU
      obtain ⟨a0, a1, a2, _⟩ := (BA.fr hf).three
      have hsz : w.heap.size < wr.heap.size := (BA.fr hf).lt
      have hsz' : w.heap.size + 1 < wr.heap.size := hB.lt
      have hne : w.heap.size ≠ wr.heap.size := by omega
      have hne' : w.heap.size + 1 ≠ wr.heap.size := by omega
      by_cases hlt : k < bd.length
      · obtain ⟨b, o, hA, d0, d1, d2⟩ := HY.out.atom hlt
        have a0' := ((Fr.refl wr).alloc (.cells #[.int .i64 bd[k].rel, .int .i64 bd[k].x, .int .i64 bd[k].y] 63)).cell a0
        replace d0 := (F1.trans hf).cell d0
        replace d1 := (F1.trans hf).cell d1
        replace d2 := (F1.trans hf).cell d2
        subst hA
        cases hok : bd[k].ok q
        · have NO := hid (show vrule q hd bd = false by unfold vrule; rw [all_no hlt hok]; simp)
          have X1 := hid (show ∀ (b : Bool), hasV q bd[k].x = b → b = b from fun _ _ => rfl)
          rcases atomOk_no hok with h | ⟨h, h'⟩ | ⟨h, h', g2⟩ | ⟨h, h', g2, g3⟩ | ⟨h, h', g2, g3, g4⟩ | ⟨h, h', g2, g3, g4, g5⟩
          · go_wp2
            go_ret
            exact ⟨ret_bool NO.out.symm, (F1.trans hf).alloc _⟩
          · go_wp2
            go_ret
            exact ⟨ret_bool NO.out.symm, (F1.trans hf).alloc _⟩
          · have e1 : hasV q bd[k].x = false := by simp [hasV]; omega
            go_wp2_with (go_at_call 36; refine (hasVar _ _ _ _ a0').mono ?_; rintro e w1 ⟨rfl, rfl⟩)
            go_ret
            exact ⟨ret_bool NO.out.symm, (F1.trans hf).alloc _⟩
          · have e1 : hasV q bd[k].x = false := by simp [hasV]; omega
            go_wp2_with (go_at_call 36; refine (hasVar _ _ _ _ a0').mono ?_; rintro e w1 ⟨rfl, rfl⟩)
            go_ret
            exact ⟨ret_bool NO.out.symm, (F1.trans hf).alloc _⟩
          · have e1 : hasV q bd[k].x = true := by simp [hasV]; omega
            have e2 : hasV q bd[k].y = false := by simp [hasV]; omega
            go_wp2_with (go_at_call 36; refine (hasVar _ _ _ _ a0').mono ?_; rintro e w1 ⟨rfl, rfl⟩)
            go_ret
            exact ⟨ret_bool NO.out.symm, (F1.trans hf).alloc _⟩
          · have e1 : hasV q bd[k].x = true := by simp [hasV]; omega
            have e2 : hasV q bd[k].y = false := by simp [hasV]; omega
            go_wp2_with (go_at_call 36; refine (hasVar _ _ _ _ a0').mono ?_; rintro e w1 ⟨rfl, rfl⟩)
            go_ret
            exact ⟨ret_bool NO.out.symm, (F1.trans hf).alloc _⟩
        · obtain ⟨g1, g2, g3, g4, g5, g6⟩ := atomOk_yes hok
          have e1 : hasV q bd[k].x = true := by simp [hasV]; omega
          have e2 : hasV q bd[k].y = true := by simp [hasV]; omega
          obtain ⟨nx, hnx⟩ := Int.eq_ofNat_of_zero_le g3
          obtain ⟨ny, hny⟩ := Int.eq_ofNat_of_zero_le g5
          have hx6 : nx < 6 := by omega
          have hy6 : ny < 6 := by omega
          have HO := hid hok
          have HU1 := hid (HU.out.step hlt hnx hny hx6 hy6)
          clear hok
          rw [hnx] at d1 e1
          rw [hny] at d2 e2
          obtain ⟨ux, u1⟩ := hB.cell_some (i := nx) (by have := HU.out.1; omega)
          obtain ⟨uy, u2⟩ := hB.cell_some (i := ny) (by have := HU.out.1; omega)
          have z1 := hB.frozen nx
          have z2 := hB.frozen ny
          have FA : Fr wr (wr.alloc (.cells #[.int .i64 bd[k].rel, .int .i64 nx, .int .i64 ny] 63)) := (Fr.refl wr).alloc _
          have a0' := FA.cell a0
          have u1' := FA.cell u1
          have u2' := FA.cell u2
          have z1' := FA.frozen u1 z1
          have z2' := FA.frozen u2 z2
          by_cases hxy : nx = ny
          · subst hxy
            go_wp2_with (go_at_call 36; refine (hasVar _ _ _ _ a0').mono ?_; rintro e w1 ⟨rfl, rfl⟩)
            go_region
            all_goals go_wp2
            all_goals go_roundw
            all_goals first
              | exact ⟨k + 1, by omega, by go_num, by (repeat (first | with_reducible exact Fr.refl _ | with_reducible assumption | with_reducible refine Fr.alloc ?_ _ | with_reducible refine Fr.drew ?_ | with_reducible refine Fr.drewN ?_ _ | (with_reducible refine Fr.setNew2 ?_ ?_ _; · (simp <;> omega)) | with_reducible refine Fr.trans ?_ (by assumption))), fun i h hi => by
                  by_cases e : i = k
                  · subst e; exact HO.out
                  · exact HV.out i h (by omega), ty, _, ((hB.set_ nx _).set_ nx _).alloc _, HU1.out⟩
              | (simp [intOf]; omega)
          · have hyx : ny ≠ nx := fun h => hxy h.symm
            go_wp2_with (go_at_call 36; refine (hasVar _ _ _ _ a0').mono ?_; rintro e w1 ⟨rfl, rfl⟩)
            go_region
            all_goals go_wp2
            all_goals go_roundw
            all_goals first
              | exact ⟨k + 1, by omega, by go_num, by (repeat (first | with_reducible exact Fr.refl _ | with_reducible assumption | with_reducible refine Fr.alloc ?_ _ | with_reducible refine Fr.drew ?_ | with_reducible refine Fr.drewN ?_ _ | (with_reducible refine Fr.setNew2 ?_ ?_ _; · (simp <;> omega)) | with_reducible refine Fr.trans ?_ (by assumption))), fun i h hi => by
                  by_cases e : i = k
                  · subst e; exact HO.out
                  · exact HV.out i h (by omega), ty, _, ((hB.set_ nx _).set_ ny _).alloc _, HU1.out⟩
              | (simp [intOf]; omega)
      · have AE := hid (all_yes (p := Atom.ok q) fun i hi => HV.out i hi (by omega))
        have hkl : k = bd.length := by omega
        rw [hkl] at HU
        clear HV hkl
        go_wp2
        go_loopw [69] (fun t wr => ∃ (k : Nat), k ≤ hd.length ∧ t = .int .i64 k ∧ Fr W1 wr ∧ (∀ i (h1 : i < hd.length), i < k → bd.any (Atom.has hd[i]) = true) ∧ Blk wr (w.heap.size + 1) ty cs) (fun t _ => hd.length - (intOf t).toNat)
        case atStart => exact ⟨0, by omega, rfl, hf, fun i _ h => absurd h (by omega), hB⟩
        case round =>
          clear a0 a1 a2 hf hB
          obtain ⟨k, hk, rfl, hf, hv, hB⟩ := hrel
          have HV := hid hv
          clear hv
          obtain ⟨a0, a1, a2, _⟩ := (BA.fr hf).three
          by_cases hlt : k < hd.length
          · obtain ⟨b, o, hA, d0⟩ := HX.out.at_ hlt
            replace d0 := (F1.trans hf).cell d0
            simp only [Nat.mul_one, Nat.add_zero] at d0
            subst hA
            have NO := hid (fun h : bd.any (Atom.has hd[k]) = false => show vrule q hd bd = false by
              unfold vrule
              rw [all_no (p := fun v => bd.any (Atom.has v)) hlt h, Bool.and_false])
            cases hV : hasV q hd[k]
            · have N1 := hid (NO.out (any_out AE.out hV))
              go_wp2_with (go_at_call 36; refine (hasVar _ _ _ _ a0).mono ?_; rintro e w1 ⟨rfl, rfl⟩)
              go_ret
              exact ⟨ret_bool N1.out.symm, F1.trans hf⟩
            · have hV' := hV
              simp only [hasV, Bool.and_eq_true, decide_eq_true_eq] at hV'
              obtain ⟨nv, hnv⟩ := Int.eq_ofNat_of_zero_le hV'.1
              have hv6 : nv < 6 := by omega
              have u0 : wr.cell? ⟨w.heap.size + 1, nv, none⟩ = some (.bool (usedIn bd bd.length nv)) := by rw [hB.cell]; exact HU.out.2 nv hv6
              have UA : usedIn bd bd.length nv = bd.any (Atom.has hd[k]) := by rw [usedIn_all (Nat.le_refl _), hnv]
              rw [UA] at u0
              cases hb : bd.any (Atom.has hd[k])
              · have N1 := hid (NO.out hb)
                rw [hb] at u0
                rw [hnv] at d0 hV
                clear hV' UA hb
                go_wp2_with (go_at_call 36; refine (hasVar _ _ _ _ a0).mono ?_; rintro e w1 ⟨rfl, rfl⟩)
                go_ret
                exact ⟨ret_bool N1.out.symm, F1.trans hf⟩
              · have HO := hid hb
                rw [hb] at u0
                rw [hnv] at d0 hV
                clear hV' UA hb
                go_wp2_with (go_at_call 36; refine (hasVar _ _ _ _ a0).mono ?_; rintro e w1 ⟨rfl, rfl⟩)
                go_roundw
                case rel => exact ⟨k + 1, by omega, by go_num, hf, fun i h hi => by
                  by_cases e : i = k
                  · subst e; exact HO.out
                  · exact HV.out i h (by omega), hB⟩
                case measure => simp [intOf]; omega
          · have AH := hid (all_yes (p := fun v => bd.any (Atom.has v)) fun i hi => HV.out i hi (by omega))
            clear HV
            go_wp2
            go_ret
            exact ⟨ret_bool (by unfold vrule; rw [AE.out, AH.out, HN.out]; rfl), F1.trans hf⟩
  · have NO := hid (show vrule q hd bd = false by
      unfold vrule
      rw [show ((decide (1 ≤ q) && decide (q ≤ 6)) && decide (hd.length ≤ 6) && (decide (1 ≤ bd.length) && decide (bd.length ≤ 6))) = false by simp; omega]; rfl)
    have hcase : q < 1 ∨ (1 ≤ q ∧ 6 < q) ∨ (1 ≤ q ∧ q ≤ 6 ∧ 6 < hd.length) ∨ (1 ≤ q ∧ q ≤ 6 ∧ hd.length ≤ 6 ∧ bd.length < 1) ∨ (1 ≤ q ∧ q ≤ 6 ∧ hd.length ≤ 6 ∧ 1 ≤ bd.length ∧ 6 < bd.length) := by omega
    clear hn
    rcases hcase with h | ⟨h, h'⟩ | ⟨h, h', h''⟩ | ⟨h, h', h'', h3⟩ | ⟨h, h', h'', h3, h4⟩
    all_goals go_enter Tryz.func12, Tryz.ntmps12
    all_goals go_wp2
    all_goals go_ret
    all_goals exact ⟨ret_bool NO.out.symm, F1⟩
end Go.Proofs.YtahclhldpcboeaaGreatDoor
