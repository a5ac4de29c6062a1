/- Walks of the functions on graphs. -/
import Derived.Test.YtgjbmigplomekaaRelP
import Derived.Test.YtgjbmigplomekaaMemQ
import Derived.Test.YtgjbmigplomekaaSGraph
namespace Go.Proofs.Ytgjbmigplomekaa
open Go Go.RowKit

theorem relOk_no {r : Int} (h : relOk r = false) : r < 1 ∨ (1 ≤ r ∧ 1000 < r) := by
  simp [relOk] at h; omega
theorem relOk_yes {r : Int} (h : relOk r = true) : 1 ≤ r ∧ r ≤ 1000 := by
  simpa [relOk] using h
theorem edgeOk_yes {n : Nat} {e : Edge} (h : e.ok n = true) : 0 ≤ e.a ∧ e.a < e.b ∧ e.b < n ∧ 1 ≤ e.den ∧ e.den ≤ 1000 := by
  simp [Edge.ok] at h; omega
theorem edgeOk_no {n : Nat} {e : Edge} (h : e.ok n = false) : e.a < 0 ∨ (0 ≤ e.a ∧ e.b ≤ e.a) ∨ (0 ≤ e.a ∧ e.a < e.b ∧ (n : Int) ≤ e.b) ∨ (0 ≤ e.a ∧ e.a < e.b ∧ e.b < n ∧ e.den < 1) ∨ (0 ≤ e.a ∧ e.a < e.b ∧ e.b < n ∧ 1 ≤ e.den ∧ 1000 < e.den) := by
  simp [Edge.ok] at h; omega
set_option maxRecDepth 100000 in
set_option maxHeartbeats 2000000 in
theorem specVGraph (A0 : Option Addr) (c0 : Nat) (rs : List Int) (A1 : Option Addr) (c1 : Nat) (es : List Edge) (w : World) (hx0 : RdSl rdInt w.cell? 1 A0 rs) (hx1 : RdSl rdEdge w.cell? 3 A1 es) (hl0 : rs.length ≤ 1048576) (hl1 : es.length ≤ 1048576) :
    Calls Try.prog 34 #[.agg #[.slice A0 rs.length c0, .slice A1 es.length c1]] w fun e w' => e = .returned (.bool (vgraph rs es)) ∧ Fr w w' := by
  have HX := hid hx0
  have HY := hid hx1
  clear hx0 hx1
  have BA := Blk.new w 26 #[.slice A0 rs.length c0, .slice A1 es.length c1]
  have F1 : Fr w (w.alloc (.cells #[.slice A0 rs.length c0, .slice A1 es.length c1] 26)) := (Fr.refl _).alloc _
  go_enter Try.func34, Try.ntmps34
  go_wp2
  generalize w.alloc (.cells #[.slice A0 rs.length c0, .slice A1 es.length c1] 26) = W1 at BA F1 ⊢
  go_loopw [3] (fun t wr => ∃ (k : Nat), k ≤ rs.length ∧ t = .int .i64 k ∧ Fr W1 wr ∧ ∀ i (h1 : i < rs.length), i < k → relOk rs[i] = true) (fun t _ => rs.length - (intOf t).toNat)
  case atStart => exact ⟨0, by omega, rfl, Fr.refl _, fun i _ h => absurd h (by omega)⟩
  case round =>
    obtain ⟨k, hk, rfl, hf, hv⟩ := hrel
    have HV := hid hv
    clear hv
    obtain ⟨a0, a1, _⟩ := (BA.fr hf).pair
    by_cases hlt : k < rs.length
    · obtain ⟨b, o, hA, d0⟩ := HX.out.at_ hlt
      replace d0 := (F1.trans hf).cell d0
      simp only [Nat.mul_one, Nat.add_zero] at d0
      subst hA
      cases hok : relOk rs[k]
      · have NO := hid (show vgraph rs es = false by unfold vgraph; rw [all_no hlt hok]; simp)
        rcases relOk_no hok with h | h
        all_goals go_wp2_with (first | (go_at_call 59; refine (inRange_yes _ _ _ _ ?_ ?_).mono ?_; (· omega); (· omega); rintro e w1 ⟨rfl, rfl⟩) | (go_at_call 59; refine (inRange_no _ _ _ _ ?_).mono ?_; (· omega); rintro e w1 ⟨rfl, rfl⟩))
        all_goals go_ret
        all_goals exact ⟨ret_bool NO.out.symm, F1.trans hf⟩
      · obtain ⟨h1, h2⟩ := relOk_yes hok
        have HO := hid hok
        clear hok
        go_wp2_with (first | (go_at_call 59; refine (inRange_yes _ _ _ _ ?_ ?_).mono ?_; (· omega); (· omega); rintro e w1 ⟨rfl, rfl⟩) | (go_at_call 59; refine (inRange_no _ _ _ _ ?_).mono ?_; (· omega); rintro e w1 ⟨rfl, rfl⟩))
        go_roundw
        case rel => exact ⟨k + 1, by omega, by go_num, hf, fun i h hi => by
          by_cases e : i = k
          · subst e; exact HO.out
          · exact HV.out i h (by omega)⟩
        case measure => simp [intOf]; omega
    · have AR := hid (all_yes (p := relOk) fun i hi => HV.out i hi (by omega))
      clear HV
      go_wp2
      go_loopw [4] (fun t wr => ∃ (k : Nat), k ≤ es.length ∧ t = .int .i64 k ∧ Fr W1 wr ∧ ∀ i (h1 : i < es.length), i < k → es[i].ok rs.length = true) (fun t _ => es.length - (intOf t).toNat)
      case atStart => exact ⟨0, by omega, rfl, hf, fun i _ h => absurd h (by omega)⟩
      case round =>
        clear a0 a1 hf
        obtain ⟨k, hk, rfl, hf, hv⟩ := hrel
        have HV := hid hv
        clear hv
        obtain ⟨a0, a1, _⟩ := (BA.fr hf).pair
        have hsz : w.heap.size < wr.heap.size := (BA.fr hf).lt
        have hne : w.heap.size ≠ wr.heap.size := by omega
        by_cases hlt : k < es.length
        · obtain ⟨b, o, hA, d0, d1, d2⟩ := HY.out.edge hlt
          have a0' := ((Fr.refl wr).alloc (.cells #[.int .i64 es[k].a, .int .i64 es[k].b, .int .i64 es[k].den] 99)).cell a0
          replace d0 := (F1.trans hf).cell d0
          replace d1 := (F1.trans hf).cell d1
          replace d2 := (F1.trans hf).cell d2
          subst hA
          cases hok : es[k].ok rs.length
          · have NO := hid (show vgraph rs es = false by unfold vgraph; rw [all_no hlt hok]; simp)
            rcases edgeOk_no hok with h | ⟨h, h'⟩ | ⟨h, h', h''⟩ | ⟨h, h', h'', h3⟩ | ⟨h, h', h'', h3, h4⟩
            all_goals go_wp2_with (first | (go_at_call 59; refine (inRange_yes _ _ _ _ ?_ ?_).mono ?_; (· omega); (· omega); rintro e w1 ⟨rfl, rfl⟩) | (go_at_call 59; refine (inRange_no _ _ _ _ ?_).mono ?_; (· omega); rintro e w1 ⟨rfl, rfl⟩))
            all_goals go_ret
            all_goals exact ⟨ret_bool NO.out.symm, (F1.trans hf).alloc _⟩
          · obtain ⟨h1, h2, h3, h4, h5⟩ := edgeOk_yes hok
            have HO := hid hok
            clear hok
            go_wp2_with (first | (go_at_call 59; refine (inRange_yes _ _ _ _ ?_ ?_).mono ?_; (· omega); (· omega); rintro e w1 ⟨rfl, rfl⟩) | (go_at_call 59; refine (inRange_no _ _ _ _ ?_).mono ?_; (· omega); rintro e w1 ⟨rfl, rfl⟩))
            go_roundw
            case rel => exact ⟨k + 1, by omega, by go_num, hf.alloc _, fun i h hi => by
              by_cases e : i = k
              · subst e; exact HO.out
              · exact HV.out i h (by omega)⟩
            case measure => simp [intOf]; omega
        · have AE := hid (all_yes (p := Edge.ok rs.length) fun i hi => HV.out i hi (by omega))
          clear HV
          go_wp2_with (go_at_call 59; refine (inRange _ _ _ _).mono ?_; rintro e w1 ⟨rfl, rfl⟩)
          all_goals go_ret
          all_goals (refine ⟨ret_bool ?_, F1.trans hf⟩; unfold vgraph; rw [AR.out, AE.out, Bool.eq_iff_iff]; simp; try omega)
set_option maxRecDepth 100000 in
set_option maxHeartbeats 2000000 in
theorem implValidGraph (A0 : Option Addr) (c0 : Nat) (rs : List Int) (A1 : Option Addr) (c1 : Nat) (es : List Edge) (w : World) (hx0 : RdSl rdInt w.cell? 1 A0 rs) (hx1 : RdSl rdEdge w.cell? 3 A1 es) (hl0 : rs.length ≤ 1048576) (hl1 : es.length ≤ 1048576) :
    Calls Try.prog 57 #[.agg #[.slice A0 rs.length c0, .slice A1 es.length c1]] w fun e w' => e = .returned (.bool (vgraph rs es)) ∧ Fr w w' := by
  have HX := hid hx0
  have HY := hid hx1
  clear hx0 hx1
  have BA := Blk.new w 26 #[.slice A0 rs.length c0, .slice A1 es.length c1]
  have F1 : Fr w (w.alloc (.cells #[.slice A0 rs.length c0, .slice A1 es.length c1] 26)) := (Fr.refl _).alloc _
  by_cases hn : (1 ≤ rs.length ∧ rs.length ≤ 5) ∧ es.length ≤ 6
  · have HN := hid (show ((decide (1 ≤ rs.length) && decide (rs.length ≤ 5)) && decide (es.length ≤ 6)) = true by simp [hn])
    obtain ⟨⟨h1, h2⟩, h3⟩ := hn
    go_enter Try.func57, Try.ntmps57
    go_wp2
    generalize w.alloc (.cells #[.slice A0 rs.length c0, .slice A1 es.length c1] 26) = W1 at BA F1 ⊢
    go_loopw [26] (fun t wr => ∃ (k : Nat), k ≤ rs.length ∧ t = .int .i64 k ∧ Fr W1 wr ∧ ∀ i (h1 : i < rs.length), i < k → relOk rs[i] = true) (fun t _ => rs.length - (intOf t).toNat)
    case atStart => exact ⟨0, by omega, rfl, Fr.refl _, fun i _ h => absurd h (by omega)⟩
    case round =>
      obtain ⟨k, hk, rfl, hf, hv⟩ := hrel
      have HV := hid hv
      clear hv
      obtain ⟨a0, a1, _⟩ := (BA.fr hf).pair
      by_cases hlt : k < rs.length
      · obtain ⟨b, o, hA, d0⟩ := HX.out.at_ hlt
        replace d0 := (F1.trans hf).cell d0
        simp only [Nat.mul_one, Nat.add_zero] at d0
        subst hA
        cases hok : relOk rs[k]
        · have NO := hid (show vgraph rs es = false by unfold vgraph; rw [all_no hlt hok]; simp)
          rcases relOk_no hok with h | ⟨h, h'⟩
          all_goals go_wp2
          all_goals go_ret
          all_goals exact ⟨ret_bool NO.out.symm, F1.trans hf⟩
        · obtain ⟨h4, h5⟩ := relOk_yes hok
          have HO := hid hok
          clear hok
          go_wp2
          go_roundw
          case rel => exact ⟨k + 1, by omega, by go_num, hf, fun i h hi => by
            by_cases e : i = k
            · subst e; exact HO.out
            · exact HV.out i h (by omega)⟩
          case measure => simp [intOf]; omega
      · have AR := hid (all_yes (p := relOk) fun i hi => HV.out i hi (by omega))
        clear HV
        go_wp2
        go_loopw [40] (fun t wr => ∃ (k : Nat), k ≤ es.length ∧ t = .int .i64 k ∧ Fr W1 wr ∧ ∀ i (h1 : i < es.length), i < k → es[i].ok rs.length = true) (fun t _ => es.length - (intOf t).toNat)
        case atStart => exact ⟨0, by omega, rfl, hf, fun i _ h => absurd h (by omega)⟩
        case round =>
          clear a0 a1 hf
          obtain ⟨k, hk, rfl, hf, hv⟩ := hrel
          have HV := hid hv
          clear hv
          obtain ⟨a0, a1, _⟩ := (BA.fr hf).pair
          have hsz : w.heap.size < wr.heap.size := (BA.fr hf).lt
          have hne : w.heap.size ≠ wr.heap.size := by omega
          by_cases hlt : k < es.length
          · obtain ⟨b, o, hA, d0, d1, d2⟩ := HY.out.edge hlt
            have a0' := ((Fr.refl wr).alloc (.cells #[.int .i64 es[k].a, .int .i64 es[k].b, .int .i64 es[k].den] 99)).cell a0
            replace d0 := (F1.trans hf).cell d0
            replace d1 := (F1.trans hf).cell d1
            replace d2 := (F1.trans hf).cell d2
            subst hA
            cases hok : es[k].ok rs.length
            · have NO := hid (show vgraph rs es = false by unfold vgraph; rw [all_no hlt hok]; simp)
              rcases edgeOk_no hok with h | ⟨h, h'⟩ | ⟨h, h', h''⟩ | ⟨h, h', h'', h3⟩ | ⟨h, h', h'', h3, h4⟩
              all_goals go_wp2
              all_goals go_ret
              all_goals exact ⟨ret_bool NO.out.symm, (F1.trans hf).alloc _⟩
            · obtain ⟨h4, h5, h6, h7, h8⟩ := edgeOk_yes hok
              have HO := hid hok
              clear hok
              go_wp2
              go_roundw
              case rel => exact ⟨k + 1, by omega, by go_num, hf.alloc _, fun i h hi => by
                by_cases e : i = k
                · subst e; exact HO.out
                · exact HV.out i h (by omega)⟩
              case measure => simp [intOf]; omega
          · have AE := hid (all_yes (p := Edge.ok rs.length) fun i hi => HV.out i hi (by omega))
            clear HV
            go_wp2
            go_ret
            exact ⟨ret_bool (by unfold vgraph; rw [AR.out, AE.out, HN.out]; rfl), F1.trans hf⟩
  · have NO := hid (show vgraph rs es = false by
      unfold vgraph
      rw [show ((decide (1 ≤ rs.length) && decide (rs.length ≤ 5)) && decide (es.length ≤ 6)) = false by simp; omega]; rfl)
    have hcase : rs.length < 1 ∨ (1 ≤ rs.length ∧ 5 < rs.length) ∨ (1 ≤ rs.length ∧ rs.length ≤ 5 ∧ 6 < es.length) := by omega
    clear hn
    rcases hcase with h | ⟨h, h'⟩ | ⟨h, h', h''⟩
    all_goals go_enter Try.func57, Try.ntmps57
    all_goals go_wp2
    all_goals go_ret
    all_goals exact ⟨ret_bool NO.out.symm, F1⟩
end Go.Proofs.Ytgjbmigplomekaa
