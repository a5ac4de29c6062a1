/- Walks of the functions on facts. -/
import Derived.Test.YtahclhldpcboeaaDoorRelP
import Derived.Test.YtahclhldpcboeaaDoorMemQ
import Derived.Deep.RegionWith
import Derived.Deep.RegionHeld3
namespace Go.Proofs.YtahclhldpcboeaaDoor
open Go Go.RowKit

theorem factLess (r x y r' x' y' : Int) (w : World) :
    Calls Tryd.prog 85 #[.agg #[.int .i64 r, .int .i64 x, .int .i64 y], .agg #[.int .i64 r', .int .i64 x', .int .i64 y']] w fun e w' => e = .returned (.bool (Fact.less ⟨r, x, y⟩ ⟨r', x', y'⟩)) ∧ Fr w w' := by
  go_enter Tryd.func85, Tryd.ntmps85
  go_wp2
  all_goals go_ret
  all_goals exact ⟨ret_bool (by simp_all [Fact.less]), by (repeat (first | with_reducible exact Fr.refl _ | with_reducible assumption | with_reducible refine Fr.alloc ?_ _ | with_reducible refine Fr.drew ?_ | with_reducible refine Fr.drewN ?_ _ | (with_reducible refine Fr.setNew2 ?_ ?_ _; · (simp <;> omega)) | with_reducible refine Fr.trans ?_ (by assumption)))⟩

def firstNZ (xs : List Int) : Int := (xs.find? (· != 0)).getD 0
theorem firstNZ_at {xs : List Int} {k : Nat} (hk : k < xs.length) (h0 : ∀ i (h : i < xs.length), i < k → xs[i] = 0) (hn : xs[k] ≠ 0) : firstNZ xs = xs[k] := by
  unfold firstNZ
  rw [List.find?_eq_some_iff_getElem.2 ⟨by simpa using hn, k, hk, rfl, fun j hj => by simpa using h0 j (by omega) hj⟩]
  rfl
theorem firstNZ_none {xs : List Int} (h0 : ∀ i (h : i < xs.length), xs[i] = 0) : firstNZ xs = 0 := by
  unfold firstNZ
  rw [List.find?_eq_none.2 fun x hx => by
    obtain ⟨i, hi, rfl⟩ := List.getElem_of_mem hx
    simp [h0 i hi]]
  rfl
theorem cmpOr (A : Option Addr) (cap : Nat) (xs : List Int) (w : World) (hx : RdSl rdInt w.cell? 1 A xs) (hl : xs.length ≤ 1048576) :
    Calls Tryd.prog 90 #[.slice A xs.length cap] w fun e w' => e = .returned (.int .i64 (firstNZ xs)) ∧ w = w' := by
  have HX := hid hx
  clear hx
  go_enter Tryd.func90, Tryd.ntmps90
  go_wp2
  go_loopw [8] (fun t wr => ∃ (k : Nat), k ≤ xs.length ∧ t = .int .i64 k ∧ w = wr ∧ ∀ i (h : i < xs.length), i < k → xs[i] = 0) (fun t _ => xs.length - (intOf t).toNat)
  case atStart => exact ⟨0, by omega, rfl, rfl, fun i h h' => absurd h' (by omega)⟩
  case round =>
    obtain ⟨k, hk, rfl, rfl, hv⟩ := hrel
    have HV := hid hv
    clear hv
    by_cases hlt : k < xs.length
    · obtain ⟨b, o, rfl, c0⟩ := HX.out.at_ hlt
      simp only [rdInt, Nat.mul_one, Nat.add_zero] at c0
      cases hE : xs[k] != 0
      · go_wp2
        go_roundw
        case rel => exact ⟨k + 1, by omega, by go_num, trivial, fun i h hi => by
          by_cases e : i = k
          · subst e; simpa using hE
          · exact HV.out i h (by omega)⟩
        case measure => simp [intOf]; omega
      · go_wp2
        go_ret
        exact ⟨ret_int (firstNZ_at hlt HV.out (by simpa using hE)).symm, rfl⟩
    · go_wp2
      go_ret
      exact ⟨ret_int (firstNZ_none fun i h => HV.out i h (by omega)).symm, rfl⟩

theorem fnz3 (x y z : Int) : firstNZ [x, y, z] = if x = 0 then (if y = 0 then z else y) else x := by
  unfold firstNZ
  by_cases h1 : x = 0 <;> by_cases h2 : y = 0 <;> by_cases h3 : z = 0 <;> simp [h1, h2, h3]
theorem icmp_zero {a b : Int} : icmp a b = 0 ↔ a = b := by
  unfold icmp
  split
  · constructor <;> intro h <;> omega
  · split
    · constructor <;> intro h <;> omega
    · constructor <;> intro h <;> omega
theorem cmp3 (a b : Fact) : firstNZ [icmp a.rel b.rel, icmp a.x b.x, icmp a.y b.y] = a.cmp b := by
  rw [fnz3]
  simp only [Fact.cmp, icmp_zero]
theorem factCmp (r x y r' x' y' : Int) (w : World) :
    Calls Tryd.prog 81 #[.agg #[.int .i64 r, .int .i64 x, .int .i64 y], .agg #[.int .i64 r', .int .i64 x', .int .i64 y']] w fun e w' => e = .returned (.int .i64 (Fact.cmp ⟨r, x, y⟩ ⟨r', x', y'⟩)) ∧ Fr w w' := by
  have A0 := (Blk.new w 97 #[.int .i64 r, .int .i64 x, .int .i64 y]).alloc (.cells #[.int .i64 r', .int .i64 x', .int .i64 y'] 97)
  have B0 := Blk.new (w.alloc (.cells #[.int .i64 r, .int .i64 x, .int .i64 y] 97)) 97 #[.int .i64 r', .int .i64 x', .int .i64 y']
  have F0 : Fr w ((w.alloc (.cells #[.int .i64 r, .int .i64 x, .int .i64 y] 97)).alloc (.cells #[.int .i64 r', .int .i64 x', .int .i64 y'] 97)) := ((Fr.refl _).alloc _).alloc _
  rw [World.size_alloc] at B0
  have c0 := A0.at_ (Fr.refl _) (i := 0) rfl
  have c1 := A0.at_ (Fr.refl _) (i := 1) rfl
  have c2 := A0.at_ (Fr.refl _) (i := 2) rfl
  have d0 := B0.at_ (Fr.refl _) (i := 0) rfl
  have d1 := B0.at_ (Fr.refl _) (i := 1) rfl
  have d2 := B0.at_ (Fr.refl _) (i := 2) rfl
  clear A0 B0
  go_enter Tryd.func81, Tryd.ntmps81
  go_wp2_with fail
  generalize (w.alloc (.cells #[.int .i64 r, .int .i64 x, .int .i64 y] 97)).alloc (.cells #[.int .i64 r', .int .i64 x', .int .i64 y'] 97) = W at c0 c1 c2 d0 d1 d2 F0 ⊢
  (refine wp_region_quiet_tail (fun w' => Fr _ w') 15 (by kernel_rfl) (by kernel_rfl) (Fr.refl _).drew ?_; simp only [List.take_succ_cons, List.take_zero, List.drop_succ_cons, List.drop_zero]; (repeat go_big_quiet_step (first | exact fun _ => rfl | exact fun _ => ⟨rfl, rfl⟩ | (intro hw'; replace c0 := hw'.cell c0; replace c1 := hw'.cell c1; replace c2 := hw'.cell c2; replace d0 := hw'.cell d0; replace d1 := hw'.cell d1; replace d2 := hw'.cell d2; go_simp; first | done | exact rfl | exact ⟨rfl, rfl⟩) | (intro hw'; go_at_call 91; refine (cmpInt _ _ _).mono ?_; rintro e w1 ⟨rfl, rfl⟩; exact ⟨rfl, hw'⟩))); refine wpQuiet_nil ?_; intro wq hq)
  go_wp2_with fail
  have hB := Blk.new wq 3 #[.int .i64 (icmp r r'), .int .i64 (icmp x x'), .int .i64 (icmp y y')]
  refine (cmpOr (some ⟨wq.heap.size, 0, none⟩) 3 [icmp r r', icmp x x', icmp y y'] _ (fun _ => ⟨_, 0, rfl, fun i hi => ?_⟩) (by simp)).mono ?_
  · have hi' : i < 3 := hi
    rcases i with _ | _ | _ | i
    · exact hB.cell 0
    · exact hB.cell 1
    · exact hB.cell 2
    · omega
  rintro e w1 ⟨rfl, rfl⟩
  go_wp2
  go_ret
  exact ⟨ret_int (cmp3 ⟨r, x, y⟩ ⟨r', x', y'⟩), (F0.trans hq).alloc _⟩

end Go.Proofs.YtahclhldpcboeaaDoor
