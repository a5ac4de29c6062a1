/- Walks of agree, of the library's IndexFunc and ContainsFunc at facts, and of the closures that candidates hands them. -/
import Derived.Test.YtahclhldpcboeaaGreatDoorFactW
import Derived.Test.YtahclhldpcboeaaGreatDoorAnsP
import Derived.Test.YtahclhldpcboeaaGreatDoorCptI
namespace Go.Proofs.YtahclhldpcboeaaGreatDoor
open Go Go.RowKit

theorem tri (p q : Bool) : (p = false ∧ q = false) ∨ (p = false ∧ q = true) ∨ p = true := by cases p <;> cases q <;> simp
theorem agr_b (a : Atom) (f : Fact) (b : Atom) (g : Fact) : agr a f b g = ((((a.x != b.x) || (f.x == g.x)) && ((a.x != b.y) || (f.x == g.y))) && (((a.y != b.x) || (f.y == g.x)) && ((a.y != b.y) || (f.y == g.y)))) := by
  have e1 : ∀ x y : Int, (!decide (x = y)) = (x != y) := fun x y => by by_cases h : x = y <;> simp [h]
  have e2 : ∀ x y : Int, decide (x = y) = (x == y) := fun x y => by by_cases h : x = y <;> simp [h]
  unfold agr
  rw [e1 a.x b.x, e1 a.x b.y, e1 a.y b.x, e1 a.y b.y, e2 f.x g.x, e2 f.x g.y, e2 f.y g.x, e2 f.y g.y]
set_option maxRecDepth 100000 in
set_option maxHeartbeats 4000000 in
theorem agree (a b : Atom) (f g : Fact) (w : World) :
    Calls Tryz.prog 80 #[.agg #[.int .i64 a.rel, .int .i64 a.x, .int .i64 a.y], .agg #[.int .i64 f.rel, .int .i64 f.x, .int .i64 f.y], .agg #[.int .i64 b.rel, .int .i64 b.x, .int .i64 b.y], .agg #[.int .i64 g.rel, .int .i64 g.x, .int .i64 g.y]] w
      fun e w' => e = .returned (.bool (agr a f b g)) ∧ Fr w w' := by
  rw [agr_b]
  obtain ⟨ar, ax, ay⟩ := a
  obtain ⟨br, bx, bY⟩ := b
  obtain ⟨fr, fx, fy⟩ := f
  obtain ⟨gr, gx, gy⟩ := g
  simp only
  obtain ⟨p1, P1⟩ : ∃ p, (ax != bx) = p := ⟨_, rfl⟩
  obtain ⟨p2, P2⟩ : ∃ p, (ax != bY) = p := ⟨_, rfl⟩
  obtain ⟨p3, P3⟩ : ∃ p, (ay != bx) = p := ⟨_, rfl⟩
  obtain ⟨p4, P4⟩ : ∃ p, (ay != bY) = p := ⟨_, rfl⟩
  obtain ⟨q1, Q1⟩ : ∃ p, (fx == gx) = p := ⟨_, rfl⟩
  obtain ⟨q2, Q2⟩ : ∃ p, (fx == gy) = p := ⟨_, rfl⟩
  obtain ⟨q3, Q3⟩ : ∃ p, (fy == gx) = p := ⟨_, rfl⟩
  obtain ⟨q4, Q4⟩ : ∃ p, (fy == gy) = p := ⟨_, rfl⟩
  rw [P1, P2, P3, P4, Q1, Q2, Q3, Q4]
  have FW : Fr w ((((w.alloc (.cells #[.int .i64 ar, .int .i64 ax, .int .i64 ay] 63)).alloc (.cells #[.int .i64 fr, .int .i64 fx, .int .i64 fy] 54)).alloc (.cells #[.int .i64 br, .int .i64 bx, .int .i64 bY] 63)).alloc (.cells #[.int .i64 gr, .int .i64 gx, .int .i64 gy] 54)) := by (repeat (first | with_reducible exact Fr.refl _ | with_reducible assumption | with_reducible refine Fr.alloc ?_ _ | with_reducible refine Fr.drew ?_ | with_reducible refine Fr.drewN ?_ _ | (with_reducible refine Fr.setNew2 ?_ ?_ _; · (simp <;> omega)) | with_reducible refine Fr.trans ?_ (by assumption)))
  go_enter Tryz.func80, Tryz.ntmps80
  rcases tri p1 q1 with ⟨rfl, rfl⟩ | ⟨rfl, rfl⟩ | rfl
  · go_wp2
    go_ret
    exact ⟨by simp, FW⟩
  · rcases tri p2 q2 with ⟨rfl, rfl⟩ | ⟨rfl, rfl⟩ | rfl
    · go_wp2
      go_ret
      exact ⟨by simp, FW⟩
    · rcases tri p3 q3 with ⟨rfl, rfl⟩ | ⟨rfl, rfl⟩ | rfl
      · go_wp2
        go_ret
        exact ⟨by simp, FW⟩
      · rcases tri p4 q4 with ⟨rfl, rfl⟩ | ⟨rfl, rfl⟩ | rfl
        · go_wp2
          go_ret
          exact ⟨by simp, FW⟩
        · go_wp2
          go_ret
          exact ⟨by simp, FW⟩
        · go_wp2
          go_ret
          exact ⟨by simp, FW⟩
      · rcases tri p4 q4 with ⟨rfl, rfl⟩ | ⟨rfl, rfl⟩ | rfl
        · go_wp2
          go_ret
          exact ⟨by simp, FW⟩
        · go_wp2
          go_ret
          exact ⟨by simp, FW⟩
        · go_wp2
          go_ret
          exact ⟨by simp, FW⟩
    · rcases tri p3 q3 with ⟨rfl, rfl⟩ | ⟨rfl, rfl⟩ | rfl
      · go_wp2
        go_ret
        exact ⟨by simp, FW⟩
      · rcases tri p4 q4 with ⟨rfl, rfl⟩ | ⟨rfl, rfl⟩ | rfl
        · go_wp2
          go_ret
          exact ⟨by simp, FW⟩
        · go_wp2
          go_ret
          exact ⟨by simp, FW⟩
        · go_wp2
          go_ret
          exact ⟨by simp, FW⟩
      · rcases tri p4 q4 with ⟨rfl, rfl⟩ | ⟨rfl, rfl⟩ | rfl
        · go_wp2
          go_ret
          exact ⟨by simp, FW⟩
        · go_wp2
          go_ret
          exact ⟨by simp, FW⟩
        · go_wp2
          go_ret
          exact ⟨by simp, FW⟩
  · rcases tri p2 q2 with ⟨rfl, rfl⟩ | ⟨rfl, rfl⟩ | rfl
    · go_wp2
      go_ret
      exact ⟨by simp, FW⟩
    · rcases tri p3 q3 with ⟨rfl, rfl⟩ | ⟨rfl, rfl⟩ | rfl
      · go_wp2
        go_ret
        exact ⟨by simp, FW⟩
      · rcases tri p4 q4 with ⟨rfl, rfl⟩ | ⟨rfl, rfl⟩ | rfl
        · go_wp2
          go_ret
          exact ⟨by simp, FW⟩
        · go_wp2
          go_ret
          exact ⟨by simp, FW⟩
        · go_wp2
          go_ret
          exact ⟨by simp, FW⟩
      · rcases tri p4 q4 with ⟨rfl, rfl⟩ | ⟨rfl, rfl⟩ | rfl
        · go_wp2
          go_ret
          exact ⟨by simp, FW⟩
        · go_wp2
          go_ret
          exact ⟨by simp, FW⟩
        · go_wp2
          go_ret
          exact ⟨by simp, FW⟩
    · rcases tri p3 q3 with ⟨rfl, rfl⟩ | ⟨rfl, rfl⟩ | rfl
      · go_wp2
        go_ret
        exact ⟨by simp, FW⟩
      · rcases tri p4 q4 with ⟨rfl, rfl⟩ | ⟨rfl, rfl⟩ | rfl
        · go_wp2
          go_ret
          exact ⟨by simp, FW⟩
        · go_wp2
          go_ret
          exact ⟨by simp, FW⟩
        · go_wp2
          go_ret
          exact ⟨by simp, FW⟩
      · rcases tri p4 q4 with ⟨rfl, rfl⟩ | ⟨rfl, rfl⟩ | rfl
        · go_wp2
          go_ret
          exact ⟨by simp, FW⟩
        · go_wp2
          go_ret
          exact ⟨by simp, FW⟩
        · go_wp2
          go_ret
          exact ⟨by simp, FW⟩
/-- The first place at which p holds, or -1. -/
def Ix (p : Fact → Bool) (xs : List Fact) (r : Int) : Prop := (∃ (k : Nat) (h : k < xs.length), r = k ∧ p xs[k] = true ∧ ∀ j (hj : j < xs.length), j < k → p xs[j] = false) ∨ (r = -1 ∧ ∀ j (hj : j < xs.length), p xs[j] = false)
set_option maxRecDepth 100000 in
set_option maxHeartbeats 2000000 in
theorem indexFuncF (gn : Nat) (cb : Array Value) (eg : ∀ args w, (callFunc gn args).run Tryz.prog w = .ok (.enter gn args) w) (p : Fact → Bool) (A : Option Addr) (c : Nat) (xs : List Fact) (w : World) (hx : RdSl rdFact w.cell? 3 A xs) (hl : xs.length ≤ 1048576)
    (hp : ∀ W x, Fr w W → Calls Tryz.prog gn (#[.agg #[.int .i64 x.rel, .int .i64 x.x, .int .i64 x.y]] ++ cb) W fun e w' => e = .returned (.bool (p x)) ∧ Fr W w') :
    Calls Tryz.prog 96 #[.slice A xs.length c, .func (.func gn) #[] cb] w fun e w' => (∃ r : Int, e = .returned (.int .i64 r) ∧ Ix p xs r) ∧ Fr w w' := by
  have HX := hid hx
  have HP := hid hp
  clear hx hp
  go_enter Tryz.func96, Tryz.ntmps96
  go_wp2
  go_loopw [5, 8] (fun _ t wr => ∃ k : Nat, k ≤ xs.length ∧ t = .int .i64 k ∧ Hid (Fr w wr) ∧ Hid (∀ j (hj : j < xs.length), j < k → p xs[j] = false)) (fun _ t _ => xs.length - (intOf t).toNat)
  case atStart => exact ⟨0, by omega, rfl, hid (Fr.refl _), hid (fun j hj h => by omega)⟩
  case round =>
    obtain ⟨k, hk, rfl, hF, hN⟩ := hrel
    by_cases hlt : k < xs.length
    · obtain ⟨fb, fo, hA, f0, f1, f2⟩ := HX.out.fact hlt
      subst hA
      replace f0 := hF.out.cell f0
      replace f1 := hF.out.cell f1
      replace f2 := hF.out.cell f2
      obtain ⟨x, ex⟩ : ∃ x, xs[k] = x := ⟨_, rfl⟩
      rw [ex] at f0 f1 f2
      have hcall := HP.out wr x hF.out
      have E := hid ex
      clear ex
      cases hq : p x
      · rw [hq] at hcall
        have HN := hid (show ∀ j (hj : j < xs.length), j < k + 1 → p xs[j] = false from fun j hj h => by
          by_cases e : j = k
          · subst e; rw [E.out]; exact hq
          · exact hN.out j hj (by omega))
        clear hq hN
        go_wp2_with fail
        refine hcall.mono ?_
        rintro e w' ⟨rfl, hb'⟩
        clear hcall
        go_wp2
        have HF := hid (hF.out.trans hb')
        go_roundw
        case rel => exact ⟨k + 1, by omega, by go_num, HF, HN⟩
        case measure => simp [intOf]; omega
      · rw [hq] at hcall
        have RES := hid (show Ix p xs (k : Int) from .inl ⟨k, hlt, rfl, by rw [E.out]; exact hq, hN.out⟩)
        clear hq
        go_wp2_with fail
        refine hcall.mono ?_
        rintro e w' ⟨rfl, hb'⟩
        clear hcall
        go_wp2
        go_ret
        exact ⟨⟨_, rfl, RES.out⟩, hF.out.trans hb'⟩
    · have RES := hid (show Ix p xs (-1) from .inr ⟨rfl, fun j hj => hN.out j hj (by omega)⟩)
      obtain rfl : k = xs.length := by omega
      go_wp2
      go_ret
      exact ⟨⟨_, rfl, RES.out⟩, hF.out⟩
theorem Ix.any {p : Fact → Bool} {xs : List Fact} {r : Int} (h : Ix p xs r) : decide (0 ≤ r) = xs.any p := by
  rcases h with ⟨k, hk, rfl, h1, _⟩ | ⟨rfl, h1⟩
  · rw [decide_eq_true (by omega)]
    symm
    rw [List.any_eq_true]
    exact ⟨_, List.getElem_mem hk, h1⟩
  · rw [decide_eq_false (by omega)]
    symm
    rw [List.any_eq_false]
    intro x hx
    obtain ⟨j, hj, rfl⟩ := List.getElem_of_mem hx
    rw [h1 j hj]
    simp
set_option maxRecDepth 100000 in
set_option maxHeartbeats 2000000 in
theorem containsFuncF (gn : Nat) (cb : Array Value) (eg : ∀ args w, (callFunc gn args).run Tryz.prog w = .ok (.enter gn args) w) (p : Fact → Bool) (A : Option Addr) (c : Nat) (xs : List Fact) (w : World) (hx : RdSl rdFact w.cell? 3 A xs) (hl : xs.length ≤ 1048576)
    (hp : ∀ W x, Fr w W → Calls Tryz.prog gn (#[.agg #[.int .i64 x.rel, .int .i64 x.x, .int .i64 x.y]] ++ cb) W fun e w' => e = .returned (.bool (p x)) ∧ Fr W w') :
    Calls Tryz.prog 78 #[.slice A xs.length c, .func (.func gn) #[] cb] w fun e w' => e = .returned (.bool (xs.any p)) ∧ Fr w w' := by
  have HC := hid (indexFuncF gn cb eg p A c xs w hx hl hp)
  obtain ⟨b, eb⟩ : ∃ b, xs.any p = b := ⟨_, rfl⟩
  have EB := hid eb
  rw [eb]
  clear hx hp eb
  go_enter Tryz.func78, Tryz.ntmps78
  go_wp2_with fail
  refine HC.out.mono ?_
  rintro e w' ⟨⟨r, rfl, hr⟩, hb'⟩
  have e0 : decide (0 ≤ r) = b := by rw [hr.any]; exact EB.out
  clear hr
  go_wp2
  go_ret
  exact ⟨rfl, hb'⟩
set_option maxRecDepth 100000 in
set_option maxHeartbeats 2000000 in
/-- The inner closure: do two facts agree? -/
theorem cand11 (a b : Atom) (f g : Fact) (ba bf bb : Nat) (w : World) (hA : Blk w ba 63 #[.int .i64 a.rel, .int .i64 a.x, .int .i64 a.y]) (hF : Blk w bf 54 #[.int .i64 f.rel, .int .i64 f.x, .int .i64 f.y]) (hB : Blk w bb 63 #[.int .i64 b.rel, .int .i64 b.x, .int .i64 b.y]) :
    Calls Tryz.prog 79 #[.agg #[.int .i64 g.rel, .int .i64 g.x, .int .i64 g.y], .pointer (some ⟨ba, 0, none⟩), .pointer (some ⟨bf, 0, none⟩), .pointer (some ⟨bb, 0, none⟩)] w fun e w' => e = .returned (.bool (agr a f b g)) ∧ Fr w w' := by
  have G : Fr w (w.alloc (.cells #[.int .i64 g.rel, .int .i64 g.x, .int .i64 g.y] 54)) := (Fr.refl _).alloc _
  obtain ⟨a0, a1, a2, _⟩ := (hA.fr G).three
  obtain ⟨f0, f1, f2, _⟩ := (hF.fr G).three
  obtain ⟨b0, b1, b2, _⟩ := (hB.fr G).three
  obtain ⟨g0, g1, g2, _⟩ := (Blk.new w 54 #[.int .i64 g.rel, .int .i64 g.x, .int .i64 g.y]).three
  have la := hA.lt
  have lf := hF.lt
  have lb := hB.lt
  clear hA hF hB
  go_enter Tryz.func79, Tryz.ntmps79
  go_wp2_with fail
  refine (agree a b f g _).mono ?_
  rintro e w' ⟨rfl, hb'⟩
  go_wp2
  go_ret
  exact ⟨rfl, G.trans hb'⟩
/- Walk of the library's DeleteFunc at facts. -/

/-- What DeleteFunc leaves: the facts of which p does not hold, in the row where they lay. -/
def Del (w0 : World) (g sz cap : Nat) (ds : List Fact) (e : Ending) (w : World) : Prop := e = .returned (.slice (some ⟨g, 0, none⟩) ds.length cap) ∧ (∃ cs, Blk w g 54 cs ∧ cs.size = sz ∧ FAt cs ds) ∧ Ch (· = g) w0 w
theorem filter_none {p : Fact → Bool} {xs : List Fact} (h : ∀ j (hj : j < xs.length), p xs[j] = false) : xs.filter (fun x => !p x) = xs := by
  rw [List.filter_eq_self]
  intro x hx
  obtain ⟨j, hj, rfl⟩ := List.getElem_of_mem hx
  rw [h j hj]; rfl
theorem filter_take {p : Fact → Bool} {xs : List Fact} {k : Nat} (hk : k < xs.length) : (xs.take (k + 1)).filter (fun x => !p x) = (xs.take k).filter (fun x => !p x) ++ (if p xs[k] then [] else [xs[k]]) := by
  rw [List.take_succ_eq_append_getElem hk, List.filter_append]
  congr 1
  cases h : p xs[k] <;> simp [h]
theorem filter_upto {p : Fact → Bool} {xs : List Fact} {k : Nat} (hk : k ≤ xs.length) (h : ∀ j (hj : j < xs.length), j < k → p xs[j] = false) : (xs.take k).filter (fun x => !p x) = xs.take k := by
  refine filter_none fun j hj => ?_
  rw [List.length_take] at hj
  rw [List.getElem_take]
  exact h j (by omega) (by omega)
set_option maxRecDepth 100000 in
set_option maxHeartbeats 4000000 in
theorem deleteFuncF (gn : Nat) (cb : Array Value) (eg : ∀ args w, (callFunc gn args).run Tryz.prog w = .ok (.enter gn args) w) (p : Fact → Bool) (g cap sz : Nat) (ys : List Fact) (cs : Array Value) (w : World) (hB : Blk w g 54 cs) (hz : cs.size = sz) (hF : FAt cs ys) (h2 : ys.length ≤ 1000) (hs : ys.length * 3 ≤ sz) (hc : ys.length ≤ cap)
    (hp : ∀ W x, Ch (· = g) w W → Calls Tryz.prog gn (#[.agg #[.int .i64 x.rel, .int .i64 x.x, .int .i64 x.y]] ++ cb) W fun e w' => e = .returned (.bool (p x)) ∧ Fr W w') :
    Calls Tryz.prog 76 #[.slice (some ⟨g, 0, none⟩) ys.length cap, .func (.func gn) #[] cb] w fun r w' => Del w g sz cap (ys.filter fun x => !p x) r w' := by
  have HP := hid hp
  have RX : RdSl rdFact w.cell? 3 (some ⟨g, 0, none⟩) ys := fun _ => ⟨g, 0, rfl, fun i hi => by
    obtain ⟨k0, k1, k2⟩ := hF i hi
    refine ⟨?_, ?_, ?_⟩
    · show w.cell? ⟨g, 0 + i * 3 + 0, none⟩ = _
      rw [hB.cell]; simpa using k0
    · show w.cell? ⟨g, 0 + i * 3 + 1, none⟩ = _
      rw [hB.cell]; simpa using k1
    · show w.cell? ⟨g, 0 + i * 3 + 2, none⟩ = _
      rw [hB.cell]; simpa using k2⟩
  have M0 := hid (show CSt w g sz ys 0 w ys from ⟨⟨cs, hB, hz, hF, fun i hi _ => hF i hi⟩, Ch.refl _⟩)
  have HI := hid (indexFuncF gn cb eg p (some ⟨g, 0, none⟩) cap ys w RX (by omega) fun W x hW => hp W x hW.ch)
  clear hB hF hp RX
  go_enter Tryz.func76, Tryz.ntmps76
  go_wp2_with fail
  refine HI.out.mono ?_
  rintro e w1 ⟨⟨r, rfl, hr⟩, hb1⟩
  have M1 := hid (M0.out.fr hb1)
  clear HI M0 hb1
  rcases hr with ⟨K, hK, rfl, hpK, hN⟩ | ⟨rfl, hN⟩
  · have e1 : ((K : Int) == -1) = false := by rw [beq_eq_false_iff_ne]; omega
    have HPK := hid hpK
    have HN := hid hN
    have MK := hid (show CSt w g sz ys (K + 1) w1 ((ys.take (K + 1)).filter fun x => !p x) ∧ ((ys.take (K + 1)).filter fun x => !p x).length = K from by
      rw [filter_take hK, hpK, filter_upto (by omega) hN]
      simp only [if_true, List.append_nil]
      refine ⟨?_, by rw [List.length_take]; omega⟩
      obtain ⟨⟨cs', k1, k2, k3, k4⟩, k5⟩ := M1.out
      refine ⟨⟨cs', k1, k2, fun i hi => ?_, fun i hi _ => k3 i hi⟩, k5⟩
      simp only [List.length_take] at hi
      rw [List.getElem_take]
      exact k3 i (by omega))
    clear hpK hN M1
    go_wp2
    go_loopw [5, 6] (fun s t wr => ∃ (i j : Nat) (ds : List Fact), K < j ∧ j ≤ ys.length ∧ i < j ∧ s = .int .i64 i ∧ t = .int .i64 j ∧ ds.length = i ∧ Hid (ds = (ys.take j).filter fun x => !p x) ∧ Hid (CSt w g sz ys j wr ds)) (fun _ t _ => ys.length - (intOf t).toNat)
    case atStart => exact ⟨K, K + 1, _, by omega, by omega, by omega, rfl, by go_num, MK.out.2, hid rfl, hid MK.out.1⟩
    case round =>
      clear MK
      obtain ⟨i, j, ds, hKj, hj, hij, rfl, rfl, hdl, hds, hM⟩ := hrel
      by_cases hlt : j < ys.length
      · obtain ⟨a, ea⟩ : ∃ a, fat ys j = a := ⟨_, rfl⟩
        obtain ⟨⟨cs', hB, hz', _, hT⟩, hCW⟩ := hM.out
        obtain ⟨c0, c1, c2⟩ := hT.cells hB (i := j) hlt (by omega) ea (p := j * 3) rfl
        have eaj : ys[j] = a := by rw [← fat_at hlt]; exact ea
        have F1 : Fr wr (wr.alloc (.cells #[.int .i64 a.rel, .int .i64 a.x, .int .i64 a.y] 54)) := (Fr.refl _).alloc _
        have BV := hid (Blk.new wr 54 #[.int .i64 a.rel, .int .i64 a.x, .int .i64 a.y])
        have hcall := HP.out (wr.alloc (.cells #[.int .i64 a.rel, .int .i64 a.x, .int .i64 a.y] 54)) a (hCW.trans F1.ch)
        have ED := hid (filter_take (p := p) hlt)
        rw [eaj] at ED
        clear hT hB hz' hCW ea eaj
        cases hq : p a
        · rw [hq] at hcall
          have M2 := hid (show ∀ wq, Fr wr wq → CSt w g sz ys (j + 1) (((wq.setCell ⟨g, i * 3, none⟩ (.int .i64 a.rel)).setCell ⟨g, i * 3 + 1, none⟩ (.int .i64 a.x)).setCell ⟨g, i * 3 + 2, none⟩ (.int .i64 a.y)) (ds ++ [a]) from fun wq hq => ((hM.out.fr hq).up (by omega)).put hdl (by omega) (by omega))
          have HD := hid (show ds ++ [a] = (ys.take (j + 1)).filter fun x => !p x by rw [ED.out, hq, hds.out]; rfl)
          have CV := hid (show ∀ wq, Fr wr wq → (∃ u0, wq.cell? ⟨g, i * 3, none⟩ = some u0) ∧ (∃ u1, wq.cell? ⟨g, i * 3 + 1, none⟩ = some u1) ∧ (∃ u2, wq.cell? ⟨g, i * 3 + 2, none⟩ = some u2) ∧ wq.frozen? ⟨g, i * 3, none⟩ = false ∧ wq.frozen? ⟨g, i * 3 + 1, none⟩ = false ∧ wq.frozen? ⟨g, i * 3 + 2, none⟩ = false ∧ g < wq.heap.size from fun wq hq => by
            obtain ⟨⟨cs2, hB2, hz2, _, _⟩, _⟩ := hM.out.fr hq
            exact ⟨hB2.cell_some (by omega), hB2.cell_some (by omega), hB2.cell_some (by omega), hB2.frozen _, hB2.frozen _, hB2.frozen _, hB2.lt⟩)
          clear hq hM hds ED
          go_wp2_with fail
          refine hcall.mono ?_
          rintro e w5 ⟨rfl, hb5⟩
          obtain ⟨v0, v1, v2, _⟩ := (BV.out.fr hb5).three
          have F5 := F1.trans hb5
          obtain ⟨⟨u0, x0⟩, ⟨u1, x1⟩, ⟨u2, x2⟩, y0, y1, y2, hgl⟩ := CV.out w5 F5
          have M3 := hid (M2.out w5 F5)
          clear hcall BV CV M2 c0 c1 c2 F1
          go_wp2
          go_roundw
          case rel => exact ⟨i + 1, j + 1, ds ++ [a], by omega, by omega, by omega, by go_num, by go_num, by simp; omega, HD, M3⟩
          case measure => simp [intOf]; omega
        · rw [hq] at hcall
          have HD := hid (show ds = (ys.take (j + 1)).filter fun x => !p x by rw [ED.out, hq, hds.out]; simp)
          clear hq hds ED
          go_wp2_with fail
          refine hcall.mono ?_
          rintro e w5 ⟨rfl, hb5⟩
          have M3 := hid ((hM.out.fr (F1.trans hb5)).up (show j ≤ j + 1 by omega))
          clear hcall BV c0 c1 c2 F1 hM
          go_wp2
          go_roundw
          case rel => exact ⟨i, j + 1, ds, by omega, by omega, by omega, rfl, by go_num, hdl, HD, M3⟩
          case measure => simp [intOf]; omega
      · obtain rfl : j = ys.length := by omega
        obtain ⟨⟨cs', hB, hz', hF', _⟩, hC'⟩ := hM.out
        have hd2 := hds.out
        rw [List.take_length] at hd2
        obtain ⟨w9, cs9, hcl, hB9, hz9, hk9, hC9⟩ := run_clear3 (P := Tryz.prog) wr 27 54 (.agg #[.int .i64 0, .int .i64 0, .int .i64 0]) Tryz.underlying27 (fun _ => by kernel_rfl) rfl (by decide) g (i * 3) (ys.length - i) (cap - i) (by omega) hB (by omega)
        have RES := hid (show Del w g sz cap (ys.filter fun x => !p x) (.returned (.slice (some ⟨g, 0, none⟩) i cap)) w9 from by
          rw [← hd2]
          refine ⟨by rw [hdl], ⟨cs9, hB9, by omega, fun q hq => ?_⟩, hC'.trans hC9⟩
          obtain ⟨k0, k1, k2⟩ := hF' q hq
          exact ⟨(hk9 _ (by omega)).trans k0, (hk9 _ (by omega)).trans k1, (hk9 _ (by omega)).trans k2⟩)
        clear hM hB hF' hB9 hk9 hC9 hC' hz9 hz' hds hd2
        go_wp2
        go_ret
        exact RES.out
  · have RES := hid (show Del w g sz cap (ys.filter fun x => !p x) (.returned (.slice (some ⟨g, 0, none⟩) ys.length cap)) w1 from by
      rw [filter_none hN]
      obtain ⟨⟨cs', k1, k2, k3, _⟩, k5⟩ := M1.out
      exact ⟨rfl, ⟨cs', k1, k2, k3⟩, k5⟩)
    clear hN M1
    go_wp2
    go_ret
    exact RES.out
set_option maxRecDepth 100000 in
set_option maxHeartbeats 2000000 in
/-- At no facts. -/
theorem deleteFuncN (gn : Nat) (cb : Array Value) (eg : ∀ args w, (callFunc gn args).run Tryz.prog w = .ok (.enter gn args) w) (p : Fact → Bool) (A : Option Addr) (cap : Nat) (w : World)
    (hp : ∀ W x, Fr w W → Calls Tryz.prog gn (#[.agg #[.int .i64 x.rel, .int .i64 x.x, .int .i64 x.y]] ++ cb) W fun e w' => e = .returned (.bool (p x)) ∧ Fr W w') :
    Calls Tryz.prog 76 #[.slice A 0 cap, .func (.func gn) #[] cb] w fun r w' => r = .returned (.slice A 0 cap) ∧ Fr w w' := by
  have HI := hid (indexFuncF gn cb eg p A cap [] w RdSl.nil (by simp) hp)
  clear hp
  go_enter Tryz.func76, Tryz.ntmps76
  go_wp2_with fail
  refine HI.out.mono ?_
  rintro e w1 ⟨⟨r, rfl, hr⟩, hb1⟩
  rcases hr with ⟨K, hK, _⟩ | ⟨rfl, _⟩
  · simp at hK
  · go_wp2
    go_ret
    exact ⟨rfl, hb1⟩
end Go.Proofs.YtahclhldpcboeaaGreatDoor
