/- Walks of the generators of the dependency laws. -/
import Derived.Test.YtabbcepdinplfaaDepG
import Derived.Deep.RegionWith
namespace Go.Proofs.Ytabbcepdinplfaa
open Go Go.RowKit

def DrewSet (w : World) (e : Ending) (w' : World) : Prop := ∃ A cap, ∃ xs : List Dep, ∃ wd s : Int, e = .returned (.tuple #[.slice A xs.length cap, .int .i64 wd, .int .i64 s]) ∧ xs.length ≤ 8 ∧ RdSl rdDep w'.cell? 2 A xs ∧ 0 ≤ wd ∧ wd ≤ 7 ∧ -1 ≤ s ∧ s ≤ 64 ∧ Fr w w'
theorem drawClosureOf (A : Option Addr) (cap : Nat) (xs : List Nat) (w : World) (hx : RdSl rdByte w.cell? 1 A xs) (hl : xs.length ≤ 1048576) (hc : xs.length ≤ cap) :
    Calls Try.prog 42 #[.slice A xs.length cap] w (DrewSet w) := by
  have H := hid hx
  clear hx
  go_enter Try.func42, Try.ntmps42
  go_wp2_with fail
  refine (newReader _ _ _ _ H.out hl hc).mono ?_
  rintro e w1 ⟨r, rfl, hr, hr1, b1⟩
  go_wp2_with fail
  refine (someDependencies _ _ _ hr1 (by omega)).mono ?_
  rintro e w2 ⟨A2, c2, ys, wd, rfl, hys, y2, d0, d7, p2, hp2, hr2, hc2⟩
  have hlt := hr1.lt
  have Y2 := hid y2
  clear y2
  go_wp2_with fail
  refine (someSet _ _ _ _ hr2 (by omega) d0 d7).mono ?_
  rintro e w3 ⟨s, rfl, s1, s2, p3, hp3, hr3, hc3⟩
  go_wp2
  refine bodyPost_ret (v := .tuple #[.slice A2 ys.length c2, .int .i64 wd, .int .i64 s]) (by simp [results, Try.results42, go_sem]) rfl ⟨A2, c2, ys, wd, s, rfl, hys, (Y2.out.mono rdDep_mono (hc3.mle_from (fun k hk => by have : k = r := hk; omega))).mono rdDep_mono (fromB_le _ _), d0, d7, s1, s2, (hc2.trans hc3).fr (fun k hk => by have : k = r := hk; omega) b1⟩
theorem drawDerivation (A : Option Addr) (cap : Nat) (xs : List Nat) (w : World) (hx : RdSl rdByte w.cell? 1 A xs) (hl : xs.length ≤ 1048576) (hc : xs.length ≤ cap) :
    Calls Try.prog 49 #[.slice A xs.length cap] w (DrewSet w) := by
  have H := hid hx
  clear hx
  go_enter Try.func49, Try.ntmps49
  go_wp2_with fail
  refine (drawClosureOf _ _ _ _ H.out hl hc).mono ?_
  rintro e w1 ⟨A2, c2, ys, wd, s, rfl, h⟩
  go_wp2
  refine bodyPost_ret (v := .tuple #[.slice A2 ys.length c2, .int .i64 wd, .int .i64 s]) (by simp [results, Try.results49, go_sem]) rfl ⟨A2, c2, ys, wd, s, rfl, h⟩
def DrewDep (w : World) (e : Ending) (w' : World) : Prop := ∃ A cap, ∃ xs : List Dep, ∃ wd x y : Int, e = .returned (.tuple #[.slice A xs.length cap, .int .i64 wd, .agg #[.int .i64 x, .int .i64 y]]) ∧ xs.length ≤ 8 ∧ RdSl rdDep w'.cell? 2 A xs ∧ 0 ≤ wd ∧ wd ≤ 7 ∧ -1 ≤ x ∧ x ≤ 64 ∧ -1 ≤ y ∧ y ≤ 64 ∧ Fr w w'
theorem drawImplies (A : Option Addr) (cap : Nat) (xs : List Nat) (w : World) (hx : RdSl rdByte w.cell? 1 A xs) (hl : xs.length ≤ 1048576) (hc : xs.length ≤ cap) :
    Calls Try.prog 43 #[.slice A xs.length cap] w (DrewDep w) := by
  have H := hid hx
  clear hx
  have hR0 := hid (Blk.new w 56 #[.int .i64 0, .int .i64 0])
  have F0 : Hid (Fr w (w.alloc (.cells #[.int .i64 0, .int .i64 0] 56))) := hid ((Fr.refl _).alloc _)
  go_enter Try.func43, Try.ntmps43
  go_wp2_with fail
  refine (newReader _ _ _ _ (H.out.fr rdByte_mono F0.out) hl hc).mono ?_
  rintro e w1 ⟨r, rfl, hr, hr1, b1⟩
  have hlt := hr1.lt
  have hsz : w.heap.size < r := by simp only [World.size_alloc] at hr; omega
  go_wp2_with fail
  refine (someDependencies _ _ _ hr1 (by omega)).mono ?_
  rintro e w2 ⟨A2, c2, ys, wd, rfl, hys, y2, d0, d7, p2, hp2, hr2, hc2⟩
  have Y2 := hid y2
  clear y2
  go_wp2_with fail
  refine (someSet _ _ _ _ hr2 (by omega) d0 d7).mono ?_
  rintro e w3 ⟨x, rfl, s1, s2, p3, hp3, hr3, hc3⟩
  go_wp2_with fail
  refine (someSet _ _ _ _ hr3 (by omega) d0 d7).mono ?_
  rintro e w4 ⟨y, rfl, t1, t2, p4, hp4, hr4, hc4⟩
  have hC := (hc2.trans hc3).trans hc4
  have Y4 := hid (Y2.out.mono rdDep_mono ((hc3.trans hc4).mle_from (fun k hk => by have : k = r := hk; omega)))
  have R4 := hid (Blk.ch (S := (· = r)) (hR0.out.fr b1) hC (by show ¬ (_ = r); omega))
  have hs4 := (R4.out).lt
  have hs1 : w.heap.size < w1.heap.size := by omega
  have F4 := hid (hC.fr (fun k hk => by have : k = r := hk; omega) (F0.out.trans b1))
  obtain ⟨c0, c1, f0, f1⟩ := R4.out.two
  clear hR0 F0 b1 hc2 hc3 hc4 hC H
  go_wp2_with fail
  go_region
  go_wp2
  have RR := ((((R4.out.set_ 0 (.int .i64 x)).set_ 1 (.int .i64 y)).alloc (.cells #[.int .i64 x, .int .i64 y] 56)).drew).two
  have CC : Ch (· = w.heap.size) w4 (((w4.setCell ⟨w.heap.size, 0, none⟩ (.int .i64 x)).setCell ⟨w.heap.size, 1, none⟩ (.int .i64 y)).alloc (.cells #[.int .i64 x, .int .i64 y] 56)).drew := by
    have C1 : Ch (· = w.heap.size) w4 (w4.setCell ⟨w.heap.size, 0, none⟩ (.int .i64 x)) := Ch.set (S := (· = w.heap.size)) (Ch.refl w4) (.inl rfl) _
    have C2 : Ch (· = w.heap.size) w4 ((w4.setCell ⟨w.heap.size, 0, none⟩ (.int .i64 x)).setCell ⟨w.heap.size, 1, none⟩ (.int .i64 y)) := Ch.set (S := (· = w.heap.size)) C1 (.inl rfl) _
    exact (C2.alloc _).drew
  refine bodyPost_ret (v := .tuple #[.slice A2 ys.length c2, .int .i64 wd, .agg #[.int .i64 x, .int .i64 y]]) ?_ rfl ⟨A2, c2, ys, wd, x, y, rfl, hys, (Y4.out.mono rdDep_mono (CC.mle_from (fun k hk => by have : k = w.heap.size := hk; omega))).mono rdDep_mono (fromB_le _ _), d0, d7, s1, s2, t1, t2, CC.fr (fun k hk => by have : k = w.heap.size := hk; omega) F4.out⟩
  obtain ⟨q0, q1, -, -⟩ := RR
  simp only [results, Try.results43, go_sem]
  simp [q0, q1, go_sem]
end Go.Proofs.Ytabbcepdinplfaa
