/- Walks of the generators of dependencies. -/
import Derived.Test.YtabbcepdinplfaaGen
import Derived.Test.YtabbcepdinplfaaMem2
import Derived.Test.YtabbcepdinplfaaDepP
import Derived.Deep.RegionHeld3
namespace Go.Proofs.Ytabbcepdinplfaa
open Go Go.RowKit

def depCells (d : Dep) : List Value := [iv d.fr, iv d.to]
def DrawnDeps (K r p : Nat) (w : World) (e : Ending) (w' : World) : Prop := ∃ A cap, ∃ xs : List Dep, ∃ wd : Int, e = .returned (.tuple #[.slice A xs.length cap, .int .i64 wd]) ∧ xs.length ≤ 8 ∧ RdSl rdDep (fromB w' w.heap.size) 2 A xs ∧ 0 ≤ wd ∧ wd ≤ 7 ∧ Drawn K r p w w'
theorem own_dep {w : World} {base e n cap : Nat} {A : Option Addr} {xs : List Dep} (h : w.ownsRow base e 2 (.slice A n cap) n (xs.flatMap depCells)) (hn : n = xs.length) : RdSl rdDep (fromB w base) 2 A xs :=
  own_rd h hn (fun _ => rfl) fun m c x hc => ⟨hc 0 (by simp [depCells]), hc 1 (by simp [depCells])⟩
theorem own_drew {w : World} {base e sz n : Nat} {v : Value} {xs : List Value} (h : w.ownsRow base e sz v n xs) : w.drew.ownsRow base e sz v n xs := own_fr h (Fr.refl w).drew
/-- What is the call's own stays while the reader's block, which is none of it, is written. -/
theorem own_ch {w w' : World} {r base e sz n : Nat} {v : Value} {xs : List Value} (h : w.ownsRow base e sz v n xs) (hc : Ch (· = r) w w') (hr : r < base) : w'.ownsRow base e sz v n xs := by
  refine ⟨h.1, ?_⟩
  rcases h.2 with h | ⟨g, cap, cur, hv, hg, hh, hrest⟩
  · exact .inl h
  · exact .inr ⟨g, cap, cur, hv, hg, (Blk.ch (S := (· = r)) (show Blk w g e cur from hh) hc (by omega)), hrest⟩
theorem own_blk {w : World} {base e sz n : Nat} {v : Value} {xs : List Value} (h : w.ownsRow base e sz v n xs) : ∀ k, v.ownBlock = some k → base ≤ k := by
  intro k hk
  rcases h.2 with ⟨rfl, _⟩ | ⟨g, cap, cur, rfl, hg, _⟩
  · cases hk
  · simp only [Value.ownBlock, Option.some.injEq] at hk; omega

set_option maxRecDepth 100000 in
set_option maxHeartbeats 1000000 in
theorem someDependencies (r p : Nat) (w : World) (hr : Rdr w r p) (hp : p ≤ 1000000) :
    Calls Try.prog 73 #[.pointer (some ⟨r, 0, none⟩)] w (DrawnDeps 40 r p w) := by
  have hlt := hr.lt
  go_enter Try.func73, Try.ntmps73
  go_wp2_with fail
  refine (pick _ _ _ _ hr (by omega) (by omega)).mono ?_
  rintro e w1 ⟨v, rfl, hv, hr1, hc1⟩
  have hv5 : v < 5 := by omega
  clear hv hr
  have hs1 := hc1.size
  have hO1 := hid (own_empty (w := w1) (base := w.heap.size) (e := 56) (sz := 2) hc1.size)
  go_wp2_with fail
  refine (pick _ _ _ _ (hr1.alloc _) (by omega) (by omega)).mono ?_
  rintro e w2 ⟨n, rfl, hn, hr2, hc2⟩
  have hn6 : n < 6 := by omega
  clear hn hr1
  have hO2 := own_ch hO1.out hc2 hlt
  have hC2 := (hc1.alloc _).trans hc2
  have W1 : IntKind.i64.wrap (1 + (v : Int)) = 1 + (v : Int) := IntWalk.i64_in _ (by omega)
  obtain ⟨k2, hk2, W2⟩ : ∃ k : Nat, k ≤ 64 ∧ IntKind.i64.wrap (2 ^ (1 + (v : Int)).toNat) = (k : Int) := by
    have : v = 0 ∨ v = 1 ∨ v = 2 ∨ v = 3 ∨ v = 4 := by omega
    rcases this with rfl | rfl | rfl | rfl | rfl
    · exact ⟨2, by decide, by decide⟩
    · exact ⟨4, by decide, by decide⟩
    · exact ⟨8, by decide, by decide⟩
    · exact ⟨16, by decide, by decide⟩
    · exact ⟨32, by decide, by decide⟩
  go_wp2
  go_loopw [5, 6] (fun o c wr => ∃ (m p' : Nat) (q : List Dep), c = .int .i64 m ∧ m ≤ 6 ∧ q.length + m ≤ 6 ∧ p' + 2 * m ≤ p + 20 ∧ Rdr wr r p' ∧ Ch (· = r) w wr ∧ wr.ownsRow w.heap.size 56 2 o q.length (q.flatMap depCells)) (fun _ c _ => (intOf c).toNat)
  case atStart => exact ⟨n, p + 2, [], rfl, by omega, by simp; omega, by omega, hr2, hC2, hO2⟩
  case round =>
    obtain ⟨m, p', q, rfl, hm6, hqm, hpm, hrr, hC, hO⟩ := hrel
    have hsr := hC.size
    by_cases hm : 0 < m
    · have hg : decide ((0 : Int) < (m : Int)) = true := by simp; omega
      have hrd := hrr.drew
      have hOd := hid (own_drew hO)
      clear hO
      go_wp2_with fail
      go_region_held3 (fun _ => True) (trivial)
        (first
          | (go_at_call 76; refine (pick _ _ _ _ hr3 (by omega) (by omega)).mono ?_; rintro e w4 ⟨y, rfl, hy, hr4, hc4⟩; have hO4 := own_ch (own_ch hOd.out hc3 hlt) hc4 hlt; have hC4 := (hC.drew.trans hc3).trans hc4; have hs4 := hC4.size)
          | (go_at_call 76; refine (pick _ _ _ _ hrd (by omega) (by omega)).mono ?_; rintro e w3 ⟨x, rfl, hx, hr3, hc3⟩)
          | (refine step_app1 rfl _ _ 34 rfl w.heap.size 56 (.agg #[.int .i64 0, .int .i64 0]) 2 16 Try.underlying34 (by kernel_rfl) rfl (by decide) (by decide) _ _ _ rfl (hO4.alloc _) (by omega) (by simp; omega) w4.heap.size (depCells ⟨x, y⟩) rfl (blk_new (by simp)) rfl rfl ?_; intro v5 w5 hO5 hg5))
      have HB := hid (own_blk (hO4.alloc (.cells #[.int .i64 x, .int .i64 y] 56)))
      go_wp2
      go_roundw
      case rel => exact ⟨m - 1, p' + 2, q ++ [⟨x, y⟩], by congr 1; omega, by omega, by simp; omega, by omega, (hr4.alloc _).grown hg5 (fun k hk => by have := HB.out k hk; omega), (hC4.alloc _).grown hg5 HB.out, by simpa [depCells] using hO5⟩
      case measure => simp [intOf]; omega
    · have hg : decide ((0 : Int) < (m : Int)) = false := by simp; omega
      go_wp2_with fail
      refine (pick _ _ _ _ hrr (by omega) (by omega)).mono ?_
      rintro e w3 ⟨x, rfl, hx, hr3, hc3⟩
      have hO3 := hid (own_ch hO hc3 hlt)
      have hC3 := hC.trans hc3
      have hs3 := hC3.size
      clear hO hx
      cases e0 : ((x : Int) == 0)
      · cases e1 : ((x : Int) == 1)
        · go_wp2
          go_ret2
          obtain ⟨A, cap, rfl⟩ := own_form hO3.out
          exact ⟨A, cap, q, 1 + (v : Int), rfl, by omega, own_dep hO3.out rfl, by omega, by omega, p' + 1, by omega, hr3, hC3⟩
        · have HB := hid (own_blk (hO3.out.alloc (.cells #[.int .i64 (-1), .int .i64 1] 56)))
          go_wp2_with (at_builtin; refine wp_app1 rfl _ _ 34 rfl w.heap.size 56 (.agg #[.int .i64 0, .int .i64 0]) 2 16 Try.underlying34 (by kernel_rfl) rfl (by decide) (by decide) _ _ _ rfl (hO3.out.alloc _) (by omega) (by simp; omega) w3.heap.size (depCells ⟨-1, 1⟩) rfl (blk_new (by simp)) rfl rfl ?_; intro v5 w5 hO5 hg5)
          go_ret2
          obtain ⟨A, cap, rfl⟩ := own_form hO5
          exact ⟨A, cap, q ++ [⟨-1, 1⟩], 1 + (v : Int), by simp, by simp; omega, own_dep (n := q.length + 1) (by simpa [depCells] using hO5) (by simp), by omega, by omega, p' + 1, by omega, (hr3.alloc _).grown hg5 (fun k hk => by have := HB.out k hk; omega), (hC3.alloc _).grown hg5 HB.out⟩
      · go_wp2_with fail
        refine (one _ _ [0, 7, 1] r (p' + 1) _ (hr3.alloc _) (by omega) (lit_ints (by have := hr3.lt; omega)) (by decide) (by decide)).mono ?_
        rintro e w4 ⟨y, hy, rfl, hr4, hc4⟩
        have hO4 := hid (own_ch (hO3.out.alloc _) hc4 hlt)
        have HY := hid hy
        clear hy
        go_wp2
        go_ret2
        obtain ⟨A, cap, rfl⟩ := own_form hO4.out
        have hy := HY.out
        simp at hy
        exact ⟨A, cap, q, y, rfl, by omega, own_dep hO4.out rfl, by omega, by omega, p' + 2, by omega, hr4, (hC3.alloc _).trans hc4⟩

def DrawnInt (K r p : Nat) (w : World) (e : Ending) (w' : World) : Prop := ∃ n : Int, e = .returned (.int .i64 n) ∧ -1 ≤ n ∧ n ≤ 64 ∧ Drawn K r p w w'
theorem someSet (r p : Nat) (wd : Int) (w : World) (hr : Rdr w r p) (hp : p ≤ 1000000) (h0 : 0 ≤ wd) (h7 : wd ≤ 7) :
    Calls Try.prog 74 #[.pointer (some ⟨r, 0, none⟩), .int .i64 wd] w (DrawnInt 2 r p w) := by
  have hlt := hr.lt
  go_enter Try.func74, Try.ntmps74
  go_wp2_with fail
  refine (pick _ _ _ _ hr (by omega) (by omega)).mono ?_
  rintro e w1 ⟨v, rfl, hv, hr1, hc1⟩
  clear hv
  have hs1 := hc1.size
  cases e0 : ((v : Int) == 0)
  · go_wp2_with fail
    all_goals clear e0
    · have hb : wrap64 64 = 64 := by simp [wrap64]
      rw [hb]
      refine (pick _ _ _ _ hr1 (by omega) (by omega)).mono ?_
      rintro e w2 ⟨x, rfl, hx, hr2, hc2⟩
      go_wp2
      go_ret
      exact ⟨x, rfl, by omega, by omega, p + 2, by omega, hr2, hc1.trans hc2⟩
    · have hw : 0 < wrap64 (2 ^ wd.toNat) ∧ wrap64 (2 ^ wd.toNat) ≤ 64 := by
        rcases (by omega : wd = 0 ∨ wd = 1 ∨ wd = 2 ∨ wd = 3 ∨ wd = 4 ∨ wd = 5 ∨ wd = 6) with h | h | h | h | h | h | h <;>
          rw [h] <;> refine ⟨?_, ?_⟩ <;> simp [wrap64]
      refine (pick _ _ _ _ hr1 (by omega) (by omega)).mono ?_
      rintro e w2 ⟨x, rfl, hx, hr2, hc2⟩
      have HX := hid hx
      clear hx
      go_wp2
      go_ret
      have hx := HX.out
      exact ⟨x, rfl, by omega, by omega, p + 2, by omega, hr2, hc1.trans hc2⟩
  · go_wp2_with fail
    refine (one _ _ [-1, 64] r (p + 1) _ (hr1.alloc _) (by omega) (lit_ints (by have := hr1.lt; omega)) (by decide) (by decide)).mono ?_
    rintro e w4 ⟨y, hy, rfl, hr4, hc4⟩
    have HY := hid hy
    clear hy
    go_wp2
    go_ret
    have hy := HY.out
    simp at hy
    exact ⟨y, rfl, by omega, by omega, p + 2, by omega, hr4, (hc1.alloc _).trans hc4⟩
end Go.Proofs.Ytabbcepdinplfaa
