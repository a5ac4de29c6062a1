/- Walks of the generators of rows. -/
import Derived.Test.YtfillcjpdnpaiaaOwn
import Derived.Deep.RegionWith
namespace Go.Proofs.Ytfillcjpdnpaiaa
open Go Go.RowKit

/-- A row drawn: where it lies, what it holds. -/
def DrawnRow (K r p : Nat) (w : World) (e : Ending) (w' : World) : Prop := ∃ g o cap, ∃ xs : List V, e = .returned (.slice (some ⟨g, o, none⟩) xs.length cap) ∧ xs.length ≤ 7 ∧ RdSl rdV (fromB w' w.heap.size) 2 (some ⟨g, o, none⟩) xs ∧ Drawn K r p w w'
/-- The same, its block known. -/
def DrawnOwn (n K r p : Nat) (w : World) (e : Ending) (w' : World) : Prop := ∃ v, ∃ xs : List V, xs.length = n ∧ e = .returned v ∧ w'.ownsRow w.heap.size 30 2 v n (xs.flatMap cellsV) ∧ Drawn K r p w w'

set_option maxRecDepth 100000 in
theorem randomRow (n r p : Nat) (w : World) (hr : Rdr w r p) (hp : p ≤ 900000) (hn : n ≤ 7) :
    Calls Try.prog 72 #[.pointer (some ⟨r, 0, none⟩), .int .i64 n] w (DrawnOwn n (2 * n) r p w) := by
  have hlt := hr.lt
  have hO1 := own_empty (w := w) (base := w.heap.size) (e := 30) (sz := 2) (Nat.le_refl _)
  have hr1 := hr.alloc (.cells #[] 30)
  have hC1 : Ch (· = r) w (w.alloc (.cells #[] 30)) := (Ch.refl w).alloc _
  go_enter Try.func72, Try.ntmps72
  go_wp2
  go_loopw [5, 6] (fun o c wr => ∃ (k p' : Nat) (q : List V), c = .int .i64 k ∧ k ≤ n ∧ q.length = k ∧ p' ≤ p + 2 * k ∧ Rdr wr r p' ∧ Ch (· = r) w wr ∧ wr.ownsRow w.heap.size 30 2 o k (q.flatMap cellsV)) (fun _ c _ => n - (intOf c).toNat)
  case atStart => exact ⟨0, p, [], rfl, by omega, rfl, by omega, hr1, hC1, hO1⟩
  case round =>
    obtain ⟨k, p', q, rfl, hk, hq, hp', hrr, hC, hO⟩ := hrel
    have hsr := hC.size
    by_cases hlt' : k < n
    · go_wp2_with fail
      refine (randomValue _ _ _ hrr (by omega)).mono ?_
      rintro e w1 ⟨b, m, rfl, _, p2, hp2, hr2, hc2⟩
      have hO2 := own_ch hO hc2 hlt
      have hC2 := hC.trans hc2
      have hs2 := hC2.size
      have HB := hid (own_blk (hO2.alloc (.cells #[.bool b, .int .i64 m] 30)))
      clear hO
      go_wp2_with (at_builtin; refine wp_app1 rfl _ _ 48 rfl w.heap.size 30 (.agg #[.bool false, .int .i64 0]) 2 16 Try.underlying48 (by kernel_rfl) rfl (by decide) (by decide) _ _ _ rfl (hO2.alloc _) (by omega) (by simp; omega) w1.heap.size (cellsV ⟨b, m⟩) rfl (blk_new (by simp)) rfl rfl ?_; intro v5 w5 hO5 hg5)
      go_roundw
      case rel => exact ⟨k + 1, p2, q ++ [⟨b, m⟩], by go_num, by omega, by simp [hq], by omega, (hr2.alloc _).grown hg5 (fun k hk => by have := HB.out k hk; omega), (hC2.alloc _).grown hg5 HB.out, by simpa using hO5⟩
      case measure => simp [intOf]; omega
    · obtain rfl : k = n := by omega
      go_wp2
      go_ret
      exact ⟨_, q, hq, rfl, hO, p', hp', hrr, hC⟩

set_option maxRecDepth 100000 in
set_option maxHeartbeats 1000000 in
theorem anyRow (n r p : Nat) (w : World) (hr : Rdr w r p) (hp : p ≤ 100000) (h1 : 1 ≤ n) (hn : n ≤ 7) :
    Calls Try.prog 55 #[.pointer (some ⟨r, 0, none⟩), .int .i64 n] w (DrawnRow 40 r p w) := by
  have hlt := hr.lt
  go_enter Try.func55, Try.ntmps55
  go_wp2_with fail
  refine (randomRow _ _ _ _ hr (by omega) hn).mono ?_
  rintro e w1 ⟨v, xs, hxl, rfl, hO1, p1, hp1, hr1, hc1⟩
  clear hr
  obtain ⟨g, cap, cs, rfl, hg, hB, hz⟩ := own_form2 hO1 (by omega)
  have HO1 := hid hO1
  clear hO1
  subst hxl
  go_wp2_with fail
  refine (pick _ _ _ _ hr1 (by omega) (by omega)).mono ?_
  rintro e w2 ⟨x, rfl, hx, hr2, hc2⟩
  have HO2 := hid (own_ch HO1.out hc2 hlt)
  have hB2 := hB.ch hc2 (by omega)
  have hC2 := hc1.trans hc2
  have hs2 := hC2.size
  clear hr1 hB hx
  cases e0 : ((x : Int) == 0)
  · cases e1 : ((x : Int) == 1)
    · cases e2 : ((x : Int) == 2)
      · go_wp2
        go_ret
        exact ⟨g, 0, cap, xs, rfl, hn, own_V HO2.out rfl, p1 + 1, by omega, hr2, hC2⟩
      · go_wp2_with fail
        refine (pick _ _ _ _ hr2 (by omega) (by omega)).mono ?_
        rintro e w3 ⟨y, rfl, hy, hr3, hc3⟩
        have hyl : y < xs.length := by omega
        clear hy
        have HO3 := hid (own_ch HO2.out hc3 hlt)
        have hB3 := hB2.ch hc3 (by omega)
        go_wp2_with fail
        refine (anyValue _ _ _ hr3 (by omega)).mono ?_
        rintro e w4 ⟨b, m, rfl, _, p4, hp4, hr4, hc4⟩
        have HO4 := hid (own_ch HO3.out hc4 hlt)
        have hB4 := hB3.ch hc4 (by omega)
        have hC4 := (hC2.trans hc3).trans hc4
        obtain ⟨u0, c0⟩ := hB4.cell_some (i := y * 2) (by omega)
        obtain ⟨u1, c1⟩ := hB4.cell_some (i := y * 2 + 1) (by omega)
        have f0 := hB4.frozen (y * 2)
        have f1 := hB4.frozen (y * 2 + 1)
        have R4 := own_V HO4.out rfl
        have R5 := hid (rdV_set (v := ⟨b, m⟩) R4 hg hB4 (x := y) (by omega))
        have HR5 := hid (And.intro (Rdr.set (Rdr.set hr4 (q := ⟨g, y * 2, none⟩) (by dsimp only; omega) (.bool b)) (q := ⟨g, y * 2 + 1, none⟩) (by dsimp only; omega) (.int .i64 m)) (Ch.setNew (Ch.setNew hC4 (p := ⟨g, y * 2, none⟩) hg (.bool b)) (p := ⟨g, y * 2 + 1, none⟩) hg (.int .i64 m)))
        clear R4
        go_wp2
        go_ret
        exact ⟨g, 0, cap, xs.set y ⟨b, m⟩, by rw [List.length_set]; rfl, by rw [List.length_set]; exact hn, R5.out, p4, by omega, HR5.out.1, HR5.out.2⟩
    · go_wp2_with fail
      refine (randomRow 7 _ _ _ hr2 (by omega) (by omega)).mono ?_
      rintro e w3 ⟨v, ys, hyl, rfl, hO3, p3, hp3, hr3, hc3⟩
      obtain ⟨g', cap', cs', rfl, hg', _, _⟩ := own_form2 hO3 (by omega)
      have HO3 := hid (own_V hO3 hyl.symm)
      clear hO3
      go_wp2
      go_ret
      exact ⟨g', 0, cap', ys, by rw [hyl]; rfl, by omega, HO3.out.mono rdV_mono (fromB_lo hs2), p3, by omega, hr3, hC2.trans hc3⟩
  · go_wp2
    go_ret
    exact ⟨_, 0, 0, [], rfl, by simp, RdSl.nil, p1 + 1, by omega, hr2.alloc _, hC2.alloc _⟩

end Go.Proofs.Ytfillcjpdnpaiaa
