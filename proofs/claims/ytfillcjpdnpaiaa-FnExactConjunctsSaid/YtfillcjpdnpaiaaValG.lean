/- Walks of the generators of values. -/
import Derived.Test.YtfillcjpdnpaiaaGen
import Derived.Test.YtfillcjpdnpaiaaValW
import Derived.Deep.RegionWith
namespace Go.Proofs.Ytfillcjpdnpaiaa
open Go Go.RowKit

def DrawnV (K r p : Nat) (ok : V → Prop) (w : World) (e : Ending) (w' : World) : Prop := ∃ b n, e = .returned (.agg #[.bool b, .int .i64 n]) ∧ ok ⟨b, n⟩ ∧ Drawn K r p w w'

theorem randomValue (r p : Nat) (w : World) (hr : Rdr w r p) (hp : p ≤ 1000000) :
    Calls Try.prog 87 #[.pointer (some ⟨r, 0, none⟩)] w (DrawnV 2 r p (fun v => v.valid = true) w) := by
  have hlt := hr.lt
  have hr0 := hid (hr.alloc (.cells #[.bool false, .int .i64 0] 30))
  have hB0 := hid (Blk.new w 30 #[.bool false, .int .i64 0])
  have hC0 : Hid (Ch (· = r) w (w.alloc (.cells #[.bool false, .int .i64 0] 30))) := hid ((Ch.refl w).alloc _)
  clear hr
  go_enter Try.func87, Try.ntmps87
  go_wp2_with fail
  refine (pick _ _ _ _ hr0.out (by omega) (by omega)).mono ?_
  rintro e w1 ⟨v, rfl, hv, hr1, hc1⟩
  have hB1 := hB0.out.ch hc1 (by omega)
  have hC1 := hC0.out.trans hc1
  have hs1 : w.heap.size < w1.heap.size := hB1.lt
  cases he : ((v : Int) == 0)
  · go_wp2_with fail
    refine (one _ _ [0, 1, 2, 3, -1] r (p + 1) _ (hr1.alloc _) (by omega) (lit_ints (by omega)) (by decide) (by decide)).mono ?_
    rintro e w2 ⟨n, hn, rfl, hr2, hc2⟩
    obtain ⟨c0, c1, f0, f1⟩ := ((hB1.alloc _).ch hc2 (by omega)).two
    have hC2 := (hC1.alloc _).trans hc2
    have hs2 := hc2.size
    simp only [World.size_alloc] at hs2
    have HN := hid hn
    clear hn hB1
    go_wp2
    refine bodyPost_ret (v := .agg #[.bool false, .int .i64 n]) (by simp [results, Try.results87, go_sem, c0, c1]) rfl ⟨false, n, rfl, ?_, p + 2, by omega, by (repeat (first | with_reducible assumption | with_reducible refine Rdr.alloc ?_ _ | with_reducible refine Rdr.drew ?_ | (with_reducible refine Rdr.set2 ?_ ?_ _; · (simp <;> omega)))), by (repeat (first | with_reducible exact Ch.refl _ | with_reducible assumption | with_reducible refine Ch.alloc ?_ _ | with_reducible refine Ch.drew ?_ | (with_reducible refine Ch.setNew2 ?_ ?_ _; · (simp <;> omega)) | with_reducible refine Ch.trans ?_ (by assumption)))⟩
    have hn := HN.out
    simp at hn
    rcases hn with rfl | rfl | rfl | rfl | rfl <;> decide
  · obtain ⟨c0, c1, f0, f1⟩ := hB1.two
    clear hB1
    go_wp2
    refine bodyPost_ret (v := .agg #[.bool true, .int .i64 0]) (by simp [results, Try.results87, go_sem, c0, c1]) rfl ⟨true, 0, rfl, by decide, p + 1, by omega, by (repeat (first | with_reducible assumption | with_reducible refine Rdr.alloc ?_ _ | with_reducible refine Rdr.drew ?_ | (with_reducible refine Rdr.set2 ?_ ?_ _; · (simp <;> omega)))), by (repeat (first | with_reducible exact Ch.refl _ | with_reducible assumption | with_reducible refine Ch.alloc ?_ _ | with_reducible refine Ch.drew ?_ | (with_reducible refine Ch.setNew2 ?_ ?_ _; · (simp <;> omega)) | with_reducible refine Ch.trans ?_ (by assumption)))⟩

def V.small (v : V) : Prop := -10000 ≤ v.n ∧ v.n ≤ 10000
theorem V.small_of {v : V} (h : v.valid = true) : v.small := by
  obtain ⟨b, n⟩ := v
  cases b <;> simp [V.valid] at h <;> (show -10000 ≤ n ∧ n ≤ 10000) <;> omega

theorem anyValue (r p : Nat) (w : World) (hr : Rdr w r p) (hp : p ≤ 1000000) :
    Calls Try.prog 71 #[.pointer (some ⟨r, 0, none⟩)] w (DrawnV 4 r p V.small w) := by
  have hlt := hr.lt
  have hr0 := hid (hr.alloc (.cells #[.bool false, .int .i64 0] 30))
  have hB0 := hid (Blk.new w 30 #[.bool false, .int .i64 0])
  have hC0 : Hid (Ch (· = r) w (w.alloc (.cells #[.bool false, .int .i64 0] 30))) := hid ((Ch.refl w).alloc _)
  clear hr
  go_enter Try.func71, Try.ntmps71
  go_wp2_with fail
  refine (randomValue _ _ _ hr0.out hp).mono ?_
  rintro e w1 ⟨b, n, rfl, hv, p1, hp1, hr1, hc1⟩
  have hB1 := hB0.out.ch hc1 (by omega)
  have hC1 := hC0.out.trans hc1
  have hs1 : w.heap.size < w1.heap.size := hB1.lt
  have HV := hid hv
  have HB1 := hid (hB1.alloc (.cells #[.bool b, .int .i64 n] 30))
  have HA1 := hid (Blk.new w1 30 #[.bool b, .int .i64 n])
  clear hv hB1
  have hr1' := hr1.alloc (.cells #[.bool b, .int .i64 n] 30)
  go_wp2_with fail
  refine (pick _ _ _ _ hr1' (by omega) (by omega)).mono ?_
  rintro e w2 ⟨v, rfl, hv, hr2, hc2⟩
  have hs2 := hc2.size
  simp only [World.size_alloc] at hs2
  have hC2 := (hC1.alloc _).trans hc2
  cases e0 : ((v : Int) == 0)
  · cases e1 : ((v : Int) == 1)
    · obtain ⟨c0, c1, f0, f1⟩ := (HB1.out.ch hc2 (by omega)).two
      obtain ⟨a0, a1, _, _⟩ := (HA1.out.ch hc2 (by omega)).two
      go_wp2
      refine bodyPost_ret (v := .agg #[.bool b, .int .i64 n]) (by simp [results, Try.results71, go_sem, c0, c1]) rfl ⟨b, n, rfl, V.small_of HV.out, p1 + 1, by omega, by (repeat (first | with_reducible assumption | with_reducible refine Rdr.alloc ?_ _ | with_reducible refine Rdr.drew ?_ | (with_reducible refine Rdr.set2 ?_ ?_ _; · (simp <;> omega)))), by (repeat (first | with_reducible exact Ch.refl _ | with_reducible assumption | with_reducible refine Ch.alloc ?_ _ | with_reducible refine Ch.drew ?_ | (with_reducible refine Ch.setNew2 ?_ ?_ _; · (simp <;> omega)) | with_reducible refine Ch.trans ?_ (by assumption)))⟩
    · have HB2 := hid (HB1.out.ch hc2 (by omega))
      go_wp2_with fail
      refine (one _ _ [10000, -10000, 9999, -9999] r (p1 + 1) _ (hr2.alloc _) (by omega) (lit_ints (by omega)) (by decide) (by decide)).mono ?_
      rintro e w3 ⟨m, hm, rfl, hr3, hc3⟩
      have HM := hid hm
      clear hm
      obtain ⟨c0, c1, f0, f1⟩ := ((HB2.out.alloc _).ch hc3 (by omega)).two
      have hC3 := (hC2.alloc _).trans hc3
      go_wp2
      refine bodyPost_ret (v := .agg #[.bool false, .int .i64 m]) (by simp [results, Try.results71, go_sem, c0, c1]) rfl ⟨false, m, rfl, ?_, p1 + 2, by omega, by (repeat (first | with_reducible assumption | with_reducible refine Rdr.alloc ?_ _ | with_reducible refine Rdr.drew ?_ | (with_reducible refine Rdr.set2 ?_ ?_ _; · (simp <;> omega)))), by (repeat (first | with_reducible exact Ch.refl _ | with_reducible assumption | with_reducible refine Ch.alloc ?_ _ | with_reducible refine Ch.drew ?_ | (with_reducible refine Ch.setNew2 ?_ ?_ _; · (simp <;> omega)) | with_reducible refine Ch.trans ?_ (by assumption)))⟩
      have hm := HM.out
      simp at hm
      unfold V.small
      simp only
      omega
  · obtain ⟨c0, c1, f0, f1⟩ := (HB1.out.ch hc2 (by omega)).two
    go_wp2
    refine bodyPost_ret (v := .agg #[.bool true, .int .i64 1]) (by simp [results, Try.results71, go_sem, c0, c1]) rfl ⟨true, 1, rfl, by unfold V.small; decide, p1 + 1, by omega, by (repeat (first | with_reducible assumption | with_reducible refine Rdr.alloc ?_ _ | with_reducible refine Rdr.drew ?_ | (with_reducible refine Rdr.set2 ?_ ?_ _; · (simp <;> omega)))), by (repeat (first | with_reducible exact Ch.refl _ | with_reducible assumption | with_reducible refine Ch.alloc ?_ _ | with_reducible refine Ch.drew ?_ | (with_reducible refine Ch.setNew2 ?_ ?_ _; · (simp <;> omega)) | with_reducible refine Ch.trans ?_ (by assumption)))⟩

end Go.Proofs.Ytfillcjpdnpaiaa
