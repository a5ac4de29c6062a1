/- Walks of the generators of values. -/
import Derived.Test.YtabbcepdinplfaaGen
import Derived.Test.YtabbcepdinplfaaValW
import Derived.Deep.RegionWith
namespace Go.Proofs.Ytabbcepdinplfaa
open Go Go.RowKit

def DrawnV (K r p : Nat) (ok : V → Prop) (w : World) (e : Ending) (w' : World) : Prop := ∃ b n, e = .returned (.agg #[.bool b, .int .i64 n]) ∧ ok ⟨b, n⟩ ∧ Drawn K r p w w'

theorem randomValue (r p : Nat) (w : World) (hr : Rdr w r p) (hp : p ≤ 1000000) :
    Calls Try.prog 81 #[.pointer (some ⟨r, 0, none⟩)] w (DrawnV 2 r p (fun v => v.valid = true) w) := by
  have hlt := hr.lt
  have hr0 := hid (hr.alloc (.cells #[.bool false, .int .i64 0] 26))
  have hB0 := hid (Blk.new w 26 #[.bool false, .int .i64 0])
  have hC0 : Hid (Ch (· = r) w (w.alloc (.cells #[.bool false, .int .i64 0] 26))) := hid ((Ch.refl w).alloc _)
  clear hr
  go_enter Try.func81, Try.ntmps81
  go_wp2_with fail
  refine (pick _ _ _ _ hr0.out (by omega) (by omega)).mono ?_
  rintro e w1 ⟨v, rfl, hv, hr1, hc1⟩
  have hB1 := hB0.out.ch hc1 (by omega)
  have hC1 := hC0.out.trans hc1
  have hs1 : w.heap.size < w1.heap.size := hB1.lt
  cases he : ((v : Int) == 0)
  · go_wp2_with fail
    refine (one _ _ [0, 1, 2, 3, -1] r (p + 1) _ (hr1.alloc _) (by omega) (lit_ints (by omega)) (by decide) (by decide)).mono ?_
    rintro e w2 ⟨n, hn, rfl, hr2, hc2⟩
    obtain ⟨c0, c1, f0, f1⟩ := ((hB1.alloc _).ch hc2 (by omega)).two
    have hC2 := (hC1.alloc _).trans hc2
    have hs2 := hc2.size
    simp only [World.size_alloc] at hs2
    have HN := hid hn
    clear hn hB1
    go_wp2
    refine bodyPost_ret (v := .agg #[.bool false, .int .i64 n]) (by simp [results, Try.results81, go_sem, c0, c1]) rfl ⟨false, n, rfl, ?_, p + 2, by omega, by (repeat (first | with_reducible assumption | with_reducible refine Rdr.alloc ?_ _ | with_reducible refine Rdr.drew ?_ | (with_reducible refine Rdr.set2 ?_ ?_ _; · (simp <;> omega)))), by (repeat (first | with_reducible exact Ch.refl _ | with_reducible assumption | with_reducible refine Ch.alloc ?_ _ | with_reducible refine Ch.drew ?_ | (with_reducible refine Ch.setNew2 ?_ ?_ _; · (simp <;> omega)) | with_reducible refine Ch.trans ?_ (by assumption)))⟩
    have hn := HN.out
    simp at hn
    rcases hn with rfl | rfl | rfl | rfl | rfl <;> decide
  · obtain ⟨c0, c1, f0, f1⟩ := hB1.two
    clear hB1
    go_wp2
    refine bodyPost_ret (v := .agg #[.bool true, .int .i64 0]) (by simp [results, Try.results81, go_sem, c0, c1]) rfl ⟨true, 0, rfl, by decide, p + 1, by omega, by (repeat (first | with_reducible assumption | with_reducible refine Rdr.alloc ?_ _ | with_reducible refine Rdr.drew ?_ | (with_reducible refine Rdr.set2 ?_ ?_ _; · (simp <;> omega)))), by (repeat (first | with_reducible exact Ch.refl _ | with_reducible assumption | with_reducible refine Ch.alloc ?_ _ | with_reducible refine Ch.drew ?_ | (with_reducible refine Ch.setNew2 ?_ ?_ _; · (simp <;> omega)) | with_reducible refine Ch.trans ?_ (by assumption)))⟩

def V.small (v : V) : Prop := -10000 ≤ v.n ∧ v.n ≤ 10000
theorem V.small_of {v : V} (h : v.valid = true) : v.small := by
  obtain ⟨b, n⟩ := v
  cases b <;> simp [V.valid] at h <;> (show -10000 ≤ n ∧ n ≤ 10000) <;> omega

theorem anyValue (r p : Nat) (w : World) (hr : Rdr w r p) (hp : p ≤ 1000000) :
    Calls Try.prog 79 #[.pointer (some ⟨r, 0, none⟩)] w (DrawnV 4 r p V.small w) := by
  have hlt := hr.lt
  have hr0 := hid (hr.alloc (.cells #[.bool false, .int .i64 0] 26))
  have hB0 := hid (Blk.new w 26 #[.bool false, .int .i64 0])
  have hC0 : Hid (Ch (· = r) w (w.alloc (.cells #[.bool false, .int .i64 0] 26))) := hid ((Ch.refl w).alloc _)
  clear hr
  go_enter Try.func79, Try.ntmps79
  go_wp2_with fail
  refine (randomValue _ _ _ hr0.out hp).mono ?_
  rintro e w1 ⟨b, n, rfl, hv, p1, hp1, hr1, hc1⟩
  have hB1 := hB0.out.ch hc1 (by omega)
  have hC1 := hC0.out.trans hc1
  have hs1 : w.heap.size < w1.heap.size := hB1.lt
  have HV := hid hv
  have HB1 := hid (hB1.alloc (.cells #[.bool b, .int .i64 n] 26))
  have HA1 := hid (Blk.new w1 26 #[.bool b, .int .i64 n])
  clear hv hB1
  have hr1' := hr1.alloc (.cells #[.bool b, .int .i64 n] 26)
  go_wp2_with fail
  refine (pick _ _ _ _ hr1' (by omega) (by omega)).mono ?_
  rintro e w2 ⟨v, rfl, hv, hr2, hc2⟩
  have hs2 := hc2.size
  simp only [World.size_alloc] at hs2
  have hC2 := (hC1.alloc _).trans hc2
  cases e0 : ((v : Int) == 0)
  · cases e1 : ((v : Int) == 1)
    · obtain ⟨c0, c1, f0, f1⟩ := (HB1.out.ch hc2 (by omega)).two
      obtain ⟨a0, a1, _, _⟩ := (HA1.out.ch hc2 (by omega)).two
      go_wp2
      refine bodyPost_ret (v := .agg #[.bool b, .int .i64 n]) (by simp [results, Try.results79, go_sem, c0, c1]) rfl ⟨b, n, rfl, V.small_of HV.out, p1 + 1, by omega, by (repeat (first | with_reducible assumption | with_reducible refine Rdr.alloc ?_ _ | with_reducible refine Rdr.drew ?_ | (with_reducible refine Rdr.set2 ?_ ?_ _; · (simp <;> omega)))), by (repeat (first | with_reducible exact Ch.refl _ | with_reducible assumption | with_reducible refine Ch.alloc ?_ _ | with_reducible refine Ch.drew ?_ | (with_reducible refine Ch.setNew2 ?_ ?_ _; · (simp <;> omega)) | with_reducible refine Ch.trans ?_ (by assumption)))⟩
    · have HB2 := hid (HB1.out.ch hc2 (by omega))
      go_wp2_with fail
      refine (one _ _ [10000, -10000, 9999, -9999] r (p1 + 1) _ (hr2.alloc _) (by omega) (lit_ints (by omega)) (by decide) (by decide)).mono ?_
      rintro e w3 ⟨m, hm, rfl, hr3, hc3⟩
      have HM := hid hm
      clear hm
      obtain ⟨c0, c1, f0, f1⟩ := ((HB2.out.alloc _).ch hc3 (by omega)).two
      have hC3 := (hC2.alloc _).trans hc3
      go_wp2
      refine bodyPost_ret (v := .agg #[.bool false, .int .i64 m]) (by simp [results, Try.results79, go_sem, c0, c1]) rfl ⟨false, m, rfl, ?_, p1 + 2, by omega, by (repeat (first | with_reducible assumption | with_reducible refine Rdr.alloc ?_ _ | with_reducible refine Rdr.drew ?_ | (with_reducible refine Rdr.set2 ?_ ?_ _; · (simp <;> omega)))), by (repeat (first | with_reducible exact Ch.refl _ | with_reducible assumption | with_reducible refine Ch.alloc ?_ _ | with_reducible refine Ch.drew ?_ | (with_reducible refine Ch.setNew2 ?_ ?_ _; · (simp <;> omega)) | with_reducible refine Ch.trans ?_ (by assumption)))⟩
      have hm := HM.out
      simp at hm
      unfold V.small
      simp only
      omega
  · obtain ⟨c0, c1, f0, f1⟩ := (HB1.out.ch hc2 (by omega)).two
    go_wp2
    refine bodyPost_ret (v := .agg #[.bool true, .int .i64 1]) (by simp [results, Try.results79, go_sem, c0, c1]) rfl ⟨true, 1, rfl, by unfold V.small; decide, p1 + 1, by omega, by (repeat (first | with_reducible assumption | with_reducible refine Rdr.alloc ?_ _ | with_reducible refine Rdr.drew ?_ | (with_reducible refine Rdr.set2 ?_ ?_ _; · (simp <;> omega)))), by (repeat (first | with_reducible exact Ch.refl _ | with_reducible assumption | with_reducible refine Ch.alloc ?_ _ | with_reducible refine Ch.drew ?_ | (with_reducible refine Ch.setNew2 ?_ ?_ _; · (simp <;> omega)) | with_reducible refine Ch.trans ?_ (by assumption)))⟩

def Two (w : World) (e : Ending) (w' : World) : Prop := ∃ b n c m, e = .returned (.tuple #[.agg #[.bool b, .int .i64 n], .agg #[.bool c, .int .i64 m]]) ∧ Fr w w'
theorem twoValues (A : Option Addr) (cap : Nat) (xs : List Nat) (w : World) (hx : RdSl rdByte w.cell? 1 A xs) (hl : xs.length ≤ 1048576) (hc : xs.length ≤ cap) :
    Calls Try.prog 64 #[.slice A xs.length cap] w (Two w) := by
  have H := hid hx
  clear hx
  have hR0 := hid ((Blk.new w 26 #[.bool false, .int .i64 0]).alloc (.cells #[.bool false, .int .i64 0] 26))
  have hS0 := hid (Blk.new (w.alloc (.cells #[.bool false, .int .i64 0] 26)) 26 #[.bool false, .int .i64 0])
  have F0 : Hid (Fr w ((w.alloc (.cells #[.bool false, .int .i64 0] 26)).alloc (.cells #[.bool false, .int .i64 0] 26))) := hid (((Fr.refl _).alloc _).alloc _)
  go_enter Try.func64, Try.ntmps64
  go_wp2_with fail
  refine (newReader _ _ _ _ (H.out.fr rdByte_mono F0.out) hl hc).mono ?_
  rintro e w1 ⟨r, rfl, hr, hr1, b1⟩
  have F1 := F0.out.trans b1
  have hr' : w.heap.size + 1 < r := by simp at hr; omega
  clear hr
  go_wp2_with fail
  refine (anyValue _ _ _ hr1 (by omega)).mono ?_
  rintro e w2 ⟨b, n, rfl, _, p2, hp2, hr2, hc2⟩
  have hrs := hr2.lt
  have F2 : Fr w w2 := hc2.fr (fun k hk => by omega) F1
  have HR2 := hid ((hR0.out.fr b1).ch hc2 (by omega))
  have hS0' := hS0.out
  rw [World.size_alloc] at hS0'
  have HS2 := hid ((hS0'.fr b1).ch hc2 (by omega))
  clear hS0'
  have HA2 := hid (Blk.new w2 26 #[.bool b, .int .i64 n])
  have hrd := hr2.alloc (.cells #[.bool b, .int .i64 n] 26)
  have hrd' := hrd.drew
  go_wp2_with fail
  go_region_with (go_at_call 79; refine (anyValue _ _ _ hrd' (by omega)).mono ?_; rintro e w3 ⟨c, m, rfl, _, p3, hp3, hr3, hc3⟩; obtain ⟨a0, a1, _, _⟩ := (HA2.out.drew.ch hc3 (by omega)).two; obtain ⟨c0, c1, f0, f1⟩ := ((HR2.out.alloc _).drew.ch hc3 (by omega)).two; obtain ⟨d0, d1, g0, g1⟩ := ((HS2.out.alloc _).drew.ch hc3 (by omega)).two; have F3 : Fr w w3 := hc3.fr (fun k hk => by omega) ((F2.alloc _).drew))
  all_goals go_wp2
  all_goals refine bodyPost_ret (v := .tuple #[.agg #[.bool b, .int .i64 n], .agg #[.bool c, .int .i64 m]]) (by simp [results, Try.results64, go_sem, c0, c1, d0, d1]) rfl ⟨b, n, c, m, rfl, by (repeat (first | with_reducible exact Fr.refl _ | with_reducible assumption | with_reducible refine Fr.alloc ?_ _ | with_reducible refine Fr.drew ?_ | with_reducible refine Fr.drewN ?_ _ | (with_reducible refine Fr.setNew2 ?_ ?_ _; · (simp <;> omega)) | with_reducible refine Fr.trans ?_ (by assumption)))⟩
end Go.Proofs.Ytabbcepdinplfaa
