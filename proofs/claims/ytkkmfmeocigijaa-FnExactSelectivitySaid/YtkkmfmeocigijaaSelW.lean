/- Walks of the selectivities, on the spec's side. -/
import Derived.Test.YtkkmfmeocigijaaSelP
import Derived.Test.YtkkmfmeocigijaaEvalM
namespace Go.Proofs.Ytkkmfmeocigijaa
open Go Go.RowKit

theorem RdSl.int {m : Mv} {A : Option Addr} {xs : List Int} (h : RdSl rdInt m 1 A xs) {k : Nat} (hk : k < xs.length) : ∃ b o, A = some ⟨b, o, none⟩ ∧ m ⟨b, o + k, none⟩ = some (.int .i64 (xs.getD k 0)) := by
  obtain ⟨b, o, hA, hc⟩ := h.at_ hk
  have hc : m ⟨b, o + k * 1 + 0, none⟩ = some (.int .i64 xs[k]) := hc
  refine ⟨b, o, hA, ?_⟩
  rw [show xs.getD k 0 = xs[k] by simp [List.getD, List.getElem?_eq_getElem hk]]
  simpa using hc
set_option maxRecDepth 100000 in
set_option maxHeartbeats 2000000 in
theorem specEqual (rows : Int) (ds ns : List Int) (D M : Option Addr) (cd cm : Nat) (c : Nat) (w : World) (h : StOk rows ds ns) (hd : RdSl rdInt w.cell? 1 D ds) (hm : RdSl rdInt w.cell? 1 M ns) (hc : c < ds.length) :
    Calls Try.prog 100 #[.agg #[.int .i64 rows, .slice D ds.length cd, .slice M ns.length cm], .int .i64 c] w fun r w' => r = .returned (.int .i64 (eqlP rows ds ns c)) ∧ Fr w w' := by
  have hcn : c < ns.length := by rw [← h.len]; exact hc
  obtain ⟨b, o, rfl, q⟩ := hd.int hc
  obtain ⟨b', o', rfl, q'⟩ := hm.int hcn
  have r0 := h.r0
  have r4 := h.r4
  have d0 := h.d0 c
  have d4 := h.d4 c
  have n0 := h.n0 c
  have nr := h.nr c
  have F1 : Fr w (w.alloc (.cells #[.int .i64 rows, .slice (some ⟨b, o, none⟩) ds.length cd, .slice (some ⟨b', o', none⟩) ns.length cm] 53)) := (Fr.refl _).alloc _
  have BA := Blk.new w 53 #[.int .i64 rows, .slice (some ⟨b, o, none⟩) ds.length cd, .slice (some ⟨b', o', none⟩) ns.length cm]
  obtain ⟨a0, a1, a2, _⟩ := BA.three
  replace q := F1.cell q
  replace q' := F1.cell q'
  have HL := hid h.len
  have R := hid (show eqlP rows ds ns c = if rows = 0 ∨ ds.getD c 0 = 0 then 0 else (1000 * (rows - ns.getD c 0)).tdiv (rows * ds.getD c 0) from rfl)
  generalize ds.getD c 0 = d at q d0 d4 R
  generalize ns.getD c 0 = m at q' n0 nr R
  clear h hd hm
  by_cases hr : rows = 0
  · have e0 : (rows == 0) = true := by simp [hr]
    have R2 := hid (R.out.trans (if_pos (.inl hr)))
    clear hr r0 r4 n0 nr
    go_enter Try.func100, Try.ntmps100
    go_wp2
    go_ret
    exact ⟨ret_int R2.out.symm, F1⟩
  · have e0 : (rows == 0) = false := by simp [hr]
    by_cases hd : d = 0
    · have e1 : (d == 0) = true := by simp [hd]
      have R2 := hid (R.out.trans (if_pos (.inr hd)))
      clear hr hd d0 d4
      go_enter Try.func100, Try.ntmps100
      go_wp2
      go_ret
      exact ⟨ret_int R2.out.symm, F1⟩
    · have e1 : (d == 0) = false := by simp [hd]
      have R2 := hid (R.out.trans (if_neg (fun hq => by rcases hq with hq | hq; exact hr hq; exact hd hq)))
      have hm1 : rows * 1 ≤ rows * d := Int.mul_le_mul_of_nonneg_left (by omega) r0
      have hm2 : rows * d ≤ rows * 400 := Int.mul_le_mul_of_nonneg_left d4 r0
      obtain ⟨rd, erd⟩ : ∃ rd, rows * d = rd := ⟨_, rfl⟩
      rw [erd] at hm1 hm2
      have s1 : IntKind.i64.wrap (rows - m) = rows - m := IntWalk.i64_in _ (by omega)
      have s2 : IntKind.i64.wrap (1000 * (rows - m)) = 1000 * (rows - m) := IntWalk.i64_in _ (by omega)
      have s3 : IntKind.i64.wrap rd = rd := IntWalk.i64_in _ (by omega)
      have s4 : ¬ rd = 0 := by omega
      have ht := tdiv_range (a := 1000 * (rows - m)) (b := rd) (k := 1000) (by omega) (by omega) (by omega)
      obtain ⟨x, ex⟩ : ∃ x, (1000 * (rows - m)).tdiv rd = x := ⟨_, rfl⟩
      rw [ex] at ht
      have s5 : IntKind.i64.wrap x = x := IntWalk.i64_in _ (by omega)
      have R3 := hid (R2.out.trans (by rw [erd, ex]))
      clear hr hd d0 d4 hm1 hm2
      go_enter Try.func100, Try.ntmps100
      go_wp2_with fail
      (refine wp_region_quietC (fun w' => Fr _ w') (by kernel_rfl) (by kernel_rfl) (Fr.refl _).drew ?_; (repeat go_big_quiet_step (first | exact fun _ => rfl | exact fun _ => ⟨rfl, rfl⟩ | (intro hw'; replace a0 := hw'.cell a0; replace a1 := hw'.cell a1; replace a2 := hw'.cell a2; replace q := hw'.cell q; replace q' := hw'.cell q'; go_simp; first | done | exact rfl | exact ⟨rfl, rfl⟩) )); refine wpQuiet_nil ?_; intro wq hq)
      go_wp2
      go_ret
      exact ⟨ret_int R3.out.symm, F1.trans hq⟩
end Go.Proofs.Ytkkmfmeocigijaa
