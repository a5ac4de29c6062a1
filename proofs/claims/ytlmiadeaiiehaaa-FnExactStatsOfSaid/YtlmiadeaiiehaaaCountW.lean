/- Walks of the functions that count a row. -/
import Derived.Test.YtlmiadeaiiehaaaCountP
import Derived.Test.YtlmiadeaiiehaaaTableW
namespace Go.Proofs.Ytlmiadeaiiehaaa
open Go Go.RowKit
theorem rcmpS_zero : ∀ {x y : List V}, rcmpS x y = 0 ↔ x = y
  | [], [] => by simp [rcmpS]
  | [], _ :: _ => by simp [rcmpS]; omega
  | _ :: _, [] => by simp [rcmpS]; omega
  | a :: x, b :: y => by
    unfold rcmpS
    by_cases e : a = b
    · rw [if_pos (V.cmpS_zero.2 e), rcmpS_zero]; simp [e]
    · rw [if_neg (fun h => e (V.cmpS_zero.1 h))]
      constructor
      · intro h; exact absurd (V.cmpS_zero.1 h) e
      · intro h; exact absurd (by injection h) e

set_option maxRecDepth 100000 in
set_option maxHeartbeats 1000000 in
theorem specCount (A B : Option Addr) (c c' : Nat) (rows : List (List V)) (row : List V) (w : World) (hx : RdSl rdRow w.cell? 1 A rows) (hl : SmallR rows) (hy : RdSl rdV w.cell? 2 B row) (hr : row.length ≤ 1048576) :
    Calls Try.prog 51 #[.slice A rows.length c, .slice B row.length c'] w fun e w' => e = .returned (.int .i64 (cntR rows row : Nat)) ∧ Fr w w' := by
  have HX := hid hx
  have HY := hid hy
  have HL := hid hl
  have hl := hl.1
  clear hx hy
  go_enter Try.func51, Try.ntmps51
  go_wp2
  go_loopw [5, 6] (fun n t wr => ∃ (k N : Nat), k ≤ rows.length ∧ N ≤ k ∧ t = .int .i64 k ∧ n = .int .i64 N ∧ Fr w wr ∧ Hid (N = cntR (rows.take k) row)) (fun _ t _ => rows.length - (intOf t).toNat)
  case atStart => exact ⟨0, 0, by omega, by omega, rfl, rfl, Fr.refl _, hid rfl⟩
  case round =>
    obtain ⟨k, N, hk, hN, rfl, rfl, hf, hv⟩ := hrel
    by_cases hlt : k < rows.length
    · obtain ⟨b, o, C, c0, hA, d0, r0, _, _⟩ := HX.out.row hlt
      subst hA
      have R0 := hid (r0.fr rdV_mono hf)
      clear r0
      replace d0 := hf.cell d0
      have L0 := HL.out.2 k hlt
      have CT := hid (cntR_take (row := row) hlt)
      cases hE : rcmpS rows[k] row == 0
      · have N1 := hid (show N = cntR (rows.take (k + 1)) row by rw [CT.out, ← hv.out, if_neg (fun e => by rw [rcmpS_zero.2 e] at hE; simp at hE)]; rfl)
        go_wp2_with (go_at_call 49; refine (specRowCmp _ _ _ _ _ _ _ R0.out (HY.out.fr rdV_mono hf) L0 hr).mono ?_; rintro e w1 ⟨rfl, b1⟩)
        go_roundw
        case rel => exact ⟨k + 1, N, by omega, by omega, by go_num, rfl, hf.trans b1, N1⟩
        case measure => simp [intOf]; omega
      · have N1 := hid (show N + 1 = cntR (rows.take (k + 1)) row by rw [CT.out, ← hv.out, if_pos (rcmpS_zero.1 (by simpa using hE))])
        go_wp2_with (go_at_call 49; refine (specRowCmp _ _ _ _ _ _ _ R0.out (HY.out.fr rdV_mono hf) L0 hr).mono ?_; rintro e w1 ⟨rfl, b1⟩)
        go_roundw
        case rel => exact ⟨k + 1, N + 1, by omega, by omega, by go_num, by go_num, hf.trans b1, N1⟩
        case measure => simp [intOf]; omega
    · have N1 := hid (show N = cntR rows row by rw [hv.out, List.take_of_length_le (by omega)])
      go_wp2
      go_ret
      exact ⟨ret_int (by rw [N1.out]), hf⟩

def cnt (wd : Int) (rows : List (List V)) (row : List V) : Int := if vtab wd rows then (cntR rows row : Nat) else -1

theorem cnt_no {wd : Int} {rows : List (List V)} {row : List V} (h : vtab wd rows = true) (hn : vrow row = false ∨ (row.length : Int) ≠ wd) : cntR rows row = 0 := cntR_none fun r hr e => by
  obtain ⟨i, hi, rfl⟩ := List.getElem_of_mem hr
  simp only [vtab, Bool.and_eq_true] at h
  have := allIx_at h.2 hi
  obtain ⟨h1, h2⟩ := rowAt_v hi this
  rw [e] at h1 h2
  rcases hn with hn | hn
  · rw [hn] at h1; cases h1
  · exact hn h2
end Go.Proofs.Ytlmiadeaiiehaaa
