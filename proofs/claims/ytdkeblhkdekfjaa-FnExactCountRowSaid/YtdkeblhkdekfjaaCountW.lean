/- Walks of the functions that count a row. -/
import Derived.Test.YtdkeblhkdekfjaaCountP
import Derived.Test.YtdkeblhkdekfjaaTableW
namespace Go.Proofs.Ytdkeblhkdekfjaa
open Go Go.RowKit
theorem rcmpS_zero : ∀ {x y : List V}, rcmpS x y = 0 ↔ x = y
  | [], [] => by simp [rcmpS]
  | [], _ :: _ => by simp [rcmpS]; omega
  | _ :: _, [] => by simp [rcmpS]; omega
  | a :: x, b :: y => by
    unfold rcmpS
    by_cases e : a = b
    · rw [if_pos (V.cmpS_zero.2 e), rcmpS_zero]; simp [e]
    · rw [if_neg (fun h => e (V.cmpS_zero.1 h))]
      constructor
      · intro h; exact absurd (V.cmpS_zero.1 h) e
      · intro h; exact absurd (by injection h) e

set_option maxRecDepth 100000 in
set_option maxHeartbeats 1000000 in
theorem specCount (A B : Option Addr) (c c' : Nat) (rows : List (List V)) (row : List V) (w : World) (hx : RdSl rdRow w.cell? 1 A rows) (hl : SmallR rows) (hy : RdSl rdV w.cell? 2 B row) (hr : row.length ≤ 1048576) :
    Calls Try.prog 101 #[.slice A rows.length c, .slice B row.length c'] w fun e w' => e = .returned (.int .i64 (cntR rows row : Nat)) ∧ Fr w w' := by
  have HX := hid hx
  have HY := hid hy
  have HL := hid hl
  have hl := hl.1
  clear hx hy
  go_enter Try.func101, Try.ntmps101
  go_wp2
  go_loopw [5, 6] (fun n t wr => ∃ (k N : Nat), k ≤ rows.length ∧ N ≤ k ∧ t = .int .i64 k ∧ n = .int .i64 N ∧ Fr w wr ∧ Hid (N = cntR (rows.take k) row)) (fun _ t _ => rows.length - (intOf t).toNat)
  case atStart => exact ⟨0, 0, by omega, by omega, rfl, rfl, Fr.refl _, hid rfl⟩
  case round =>
    obtain ⟨k, N, hk, hN, rfl, rfl, hf, hv⟩ := hrel
    by_cases hlt : k < rows.length
    · obtain ⟨b, o, C, c0, hA, d0, r0, _, _⟩ := HX.out.row hlt
      subst hA
      have R0 := hid (r0.fr rdV_mono hf)
      clear r0
      replace d0 := hf.cell d0
      have L0 := HL.out.2 k hlt
      have CT := hid (cntR_take (row := row) hlt)
      cases hE : rcmpS rows[k] row == 0
      · have N1 := hid (show N = cntR (rows.take (k + 1)) row by rw [CT.out, ← hv.out, if_neg (fun e => by rw [rcmpS_zero.2 e] at hE; simp at hE)]; rfl)
        go_wp2_with (go_at_call 86; refine (specRowCmp _ _ _ _ _ _ _ R0.out (HY.out.fr rdV_mono hf) L0 hr).mono ?_; rintro e w1 ⟨rfl, b1⟩)
        go_roundw
        case rel => exact ⟨k + 1, N, by omega, by omega, by go_num, rfl, hf.trans b1, N1⟩
        case measure => simp [intOf]; omega
      · have N1 := hid (show N + 1 = cntR (rows.take (k + 1)) row by rw [CT.out, ← hv.out, if_pos (rcmpS_zero.1 (by simpa using hE))])
        go_wp2_with (go_at_call 86; refine (specRowCmp _ _ _ _ _ _ _ R0.out (HY.out.fr rdV_mono hf) L0 hr).mono ?_; rintro e w1 ⟨rfl, b1⟩)
        go_roundw
        case rel => exact ⟨k + 1, N + 1, by omega, by omega, by go_num, by go_num, hf.trans b1, N1⟩
        case measure => simp [intOf]; omega
    · have N1 := hid (show N = cntR rows row by rw [hv.out, List.take_of_length_le (by omega)])
      go_wp2
      go_ret
      exact ⟨ret_int (by rw [N1.out]), hf⟩

def cnt (wd : Int) (rows : List (List V)) (row : List V) : Int := if vtab wd rows then (cntR rows row : Nat) else -1
theorem specCountRow (wd : Int) (A0 : Option Addr) (c0 : Nat) (rows : List (List V)) (B : Option Addr) (c' : Nat) (row : List V) (w : World) (hx : RdSl rdRow w.cell? 1 A0 rows) (hl : SmallR rows) (hy : RdSl rdV w.cell? 2 B row) (hr : row.length ≤ 1048576) :
    Calls Try.prog 47 #[.agg #[.int .i64 wd, .slice A0 rows.length c0], .slice B row.length c'] w fun e w' => e = .returned (.int .i64 (cnt wd rows row)) ∧ Fr w w' := by
  have HX := hid hx
  have HY := hid hy
  clear hx hy
  have BA := Blk.new w 81 #[.int .i64 wd, .slice A0 rows.length c0]
  have F1 : Fr w (w.alloc (.cells #[.int .i64 wd, .slice A0 rows.length c0] 81)) := (Fr.refl _).alloc _
  cases hv : vtab wd rows
  · have R := hid (show cnt wd rows row = -1 by unfold cnt; rw [hv]; rfl)
    go_enter Try.func47, Try.ntmps47
    go_wp2_with (go_at_call 98; refine (specVTable _ _ _ _ _ (HX.out.fr rdRow_mono F1) hl).mono ?_; rintro e w1 ⟨rfl, b1⟩; rw [hv])
    go_ret
    exact ⟨ret_int R.out.symm, F1.trans b1⟩
  · have R := hid (show cnt wd rows row = (cntR rows row : Nat) by unfold cnt; rw [hv]; rfl)
    go_enter Try.func47, Try.ntmps47
    go_wp2_with fail
    refine (specVTable _ _ _ _ _ (HX.out.fr rdRow_mono F1) hl).mono ?_
    rintro e w1 ⟨rfl, b1⟩
    rw [hv]
    obtain ⟨a0, a1, _⟩ := (BA.fr b1).pair
    go_wp2_with fail
    refine (specCount _ _ _ _ _ _ _ (HX.out.fr rdRow_mono (F1.trans b1)) hl (HY.out.fr rdV_mono (F1.trans b1)) hr).mono ?_
    rintro e w2 ⟨rfl, b2⟩
    go_wp2
    go_ret
    exact ⟨ret_int R.out.symm, (F1.trans b1).trans b2⟩

set_option maxRecDepth 100000 in
set_option maxHeartbeats 2000000 in
theorem binSearch (A B : Option Addr) (c c' : Nat) (rows : List (List V)) (row : List V) (w : World) (hx : RdSl rdRow w.cell? 1 A rows) (hl : SmallR rows) (hy : RdSl rdV w.cell? 2 B row) (hr : row.length ≤ 1048576) (S : SortedAt rows row) :
    Calls Try.prog 102 #[.slice A rows.length c, .slice B row.length c', .func (.func 89) #[] #[]] w fun e w' => (∃ (f : Nat) (b : Bool), f ≤ rows.length ∧ e = .returned (.tuple #[.int .i64 f, .bool b]) ∧ (∀ i (hi : i < rows.length), i < f → rcmp rows[i] row < 0) ∧ (∀ i (hi : i < rows.length), f ≤ i → 0 ≤ rcmp rows[i] row)) ∧ Fr w w' := by
  have HX := hid hx
  have HY := hid hy
  have HL := hid hl
  have HS := hid S
  have hl := hl.1
  clear hx hy S
  go_enter Try.func102, Try.ntmps102
  go_wp2
  go_loopw [9, 10] (fun i j wr => ∃ (a b : Nat), a ≤ b ∧ b ≤ rows.length ∧ i = .int .i64 a ∧ j = .int .i64 b ∧ Fr w wr ∧ Hid ((∀ i (hi : i < rows.length), i < a → rcmp rows[i] row < 0) ∧ (∀ i (hi : i < rows.length), b ≤ i → 0 ≤ rcmp rows[i] row))) (fun i j _ => (intOf j).toNat - (intOf i).toNat)
  case atStart => exact ⟨0, rows.length, by omega, by omega, rfl, rfl, Fr.refl _, hid ⟨fun i hi h => absurd h (by omega), fun i hi h => absurd h (by omega)⟩⟩
  case round =>
    obtain ⟨a, b, hab, hb, rfl, rfl, hf, hv⟩ := hrel
    by_cases hlt : a < b
    · have hm : (a + b) / 2 < rows.length := by omega
      obtain ⟨g, o, C, c0, hA, d0, r0, _, _⟩ := HX.out.row hm
      subst hA
      have R0 := hid (r0.fr rdV_mono hf)
      clear r0
      replace d0 := hf.cell d0
      have L0 := HL.out.2 _ hm
      by_cases hc : rcmp rows[(a + b) / 2] row < 0
      · have e0 : decide (rcmp rows[(a + b) / 2] row < 0) = true := by simp [hc]
        have N1 := hid (show (∀ i (hi : i < rows.length), i < (a + b) / 2 + 1 → rcmp rows[i] row < 0) ∧ (∀ i (hi : i < rows.length), b ≤ i → 0 ≤ rcmp rows[i] row) from ⟨fun i hi h => HS.out.low i _ hm (by omega) hc, hv.out.2⟩)
        clear hc
        go_wp2_with (go_at_call 89; refine (implRowCmp _ _ _ _ _ _ _ R0.out (HY.out.fr rdV_mono hf) L0 hr).mono ?_; rintro e w1 ⟨rfl, b1⟩)
        go_roundw
        case rel => exact ⟨(a + b) / 2 + 1, b, by omega, by omega, by go_num, rfl, hf.trans b1, N1⟩
        case measure => simp [intOf]; omega
      · have e0 : decide (rcmp rows[(a + b) / 2] row < 0) = false := by simp; omega
        have N1 := hid (show (∀ i (hi : i < rows.length), i < a → rcmp rows[i] row < 0) ∧ (∀ i (hi : i < rows.length), (a + b) / 2 ≤ i → 0 ≤ rcmp rows[i] row) from ⟨hv.out.1, fun i hi h => by
          rcases Int.lt_or_le (rcmp rows[i] row) 0 with h1 | h1
          · exact absurd (HS.out.low _ i hi h h1) hc
          · exact h1⟩)
        clear hc
        go_wp2_with (go_at_call 89; refine (implRowCmp _ _ _ _ _ _ _ R0.out (HY.out.fr rdV_mono hf) L0 hr).mono ?_; rintro e w1 ⟨rfl, b1⟩)
        go_roundw
        case rel => exact ⟨a, (a + b) / 2, by omega, by omega, rfl, by go_num, hf.trans b1, N1⟩
        case measure => simp [intOf]; omega
    · obtain rfl : a = b := by omega
      by_cases hn : a < rows.length
      · obtain ⟨g, o, C, c0, hA, d0, r0, _, _⟩ := HX.out.row hn
        subst hA
        have R0 := hid (r0.fr rdV_mono hf)
        clear r0
        replace d0 := hf.cell d0
        have L0 := HL.out.2 _ hn
        go_wp2_with (go_at_call 89; refine (implRowCmp _ _ _ _ _ _ _ R0.out (HY.out.fr rdV_mono hf) L0 hr).mono ?_; rintro e w1 ⟨rfl, b1⟩)
        refine bodyPost_ret (v := .tuple #[.int .i64 a, .bool (rcmp rows[a] row == 0)]) (by simp [results, Try.results102, go_sem]) rfl ⟨⟨a, _, hb, rfl, hv.out.1, hv.out.2⟩, hf.trans b1⟩
      · go_wp2
        refine bodyPost_ret (v := .tuple #[.int .i64 a, .bool false]) (by simp [results, Try.results102, go_sem]) rfl ⟨⟨a, _, hb, rfl, hv.out.1, hv.out.2⟩, hf⟩

theorem cnt_no {wd : Int} {rows : List (List V)} {row : List V} (h : vtab wd rows = true) (hn : vrow row = false ∨ (row.length : Int) ≠ wd) : cntR rows row = 0 := cntR_none fun r hr e => by
  obtain ⟨i, hi, rfl⟩ := List.getElem_of_mem hr
  simp only [vtab, Bool.and_eq_true] at h
  have := allIx_at h.2 hi
  obtain ⟨h1, h2⟩ := rowAt_v hi this
  rw [e] at h1 h2
  rcases hn with hn | hn
  · rw [hn] at h1; cases h1
  · exact hn h2
set_option maxRecDepth 100000 in
set_option maxHeartbeats 4000000 in
theorem implCountRow (wd : Int) (A0 : Option Addr) (c0 : Nat) (rows : List (List V)) (B : Option Addr) (c' : Nat) (row : List V) (w : World) (hx : RdSl rdRow w.cell? 1 A0 rows) (hl : SmallR rows) (hc : rows.length ≤ c0) (hc2 : c0 ≤ 1048576) (hy : RdSl rdV w.cell? 2 B row) (hr : row.length ≤ 1048576) :
    Calls Try.prog 48 #[.agg #[.int .i64 wd, .slice A0 rows.length c0], .slice B row.length c'] w fun e w' => e = .returned (.int .i64 (cnt wd rows row)) ∧ Fr w w' := by
  have HX := hid hx
  have HY := hid hy
  clear hx hy
  have BA := Blk.new w 81 #[.int .i64 wd, .slice A0 rows.length c0]
  have F1 : Fr w (w.alloc (.cells #[.int .i64 wd, .slice A0 rows.length c0] 81)) := (Fr.refl _).alloc _
  cases hv : vtab wd rows
  · have R := hid (show cnt wd rows row = -1 by unfold cnt; rw [hv]; rfl)
    go_enter Try.func48, Try.ntmps48
    go_wp2_with (go_at_call 45; refine (implValidTable _ _ _ _ _ (HX.out.fr rdRow_mono F1) hl).mono ?_; rintro e w1 ⟨rfl, b1⟩; rw [hv])
    go_ret
    exact ⟨ret_int R.out.symm, F1.trans b1⟩
  · have R := hid (show cnt wd rows row = (cntR rows row : Nat) by unfold cnt; rw [hv]; rfl)
    by_cases hw : (row.length : Int) = wd
    · have ew : ((row.length : Int) != wd) = false := by simp [hw]
      have HW := hid hw
      clear hw
      cases hok : vrow row
      · have Z := hid (cnt_no hv (.inl hok))
        go_enter Try.func48, Try.ntmps48
        go_wp2_with fail
        refine (implValidTable _ _ _ _ _ (HX.out.fr rdRow_mono F1) hl).mono ?_
        rintro e w1 ⟨rfl, b1⟩
        rw [hv]
        obtain ⟨a0, a1, _⟩ := (BA.fr b1).pair
        go_wp2_with (go_at_call 88; refine (implVRow _ _ _ _ (HY.out.fr rdV_mono (F1.trans b1)) hr).mono ?_; rintro e w2 ⟨rfl, b2⟩; rw [hok])
        go_ret
        exact ⟨ret_int (by rw [R.out, Z.out]; rfl), (F1.trans b1).trans b2⟩
      · have S := hid (vtab_sorted hv (row := row) (by have := hok; simp only [vrow, Bool.and_eq_true] at this; exact this.2) HW.out)
        go_enter Try.func48, Try.ntmps48
        go_wp2_with fail
        refine (implValidTable _ _ _ _ _ (HX.out.fr rdRow_mono F1) hl).mono ?_
        rintro e w1 ⟨rfl, b1⟩
        rw [hv]
        obtain ⟨a0, a1, _⟩ := (BA.fr b1).pair
        go_wp2_with fail
        refine (implVRow _ _ _ _ (HY.out.fr rdV_mono (F1.trans b1)) hr).mono ?_
        rintro e w2 ⟨rfl, b2⟩
        rw [hok]
        replace a0 := b2.cell a0
        replace a1 := b2.cell a1
        have F2 := (F1.trans b1).trans b2
        go_wp2_with fail
        refine (binSearch _ _ _ _ _ _ _ (HX.out.fr rdRow_mono F2) hl (HY.out.fr rdV_mono F2) hr S.out).mono ?_
        rintro e w3 ⟨⟨f, fb, hf, rfl, q1, q2⟩, b3⟩
        have Q := hid (And.intro q1 q2)
        clear q1 q2
        replace a0 := b3.cell a0
        replace a1 := b3.cell a1
        have F3 := F2.trans b3
        by_cases hfl : f < rows.length
        · obtain ⟨g, o, C, c1, hA, _, _, _, _⟩ := HX.out.row hfl
          subst hA
          have hcap : ¬ c0 - f = 0 := by omega
          go_wp2
          clear a0 a1 hcap
          go_loopw [7, 35] (fun n t wr => ∃ (k : Nat), f + k ≤ rows.length ∧ t = .int .i64 k ∧ n = .int .i64 k ∧ Fr w3 wr ∧ Hid (∀ i (hi : i < rows.length), f ≤ i → i < f + k → rcmp rows[i] row = 0)) (fun _ t _ => rows.length - (intOf t).toNat)
          case atStart => exact ⟨0, by omega, rfl, rfl, Fr.refl _, hid fun i hi h h' => absurd h' (by omega)⟩
          case round =>
            obtain ⟨k, hk, rfl, rfl, hf', hz⟩ := hrel
            have F4 := F3.trans hf'
            by_cases hlt : f + k < rows.length
            · obtain ⟨g', o', C, c1, hA, d0, r0, _, _⟩ := HX.out.row hlt
              injection hA with hA
              injection hA with hg ho _
              subst hg ho
              have R0 := hid (r0.fr rdV_mono F4)
              clear r0
              replace d0 := F4.cell d0
              rw [← Nat.add_assoc] at d0
              have L0 := hl.2 _ hlt
              cases hE : rcmp rows[f + k] row != 0
              · have N1 := hid (show ∀ i (hi : i < rows.length), f ≤ i → i < f + (k + 1) → rcmp rows[i] row = 0 from fun i hi h h' => by
                  by_cases e : i = f + k
                  · subst e; simpa using hE
                  · exact hz.out i hi h (by omega))
                go_wp2_with (go_at_call 89; refine (implRowCmp _ _ _ _ _ _ _ R0.out (HY.out.fr rdV_mono F4) L0 hr).mono ?_; rintro e w4 ⟨rfl, b4⟩)
                go_roundw
                case rel => exact ⟨k + 1, by omega, by go_num, by go_num, hf'.trans b4, N1⟩
                case measure => simp [intOf]; omega
              · have N1 := hid (show cntR rows row = k from cntR_run hk S.out Q.out.1 hz.out fun hi => by
                  have h1 := Q.out.2 (f + k) hi (by omega)
                  have h2 : rcmp rows[f + k] row ≠ 0 := by simpa using hE
                  omega)
                go_wp2_with (go_at_call 89; refine (implRowCmp _ _ _ _ _ _ _ R0.out (HY.out.fr rdV_mono F4) L0 hr).mono ?_; rintro e w4 ⟨rfl, b4⟩)
                go_ret
                exact ⟨ret_int (by rw [R.out, N1.out]), F4.trans b4⟩
            · have N1 := hid (show cntR rows row = k from cntR_run hk S.out Q.out.1 hz.out fun hi => absurd hi hlt)
              go_wp2
              go_ret
              exact ⟨ret_int (by rw [R.out, N1.out]), F4⟩
        · obtain rfl : f = rows.length := by omega
          have N1 := hid (show cntR rows row = 0 from cntR_run (f := rows.length) (k := 0) (by omega) S.out Q.out.1 (fun i hi h h' => absurd h' (by omega)) fun hi => absurd hi (by omega))
          go_wp2
          all_goals refine wp_loop_rounds 1 ?_
          all_goals rw [rounds_succ]
          all_goals go_wp2
          all_goals go_ret
          all_goals exact ⟨ret_int (by rw [R.out, N1.out]; rfl), F3⟩
    · have ew : ((row.length : Int) != wd) = true := by simp; omega
      have Z := hid (cnt_no hv (.inr hw))
      go_enter Try.func48, Try.ntmps48
      go_wp2_with fail
      refine (implValidTable _ _ _ _ _ (HX.out.fr rdRow_mono F1) hl).mono ?_
      rintro e w1 ⟨rfl, b1⟩
      rw [hv]
      obtain ⟨a0, a1, _⟩ := (BA.fr b1).pair
      go_wp2
      go_ret
      exact ⟨ret_int (by rw [R.out, Z.out]; rfl), F1.trans b1⟩
end Go.Proofs.Ytdkeblhkdekfjaa
