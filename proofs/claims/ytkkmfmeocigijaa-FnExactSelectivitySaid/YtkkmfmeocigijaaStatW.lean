/- Walks of the functions on statistics; the law on them. -/
import Derived.Test.YtkkmfmeocigijaaRelP
import Derived.Test.YtkkmfmeocigijaaMemQ
import Derived.Test.YtkkmfmeocigijaaMemS
import Derived.Test.YtkkmfmeocigijaaIntsB
import Derived.Test.YtkkmfmeocigijaaLaw
namespace Go.Proofs.Ytkkmfmeocigijaa
open Go Go.RowKit

theorem validWid (n : Int) (w : World) :
    Calls Try.prog 55 #[.int .i64 n] w fun e w' => e = .returned (.bool (wid n)) ∧ w = w' := by
  go_enter Try.func55, Try.ntmps55
  go_wp2
  all_goals go_ret
  all_goals exact ⟨ret_bool (by rw [Bool.eq_iff_iff]; simp [wid]; try omega), rfl⟩

/-- What a size of two slices leaves. -/
def left2 (m n : Nat) : Int := if m + n ≤ 1048576 then 1048576 - ((m + n : Nat) : Int) else -1
theorem szStats (r : Int) (A A' : Option Addr) (m n c c' : Nat) (w : World) (hm : m ≤ maxLen) (hn : n ≤ maxLen) :
    Calls Try.prog 28 #[.agg #[.int .i64 r, .slice A m c, .slice A' n c'], .int .i64 1048576] w fun e w' => e = .returned (.int .i64 (left2 m n)) ∧ Fr w w' := by
  by_cases h1 : m ≤ 1048576
  · have e1 : (if (1048576 : Int) < (m : Int) then (-1 : Int) else 1048576 - m) = 1048576 - m := by rw [if_neg (by omega)]
    by_cases h2 : m + n ≤ 1048576
    · have e2 : (if ((1048576 : Int) - (m : Int)) < (n : Int) then (-1 : Int) else 1048576 - m - n) = 1048576 - m - n := by rw [if_neg (by omega)]
      go_enter Try.func28, Try.ntmps28
      go_wp2_with fail
      refine (szInts _ _ _ _ _ hm (by omega) (by omega)).mono ?_
      rintro e w' ⟨rfl, rfl⟩
      rw [e1]
      go_wp2_with fail
      refine (szInts _ _ _ _ _ hn (by omega) (by omega)).mono ?_
      rintro e w' ⟨rfl, rfl⟩
      rw [e2]
      go_wp2
      go_ret
      exact ⟨ret_int (by unfold left2; rw [if_pos h2]; omega), by (repeat (first | with_reducible exact Fr.refl _ | with_reducible assumption | with_reducible refine Fr.alloc ?_ _ | with_reducible refine Fr.drew ?_ | with_reducible refine Fr.drewN ?_ _ | (with_reducible refine Fr.setNew2 ?_ ?_ _; · (simp <;> omega)) | with_reducible refine Fr.trans ?_ (by assumption)))⟩
    · have e2 : (if ((1048576 : Int) - (m : Int)) < (n : Int) then (-1 : Int) else 1048576 - m - n) = -1 := by rw [if_pos (by omega)]
      go_enter Try.func28, Try.ntmps28
      go_wp2_with fail
      refine (szInts _ _ _ _ _ hm (by omega) (by omega)).mono ?_
      rintro e w' ⟨rfl, rfl⟩
      rw [e1]
      go_wp2_with fail
      refine (szInts _ _ _ _ _ hn (by omega) (by omega)).mono ?_
      rintro e w' ⟨rfl, rfl⟩
      rw [e2]
      go_wp2
      go_ret
      exact ⟨ret_int (by unfold left2; rw [if_neg h2]), by (repeat (first | with_reducible exact Fr.refl _ | with_reducible assumption | with_reducible refine Fr.alloc ?_ _ | with_reducible refine Fr.drew ?_ | with_reducible refine Fr.drewN ?_ _ | (with_reducible refine Fr.setNew2 ?_ ?_ _; · (simp <;> omega)) | with_reducible refine Fr.trans ?_ (by assumption)))⟩
  · have e1 : (if (1048576 : Int) < (m : Int) then (-1 : Int) else 1048576 - m) = -1 := by rw [if_pos (by omega)]
    go_enter Try.func28, Try.ntmps28
    go_wp2_with fail
    refine (szInts _ _ _ _ _ hm (by omega) (by omega)).mono ?_
    rintro e w' ⟨rfl, rfl⟩
    rw [e1]
    go_wp2
    go_ret
    exact ⟨ret_int (by unfold left2; rw [if_neg (by omega)]), by (repeat (first | with_reducible exact Fr.refl _ | with_reducible assumption | with_reducible refine Fr.alloc ?_ _ | with_reducible refine Fr.drew ?_ | with_reducible refine Fr.drewN ?_ _ | (with_reducible refine Fr.setNew2 ?_ ?_ _; · (simp <;> omega)) | with_reducible refine Fr.trans ?_ (by assumption)))⟩

theorem toStats (r : Int) (A A' : Option Addr) (c c' : Nat) (xs ys : List Int) (w : World) (hx : RdSl rdInt w.cell? 1 A xs) (hy : RdSl rdInt w.cell? 1 A' ys) (hl : xs.length ≤ 1048576) (hl' : ys.length ≤ 1048576) :
    Calls Try.prog 31 #[.agg #[.int .i64 r, .slice A xs.length c, .slice A' ys.length c']] w fun e w' => ∃ g g', e = .returned (.agg #[.int .i64 r, .slice (some ⟨g, 0, none⟩) xs.length xs.length, .slice (some ⟨g', 0, none⟩) ys.length ys.length]) ∧
      RdSl rdInt w'.cell? 1 (some ⟨g, 0, none⟩) xs ∧ RdSl rdInt w'.cell? 1 (some ⟨g', 0, none⟩) ys ∧ Fr w w' := by
  have HX := hid hx
  have HY := hid hy
  clear hx hy
  go_enter Try.func31, Try.ntmps31
  go_wp2_with fail
  refine absW fun W1 hW1 => ?_
  have BA : Blk W1 w.heap.size 48 #[.int .i64 r, .slice A xs.length c, .slice A' ys.length c'] := by
    rw [hW1]; exact ((Blk.new _ _ _).alloc _).alloc _
  have BR : Blk W1 (w.heap.size + 1) 53 #[.int .i64 0, .slice none 0 0, .slice none 0 0] := by
    have := (Blk.new (w.alloc (.cells #[.int .i64 r, .slice A xs.length c, .slice A' ys.length c'] 48)) 53 #[.int .i64 0, .slice none 0 0, .slice none 0 0])
    rw [World.size_alloc] at this
    rw [hW1]; exact this.alloc _
  have BL : Blk W1 (w.heap.size + 2) 53 #[.int .i64 r, .slice none 0 0, .slice none 0 0] := by
    have := (Blk.new ((w.alloc (.cells #[.int .i64 r, .slice A xs.length c, .slice A' ys.length c'] 48)).alloc (.cells #[.int .i64 0, .slice none 0 0, .slice none 0 0] 53)) 53 #[.int .i64 r, .slice none 0 0, .slice none 0 0])
    rw [World.size_alloc, World.size_alloc] at this
    rw [hW1]; exact this
  have F1 : Fr w W1 := by rw [hW1]; (repeat (first | with_reducible exact Fr.refl _ | with_reducible assumption | with_reducible refine Fr.alloc ?_ _ | with_reducible refine Fr.drew ?_ | with_reducible refine Fr.drewN ?_ _ | (with_reducible refine Fr.setNew2 ?_ ?_ _; · (simp <;> omega)) | with_reducible refine Fr.trans ?_ (by assumption)))
  clear hW1
  have hs1 := BL.lt
  refine (toIntsB _ _ _ _ (HX.out.fr rdInt_mono F1) hl).mono ?_
  rintro e w1 ⟨g, rfl, x1, b1⟩
  have X1 := hid x1; clear x1
  obtain ⟨c0, c1, c2, f0, f1, f2⟩ := (BL.fr b1).three
  obtain ⟨a0, a1, a2, _⟩ := (BA.fr b1).three
  go_wp2_with fail
  refine absW fun W2 hW2 => ?_
  have BL2 : Blk W2 (w.heap.size + 2) 53 #[.int .i64 r, .slice (some ⟨g, 0, none⟩) xs.length xs.length, .slice none 0 0] := by rw [hW2]; exact (BL.fr b1).set_ 1 _
  have BR2 : Blk W2 (w.heap.size + 1) 53 #[.int .i64 0, .slice none 0 0, .slice none 0 0] := by rw [hW2]; exact (BR.fr b1).far (by simp) _
  have F2 : Fr w W2 := by rw [hW2]; exact (F1.trans b1).setNew (by simp; omega) _
  have C2 : Ch (fun k => k = w.heap.size + 1 ∨ k = w.heap.size + 2) w1 W2 := by rw [hW2]; exact Ch.set (Ch.refl _) (.inl (.inr rfl)) _
  clear hW2 c0 c1 c2 f0 f1 f2 a0 a1 a2
  refine (toIntsB _ _ _ _ (HY.out.fr rdInt_mono F2) hl').mono ?_
  rintro e w2 ⟨g', rfl, y1, b2⟩
  have Y1 := hid y1; clear y1
  obtain ⟨c0, c1, c2, f0, f1, f2⟩ := (BL2.fr b2).three
  obtain ⟨d0, d1, d2, e0, e1, e2⟩ := (BR2.fr b2).three
  go_wp2
  have RR := (((((BR2.fr b2).far (p := ⟨w.heap.size + 1 + 1, 2, none⟩) (by simp) (.slice (some ⟨g', 0, none⟩) ys.length ys.length)).set_ 0 (.int .i64 r)).set_ 1 (.slice (some ⟨g, 0, none⟩) xs.length xs.length)).set_ 2 (.slice (some ⟨g', 0, none⟩) ys.length ys.length)).three
  have s2 : w.heap.size + 2 < w2.heap.size := (BL2.fr b2).lt
  have s1 := b1.size
  have s3 := C2.size
  have C3 : Ch (fun k => k = w.heap.size + 1 ∨ k = w.heap.size + 2) w2 ((((w2.setCell ⟨w.heap.size + 1 + 1, 2, none⟩ (.slice (some ⟨g', 0, none⟩) ys.length ys.length)).setCell ⟨w.heap.size + 1, 0, none⟩ (.int .i64 r)).setCell ⟨w.heap.size + 1, 1, none⟩ (.slice (some ⟨g, 0, none⟩) xs.length xs.length)).setCell ⟨w.heap.size + 1, 2, none⟩ (.slice (some ⟨g', 0, none⟩) ys.length ys.length)) :=
    Ch.set (Ch.set (Ch.set (Ch.set (Ch.refl _) (.inl (.inr rfl)) _) (.inl (.inl rfl)) _) (.inl (.inl rfl)) _) (.inl (.inl rfl)) _
  have L1 : Mle (fromB w1 W1.heap.size) (fromB ((((w2.setCell ⟨w.heap.size + 1 + 1, 2, none⟩ (.slice (some ⟨g', 0, none⟩) ys.length ys.length)).setCell ⟨w.heap.size + 1, 0, none⟩ (.int .i64 r)).setCell ⟨w.heap.size + 1, 1, none⟩ (.slice (some ⟨g, 0, none⟩) xs.length xs.length)).setCell ⟨w.heap.size + 1, 2, none⟩ (.slice (some ⟨g', 0, none⟩) ys.length ys.length)) W1.heap.size) :=
    (C2.mle_from (fun k hk => by omega)).trans ((b2.mle_from _).trans (C3.mle_from (fun k hk => by omega)))
  have L2 := C3.mle_from (lo := W2.heap.size) (fun k hk => by omega)
  refine bodyPost_ret (v := .agg #[.int .i64 r, .slice (some ⟨g, 0, none⟩) xs.length xs.length, .slice (some ⟨g', 0, none⟩) ys.length ys.length]) ?_ rfl ⟨g, g', rfl, (X1.out.mono rdInt_mono L1).mono rdInt_mono (fromB_le _ _), (Y1.out.mono rdInt_mono L2).mono rdInt_mono (fromB_le _ _), C3.fr (fun k hk => by omega) (F2.trans b2)⟩
  obtain ⟨r0, r1, r2, _⟩ := RR
  simp [results, Try.results31, go_sem, r0, r1, r2]

theorem eqStats (r : Int) (A A' B B' : Option Addr) (c c' e e' : Nat) (xs ys : List Int) (w : World) (hx : RdSl rdInt w.cell? 1 A xs) (hy : RdSl rdInt w.cell? 1 A' ys) (hx' : RdSl rdInt w.cell? 1 B xs) (hy' : RdSl rdInt w.cell? 1 B' ys) (hl : xs.length ≤ maxLen) (hl' : ys.length ≤ maxLen) :
    Calls Try.prog 34 #[.agg #[.int .i64 r, .slice A xs.length c, .slice A' ys.length c'], .agg #[.int .i64 r, .slice B xs.length e, .slice B' ys.length e']] w fun e w' => e = .returned (.bool true) ∧ Fr w w' := by
  have HX := hid hx
  have HY := hid hy
  have HX' := hid hx'
  have HY' := hid hy'
  clear hx hy hx' hy'
  have e1 : decide (xs = xs) = true := by simp
  have e2 : decide (ys = ys) = true := by simp
  go_enter Try.func34, Try.ntmps34
  go_wp2_with fail
  refine absW fun W1 hW1 => ?_
  have BA : Blk W1 w.heap.size 53 #[.int .i64 r, .slice A xs.length c, .slice A' ys.length c'] := by rw [hW1]; exact (Blk.new _ _ _).alloc _
  have BB : Blk W1 (w.heap.size + 1) 53 #[.int .i64 r, .slice B xs.length e, .slice B' ys.length e'] := by
    have := Blk.new (w.alloc (.cells #[.int .i64 r, .slice A xs.length c, .slice A' ys.length c'] 53)) 53 #[.int .i64 r, .slice B xs.length e, .slice B' ys.length e']
    rw [World.size_alloc] at this
    rw [hW1]; exact this
  have F1 : Fr w W1 := by rw [hW1]; (repeat (first | with_reducible exact Fr.refl _ | with_reducible assumption | with_reducible refine Fr.alloc ?_ _ | with_reducible refine Fr.drew ?_ | with_reducible refine Fr.drewN ?_ _ | (with_reducible refine Fr.setNew2 ?_ ?_ _; · (simp <;> omega)) | with_reducible refine Fr.trans ?_ (by assumption)))
  clear hW1
  refine (eqInts _ _ _ _ _ _ _ (HX.out.fr rdInt_mono F1) (HX'.out.fr rdInt_mono F1) hl hl).mono ?_
  rintro e w1 ⟨rfl, b1⟩
  obtain ⟨a0, a1, a2, _⟩ := (BA.fr b1).three
  obtain ⟨d0, d1, d2, _⟩ := (BB.fr b1).three
  go_wp2_with fail
  refine (eqInts _ _ _ _ _ _ _ (HY.out.fr rdInt_mono (F1.trans b1)) (HY'.out.fr rdInt_mono (F1.trans b1)) hl' hl').mono ?_
  rintro e w2 ⟨rfl, b2⟩
  go_wp2
  go_ret
  exact ⟨rfl, (F1.trans b1).trans b2⟩

def vst (rows : Int) (ds ns : List Int) (wd : Int) : Bool := decide (0 ≤ rows) && decide (rows ≤ 400) && decide ((ds.length : Int) = wd) && decide ((ns.length : Int) = wd) && cols rows ds ns
theorem cols_no {rows : Int} {ds ns : List Int} {k : Nat} (hk : k < ns.length) (hd : k < ds.length) (h : colOk rows ds[k] ns[k] = false) (wd : Int) : vst rows ds ns wd = false := by
  unfold vst cols
  rw [allIx_no hk (by rw [getD_at hk, getD_at hd]; exact h), Bool.and_false]
theorem cols_yes {rows : Int} {ds ns : List Int} (h : ∀ i (h1 : i < ns.length) (h2 : i < ds.length), colOk rows ds[i] ns[i] = true) (hl : ns.length = ds.length) : cols rows ds ns = true :=
  allIx_yes fun i hi => by rw [getD_at hi, getD_at (show i < ds.length by omega)]; exact h i hi (by omega)
set_option maxRecDepth 100000 in
set_option maxHeartbeats 1000000 in
theorem specVStats (r wd : Int) (A A' : Option Addr) (c c' : Nat) (ds ns : List Int) (w : World) (hx : RdSl rdInt w.cell? 1 A ds) (hy : RdSl rdInt w.cell? 1 A' ns) (hl : ds.length ≤ maxLen) (hl' : ns.length ≤ maxLen) :
    Calls Try.prog 99 #[.agg #[.int .i64 r, .slice A ds.length c, .slice A' ns.length c'], .int .i64 wd] w fun e w' => e = .returned (.bool (vst r ds ns wd)) ∧ Fr w w' := by
  have HX := hid hx
  have HY := hid hy
  clear hx hy
  have HL' := hid hl'
  clear HL'
  unfold maxLen at hl hl'
  have BA := hid (Blk.new w 53 #[.int .i64 r, .slice A ds.length c, .slice A' ns.length c'])
  have F1 : Fr w (w.alloc (.cells #[.int .i64 r, .slice A ds.length c, .slice A' ns.length c'] 53)) := (Fr.refl _).alloc _
  by_cases hr : 0 ≤ r ∧ r ≤ 400
  · by_cases hd : (ds.length : Int) = wd
    · subst hd
      by_cases hn : ns.length = ds.length
      · have e1 : (((ns.length : Int)) != ((ds.length : Int))) = false := by simp [hn]
        have HN := hid hn
        clear hn
        go_enter Try.func99, Try.ntmps99
        go_wp2_with (go_at_call 85; refine (inRange_yes _ _ _ _ hr.1 hr.2).mono ?_; rintro e w1 ⟨rfl, rfl⟩)
        clear e1
        go_loopw [5] (fun t wr => ∃ (k : Nat), k ≤ ds.length ∧ t = .int .i64 k ∧ Fr (w.alloc (.cells #[.int .i64 r, .slice A ds.length c, .slice A' ns.length c'] 53)) wr ∧ ∀ i (h1 : i < ns.length) (h2 : i < ds.length), i < k → colOk r ds[i] ns[i] = true) (fun t _ => ds.length - (intOf t).toNat)
        case atStart => exact ⟨0, by omega, rfl, Fr.refl _, fun i _ _ h => absurd h (by omega)⟩
        case round =>
          obtain ⟨k, hk, rfl, hf, hv⟩ := hrel
          have HV := hid hv
          clear hv
          by_cases hlt : k < ds.length
          · have hlt' : k < ns.length := by have := HN.out; omega
            obtain ⟨b, o, hA, c0⟩ := HX.out.at_ hlt
            obtain ⟨b', o', hA', d0⟩ := HY.out.at_ hlt'
            replace c0 := (F1.trans hf).cell c0
            replace d0 := (F1.trans hf).cell d0
            simp only [Nat.mul_one, Nat.add_zero] at c0 d0
            obtain ⟨a0, a1, a2, _⟩ := (BA.out.fr hf).three
            subst hA hA'
            by_cases hn1 : 0 ≤ ns[k] ∧ ns[k] ≤ r
            · have ew : IntKind.i64.wrap (r - ns[k]) = r - ns[k] := wrap_id (by omega) (by omega)
              by_cases hd1 : 0 ≤ ds[k] ∧ ds[k] ≤ r - ns[k]
              · have OK := hid (show colOk r ds[k] ns[k] = true by simp [colOk, hn1, hd1])
                go_wp2_with fail
                (refine wp_region_quietC (fun w' => Fr _ w') (by kernel_rfl) (by kernel_rfl) (Fr.refl _).drew ?_; (repeat go_big_quiet_step (first | exact fun _ => rfl | exact fun _ => ⟨rfl, rfl⟩ | (intro hw'; replace c0 := hw'.cell c0; replace d0 := hw'.cell d0; replace a0 := hw'.cell a0; replace a1 := hw'.cell a1; replace a2 := hw'.cell a2; go_simp; first | done | exact rfl | exact ⟨rfl, rfl⟩) | (intro hw'; go_at_call 85; refine (inRange_yes _ _ _ _ ?_ ?_).mono ?_; (· omega); (· omega); rintro e w1 ⟨rfl, rfl⟩; exact ⟨rfl, hw'⟩))); refine wpQuiet_nil ?_; intro wq hq)
                go_wp2
                go_roundw
                case rel => exact ⟨k + 1, by omega, by go_num, hf.trans hq, fun i h1 h2 hi => by
                  by_cases e : i = k
                  · subst e; exact OK.out
                  · exact HV.out i h1 h2 (by omega)⟩
                case measure => simp [intOf]; omega
              · have OK := hid (show colOk r ds[k] ns[k] = false by simp [colOk]; omega)
                go_wp2_with fail
                (refine wp_region_quietC (fun w' => Fr _ w') (by kernel_rfl) (by kernel_rfl) (Fr.refl _).drew ?_; (repeat go_big_quiet_step (first | exact fun _ => rfl | exact fun _ => ⟨rfl, rfl⟩ | (intro hw'; replace c0 := hw'.cell c0; replace d0 := hw'.cell d0; replace a0 := hw'.cell a0; replace a1 := hw'.cell a1; replace a2 := hw'.cell a2; go_simp; first | done | exact rfl | exact ⟨rfl, rfl⟩) | (intro hw'; go_at_call 85; refine (inRange_yes _ _ _ _ ?_ ?_).mono ?_; (· omega); (· omega); rintro e w1 ⟨rfl, rfl⟩; exact ⟨rfl, hw'⟩) | (intro hw'; go_at_call 85; refine (inRange_no _ _ _ _ ?_).mono ?_; (· omega); rintro e w1 ⟨rfl, rfl⟩; exact ⟨rfl, hw'⟩))); refine wpQuiet_nil ?_; intro wq hq)
                go_wp2
                go_ret
                exact ⟨ret_bool (cols_no hlt' hlt OK.out _).symm, (F1.trans hf).trans hq⟩
            · have OK := hid (show colOk r ds[k] ns[k] = false by simp [colOk]; omega)
              go_wp2_with fail
              (refine wp_region_quietC (fun w' => Fr _ w') (by kernel_rfl) (by kernel_rfl) (Fr.refl _).drew ?_; (repeat go_big_quiet_step (first | exact fun _ => rfl | exact fun _ => ⟨rfl, rfl⟩ | (intro hw'; replace c0 := hw'.cell c0; replace d0 := hw'.cell d0; replace a0 := hw'.cell a0; replace a1 := hw'.cell a1; replace a2 := hw'.cell a2; go_simp; first | done | exact rfl | exact ⟨rfl, rfl⟩) | (intro hw'; go_at_call 85; refine (inRange_no _ _ _ _ ?_).mono ?_; (· omega); rintro e w1 ⟨rfl, rfl⟩; exact ⟨rfl, hw'⟩))); refine wpQuiet_nil ?_; intro wq hq)
              go_wp2
              go_ret
              exact ⟨ret_bool (cols_no hlt' hlt OK.out _).symm, (F1.trans hf).trans hq⟩
          · go_wp2
            go_ret
            refine ⟨ret_bool ?_, F1.trans hf⟩
            unfold vst
            rw [cols_yes (fun i h1 h2 => HV.out i h1 h2 (by omega)) HN.out]
            have := HN.out
            simp; omega
      · have e1 : (((ns.length : Int)) != ((ds.length : Int))) = true := by simp; omega
        go_enter Try.func99, Try.ntmps99
        go_wp2_with (go_at_call 85; refine (inRange_yes _ _ _ _ hr.1 hr.2).mono ?_; rintro e w1 ⟨rfl, rfl⟩)
        go_ret
        exact ⟨ret_bool (by unfold vst; rw [show decide ((ns.length : Int) = (ds.length : Int)) = false by simp; omega]; simp), by (repeat (first | with_reducible exact Fr.refl _ | with_reducible assumption | with_reducible refine Fr.alloc ?_ _ | with_reducible refine Fr.drew ?_ | with_reducible refine Fr.drewN ?_ _ | (with_reducible refine Fr.setNew2 ?_ ?_ _; · (simp <;> omega)) | with_reducible refine Fr.trans ?_ (by assumption)))⟩
    · have e1 : (((ds.length : Int)) != wd) = true := by simp; omega
      go_enter Try.func99, Try.ntmps99
      go_wp2_with (go_at_call 85; refine (inRange_yes _ _ _ _ hr.1 hr.2).mono ?_; rintro e w1 ⟨rfl, rfl⟩)
      go_ret
      exact ⟨ret_bool (by simp [vst, hd]), by (repeat (first | with_reducible exact Fr.refl _ | with_reducible assumption | with_reducible refine Fr.alloc ?_ _ | with_reducible refine Fr.drew ?_ | with_reducible refine Fr.drewN ?_ _ | (with_reducible refine Fr.setNew2 ?_ ?_ _; · (simp <;> omega)) | with_reducible refine Fr.trans ?_ (by assumption)))⟩
  · go_enter Try.func99, Try.ntmps99
    go_wp2_with (go_at_call 85; refine (inRange_no _ _ _ _ (by omega)).mono ?_; rintro e w1 ⟨rfl, rfl⟩)
    go_ret
    exact ⟨ret_bool (by simp [vst]; omega), by (repeat (first | with_reducible exact Fr.refl _ | with_reducible assumption | with_reducible refine Fr.alloc ?_ _ | with_reducible refine Fr.drew ?_ | with_reducible refine Fr.drewN ?_ _ | (with_reducible refine Fr.setNew2 ?_ ?_ _; · (simp <;> omega)) | with_reducible refine Fr.trans ?_ (by assumption)))⟩

theorem specValidStats (r wd : Int) (A A' : Option Addr) (c c' : Nat) (ds ns : List Int) (w : World) (hx : RdSl rdInt w.cell? 1 A ds) (hy : RdSl rdInt w.cell? 1 A' ns) (hl : ds.length ≤ maxLen) (hl' : ns.length ≤ maxLen) :
    Calls Try.prog 66 #[.agg #[.int .i64 r, .slice A ds.length c, .slice A' ns.length c'], .int .i64 wd] w fun e w' => e = .returned (.bool (vstat r ds ns wd)) ∧ Fr w w' := by
  have HX := hid hx
  have HY := hid hy
  clear hx hy
  have BA := hid (Blk.new w 53 #[.int .i64 r, .slice A ds.length c, .slice A' ns.length c'])
  have F1 : Fr w (w.alloc (.cells #[.int .i64 r, .slice A ds.length c, .slice A' ns.length c'] 53)) := (Fr.refl _).alloc _
  by_cases hw : 1 ≤ wd ∧ wd ≤ 6
  · have e1 : wid wd = true := by simp [wid, hw]
    obtain ⟨a0, a1, a2, _⟩ := BA.out.three
    go_enter Try.func66, Try.ntmps66
    go_wp2_with fail
    refine (inRange_yes _ _ _ _ hw.1 hw.2).mono ?_
    rintro e w1 ⟨rfl, rfl⟩
    go_wp2_with (go_at_call 99; refine (specVStats _ _ _ _ _ _ _ _ _ (HX.out.fr rdInt_mono ?_) (HY.out.fr rdInt_mono ?_) hl hl').mono ?_; (· (repeat (first | with_reducible exact Fr.refl _ | with_reducible assumption | with_reducible refine Fr.alloc ?_ _ | with_reducible refine Fr.drew ?_ | with_reducible refine Fr.drewN ?_ _ | (with_reducible refine Fr.setNew2 ?_ ?_ _; · (simp <;> omega)) | with_reducible refine Fr.trans ?_ (by assumption)))); (· (repeat (first | with_reducible exact Fr.refl _ | with_reducible assumption | with_reducible refine Fr.alloc ?_ _ | with_reducible refine Fr.drew ?_ | with_reducible refine Fr.drewN ?_ _ | (with_reducible refine Fr.setNew2 ?_ ?_ _; · (simp <;> omega)) | with_reducible refine Fr.trans ?_ (by assumption)))); rintro e w1 ⟨rfl, b1⟩)
    go_ret
    exact ⟨ret_bool (by show vst r ds ns wd = (wid wd && vst r ds ns wd); rw [e1]; rfl), F1.trans b1⟩
  · have e1 : wid wd = false := by simp [wid]; omega
    go_enter Try.func66, Try.ntmps66
    go_wp2_with (go_at_call 85; refine (inRange_no _ _ _ _ (by omega)).mono ?_; rintro e w1 ⟨rfl, rfl⟩)
    go_ret
    exact ⟨ret_bool (by simp [vstat, e1]), F1⟩
set_option maxRecDepth 100000 in
set_option maxHeartbeats 2000000 in
theorem implValidStats (r wd : Int) (A A' : Option Addr) (c c' : Nat) (ds ns : List Int) (w : World) (hx : RdSl rdInt w.cell? 1 A ds) (hy : RdSl rdInt w.cell? 1 A' ns) (hl : ds.length ≤ maxLen) (hl' : ns.length ≤ maxLen) :
    Calls Try.prog 70 #[.agg #[.int .i64 r, .slice A ds.length c, .slice A' ns.length c'], .int .i64 wd] w fun e w' => e = .returned (.bool (vstat r ds ns wd)) ∧ Fr w w' := by
  have HX := hid hx
  have HY := hid hy
  clear hx hy
  have HL' := hid hl'
  clear HL'
  unfold maxLen at hl hl'
  have BA := hid (Blk.new w 53 #[.int .i64 r, .slice A ds.length c, .slice A' ns.length c'])
  have F1 : Fr w (w.alloc (.cells #[.int .i64 r, .slice A ds.length c, .slice A' ns.length c'] 53)) := (Fr.refl _).alloc _
  by_cases hw : 1 ≤ wd ∧ wd ≤ 6
  · have e1 : wid wd = true := by simp [wid, hw]
    by_cases hr0 : r < 0
    · have e2 : decide (r < 0) = true := by simp [hr0]
      go_enter Try.func70, Try.ntmps70
      go_wp2_with (go_at_call 55; refine (validWid _ _).mono ?_; rintro e w1 ⟨rfl, rfl⟩)
      go_ret
      exact ⟨ret_bool (by rw [vstat, show decide (0 ≤ r) = false by simp; omega]; simp), F1⟩
    have e2 : decide (r < 0) = false := by simp; omega
    by_cases hr4 : 400 < r
    · have e3 : decide (400 < r) = true := by simp [hr4]
      go_enter Try.func70, Try.ntmps70
      go_wp2_with (go_at_call 55; refine (validWid _ _).mono ?_; rintro e w1 ⟨rfl, rfl⟩)
      go_ret
      exact ⟨ret_bool (by rw [vstat, show decide (r ≤ 400) = false by simp; omega]; simp), F1⟩
    have e3 : decide (400 < r) = false := by simp; omega
    by_cases hd : (ds.length : Int) = wd
    · subst hd
      by_cases hn : ns.length = ds.length
      · have e4 : (((ns.length : Int)) != ((ds.length : Int))) = false := by simp [hn]
        have HN := hid hn
        clear hn
        go_enter Try.func70, Try.ntmps70
        go_wp2_with (go_at_call 55; refine (validWid _ _).mono ?_; rintro e w1 ⟨rfl, rfl⟩)
        clear e4
        go_loopw [32] (fun t wr => ∃ (k : Nat), k ≤ ds.length ∧ t = .int .i64 k ∧ Fr (w.alloc (.cells #[.int .i64 r, .slice A ds.length c, .slice A' ns.length c'] 53)) wr ∧ ∀ i (h1 : i < ns.length) (h2 : i < ds.length), i < k → colOk r ds[i] ns[i] = true) (fun t _ => ds.length - (intOf t).toNat)
        case atStart => exact ⟨0, by omega, rfl, Fr.refl _, fun i _ _ h => absurd h (by omega)⟩
        case round =>
          obtain ⟨k, hk, rfl, hf, hv⟩ := hrel
          have HV := hid hv
          clear hv
          by_cases hlt : k < ds.length
          · have hlt' : k < ns.length := by have := HN.out; omega
            obtain ⟨b, o, hA, c0⟩ := HX.out.at_ hlt
            obtain ⟨b', o', hA', d0⟩ := HY.out.at_ hlt'
            replace c0 := (F1.trans hf).cell c0
            replace d0 := (F1.trans hf).cell d0
            simp only [Nat.mul_one, Nat.add_zero] at c0 d0
            obtain ⟨a0, a1, a2, _⟩ := (BA.out.fr hf).three
            subst hA hA'
            have NO := hid (fun (h : colOk r ds[k] ns[k] = false) => show vstat r ds ns (ds.length : Int) = false by
              show (wid _ && vst r ds ns _) = false
              rw [cols_no hlt' hlt h, Bool.and_false])
            by_cases hn1 : ns[k] < 0
            · have g1 : decide (ns[k] < 0) = true := by simp [hn1]
              have OK := hid (show colOk r ds[k] ns[k] = false by simp [colOk]; omega)
              go_wp2_with fail
              go_quiet (fail)
              go_wp2
              go_ret
              exact ⟨ret_bool (NO.out OK.out).symm, (F1.trans hf).drewN _⟩
            have g1 : decide (ns[k] < 0) = false := by simp; omega
            by_cases hn2 : r < ns[k]
            · have g2 : decide (r < ns[k]) = true := by simp [hn2]
              have OK := hid (show colOk r ds[k] ns[k] = false by simp [colOk]; omega)
              go_wp2_with fail
              go_quiet (fail)
              go_wp2
              go_ret
              exact ⟨ret_bool (NO.out OK.out).symm, (F1.trans hf).drewN _⟩
            have g2 : decide (r < ns[k]) = false := by simp; omega
            have ew : IntKind.i64.wrap (r - ns[k]) = r - ns[k] := wrap_id (by omega) (by omega)
            by_cases hd1 : ds[k] < 0
            · have g3 : decide (ds[k] < 0) = true := by simp [hd1]
              have OK := hid (show colOk r ds[k] ns[k] = false by simp [colOk]; omega)
              go_wp2_with fail
              go_quiet (fail)
              go_wp2_with fail
              go_quiet (fail)
              go_wp2
              go_ret
              exact ⟨ret_bool (NO.out OK.out).symm, ((F1.trans hf).drewN _).drewN _⟩
            have g3 : decide (ds[k] < 0) = false := by simp; omega
            by_cases hd2 : r - ns[k] < ds[k]
            · have g4 : decide (r - ns[k] < ds[k]) = true := by simp [hd2]
              have OK := hid (show colOk r ds[k] ns[k] = false by simp [colOk]; omega)
              go_wp2_with fail
              go_quiet (fail)
              go_wp2_with fail
              go_quiet (fail)
              go_wp2
              go_ret
              exact ⟨ret_bool (NO.out OK.out).symm, ((F1.trans hf).drewN _).drewN _⟩
            · have g4 : decide (r - ns[k] < ds[k]) = false := by simp; omega
              have OK := hid (show colOk r ds[k] ns[k] = true by simp [colOk]; omega)
              go_wp2_with fail
              go_quiet (fail)
              go_wp2_with fail
              go_quiet (fail)
              go_wp2
              go_roundw
              case rel => exact ⟨k + 1, by omega, by go_num, hf.drewN _, fun i h1 h2 hi => by
                by_cases e : i = k
                · subst e; exact OK.out
                · exact HV.out i h1 h2 (by omega)⟩
              case measure => simp [intOf]; omega
          · go_wp2
            go_ret
            refine ⟨ret_bool ?_, F1.trans hf⟩
            unfold vstat
            rw [cols_yes (fun i h1 h2 => HV.out i h1 h2 (by omega)) HN.out, e1]
            have := HN.out
            simp; omega
      · have e4 : (((ns.length : Int)) != ((ds.length : Int))) = true := by simp; omega
        go_enter Try.func70, Try.ntmps70
        go_wp2_with (go_at_call 55; refine (validWid _ _).mono ?_; rintro e w1 ⟨rfl, rfl⟩)
        go_ret
        exact ⟨ret_bool (by unfold vstat; rw [show decide ((ns.length : Int) = (ds.length : Int)) = false by simp; omega]; simp), F1⟩
    · have e4 : (((ds.length : Int)) != wd) = true := by simp; omega
      go_enter Try.func70, Try.ntmps70
      go_wp2_with (go_at_call 55; refine (validWid _ _).mono ?_; rintro e w1 ⟨rfl, rfl⟩)
      go_ret
      exact ⟨ret_bool (by unfold vstat; rw [show decide ((ds.length : Int) = wd) = false by simp; omega]; simp), F1⟩
  · have e1 : wid wd = false := by simp [wid]; omega
    go_enter Try.func70, Try.ntmps70
    go_wp2_with (go_at_call 55; refine (validWid _ _).mono ?_; rintro e w1 ⟨rfl, rfl⟩)
    go_ret
    exact ⟨ret_bool (by simp [vstat, e1]), F1⟩
end Go.Proofs.Ytkkmfmeocigijaa
