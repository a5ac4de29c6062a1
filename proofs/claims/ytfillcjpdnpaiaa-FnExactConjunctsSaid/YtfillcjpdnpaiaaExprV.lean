/- ValidExpr on both sides. -/
import Derived.Test.YtfillcjpdnpaiaaExprI
namespace Go.Proofs.Ytfillcjpdnpaiaa
open Go Go.RowKit

theorem validWidE (n : Int) (w : World) :
    Calls Try.prog 61 #[.int .i64 n] w fun e w' => e = .returned (.bool (wid n)) ∧ w = w' := by
  go_enter Try.func61, Try.ntmps61
  go_wp2
  all_goals go_ret
  all_goals exact ⟨ret_bool (by rw [Bool.eq_iff_iff]; simp [wid]; try omega), rfl⟩
def vexpr (wd : Int) (n : Nat) (e : Ex) : Bool := wid wd && vE wd n 8 e
theorem specValidExpr (n : Nat) (e : Ex) (A : Option Addr) (c : Nat) (wd : Int) (w : World) (hx : RdSl (rdEx n) w.cell? 5 A e.kids) (hs : exSm n e.kids) :
    Calls Try.prog 39 #[.agg #[.int .i64 e.kind, .int .i64 e.col, .bool e.val.null, .int .i64 e.val.n, .slice A e.kids.length c], .int .i64 wd] w fun r w' => r = .returned (.bool (vexpr wd n e)) ∧ Fr w w' := by
  have HX := hid hx
  clear hx
  have BA := Blk.new w 33 #[.int .i64 e.kind, .int .i64 e.col, .bool e.val.null, .int .i64 e.val.n, .slice A e.kids.length c]
  have F1 : Fr w (w.alloc (.cells #[.int .i64 e.kind, .int .i64 e.col, .bool e.val.null, .int .i64 e.val.n, .slice A e.kids.length c] 33)) := (Fr.refl _).alloc _
  by_cases hw : 1 ≤ wd ∧ wd ≤ 6
  · have R := hid (show vexpr wd n e = vE wd n 8 e by unfold vexpr wid; simp [hw])
    go_enter Try.func39, Try.ntmps39
    go_wp2_with (first | (go_at_call 64; refine (inRange_yes _ _ _ _ hw.1 hw.2).mono ?_; rintro r w1 ⟨rfl, rfl⟩) | (go_at_call 65; refine (specVE n _ _ _ _ _ _ (HX.out.fr (rdEx_mono n) F1) hs hw.1 hw.2 (by omega) (by omega)).mono ?_; rintro r w1 ⟨rfl, b1⟩))
    go_ret
    exact ⟨ret_bool R.out.symm, F1.trans b1⟩
  · have R := hid (show vexpr wd n e = false by unfold vexpr; rw [show wid wd = false by simp [wid]; omega]; rfl)
    go_enter Try.func39, Try.ntmps39
    go_wp2_with (go_at_call 64; refine (inRange_no _ _ _ _ (by omega)).mono ?_; rintro r w1 ⟨rfl, rfl⟩)
    go_ret
    exact ⟨ret_bool R.out.symm, F1⟩
/-- An expression laid in a block, as a pointer to it reads. -/
theorem ptrEx {n : Nat} {e : Ex} {A : Option Addr} {c g : Nat} {w : World} {t : TypeId} (hB : Blk w g t #[.int .i64 e.kind, .int .i64 e.col, .bool e.val.null, .int .i64 e.val.n, .slice A e.kids.length c]) (hx : RdSl (rdEx n) w.cell? 5 A e.kids) (hm : e.kids.length ≤ 1048576) (hc : e.kids.length ≤ c) :
    rdEx (n + 1) w.cell? (fun j => w.cell? ⟨g, 0 + j, none⟩) e := by
  obtain ⟨c0, c1, c2, c3, c4, _⟩ := hB.five
  exact ⟨c0, c1, c2, c3, A, c, c4, hx, by unfold maxLen; omega, hc⟩
theorem implValidExpr (n : Nat) (e : Ex) (A : Option Addr) (c : Nat) (wd : Int) (w : World) (hx : RdSl (rdEx n) w.cell? 5 A e.kids) (hs : exSm n e.kids) (hc : e.kids.length ≤ c) :
    Calls Try.prog 35 #[.agg #[.int .i64 e.kind, .int .i64 e.col, .bool e.val.null, .int .i64 e.val.n, .slice A e.kids.length c], .int .i64 wd] w fun r w' => r = .returned (.bool (vexpr wd n e)) ∧ Fr w w' := by
  have HX := hid hx
  clear hx
  have BA := Blk.new w 33 #[.int .i64 e.kind, .int .i64 e.col, .bool e.val.null, .int .i64 e.val.n, .slice A e.kids.length c]
  have F1 : Fr w (w.alloc (.cells #[.int .i64 e.kind, .int .i64 e.col, .bool e.val.null, .int .i64 e.val.n, .slice A e.kids.length c] 33)) := (Fr.refl _).alloc _
  have P := hid (ptrEx BA (HX.out.fr (rdEx_mono n) F1) (exSm_len hs) hc)
  by_cases hw : 1 ≤ wd ∧ wd ≤ 6
  · have R := hid (show vexpr wd n e = vE wd n 8 e by unfold vexpr wid; simp [hw])
    have ew : wid wd = true := by simp [wid, hw]
    go_enter Try.func35, Try.ntmps35
    go_wp2_with (first | (go_at_call 61; refine (validWidE _ _).mono ?_; rintro r w1 ⟨rfl, rfl⟩) | (go_at_call 62; refine (implVE n _ _ _ _ _ _ P.out hs hw.1 hw.2 (by omega) (by omega)).mono ?_; rintro r w1 ⟨rfl, b1⟩))
    go_ret
    exact ⟨ret_bool R.out.symm, F1.trans b1⟩
  · have ew : wid wd = false := by simp [wid]; omega
    have R := hid (show vexpr wd n e = false by unfold vexpr; rw [ew]; rfl)
    go_enter Try.func35, Try.ntmps35
    go_wp2_with (go_at_call 61; refine (validWidE _ _).mono ?_; rintro r w1 ⟨rfl, rfl⟩)
    go_ret
    exact ⟨ret_bool R.out.symm, F1⟩
end Go.Proofs.Ytfillcjpdnpaiaa
