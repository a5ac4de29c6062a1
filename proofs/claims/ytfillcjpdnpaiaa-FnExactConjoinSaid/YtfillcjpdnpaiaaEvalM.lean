/- Walks of the laws' helpers on expressions: two, not, isTrue. -/
import Derived.Test.YtfillcjpdnpaiaaEvalL
import Derived.Test.YtfillcjpdnpaiaaExprH
namespace Go.Proofs.Ytfillcjpdnpaiaa
open Go Go.RowKit

theorem KidsOk.fr {m : Nat} {w w' : World} {x : Ex × Option Addr × Nat} (h : KidsOk m w.cell? x) (hf : Fr w w') : KidsOk m w'.cell? x := h.mono hf.mle
theorem RdSl.exc {n : Nat} {m : Mv} {A : Option Addr} {xs : List Ex} (h : RdSl (rdEx (n + 1)) m 5 A xs) {k : Nat} (hk : k < xs.length) :
    ∃ b o B c, A = some ⟨b, o, none⟩ ∧ m ⟨b, o + k * 5, none⟩ = some (.int .i64 xs[k].kind) ∧ m ⟨b, o + k * 5 + 1, none⟩ = some (.int .i64 xs[k].col) ∧ m ⟨b, o + k * 5 + 2, none⟩ = some (.bool xs[k].val.null) ∧ m ⟨b, o + k * 5 + 3, none⟩ = some (.int .i64 xs[k].val.n) ∧ m ⟨b, o + k * 5 + 4, none⟩ = some (.slice B xs[k].kids.length c) ∧ KidsOk n m (xs[k], B, c) := by
  obtain ⟨b, o, hA, hc⟩ := h.at_ hk
  obtain ⟨g0, g1, g2, g3, B, c, h0, h1, h2, h3⟩ := hc
  exact ⟨b, o, B, c, hA, g0, g1, g2, g3, h0, h1, h2, h3⟩
set_option maxHeartbeats 1000000 in
theorem isTrueC (n : Nat) (x : Ex) (X : Option Addr) (cx : Nat) (row : List V) (B : Option Addr) (rc : Nat) (w : World) (hx : KidsOk n w.cell? (x, X, cx)) (hs : exSm n x.kids) (hr : RdSl rdV w.cell? 2 B row) (hrl : row.length ≤ 1048576) :
    Calls Try.prog 36 #[.agg #[.int .i64 x.kind, .int .i64 x.col, .bool x.val.null, .int .i64 x.val.n, .slice X x.kids.length cx], .slice B row.length rc] w fun r w' => r = .returned (.bool (isT row n x)) ∧ Fr w w' := by
  have HX := hid hx
  have HR := hid hr
  clear hx hr
  obtain ⟨⟨an, ax⟩, ha⟩ : ∃ a, evRes row n x = a := ⟨_, rfl⟩
  obtain ⟨ok, hok⟩ : ∃ b, evOk row n x = b := ⟨_, rfl⟩
  have R := hid (show isT row n x = (ok && !an && ax != 0) by unfold isT; rw [ha, hok])
  have F0 : Fr w (w.alloc (.cells #[.int .i64 x.kind, .int .i64 x.col, .bool x.val.null, .int .i64 x.val.n, .slice X x.kids.length cx] 33)) := (Fr.refl _).alloc _
  have CA := implEvalExpr n x X cx row B rc _ (HX.out.1.mono (rdEx_mono n) F0.mle) hs HX.out.2.2 (HR.out.fr rdV_mono F0) hrl
  rw [ha, hok] at CA
  replace CA := hid CA
  clear ha hok
  cases hx0 : (ax != 0) <;> cases ok <;> cases an
  all_goals go_enter Try.func36, Try.ntmps36
  all_goals go_wp2_with fail
  all_goals refine CA.out.mono ?_
  all_goals rintro r w1 ⟨rfl, b1⟩
  all_goals have FF := F0.trans b1
  all_goals go_wp2
  all_goals go_ret
  all_goals exact ⟨ret_bool (by rw [R.out, hx0]; rfl), by (repeat (first | with_reducible exact Fr.refl _ | with_reducible assumption | with_reducible refine Fr.alloc ?_ _ | with_reducible refine Fr.drew ?_ | with_reducible refine Fr.drewN ?_ _ | (with_reducible refine Fr.setNew2 ?_ ?_ _; · (simp <;> omega)) | with_reducible refine Fr.trans ?_ (by assumption)))⟩
end Go.Proofs.Ytfillcjpdnpaiaa
