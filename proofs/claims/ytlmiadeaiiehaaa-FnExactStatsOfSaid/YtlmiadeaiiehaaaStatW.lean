/- Walks of the functions on statistics; the law on them. -/
import Derived.Test.YtlmiadeaiiehaaaRelP
import Derived.Test.YtlmiadeaiiehaaaMemQ
import Derived.Test.YtlmiadeaiiehaaaMem
import Derived.Test.YtlmiadeaiiehaaaIntsB
import Derived.Test.YtlmiadeaiiehaaaLaw
namespace Go.Proofs.Ytlmiadeaiiehaaa
open Go Go.RowKit

theorem validWid (n : Int) (w : World) :
    Calls Try.prog 53 #[.int .i64 n] w fun e w' => e = .returned (.bool (wid n)) ∧ w = w' := by
  go_enter Try.func53, Try.ntmps53
  go_wp2
  all_goals go_ret
  all_goals exact ⟨ret_bool (by rw [Bool.eq_iff_iff]; simp [wid]; try omega), rfl⟩

/-- What a size of two slices leaves. -/
def left2 (m n : Nat) : Int := if m + n ≤ 1048576 then 1048576 - ((m + n : Nat) : Int) else -1
theorem eqStats (r : Int) (A A' B B' : Option Addr) (c c' e e' : Nat) (xs ys : List Int) (w : World) (hx : RdSl rdInt w.cell? 1 A xs) (hy : RdSl rdInt w.cell? 1 A' ys) (hx' : RdSl rdInt w.cell? 1 B xs) (hy' : RdSl rdInt w.cell? 1 B' ys) (hl : xs.length ≤ maxLen) (hl' : ys.length ≤ maxLen) :
    Calls Try.prog 9 #[.agg #[.int .i64 r, .slice A xs.length c, .slice A' ys.length c'], .agg #[.int .i64 r, .slice B xs.length e, .slice B' ys.length e']] w fun e w' => e = .returned (.bool true) ∧ Fr w w' := by
  have HX := hid hx
  have HY := hid hy
  have HX' := hid hx'
  have HY' := hid hy'
  clear hx hy hx' hy'
  have e1 : decide (xs = xs) = true := by simp
  have e2 : decide (ys = ys) = true := by simp
  go_enter Try.func9, Try.ntmps9
  go_wp2_with fail
  refine absW fun W1 hW1 => ?_
  have BA : Blk W1 w.heap.size 28 #[.int .i64 r, .slice A xs.length c, .slice A' ys.length c'] := by rw [hW1]; exact (Blk.new _ _ _).alloc _
  have BB : Blk W1 (w.heap.size + 1) 28 #[.int .i64 r, .slice B xs.length e, .slice B' ys.length e'] := by
    have := Blk.new (w.alloc (.cells #[.int .i64 r, .slice A xs.length c, .slice A' ys.length c'] 28)) 28 #[.int .i64 r, .slice B xs.length e, .slice B' ys.length e']
    rw [World.size_alloc] at this
    rw [hW1]; exact this
  have F1 : Fr w W1 := by rw [hW1]; (repeat (first | with_reducible exact Fr.refl _ | with_reducible assumption | with_reducible refine Fr.alloc ?_ _ | with_reducible refine Fr.drew ?_ | with_reducible refine Fr.drewN ?_ _ | (with_reducible refine Fr.setNew2 ?_ ?_ _; · (simp <;> omega)) | with_reducible refine Fr.trans ?_ (by assumption)))
  clear hW1
  refine (eqInts _ _ _ _ _ _ _ (HX.out.fr rdInt_mono F1) (HX'.out.fr rdInt_mono F1) hl hl).mono ?_
  rintro e w1 ⟨rfl, b1⟩
  obtain ⟨a0, a1, a2, _⟩ := (BA.fr b1).three
  obtain ⟨d0, d1, d2, _⟩ := (BB.fr b1).three
  go_wp2_with fail
  refine (eqInts _ _ _ _ _ _ _ (HY.out.fr rdInt_mono (F1.trans b1)) (HY'.out.fr rdInt_mono (F1.trans b1)) hl' hl').mono ?_
  rintro e w2 ⟨rfl, b2⟩
  go_wp2
  go_ret
  exact ⟨rfl, (F1.trans b1).trans b2⟩

def vst (rows : Int) (ds ns : List Int) (wd : Int) : Bool := decide (0 ≤ rows) && decide (rows ≤ 400) && decide ((ds.length : Int) = wd) && decide ((ns.length : Int) = wd) && cols rows ds ns
theorem cols_no {rows : Int} {ds ns : List Int} {k : Nat} (hk : k < ns.length) (hd : k < ds.length) (h : colOk rows ds[k] ns[k] = false) (wd : Int) : vst rows ds ns wd = false := by
  unfold vst cols
  rw [allIx_no hk (by rw [getD_at hk, getD_at hd]; exact h), Bool.and_false]
theorem cols_yes {rows : Int} {ds ns : List Int} (h : ∀ i (h1 : i < ns.length) (h2 : i < ds.length), colOk rows ds[i] ns[i] = true) (hl : ns.length = ds.length) : cols rows ds ns = true :=
  allIx_yes fun i hi => by rw [getD_at hi, getD_at (show i < ds.length by omega)]; exact h i hi (by omega)
end Go.Proofs.Ytlmiadeaiiehaaa
