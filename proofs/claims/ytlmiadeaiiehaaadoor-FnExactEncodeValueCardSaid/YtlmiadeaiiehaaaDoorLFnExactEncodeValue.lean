/- Walk of the law FnExactEncodeValue; the last step of its row: what the listed table holds, a world that meets the condition. -/
import Derived.Test.YtlmiadeaiiehaaaDoorEncI
import Derived.Test.YtlmiadeaiiehaaaDoorValOpen
import Derived.Test.YtlmiadeaiiehaaaDoorTie
import Derived.Lib.LaidTab
import Derived.LaidLaws
import Derived.LaidMore
import Derived.Lay
import Derived.MakeChecks
import Derived.Stop.Joined
import Derived.SevenTiedAt
namespace Go.Proofs.YtlmiadeaiiehaaaDoor
open Go Go.RowKit

theorem toV (b : Bool) (n : Int) (w : World) :
    Calls Tryd.prog 5 #[.agg #[.bool b, .int .i64 n]] w fun e w' => e = .returned (.agg #[.bool b, .int .i64 n]) ∧ Fr w w' := by
  go_enter Tryd.func5, Tryd.ntmps5
  go_wp2
  exact bodyPost_ret (v := .agg #[.bool b, .int .i64 n]) (by simp [results, Tryd.results5, go_sem]) rfl ⟨rfl, by (repeat (first | with_reducible exact Fr.refl _ | with_reducible assumption | with_reducible refine Fr.alloc ?_ _ | with_reducible refine Fr.drew ?_ | with_reducible refine Fr.drewN ?_ _ | (with_reducible refine Fr.setNew2 ?_ ?_ _; · (simp <;> omega)) | with_reducible refine Fr.trans ?_ (by assumption)))⟩
set_option maxRecDepth 100000 in
theorem walkFnExactEncodeValue (b : Bool) (n : Int) (w : World) (htab : Lib.TabIs Tryd.prog w "internal/strconv.uint64pow10" .u64 Lib.pow10Tab) :
    Calls Tryd.prog 3 #[.agg #[.bool b, .int .i64 n]] w fun e w' => e = .returned (.bool true) ∧ Fr w w' := by
  have F0 : Fr w (w.alloc (.cells #[.bool b, .int .i64 n] 23)) := (Fr.refl _).alloc _
  have BV := Blk.new w 23 #[.bool b, .int .i64 n]
  have HT := hid htab
  clear htab
  have SP := hid (specEnc b n)
  have IM := hid (fun W (h : Fr w W) => implEnc b n W (tab_fr HT.out h))
  obtain ⟨X, eX⟩ : ∃ s, (encS b n).toArray = s := ⟨_, rfl⟩
  rw [eX] at SP IM
  clear eX
  go_enter Tryd.func3, Tryd.ntmps3
  go_wp2_with fail
  refine (toV b n _).mono ?_
  rintro e w1 ⟨rfl, b1⟩
  go_wp2_with fail
  refine (SP.out _).mono ?_
  rintro e w2 ⟨rfl, b2⟩
  have F2 := (F0.trans b1).trans b2
  obtain ⟨c0, c1, _⟩ := (BV.fr (b1.trans b2)).pair
  go_wp2_with fail
  refine (toV b n _).mono ?_
  rintro e w3 ⟨rfl, b3⟩
  go_wp2_with fail
  refine (IM.out _ (F2.trans b3)).mono ?_
  rintro e w4 ⟨rfl, b4⟩
  go_wp2
  go_ret
  exact ⟨rfl, (F2.trans b3).trans b4⟩
/-- The listed variables. -/
abbrev laid3 : List (String × DataW Unit) := [("math/bits.deBruijn32tab", Rows.laid_math_bits_deBruijn32tab), ("math/bits.deBruijn64tab", Rows.laid_math_bits_deBruijn64tab), ("internal/strconv.uint64pow10", Rows.laid_internal_strconv_uint64pow10)]
theorem pow10_data : (Rows.laid_internal_strconv_uint64pow10 : DataW Unit) = Lib.tabData .u64 Lib.pow10Tab := by kernel_rfl
/-- What the condition gives the walk: the table of powers of ten. -/
theorem tab_laid {W : World} (h : laidMetH Tryd.prog laid3 W) : Lib.TabIs Tryd.prog W "internal/strconv.uint64pow10" .u64 Lib.pow10Tab := by
  rw [MakeChecks.laidMetH_plain _ _ _ (by kernel_rfl)] at h
  obtain ⟨ps, ⟨g0, t0, cs0, f0, p0, q0, hg0, ht0, hv0, hd0, ⟨g1, t1, cs1, f1, p1, q1, hg1, ht1, hv1, hd1, ⟨g2, t2, cs2, f2, p2, q2, hg2, ht2, hv2, hd2, _⟩, _⟩, _⟩, _⟩ := h
  obtain rfl := Option.some.inj ((show Tryd.prog.globalNamed "internal/strconv.uint64pow10" = some 0 by kernel_rfl).symm.trans hg2)
  obtain rfl := Option.some.inj ((show (Tryd.prog.globals[0]?).map (·.type) = some 42 by kernel_rfl).symm.trans ht2)
  unfold Lib.TabIs
  rw [pow10_data] at hd2
  rw [hv2, ← Lib.cells_of_tab Tryd.underlying42 Tryd.underlying35 (by kernel_rfl) (by kernel_rfl) hd2]
end Go.Proofs.YtlmiadeaiiehaaaDoor
