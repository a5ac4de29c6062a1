/- The walk of the spec's freeze. -/
import Derived.Test.YtahclhldpcboeaaFrzW
namespace Go.Proofs.Ytahclhldpcboeaa
open Go Go.RowKit

def FrzAt (w : World) (v : Value) (l : List Fact) : Prop := ∃ b o cap, v = .slice (some ⟨b, o, none⟩) l.length cap ∧ RdSl rdFact w.cell? 3 (some ⟨b, o, none⟩) l ∧ l.length ≤ cap
set_option maxRecDepth 100000 in
set_option maxHeartbeats 2000000 in
theorem specFreezeW (q : Int) (A0 : Option Addr) (c0 : Nat) (hd : List Int) (A1 : Option Addr) (c1 : Nat) (bd : List Atom) (w : World) (hx1 : RdSl rdAtom w.cell? 3 A1 bd) (hl : bd.length ≤ 6) :
    Calls Try.prog 45 #[.agg #[.int .i64 q, .slice A0 hd.length c0, .slice A1 bd.length c1]] w fun r w' => ∃ v, r = .returned v ∧ FrzAt w' v (frz bd) ∧ Fr w w' := by
  have HX := hid hx1
  clear hx1
  have BA := (Blk.new w 30 #[.int .i64 q, .slice A0 hd.length c0, .slice A1 bd.length c1]).alloc (.cells #[] 53)
  have F1 : Fr w ((w.alloc (.cells #[.int .i64 q, .slice A0 hd.length c0, .slice A1 bd.length c1] 30)).alloc (.cells #[] 53)) := ((Fr.refl _).alloc _).alloc _
  go_enter Try.func45, Try.ntmps45
  go_wp2
  generalize (w.alloc (.cells #[.int .i64 q, .slice A0 hd.length c0, .slice A1 bd.length c1] 30)).alloc (.cells #[] 53) = W1 at BA F1 ⊢
  go_loopw [3, 4] (fun s t wr => ∃ (k : Nat) (v : Value), k ≤ bd.length ∧ t = .int .i64 k ∧ v = s ∧ Fr W1 wr ∧ Hid (FrzAt wr v (frz (bd.take k)))) (fun _ t _ => bd.length - (intOf t).toNat)
  case atStart => exact ⟨0, _, by omega, rfl, rfl, Fr.refl _, hid ⟨_, _, _, rfl, RdSl.nil, by simp [frz]⟩⟩
  case round =>
    obtain ⟨k, v, hk, rfl, rfl, hf, hL⟩ := hrel
    obtain ⟨a0, a1, a2, _⟩ := (BA.fr hf).three
    by_cases hlt : k < bd.length
    · obtain ⟨ab, ao, hA, d0, d1, d2⟩ := HX.out.atom hlt
      subst hA
      replace d0 := (F1.trans hf).cell d0
      replace d1 := (F1.trans hf).cell d1
      replace d2 := (F1.trans hf).cell d2
      obtain ⟨b, o, cap, rfl, hR, hcap⟩ := hL.out
      have HR := hid hR
      have hfl := frz_len (bd.take k)
      have hfl2 : (bd.take k).length ≤ 6 := by simp; omega
      have T := hid (frz_take hlt)
      clear hR
      go_wp2_with fail
      (refine wp_region_quiet_tail (fun w' => Fr _ w') 20 (by kernel_rfl) (by kernel_rfl) (Fr.refl _).drew ?_; simp only [List.take_succ_cons, List.take_zero, List.drop_succ_cons, List.drop_zero]; (repeat go_big_quiet_step (first | exact fun _ => rfl | exact fun _ => ⟨rfl, rfl⟩ | (intro hw'; replace a2 := hw'.cell a2; replace d0 := hw'.cell d0; replace d1 := hw'.cell d1; replace d2 := hw'.cell d2; go_simp; first | done | exact rfl | exact ⟨rfl, rfl⟩) )); refine wpQuiet_nil ?_; intro wq hq)
      go_wp2_with fail
      refine (addFact b o cap (frz (bd.take k)) ⟨bd[k].rel, bd[k].x, bd[k].y⟩ _ (HR.out.fr rdFact_mono hq) (by omega) hcap).mono ?_
      rintro r w1 ⟨b', o', cap', rfl, h1, h2, b1⟩
      have H1 := hid h1
      clear h1
      go_wp2
      go_roundw
      case rel => exact ⟨k + 1, _, by omega, by go_num, rfl, (hf.trans hq).trans b1, hid ⟨b', o', cap', by rw [T.out]; rfl, by rw [T.out]; exact H1.out, by rw [T.out]; exact h2⟩⟩
      case measure => simp [intOf]; omega
    · obtain rfl : k = bd.length := by omega
      have HL := hid (show FrzAt wr v (frz bd) by have h := hL.out; rwa [List.take_of_length_le (Nat.le_refl _)] at h)
      clear hL
      go_wp2
      go_ret
      exact ⟨_, rfl, HL.out, F1.trans hf⟩
end Go.Proofs.Ytahclhldpcboeaa
