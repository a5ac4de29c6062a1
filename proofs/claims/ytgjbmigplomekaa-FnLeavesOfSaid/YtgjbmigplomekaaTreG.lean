/- Walks of the generators of join trees. -/
import Derived.Test.YtgjbmigplomekaaGrfG
import Derived.Test.YtgjbmigplomekaaRJoinTree
namespace Go.Proofs.Ytgjbmigplomekaa
open Go Go.RowKit

/-- A list of numbers in a row of the call's own. -/
def IOut (base n K r p : Nat) (w0 : World) (e : Ending) (w : World) : Prop := ∃ g cap, ∃ xs : List Int, e = .returned (.slice (some ⟨g, 0, none⟩) n cap) ∧ xs.length = n ∧ n ≤ cap ∧ w.ownsRow base 3 1 (.slice (some ⟨g, 0, none⟩) n cap) n (xs.map iv) ∧ Drawn K r p w0 w
/-- A new row while an old one, in block g, is copied into it. -/
def Sh3 (w2 : World) (g : Nat) (xs : List Int) (w : World) (v : Value) (zs : List Int) : Prop := Fr w2 w ∧ w.ownsRow w2.heap.size 3 1 v zs.length (zs.map iv) ∧ ∀ (j : Nat) u, (xs.map iv)[j]? = some u → w.cell? ⟨g, j, none⟩ = some u
theorem Sh3.app {w2 w w' w5 : World} {g m : Nat} {xs zs ys : List Int} {v v5 : Value} {news : List Value} (h : Sh3 w2 g xs w v zs) (hf : Fr w w') (hg : w'.grownBy w5 v.ownBlock) (hO : w5.ownsRow w2.heap.size 3 1 v5 (zs.length + m) (zs.map iv ++ news)) (hn : news = ys.map iv) (hm : ys.length = m) (hgl : g < w2.heap.size) : Sh3 w2 g xs w5 v5 (zs ++ ys) := by
  obtain ⟨h1, h2, h3⟩ := h
  subst hn hm
  refine ⟨Fr.grown (h1.trans hf) hg (own_fr h2 hf), by rw [List.length_append, List.map_append]; exact hO, fun j u hu => hg.cell (hf.cell (h3 j u hu)) fun e => ?_⟩
  have := (h2.lt g e.symm).1
  omega
theorem Sh3.take {w2 w : World} {g k : Nat} {xs zs : List Int} {v : Value} (h : Sh3 w2 g xs w v zs) (hk : k ≤ xs.length) : ∀ (j : Nat) u, ((xs.take k).map iv)[j]? = some u → w.cell? ⟨g, 0 + j, none⟩ = some u := fun j u hu => by
  have hj : j < ((xs.take k).map iv).length := (List.getElem?_eq_some_iff.1 hu).1
  simp only [List.length_map, List.length_take] at hj
  rw [Nat.zero_add]
  refine h.2.2 j u ?_
  rw [← hu, List.map_take, List.getElem?_take_of_lt (by omega)]
theorem Sh3.drop {w2 w : World} {g k : Nat} {xs zs : List Int} {v : Value} (h : Sh3 w2 g xs w v zs) : ∀ (j : Nat) u, ((xs.drop k).map iv)[j]? = some u → w.cell? ⟨g, k + j, none⟩ = some u := fun j u hu => by
  refine h.2.2 (k + j) u ?_
  rw [← hu, List.map_drop, List.getElem?_drop]
theorem one_ints (ys : List Int) : (ys.map iv).all (·.oneCell') = true := by
  rw [List.all_eq_true]; intro u hu; obtain ⟨y, _, rfl⟩ := List.mem_map.1 hu; rfl
theorem lit_cell {w : World} {t : TypeId} {x : Int} : ∀ (j : Nat) u, ([iv x])[j]? = some u → (w.alloc (.cells #[.int .i64 x] t)).cell? ⟨w.heap.size, 0 + j, none⟩ = some u := fun j u hu => by
  rw [Nat.zero_add, (Blk.new w t #[.int .i64 x]).cell]; simpa [iv] using hu
set_option maxRecDepth 100000 in
set_option maxHeartbeats 4000000 in
theorem shuffled (r p n : Nat) (w : World) (hr : Rdr w r p) (hp : p ≤ 1000000) (hn : n ≤ 10) :
    Calls Try.prog 75 #[.pointer (some ⟨r, 0, none⟩), .int .i64 n] w (IOut w.heap.size n 20 r p w) := by
  have hlt := hr.lt
  have O0 := hid (own_empty (w := w) (base := w.heap.size) (e := 3) (sz := 1) (Nat.le_refl _))
  go_enter Try.func75, Try.ntmps75
  go_wp2
  go_loopw [5, 6] (fun s t wr => ∃ (v : Value) (xs : List Int), xs.length ≤ n ∧ t = .int .i64 xs.length ∧ v = s ∧ Hid (wr.ownsRow w.heap.size 3 1 v xs.length (xs.map iv) ∧ (∃ g cap, v = .slice (some ⟨g, 0, none⟩) xs.length cap ∧ xs.length ≤ cap) ∧ Rdr wr r (p + xs.length) ∧ Ch (· = r) w wr)) (fun _ t _ => n - (intOf t).toNat)
  case atStart => exact ⟨_, [], by simp, rfl, rfl, hid ⟨by simpa using O0.out, ⟨_, _, rfl, Nat.le_refl _⟩, hr.alloc _, (Ch.refl w).alloc _⟩⟩
  case round =>
    clear O0
    obtain ⟨v, xs, hxn, rfl, rfl, hS⟩ := hrel
    by_cases hgo : xs.length < n
    · obtain ⟨hO, ⟨g, cap, rfl, hcap⟩, hrd, hC⟩ := hS.out
      have hsr := hC.size
      clear hS
      have HO := hid hO
      clear hO
      go_wp2_with fail
      refine (pick _ r (p + xs.length) _ hrd (by omega) (by omega)).mono ?_
      rintro e w2 ⟨k, rfl, hk, hr2, hc2⟩
      have hkn : k ≤ xs.length := by omega
      have HO2 := hid (gown_ch HO.out hc2 hlt)
      have hC2 := hC.trans hc2
      have hs2 := hC2.size
      have hg2 := (HO2.out.lt g rfl).2
      have S3 := hid (show Sh3 w2 g xs (w2.alloc (.cells #[] 3)) (.slice (some ⟨w2.heap.size, 0, none⟩) 0 0) [] from ⟨(Fr.refl _).alloc _, own_empty (Nat.le_refl _), fun j u hu => ((Fr.refl _).alloc _).cell (own_cells HO2.out j u hu)⟩)
      have L1 : ((xs.take k).map iv).length = k * 1 := by simp; omega
      have L3 : ((xs.drop k).map iv).length = (xs.length - k) * 1 := by simp
      have RES := hid (show ∀ w6 v6, Sh3 w2 g xs w6 v6 (xs.take k ++ [(xs.length : Int)] ++ xs.drop k) → ∃ ys : List Int, ys.length = xs.length + 1 ∧ w6.ownsRow w.heap.size 3 1 v6 ys.length (ys.map iv) ∧ (∃ g cap, v6 = .slice (some ⟨g, 0, none⟩) ys.length cap ∧ ys.length ≤ cap) ∧ Rdr w6 r (p + ys.length) ∧ Ch (· = r) w w6 from fun w6 v6 h => by
        obtain ⟨h1, h2, _⟩ := h
        refine ⟨xs.take k ++ [(xs.length : Int)] ++ xs.drop k, by simp; omega, own_base h2 (by omega), ?_, ?_, hC2.trans h1.ch⟩
        · rcases h2.2 with ⟨_, h0⟩ | ⟨g', cap', cur, hv, _, _, hnc, _⟩
          · simp at h0
          · exact ⟨g', cap', hv, hnc⟩
        · have := hr2.fr h1
          have e : (xs.take k ++ [(xs.length : Int)] ++ xs.drop k).length = xs.length + 1 := by simp; omega
          rw [e]; exact this)
      clear HO hk hrd hC hc2 hr2
      by_cases hck : k < cap
      · go_wp2_with (first
          | (at_builtin; refine wp_appW rfl _ _ 23 rfl w2.heap.size 3 (.int .i64 0) 1 8 Try.underlying23 (by kernel_rfl) rfl (by decide) (by decide) _ 0 [] rfl S3.out.2.1 (by omega) (by simp) g 0 k cap ((xs.take k).map iv) rfl L1 (S3.out.take hkn) (by omega) (one_ints _) ?_; intro v4 w4 hO4 hg4 _; have S4 := hid (S3.out.app (Fr.refl _) hg4 hO4 rfl (by simp; omega) hg2); have G4 := S4.out.1.size; clear hO4 hg4)
          | (at_builtin; refine wp_appW rfl _ _ 23 rfl w2.heap.size 3 (.int .i64 0) 1 8 Try.underlying23 (by kernel_rfl) rfl (by decide) (by decide) v4 _ _ rfl (own_fr S4.out.2.1 ((Fr.refl _).alloc _)) (by simp; omega) (by simp; omega) w4.heap.size 0 1 1 [iv xs.length] rfl rfl lit_cell (by omega) rfl ?_; intro v5 w5 hO5 hg5 _; have S5 := hid (S4.out.app ((Fr.refl _).alloc _) hg5 hO5 (ys := [(xs.length : Int)]) rfl rfl hg2); have G5 := S5.out.1.size; clear hO5 hg5)
          | (at_builtin; refine wp_appW rfl _ _ 23 rfl w2.heap.size 3 (.int .i64 0) 1 8 Try.underlying23 (by kernel_rfl) rfl (by decide) (by decide) v5 _ _ rfl S5.out.2.1 (by simp; omega) (by omega) g k (xs.length - k) (cap - k) ((xs.drop k).map iv) rfl L3 S5.out.drop (by omega) (one_ints _) ?_; intro v6 w6 hO6 hg6 _; have S6 := hid (S5.out.app (Fr.refl _) hg6 hO6 rfl (by simp) hg2); have R6 := hid (RES.out _ _ S6.out); clear hO6 hg6)
          | fail)
        all_goals go_roundw
        case rel => obtain ⟨ys, h1, h2⟩ := R6.out; exact ⟨v6, ys, by omega, by rw [h1]; go_num, rfl, hid h2⟩
        case measure => simp [intOf]; omega
      · have hdn : xs.drop k = [] := List.drop_eq_nil_of_le (by omega)
        have Q6 : ∀ (W : World) (j : Nat) u, ((xs.drop k).map iv)[j]? = some u → W.cell? ⟨g, 0 + j, none⟩ = some u := fun W j u hu => by rw [hdn] at hu; simp at hu
        clear hdn
        go_wp2_with (first
          | (at_builtin; refine wp_appW rfl _ _ 23 rfl w2.heap.size 3 (.int .i64 0) 1 8 Try.underlying23 (by kernel_rfl) rfl (by decide) (by decide) _ 0 [] rfl S3.out.2.1 (by omega) (by simp) g 0 k cap ((xs.take k).map iv) rfl L1 (S3.out.take hkn) (by omega) (one_ints _) ?_; intro v4 w4 hO4 hg4 _; have S4 := hid (S3.out.app (Fr.refl _) hg4 hO4 rfl (by simp; omega) hg2); have G4 := S4.out.1.size; clear hO4 hg4)
          | (at_builtin; refine wp_appW rfl _ _ 23 rfl w2.heap.size 3 (.int .i64 0) 1 8 Try.underlying23 (by kernel_rfl) rfl (by decide) (by decide) v4 _ _ rfl (own_fr S4.out.2.1 ((Fr.refl _).alloc _)) (by simp; omega) (by simp; omega) w4.heap.size 0 1 1 [iv xs.length] rfl rfl lit_cell (by omega) rfl ?_; intro v5 w5 hO5 hg5 _; have S5 := hid (S4.out.app ((Fr.refl _).alloc _) hg5 hO5 (ys := [(xs.length : Int)]) rfl rfl hg2); have G5 := S5.out.1.size; clear hO5 hg5)
          | (at_builtin; refine wp_appW rfl _ _ 23 rfl w2.heap.size 3 (.int .i64 0) 1 8 Try.underlying23 (by kernel_rfl) rfl (by decide) (by decide) v5 _ _ rfl S5.out.2.1 (by simp; omega) (by omega) g 0 (xs.length - k) (cap - k) ((xs.drop k).map iv) rfl L3 (Q6 _) (by omega) (one_ints _) ?_; intro v6 w6 hO6 hg6 _; have S6 := hid (S5.out.app (Fr.refl _) hg6 hO6 rfl (by simp) hg2); have R6 := hid (RES.out _ _ S6.out); clear hO6 hg6)
          | fail)
        all_goals go_roundw
        case rel => obtain ⟨ys, h1, h2⟩ := R6.out; exact ⟨v6, ys, by omega, by rw [h1]; go_num, rfl, hid h2⟩
        case measure => simp [intOf]; omega
    · obtain rfl : n = xs.length := by omega
      obtain ⟨hO, ⟨g, cap, rfl, hcap⟩, hrd, hC⟩ := hS.out
      clear hS
      have R := hid (And.intro hO (And.intro hrd hC))
      clear hO hrd hC
      go_wp2
      go_ret
      exact ⟨g, cap, xs, rfl, rfl, hcap, R.out.1, p + xs.length, by omega, R.out.2.1, R.out.2.2⟩
end Go.Proofs.Ytgjbmigplomekaa
