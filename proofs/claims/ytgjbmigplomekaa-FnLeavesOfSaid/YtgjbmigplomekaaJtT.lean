/- Walks of TreeCost and LeavesOf. -/
import Derived.Test.YtgjbmigplomekaaJtI
import Derived.Test.YtgjbmigplomekaaMark
namespace Go.Proofs.Ytgjbmigplomekaa
open Go Go.RowKit

set_option maxRecDepth 100000 in
set_option maxHeartbeats 2000000 in
theorem implTreeCost (n : Nat) (A0 : Option Addr) (c0 : Nat) (rs : List Int) (A1 : Option Addr) (c1 : Nat) (es : List Edge) (e : JT) (A : Option Addr) (c : Nat) (w : World) (hx0 : RdSl rdInt w.cell? 1 A0 rs) (hx1 : RdSl rdEdge w.cell? 3 A1 es) (hl0 : rs.length ≤ 1048576) (hl1 : es.length ≤ 1048576)
    (hx : RdSl (rdJT n) w.cell? 2 A e.kids) (hl : e.kids.length ≤ 1048576) (hc : e.kids.length ≤ c) :
    Calls Try.prog 32 #[.agg #[.slice A0 rs.length c0, .slice A1 es.length c1], .agg #[.int .i64 e.leaf, .slice A e.kids.length c]] w fun r w' => ∃ s : Int, r = .returned (.int .i64 s) ∧ ((vgraph rs es = true ∧ jm n rs.length e ≠ 0) → 0 ≤ s) ∧ (¬ (vgraph rs es = true ∧ jm n rs.length e ≠ 0) → s = -1) ∧ Fr w w' := by
  have HX0 := hid hx0
  have HX1 := hid hx1
  have HX := hid hx
  clear hx0 hx1 hx
  go_enter Try.func32, Try.ntmps32
  go_wp2_with fail
  refine absW fun W1 hW1 => ?_
  have BG : Blk W1 w.heap.size 26 #[.slice A0 rs.length c0, .slice A1 es.length c1] := by
    rw [hW1]; exact (Blk.new w 26 #[.slice A0 rs.length c0, .slice A1 es.length c1]).alloc _
  have BT : Blk W1 (w.heap.size + 1) 29 #[.int .i64 e.leaf, .slice A e.kids.length c] := by
    have := Blk.new (w.alloc (.cells #[.slice A0 rs.length c0, .slice A1 es.length c1] 26)) 29 #[.int .i64 e.leaf, .slice A e.kids.length c]
    rw [World.size_alloc] at this
    rw [hW1]; exact this
  have F1 : Fr w W1 := by rw [hW1]; (repeat (first | with_reducible exact Fr.refl _ | with_reducible assumption | with_reducible refine Fr.alloc ?_ _ | with_reducible refine Fr.drew ?_ | with_reducible refine Fr.drewN ?_ _ | (with_reducible refine Fr.setNew2 ?_ ?_ _; · (simp <;> omega)) | with_reducible refine Fr.trans ?_ (by assumption)))
  clear hW1
  refine (implValidGraph _ _ _ _ _ _ _ (HX0.out.fr rdInt_mono F1) (HX1.out.fr rdEdge_mono F1) hl0 hl1).mono ?_
  rintro r w2 ⟨rfl, b2⟩
  have F2 := F1.trans b2
  cases hv : vgraph rs es
  · go_wp2
    go_ret
    exact ⟨-1, rfl, fun h => absurd h.1 (by rw [hv]; simp), fun _ => rfl, F2⟩
  · obtain ⟨v1, v2, _⟩ := vgraph_facts hv
    have HV := hid hv
    clear hv
    have HG : GrAt w2 w.heap.size rs es := ⟨A0, c0, A1, c1, (BG.fr b2).cell 0, (BG.fr b2).cell 1, HX0.out.fr rdInt_mono F2, HX1.out.fr rdEdge_mono F2⟩
    have HT : rdJT (n + 1) w2.cell? (fun j => w2.cell? ⟨w.heap.size + 1, 0 + j, none⟩) e := ⟨(BT.fr b2).cell 0, A, c, (BT.fr b2).cell 1, HX.out.fr (rdJT_mono n) F2, by unfold maxLen; omega, hc⟩
    replace HG := hid HG
    replace HT := hid HT
    have hj := jml_eq (N := (rs.length : Int)) (by omega) n e
    have HJ := hid hj
    clear hj
    obtain ⟨M, hM⟩ : ∃ M, jm n rs.length e = M := ⟨_, rfl⟩
    have HM := hid hM
    clear hM BG BT
    go_wp2_with fail
    refine (implMs n e (w.heap.size + 1) 0 5 w.heap.size rs es _ HT.out HG.out HV.out (by omega) (by omega)).mono ?_
    rintro r w3 ⟨cst, rfl, p1, p2, b3⟩
    rw [show jml n rs.length (Int.toNat 5) e = M from HJ.out.trans HM.out]
    clear p2
    by_cases h0 : M = 0
    · subst h0
      go_wp2
      go_ret
      exact ⟨-1, rfl, fun h => absurd HM.out h.2, fun _ => rfl, F2.trans b3⟩
    · have e0 : ((M : Int) == 0) = false := by simp; omega
      have H0 := hid h0
      clear h0
      go_wp2
      go_ret
      exact ⟨cst, rfl, fun _ => p1, fun h => absurd ⟨HV.out, by rw [HM.out]; exact H0.out⟩ h, F2.trans b3⟩
/-- What LeavesOf answers, with the row's place. -/
def LvPost (base : Nat) (L : List Int) (e : Ending) (w' : World) : Prop := ∃ A' cap', e = .returned (.slice A' L.length cap') ∧ RdSl rdInt (fromB w' base) 1 A' L ∧ Mk w' A' L.length ∧ (∀ k, AtB A' k → base ≤ k) ∧ L.length ≤ cap'
theorem lvPost_out {base : Nat} {L : List Int} {e : Ending} {w' : World} (h : LvPost base L e w') : ∃ A' cap', e = .returned (.slice A' L.length cap') ∧ RdSl rdInt (fromB w' base) 1 A' L ∧ Mk w' A' L.length ∧ ∀ k, AtB A' k → base ≤ k := by
  obtain ⟨A', c', h1, h2, h3, h4, _⟩ := h
  exact ⟨A', c', h1, h2, h3, h4⟩
theorem lvOf_len {n : Nat} {rs : List Int} {es : List Edge} {e : JT} : (lvOf n (vgraph rs es) rs.length e).length ≤ 2000 := by
  unfold lvOf
  split
  · rename_i h
    obtain ⟨v1, v2, _⟩ := vgraph_facts h.1
    have := lvs_len5 (N := (rs.length : Int)) (by omega) h.2
    omega
  · simp
theorem lvPost_own {base : Nat} {L : List Int} {v : Value} {w' : World} (h : w'.ownsRow base 3 1 v L.length (L.map iv)) : LvPost base L (.returned v) w' := by
  obtain ⟨A', cap', rfl⟩ := own_form h
  refine ⟨A', cap', rfl, own_int h rfl, ?_, own_atB h, ?_⟩
  · have := mk_of_own h
    rw [Nat.mul_one] at this
    exact this
  · rcases h.2 with ⟨hv, h0⟩ | ⟨g, cap, cur, hv, _, _, hnc, _⟩
    · omega
    · injection hv with _ _ hc
      omega
theorem lvPost_nil {base : Nat} {w' : World} : LvPost base [] (.returned (.slice none 0 0)) w' := ⟨none, 0, rfl, RdSl.nil, fun h => absurd rfl h, fun k ⟨_, h, _⟩ => (by cases h), Nat.le_refl _⟩
set_option maxRecDepth 100000 in
set_option maxHeartbeats 2000000 in
theorem implLeavesOf (n : Nat) (A0 : Option Addr) (c0 : Nat) (rs : List Int) (A1 : Option Addr) (c1 : Nat) (es : List Edge) (e : JT) (A : Option Addr) (c : Nat) (w : World) (hx0 : RdSl rdInt w.cell? 1 A0 rs) (hx1 : RdSl rdEdge w.cell? 3 A1 es) (hl0 : rs.length ≤ 1048576) (hl1 : es.length ≤ 1048576)
    (hx : RdSl (rdJT n) w.cell? 2 A e.kids) (hl : e.kids.length ≤ 1048576) (hc : e.kids.length ≤ c) :
    Calls Try.prog 7 #[.agg #[.slice A0 rs.length c0, .slice A1 es.length c1], .agg #[.int .i64 e.leaf, .slice A e.kids.length c]] w fun r w' => LvPost w.heap.size (lvOf n (vgraph rs es) rs.length e) r w' ∧ Fr w w' := by
  have HX0 := hid hx0
  have HX1 := hid hx1
  have HX := hid hx
  clear hx0 hx1 hx
  go_enter Try.func7, Try.ntmps7
  go_wp2_with fail
  refine absW fun W1 hW1 => ?_
  have BT : Blk W1 (w.heap.size + 1) 29 #[.int .i64 e.leaf, .slice A e.kids.length c] := by
    have := Blk.new (w.alloc (.cells #[.slice A0 rs.length c0, .slice A1 es.length c1] 26)) 29 #[.int .i64 e.leaf, .slice A e.kids.length c]
    rw [World.size_alloc] at this
    rw [hW1]; exact this
  have F1 : Fr w W1 := by rw [hW1]; (repeat (first | with_reducible exact Fr.refl _ | with_reducible assumption | with_reducible refine Fr.alloc ?_ _ | with_reducible refine Fr.drew ?_ | with_reducible refine Fr.drewN ?_ _ | (with_reducible refine Fr.setNew2 ?_ ?_ _; · (simp <;> omega)) | with_reducible refine Fr.trans ?_ (by assumption)))
  clear hW1
  refine (implTreeCost n _ _ _ _ _ _ _ _ _ _ (HX0.out.fr rdInt_mono F1) (HX1.out.fr rdEdge_mono F1) hl0 hl1 (HX.out.fr (rdJT_mono n) F1) hl hc).mono ?_
  rintro r w2 ⟨s, rfl, s1, s2, b2⟩
  have F2 := F1.trans b2
  by_cases hok : vgraph rs es = true ∧ jm n rs.length e ≠ 0
  · have hs := s1 hok
    have hs1 : (s == -1) = false := by simp; omega
    have R := hid (show lvOf n (vgraph rs es) rs.length e = lvs n e from if_pos hok)
    obtain ⟨v1, v2, _⟩ := vgraph_facts hok.1
    have hj := hid hok.2
    have HT : rdJT (n + 1) w2.cell? (fun j => w2.cell? ⟨w.heap.size + 1, 0 + j, none⟩) e := ⟨(BT.fr b2).cell 0, A, c, (BT.fr b2).cell 1, HX.out.fr (rdJT_mono n) F2, by unfold maxLen; omega, hc⟩
    replace HT := hid HT
    obtain ⟨_, hlen⟩ := lvs_len5 (N := (rs.length : Int)) (by omega) hj.out
    clear s1 s2 hok BT hs
    have hsz := F2.size
    go_wp2_with fail
    refine (implLv n e (w.heap.size + 1) 0 rs.length _ _ _ [] HT.out (by omega) hj.out (Fr.refl _) own_nil (by simp; omega)).mono ?_
    rintro r w3 ⟨v', rfl, hO, b3⟩
    have HO := hid hO
    clear hO
    go_wp2
    go_ret
    rw [R.out]
    refine ⟨lvPost_own ?_, F2.trans b3⟩
    have := own_base HO.out hsz
    simpa using this
  · have R := hid (show lvOf n (vgraph rs es) rs.length e = [] from if_neg hok)
    have hs := s2 hok
    subst hs
    clear s1 s2 hok BT
    go_wp2
    go_ret
    rw [R.out]
    exact ⟨lvPost_nil, F2⟩
set_option maxRecDepth 100000 in
set_option maxHeartbeats 2000000 in
theorem specLeavesOf (n : Nat) (A0 : Option Addr) (c0 : Nat) (rs : List Int) (A1 : Option Addr) (c1 : Nat) (es : List Edge) (e : JT) (A : Option Addr) (c : Nat) (w : World) (hx0 : RdSl rdInt w.cell? 1 A0 rs) (hx1 : RdSl rdEdge w.cell? 3 A1 es) (hl0 : rs.length ≤ 1048576) (hl1 : es.length ≤ 1048576)
    (hx : RdSl (rdJT n) w.cell? 2 A e.kids) (hl : e.kids.length ≤ 1048576) :
    Calls Try.prog 9 #[.agg #[.slice A0 rs.length c0, .slice A1 es.length c1], .agg #[.int .i64 e.leaf, .slice A e.kids.length c]] w fun r w' => LvPost w.heap.size (lvOf n (vgraph rs es) rs.length e) r w' ∧ Fr w w' := by
  have HX0 := hid hx0
  have HX1 := hid hx1
  have HX := hid hx
  clear hx0 hx1 hx
  go_enter Try.func9, Try.ntmps9
  go_wp2_with fail
  refine absW fun W1 hW1 => ?_
  have BG : Blk W1 w.heap.size 26 #[.slice A0 rs.length c0, .slice A1 es.length c1] := by
    rw [hW1]; exact (Blk.new w 26 #[.slice A0 rs.length c0, .slice A1 es.length c1]).alloc _
  have BT : Blk W1 (w.heap.size + 1) 29 #[.int .i64 e.leaf, .slice A e.kids.length c] := by
    have := Blk.new (w.alloc (.cells #[.slice A0 rs.length c0, .slice A1 es.length c1] 26)) 29 #[.int .i64 e.leaf, .slice A e.kids.length c]
    rw [World.size_alloc] at this
    rw [hW1]; exact this
  have F1 : Fr w W1 := by rw [hW1]; (repeat (first | with_reducible exact Fr.refl _ | with_reducible assumption | with_reducible refine Fr.alloc ?_ _ | with_reducible refine Fr.drew ?_ | with_reducible refine Fr.drewN ?_ _ | (with_reducible refine Fr.setNew2 ?_ ?_ _; · (simp <;> omega)) | with_reducible refine Fr.trans ?_ (by assumption)))
  clear hW1
  refine (specVGraph _ _ _ _ _ _ _ (HX0.out.fr rdInt_mono F1) (HX1.out.fr rdEdge_mono F1) hl0 hl1).mono ?_
  rintro r w2 ⟨rfl, b2⟩
  have F2 := F1.trans b2
  have hsz := F2.size
  obtain ⟨a0, a1, _⟩ := (BG.fr b2).pair
  obtain ⟨t0, t1, _⟩ := (BT.fr b2).pair
  cases hv : vgraph rs es
  · have R := hid (show lvOf n (vgraph rs es) rs.length e = [] from if_neg (fun h => by rw [hv] at h; simp at h))
    go_wp2
    go_ret
    rw [R.out]
    exact ⟨lvPost_nil, F2⟩
  · obtain ⟨v1, v2, _⟩ := vgraph_facts hv
    have HV := hid hv
    clear hv
    go_wp2_with fail
    refine (specTM n e A c rs.length _ (HX.out.fr (rdJT_mono n) F2) (by unfold maxLen; omega) (by omega) (by omega)).mono ?_
    rintro r w3 ⟨rfl, b3⟩
    have F3 := F2.trans b3
    by_cases h0 : jm n rs.length e = 0
    · have R := hid (show lvOf n (vgraph rs es) rs.length e = [] from if_neg (fun h => h.2 h0))
      rw [h0]
      go_wp2
      go_ret
      rw [R.out]
      exact ⟨lvPost_nil, F3⟩
    · have R := hid (show lvOf n (vgraph rs es) rs.length e = lvs n e from if_pos ⟨HV.out, h0⟩)
      have e0 : (((jm n rs.length e : Nat) : Int) == 0) = false := by simp; omega
      have H0 := hid h0
      obtain ⟨_, hlen⟩ := lvs_len5 (N := (rs.length : Int)) (by omega) h0
      have hs3 := b3.size
      have t0' := b3.cell t0
      have t1' := b3.cell t1
      have hbt := ((BT.fr b2).fr b3).lt
      clear t0 t1 a0 a1 h0
      go_wp2_with fail
      refine absW fun W4 hW4 => ?_
      have F4 : Fr w3 W4 := by rw [hW4]; (repeat (first | with_reducible exact Fr.refl _ | with_reducible assumption | with_reducible refine Fr.alloc ?_ _ | with_reducible refine Fr.drew ?_ | with_reducible refine Fr.drewN ?_ _ | (with_reducible refine Fr.setNew2 ?_ ?_ _; · (simp <;> omega)) | with_reducible refine Fr.trans ?_ (by assumption)))
      have O4 : W4.ownsRow w3.heap.size 3 1 (.slice (some ⟨w3.heap.size, 0, none⟩) 0 0) 0 [] := by rw [hW4]; exact own_empty (Nat.le_refl _)
      clear hW4
      refine (specAO n e A c rs.length w3 W4 _ [] (HX.out.fr (rdJT_mono n) F3) (by omega) H0.out F4 O4 (by simp; omega)).mono ?_
      rintro r w5 ⟨v', rfl, hO, hg, _⟩
      have b5 : Fr w3 w5 := Fr.grown F4 hg O4
      have HO := hid hO
      clear hO hg
      go_wp2
      go_ret
      rw [R.out]
      refine ⟨lvPost_own ?_, F3.trans b5⟩
      have := own_base HO.out (show w.heap.size ≤ w3.heap.size by omega)
      simpa using this
end Go.Proofs.Ytgjbmigplomekaa
