/- Copies of expressions, on the spec's side: copyExpr (CopyS over OwnP). -/
import Derived.Test.YtlmiadeaiiehaaaOwnP
import Derived.Deep.RegionHeld3
import Derived.Deep.RegionWith
namespace Go.Proofs.Ytlmiadeaiiehaaa
open Go Go.RowKit

/-- The loop that copies the kids: k are copied, q, laid in the row v; the copy itself is the block that was new in w. -/
structure CpInv (n : Nat) (w : World) (e : Ex) (wr : World) (k : Nat) (q : List (Ex × Option Addr × Nat)) (v : Value) : Prop where
  le : k ≤ e.kids.length
  len : q.length = k
  ex : q.map (·.1) = e.kids.take k
  fr : Fr w wr
  blk : Blk wr w.heap.size 93 #[.int .i64 e.kind, .int .i64 e.col, .bool e.val.null, .int .i64 e.val.n, v]
  own : wr.ownsRow (w.heap.size + 1) 93 5 v k (q.flatMap cellsE)
  kids : ∀ x ∈ q, KidsOk n (offR wr (w.heap.size + 1) v) x
section
variable {n : Nat} {w : World} {e : Ex} {wr : World} {k : Nat} {q : List (Ex × Option Addr × Nat)} {v : Value}
theorem CpInv.c4 (h : CpInv n w e wr k q v) : wr.cell? ⟨w.heap.size, 4, none⟩ = some v := h.blk.cell 4
theorem CpInv.b5 (h : CpInv n w e wr k q v) {w3 w5 : World} (hc3 : Fr wr w3) {cs : Array Value} {t : TypeId} (hg5 : (w3.alloc (.cells cs t)).grownBy w5 v.ownBlock) : Blk w5 w.heap.size 93 #[.int .i64 e.kind, .int .i64 e.col, .bool e.val.null, .int .i64 e.val.n, v] := by
  have s3 := hc3.size
  have s4 : w3.heap.size ≤ (w3.alloc (.cells cs t)).heap.size := ((Fr.refl w3).alloc _).size
  have g9lt := h.blk.lt
  exact (hg5.block w.heap.size (by omega) (fun e => by have := own_lt h.own w.heap.size e.symm; omega)).trans ((h.blk.fr hc3).alloc _)
theorem CpInv.step (h : CpInv n w e wr k q v) (hk : k < e.kids.length) {w3 w5 : World} {x : Ex × Option Addr × Nat} (hc3 : Fr wr w3) (hx : KidsOk n (fromB w3 wr.heap.size) x) (hxe : x.1 = e.kids[k]) {cs : Array Value} {t : TypeId} {v5 : Value}
    (hO5 : w5.ownsRow (w.heap.size + 1) 93 5 v5 (k + 1) (q.flatMap cellsE ++ [x].flatMap cellsE)) (hg5 : (w3.alloc (.cells cs t)).grownBy w5 v.ownBlock) (hw5 : Wh (w3.alloc (.cells cs t)) v v5) : CpInv n w e (w5.setCell ⟨w.heap.size, 4, none⟩ v5) (k + 1) (q ++ [x]) v5 := by
  have s3 := hc3.size
  have s4 : w3.heap.size ≤ (w3.alloc (.cells cs t)).heap.size := ((Fr.refl w3).alloc _).size
  have s5 := hg5.size
  have g9lt := h.blk.lt
  have hcs : Ch (· = w.heap.size) w5 (w5.setCell ⟨w.heap.size, 4, none⟩ v5) := chSet (Ch.refl w5)
  have m0 : Mle (offR w3 (w.heap.size + 1) v) (offR (w5.setCell ⟨w.heap.size, 4, none⟩ v5) (w.heap.size + 1) v5) := ((off_fr ((Fr.refl w3).alloc _)).trans (off_grown hg5 hw5)).trans (off_ch hcs (by omega))
  have F4 : Fr w (w3.alloc (.cells cs t)) := (h.fr.trans hc3).alloc _
  refine ⟨by omega, by simp [h.len], ?_, ?_, (h.b5 hc3 hg5).set_ 4 v5, ?_, fun y hy => ?_⟩
  · rw [List.map_append, h.ex, List.map_cons, List.map_nil, hxe, List.take_succ_eq_append_getElem hk]
  · have F5 : Fr w w5 := Below.grown F4 hg5 F4.size fun k hk => by have := own_lt h.own k hk; omega
    exact F5.setNew (Nat.le_refl _) _
  · have := own_ch hO5 hcs (by omega)
    simpa using this
  · rcases List.mem_append.1 hy with hy | hy
    · exact (h.kids y hy).mono ((off_fr hc3).trans m0)
    · have hyx : y = x := by simpa using hy
      subst hyx
      exact (hx.mono (off_from (by omega) (fun k hk => (own_lt h.own k hk).2))).mono m0
theorem CpInv.fin (h : CpInv n w e wr k q v) (hk : k = e.kids.length) (hm : e.kids.length ≤ maxLen) : ∃ A cap, v = .slice A e.kids.length cap ∧ KidsOk (n + 1) (fromB wr (w.heap.size + 1)) (e, A, cap) := by
  obtain ⟨A, cap, rfl, hc⟩ := own_cap h.own
  have hR := own_E (m := n) h.own h.len.symm (fun x hx => (h.kids x hx).mono off_le)
  rw [h.ex, List.take_of_length_le (by omega)] at hR
  exact ⟨A, cap, by rw [hk], hR, hm, by show e.kids.length ≤ cap; omega⟩
end
def SpecCopy (n : Nat) : Prop := ∀ (e : Ex) (A : Option Addr) (c : Nat) (w : World), RdSl (rdEx n) w.cell? 5 A e.kids → exSm n e.kids →
    Calls Try.prog 59 #[.agg #[.int .i64 e.kind, .int .i64 e.col, .bool e.val.null, .int .i64 e.val.n, .slice A e.kids.length c]] w fun r w' => ∃ A' c', r = .returned (.agg #[.int .i64 e.kind, .int .i64 e.col, .bool e.val.null, .int .i64 e.val.n, .slice A' e.kids.length c']) ∧ KidsOk n (fromB w' w.heap.size) (e, A', c') ∧ Fr w w'
attribute [-go_sem] Builtin.append_
set_option maxRecDepth 100000 in
set_option maxHeartbeats 2000000 in
theorem specCopy (n : Nat) : SpecCopy n := by
  induction n using Nat.strongRecOn with
  | _ n ih =>
    intro e A c w hx hsm
    have hm := exSm_len hsm
    have SM := hid hsm
    clear hsm
    have HX := hid hx
    have IH := hid ih
    clear hx ih
    have F2 : Fr w ((w.alloc (.cells #[.int .i64 e.kind, .int .i64 e.col, .bool e.val.null, .int .i64 e.val.n, .slice A e.kids.length c] 93)).alloc (.cells #[.int .i64 0, .int .i64 0, .bool false, .int .i64 0, .slice none 0 0] 93)) := ((Fr.refl _).alloc _).alloc _
    have BA := (Blk.new w 93 #[.int .i64 e.kind, .int .i64 e.col, .bool e.val.null, .int .i64 e.val.n, .slice A e.kids.length c]).alloc (.cells #[.int .i64 0, .int .i64 0, .bool false, .int .i64 0, .slice none 0 0] 93)
    have BR := Blk.new (w.alloc (.cells #[.int .i64 e.kind, .int .i64 e.col, .bool e.val.null, .int .i64 e.val.n, .slice A e.kids.length c] 93)) 93 #[.int .i64 0, .int .i64 0, .bool false, .int .i64 0, .slice none 0 0]
    rw [World.size_alloc] at BR
    have HS : Hid (((w.alloc (.cells #[.int .i64 e.kind, .int .i64 e.col, .bool e.val.null, .int .i64 e.val.n, .slice A e.kids.length c] 93)).alloc (.cells #[.int .i64 0, .int .i64 0, .bool false, .int .i64 0, .slice none 0 0] 93)).heap.size = w.heap.size + 1 + 1) := hid (by rw [World.size_alloc, World.size_alloc])
    go_enter Try.func59, Try.ntmps59
    go_wp2_with fail
    generalize (w.alloc (.cells #[.int .i64 e.kind, .int .i64 e.col, .bool e.val.null, .int .i64 e.val.n, .slice A e.kids.length c] 93)).alloc (.cells #[.int .i64 0, .int .i64 0, .bool false, .int .i64 0, .slice none 0 0] 93) = W0 at F2 BA BR HS ⊢
    have G0 := Blk.new W0 93 #[.int .i64 e.kind, .int .i64 e.col, .bool e.val.null, .int .i64 e.val.n, .slice none 0 0]
    have hlt := BA.lt
    have hlt2 := BR.lt
    go_loopw [4] (fun i wr => ∃ (k : Nat) (q : List (Ex × Option Addr × Nat)) (v : Value), i = .int .i64 k ∧ Hid (CpInv (n - 1) W0 e wr k q v)) (fun i _ => e.kids.length - (intOf i).toNat)
    case atStart => exact ⟨0, [], .slice none 0 0, rfl, hid ⟨by omega, rfl, by simp, (Fr.refl _).alloc _, G0, own_nil, fun x hx => by simp at hx⟩⟩
    case round =>
      obtain ⟨k, q, v, rfl, INV⟩ := hrel
      have hkN := INV.out.le
      have F3 := INV.out.fr
      obtain ⟨a0, a1, a2, a3, a4, _⟩ := (BA.fr F3).five
      have c4 := INV.out.c4
      rw [HS.out] at c4
      by_cases hlt' : k < e.kids.length
      · cases n with
        | zero => exfalso; rw [HX.out.ex0] at hlt'; simp at hlt'
        | succ n =>
          obtain ⟨kb, ko, K, kc, hA, d0, d1, d2, d3, d4, rK, rl⟩ := HX.out.ex hlt'
          subst hA
          have RK := hid (rK.fr (rdEx_mono n) (F2.trans F3))
          clear rK
          replace d0 := (F2.trans F3).cell d0
          replace d1 := (F2.trans F3).cell d1
          replace d2 := (F2.trans F3).cell d2
          replace d3 := (F2.trans F3).cell d3
          replace d4 := (F2.trans F3).cell d4
          go_wp2_with fail
          first | (go_region_with (first
            | (go_at_call 59; refine (IH.out n (by omega) e.kids[k] K kc _ (RK.out.fr (rdEx_mono n) (Fr.refl _).drew) (SM.out.2 k hlt')).mono ?_; rintro r w3 ⟨A3, c3, rfl, hx3, b3⟩; have hc3 := (Fr.refl wr).drew.trans b3; have c4' : w3.cell? ⟨w.heap.size + 1 + 1, 4, none⟩ = some v := hc3.cell c4; have c4'' : (w3.alloc (.cells #[.int .i64 e.kids[k].kind, .int .i64 e.kids[k].col, .bool e.kids[k].val.null, .int .i64 e.kids[k].val.n, .slice A3 e.kids[k].kids.length c3] 93)).cell? ⟨w.heap.size + 1 + 1, 4, none⟩ = some v := (hc3.alloc _).cell c4)
            | (have q2 : k ≤ 549755813888 := (by omega); refine upon_appW (W0.heap.size + 1) v k (q.flatMap cellsE) ?own q2 ?base w3.heap.size 1 1 [(e.kids[k], A3, c3)] rfl ?om ?hB ?_; (case own => exact own_fr INV.out.own (hc3.alloc _)); (case base => exact Nat.le_trans INV.out.blk.lt (hc3.alloc _).size); (case om => omega); (case hB => exact blk_cells (blk_new rfl)); intro v5 w5 hO5 hg5 hw5; obtain ⟨A5, cap5, rfl⟩ := own_form hO5; have B5 := INV.out.b5 hc3 hg5; rw [HS.out] at B5; have s4 : w5.cell? ⟨w.heap.size + 1 + 1, 4, none⟩ = some v := B5.cell 4; have f4 := B5.frozen 4))) | fail
          all_goals have INV' := hid (INV.out.step hlt' hc3 hx3 rfl hO5 hg5 hw5)
          all_goals rw [HS.out] at INV'
          all_goals clear c4 c4' c4'' s4 f4 hO5
          all_goals go_wp2
          all_goals go_roundw
          all_goals first
            | exact ⟨k + 1, _, _, by go_num, INV'⟩
            | (simp [intOf]; omega)
      · obtain rfl : k = e.kids.length := by omega
        have hkl : decide ((e.kids.length : Int) < (e.kids.length : Int)) = false := by simp
        obtain ⟨A', cap, rfl, hK⟩ := INV.out.fin rfl (by unfold maxLen; omega)
        obtain ⟨g0, g1, g2, g3, g4, _⟩ := INV.out.blk.five
        obtain ⟨z0, z1, z2, z3, z4, f0, f1, f2, f3, f4⟩ := (BR.fr F3).five
        rw [HS.out] at g0 g1 g2 g3 g4
        have HF := hid hK
        clear hK c4
        go_wp2
        refine bodyPost_ret (v := .agg #[.int .i64 e.kind, .int .i64 e.col, .bool e.val.null, .int .i64 e.val.n, .slice A' e.kids.length cap]) (by simp [results, Try.results59, go_sem, z0, z1, z2, z3, z4]) rfl ⟨A', cap, rfl, ?_, ?_⟩
        · have hM : Mle (fromB wr (W0.heap.size + 1)) (fromB _ w.heap.size) := (Ch.mle_from (lo := W0.heap.size + 1) (chSet (r := w.heap.size + 1) (o := 4) (u := .slice A' e.kids.length cap) (chSet (o := 3) (u := .int .i64 e.val.n) (chSet (o := 2) (u := .bool e.val.null) (chSet (o := 1) (u := .int .i64 e.col) (chSet (o := 0) (u := .int .i64 e.kind) (Ch.refl wr)))))) (fun k hk => by omega)).trans (fromB_lo (by omega))
          have hK := HF.out.mono hM
          cases n with
          | zero =>
            have h0 := HX.out.ex0
            exact ⟨fun hne => absurd h0 hne, hK.2⟩
          | succ n => exact hK
        · have F9 := F2.trans F3
          (repeat (first | with_reducible exact Fr.refl _ | with_reducible assumption | with_reducible refine Fr.alloc ?_ _ | with_reducible refine Fr.drew ?_ | with_reducible refine Fr.drewN ?_ _ | (with_reducible refine Fr.setNew2 ?_ ?_ _; · (simp <;> omega)) | with_reducible refine Fr.trans ?_ (by assumption)))
end Go.Proofs.Ytlmiadeaiiehaaa
