/- The part of a plan at a path: the reference's planAt, the program's at. -/
import Derived.Test.YtlmiadeaiiehaaaPlR
import Derived.Test.YtlmiadeaiiehaaaValW
namespace Go.Proofs.Ytlmiadeaiiehaaa
open Go Go.RowKit

def zeroP : Pl := .mk 0 0 [] [] []
def zeroS : Sl3 := ⟨none, 0, none, 0, none, 0⟩
theorem zero_ok {n : Nat} {m : Mv} : PlOk n m zeroP zeroS := ⟨RdSl.nil, Nat.zero_le _, Nat.le_refl _, RdSl.nil, Nat.zero_le _, Nat.le_refl _, RdSl.nil, Nat.zero_le _, Nat.le_refl _⟩
/-- The part of a plan at a path. -/
def part : Pl → List Int → Option Pl
  | e, [] => some e
  | e, i :: r => if 0 ≤ i ∧ i < (e.kids.length : Int) then part (e.kids.getD i.toNat zeroP) r else none
theorem part_no {e : Pl} {path : List Int} {k : Nat} (hk : k < path.length) (h : ¬ (0 ≤ path[k] ∧ path[k] < (e.kids.length : Int))) : part e (path.drop k) = none := by
  rw [List.drop_eq_getElem_cons hk]
  exact if_neg h
theorem part_yes {e : Pl} {path : List Int} {k j : Nat} (hk : k < path.length) (hj : path[k] = (j : Int)) (h : j < e.kids.length) : part e (path.drop k) = part e.kids[j] (path.drop (k + 1)) := by
  rw [List.drop_eq_getElem_cons hk]
  show (if _ then _ else _) = _
  rw [if_pos ⟨by omega, by omega⟩, hj]
  simp [List.getD, List.getElem?_eq_getElem h]
def PartR (n : Nat) (m : Mv) (e : Pl) (path : List Int) (r : Ending) : Prop := (part e path = none ∧ r = .returned (.tuple #[plV zeroP zeroS, .bool false])) ∨
  ∃ q s l, part e path = some q ∧ l + path.length = n ∧ r = .returned (.tuple #[plV q s, .bool true]) ∧ PlOk l m q s ∧ ndT l q ≤ 1048576
/-- Where the walk along the path stands. -/
structure AtK (n : Nat) (m : Mv) (e : Pl) (path : List Int) (k : Nat) (p : Pl) (s : Sl3) (l : Nat) : Prop where
  pt : part e path = part p (path.drop k)
  lv : l + k = n
  ok : PlOk l m p s
  sm : ndT l p ≤ 1048576
theorem AtK.next {n : Nat} {m : Mv} {e : Pl} {path : List Int} {k : Nat} {p : Pl} {s : Sl3} {l : Nat} (h : AtK n m e path k p s l) (hk : k < path.length) {j : Nat} (hj : path[k] = (j : Int)) (hl : j < p.kids.length) :
    ∃ b o, ∃ s' : Sl3, ∃ l', s.a2 = some ⟨b, o, none⟩ ∧ m ⟨b, o + j * 5, none⟩ = some (.int .i64 p.kids[j].kind) ∧ m ⟨b, o + j * 5 + 1, none⟩ = some (.int .i64 p.kids[j].table) ∧ m ⟨b, o + j * 5 + 2, none⟩ = some (.slice s'.a0 p.kids[j].exprs.length s'.c0) ∧ m ⟨b, o + j * 5 + 3, none⟩ = some (.slice s'.a1 p.kids[j].cols.length s'.c1) ∧ m ⟨b, o + j * 5 + 4, none⟩ = some (.slice s'.a2 p.kids[j].kids.length s'.c2) ∧ AtK n m e path (k + 1) p.kids[j] s' l' := by
  cases l with
  | zero => have := h.ok.r2.pl0; rw [this] at hl; simp at hl
  | succ l =>
    obtain ⟨b, o, s', hA, d0, d1, d2, d3, d4, ok⟩ := h.ok.r2.pl hl
    exact ⟨b, o, s', l, hA, d0, d1, d2, d3, d4, h.pt.trans (part_yes hk hj hl), by have := h.lv; omega, ok, ndT_kid h.sm hl⟩
set_option maxRecDepth 100000 in
set_option maxHeartbeats 1000000 in
theorem specPlanAt (n : Nat) (e : Pl) (s : Sl3) (AP : Option Addr) (cp : Nat) (path : List Int) (w : World) (hx : PlOk n w.cell? e s) (hs : ndT n e ≤ 1048576) (hp : RdSl rdInt w.cell? 1 AP path) (hl : path.length ≤ 8) :
    Calls Try.prog 35 #[plV e s, .slice AP path.length cp] w fun r w' => PartR n w.cell? e path r ∧ Fr w w' := by
  have ST := hid (show AtK n w.cell? e path 0 e s n from ⟨rfl, rfl, hx, hs⟩)
  have HP := hid hp
  clear hx hs hp
  unfold plV
  have F2 : Fr w ((w.alloc (.cells #[.int .i64 e.kind, .int .i64 e.table, .slice s.a0 e.exprs.length s.c0, .slice s.a1 e.cols.length s.c1, .slice s.a2 e.kids.length s.c2] 47)).alloc (.cells #[.int .i64 0, .int .i64 0, .slice none 0 0, .slice none 0 0, .slice none 0 0] 47)) := ((Fr.refl _).alloc _).alloc _
  have BA := (Blk.new w 47 #[.int .i64 e.kind, .int .i64 e.table, .slice s.a0 e.exprs.length s.c0, .slice s.a1 e.cols.length s.c1, .slice s.a2 e.kids.length s.c2]).alloc (.cells #[.int .i64 0, .int .i64 0, .slice none 0 0, .slice none 0 0, .slice none 0 0] 47)
  have BR := blk_new1 w (.cells #[.int .i64 e.kind, .int .i64 e.table, .slice s.a0 e.exprs.length s.c0, .slice s.a1 e.cols.length s.c1, .slice s.a2 e.kids.length s.c2] 47) 47 #[.int .i64 0, .int .i64 0, .slice none 0 0, .slice none 0 0, .slice none 0 0]
  go_enter Try.func35, Try.ntmps35
  go_wp2_with fail
  generalize (w.alloc (.cells #[.int .i64 e.kind, .int .i64 e.table, .slice s.a0 e.exprs.length s.c0, .slice s.a1 e.cols.length s.c1, .slice s.a2 e.kids.length s.c2] 47)).alloc (.cells #[.int .i64 0, .int .i64 0, .slice none 0 0, .slice none 0 0, .slice none 0 0] 47) = W0 at F2 BA BR ⊢
  go_loopw [6] (fun i wr => ∃ (k : Nat) (p : Pl) (s' : Sl3) (l : Nat), i = .int .i64 k ∧ k ≤ path.length ∧ Hid (AtK n w.cell? e path k p s' l) ∧ Fr w wr ∧ Blk wr w.heap.size 47 #[.int .i64 p.kind, .int .i64 p.table, .slice s'.a0 p.exprs.length s'.c0, .slice s'.a1 p.cols.length s'.c1, .slice s'.a2 p.kids.length s'.c2] ∧ Blk wr (w.heap.size + 1) 47 #[.int .i64 0, .int .i64 0, .slice none 0 0, .slice none 0 0, .slice none 0 0]) (fun i _ => path.length - (intOf i).toNat)
  case atStart => exact ⟨0, e, s, n, rfl, by omega, ST, F2, BA, BR⟩
  case round =>
    clear ST F2 BA BR
    revert wr
    intro W1 hrel
    obtain ⟨k, p, s', l, rfl, hk, AT, F, BA, BR⟩ := hrel
    obtain ⟨a0, a1, a2, a3, a4, x0, x1, x2, x3, x4⟩ := BA.five
    obtain ⟨z0, z1, z2, z3, z4, f0, f1, f2, f3, f4⟩ := BR.five
    have hkl := AT.out.ok.l2
    unfold maxLen at hkl
    by_cases hlt : k < path.length
    · obtain ⟨b, o, hA, c0⟩ := HP.out.at_ hlt
      subst hA
      replace c0 := F.cell c0
      simp only [Nat.mul_one, Nat.add_zero] at c0
      by_cases hr : 0 ≤ path[k] ∧ path[k] ≤ (p.kids.length : Int) - 1
      · obtain ⟨j, hj⟩ : ∃ j : Nat, path[k] = (j : Int) := ⟨path[k].toNat, by omega⟩
        have hjl : j < p.kids.length := by omega
        have HJ := hid hj
        rw [hj] at c0
        obtain ⟨b', o', s2, l2, hA2, d0, d1, d2, d3, d4, AT2⟩ := AT.out.next hlt hj hjl
        have AT2 := hid AT2
        replace d0 := F.cell d0
        replace d1 := F.cell d1
        replace d2 := F.cell d2
        replace d3 := F.cell d3
        replace d4 := F.cell d4
        rw [hA2] at a4
        clear hr hj
        go_wp2_with fail
        (refine wp_region_quietC (fun w' => Fr _ w') (by kernel_rfl) (by kernel_rfl) (Fr.refl _).drew ?_; (repeat go_big_quiet_step (first | exact fun _ => rfl | exact fun _ => ⟨rfl, rfl⟩ | (intro hw'; replace c0 := hw'.cell c0; replace a4 := hw'.cell a4; go_simp; first | done | exact rfl | exact ⟨rfl, rfl⟩) | (intro hw'; go_at_call 50; refine (inRange_yes _ _ _ _ ?_ ?_).mono ?_; (· omega); (· omega); rintro e w1 ⟨rfl, rfl⟩; exact ⟨rfl, hw'⟩))); refine wpQuiet_nil ?_; intro wq hq)
        replace c0 := hq.cell c0
        replace d0 := hq.cell d0
        replace d1 := hq.cell d1
        replace d2 := hq.cell d2
        replace d3 := hq.cell d3
        replace d4 := hq.cell d4
        clear a0 a1 a2 a3 a4 x0 x1 x2 x3 x4 z0 z1 z2 z3 z4 f0 f1 f2 f3 f4
        obtain ⟨a0, a1, a2, a3, a4, x0, x1, x2, x3, x4⟩ := (BA.fr hq).five
        rw [hA2] at a4
        go_wp2_with fail
        go_region
        go_wp2
        go_roundw
        case rel => exact ⟨k + 1, p.kids[j], s2, l2, by go_num, by omega, AT2, by have F9 := F.trans hq; (repeat (first | with_reducible exact Fr.refl _ | with_reducible assumption | with_reducible refine Fr.alloc ?_ _ | with_reducible refine Fr.drew ?_ | with_reducible refine Fr.drewN ?_ _ | (with_reducible refine Fr.setNew2 ?_ ?_ _; · (simp <;> omega)) | with_reducible refine Fr.trans ?_ (by assumption))), ((((((BA.fr hq).set_ 0 _).set_ 1 _).set_ 2 _).set_ 3 _).set_ 4 _).drew, ((((((BR.fr hq).far (by simp) _).far (by simp) _).far (by simp) _).far (by simp) _).far (by simp) _).drew⟩
        case measure => simp [intOf]; omega
      · have hno : part e path = none := AT.out.pt.trans (part_no hlt (by omega))
        have HN := hid hno
        have hr2 : path[k] < 0 ∨ (p.kids.length : Int) - 1 < path[k] := by omega
        clear hr hno
        go_wp2_with fail
        (refine wp_region_quietC (fun w' => Fr _ w') (by kernel_rfl) (by kernel_rfl) (Fr.refl _).drew ?_; (repeat go_big_quiet_step (first | exact fun _ => rfl | exact fun _ => ⟨rfl, rfl⟩ | (intro hw'; replace c0 := hw'.cell c0; replace a4 := hw'.cell a4; go_simp; first | done | exact rfl | exact ⟨rfl, rfl⟩) | (intro hw'; go_at_call 50; refine (inRange_no _ _ _ _ ?_).mono ?_; (· omega); rintro e w1 ⟨rfl, rfl⟩; exact ⟨rfl, hw'⟩))); refine wpQuiet_nil ?_; intro wq hq)
        obtain ⟨z0, z1, z2, z3, z4, f0, f1, f2, f3, f4⟩ := (BR.fr hq).five
        go_wp2
        have F9 := F.trans hq
        refine bodyPost_ret (v := .tuple #[plV zeroP zeroS, .bool false]) (by simp [results, Try.results35, go_sem, z0, z1, z2, z3, z4, plV, zeroP, zeroS, Pl.kind, Pl.table, Pl.exprs, Pl.cols, Pl.kids]) rfl ⟨.inl ⟨HN.out, rfl⟩, by (repeat (first | with_reducible exact Fr.refl _ | with_reducible assumption | with_reducible refine Fr.alloc ?_ _ | with_reducible refine Fr.drew ?_ | with_reducible refine Fr.drewN ?_ _ | (with_reducible refine Fr.setNew2 ?_ ?_ _; · (simp <;> omega)) | with_reducible refine Fr.trans ?_ (by assumption)))⟩
    · obtain rfl : k = path.length := by omega
      have hyes : part e path = some p := by have h := AT.out.pt; rw [List.drop_length] at h; exact h
      have HY := hid hyes
      have HL := hid AT.out.lv
      clear hyes
      go_wp2
      refine bodyPost_ret (v := .tuple #[plV p s', .bool true]) (by simp [results, Try.results35, go_sem, z0, z1, z2, z3, z4, plV]) rfl ⟨.inr ⟨p, s', l, HY.out, HL.out, rfl, AT.out.ok, AT.out.sm⟩, by (repeat (first | with_reducible exact Fr.refl _ | with_reducible assumption | with_reducible refine Fr.alloc ?_ _ | with_reducible refine Fr.drew ?_ | with_reducible refine Fr.drewN ?_ _ | (with_reducible refine Fr.setNew2 ?_ ?_ _; · (simp <;> omega)) | with_reducible refine Fr.trans ?_ (by assumption)))⟩
/-- What the program's walk along the path ends with. -/
def PtrR (n : Nat) (m : Mv) (e : Pl) (path : List Int) (r : Ending) : Prop := (part e path = none ∧ r = .returned (.pointer none)) ∨
  ∃ q b o l, part e path = some q ∧ l + path.length = n ∧ r = .returned (.pointer (some ⟨b, o, none⟩)) ∧ rdPl (l + 1) m (fun j => m ⟨b, o + j, none⟩) q ∧ ndT l q ≤ 1048576
set_option maxRecDepth 100000 in
set_option maxHeartbeats 1000000 in
theorem implAt (n : Nat) (e : Pl) (b0 o0 : Nat) (AP : Option Addr) (cp : Nat) (path : List Int) (w : World) (hx : rdPl (n + 1) w.cell? (fun j => w.cell? ⟨b0, o0 + j, none⟩) e) (hs : ndT n e ≤ 1048576) (hp : RdSl rdInt w.cell? 1 AP path) (hl : path.length ≤ 8) :
    Calls Try.prog 39 #[.pointer (some ⟨b0, o0, none⟩), .slice AP path.length cp] w fun r w' => PtrR n w.cell? e path r ∧ w = w' := by
  obtain ⟨s, g0, g1, g2, g3, g4, ok⟩ := rdPl_ok hx
  have ST := hid (show AtK n w.cell? e path 0 e s n from ⟨rfl, rfl, ok, hs⟩)
  have HC := hid (And.intro g0 (And.intro g1 (And.intro g2 (And.intro g3 g4))))
  have HP := hid hp
  clear hx hs hp g0 g1 g2 g3 g4 ok
  go_enter Try.func39, Try.ntmps39
  go_wp2_with fail
  go_loopw [0, 12] (fun a i wr => ∃ (k : Nat) (p : Pl) (s' : Sl3) (l b o : Nat), a = .pointer (some ⟨b, o, none⟩) ∧ i = .int .i64 k ∧ k ≤ path.length ∧ Hid (AtK n w.cell? e path k p s' l) ∧ w = wr ∧ Hid (w.cell? ⟨b, o + 0, none⟩ = some (.int .i64 p.kind) ∧ w.cell? ⟨b, o + 1, none⟩ = some (.int .i64 p.table) ∧ w.cell? ⟨b, o + 2, none⟩ = some (.slice s'.a0 p.exprs.length s'.c0) ∧ w.cell? ⟨b, o + 3, none⟩ = some (.slice s'.a1 p.cols.length s'.c1) ∧ w.cell? ⟨b, o + 4, none⟩ = some (.slice s'.a2 p.kids.length s'.c2))) (fun _ i _ => path.length - (intOf i).toNat)
  case atStart => exact ⟨0, e, s, n, b0, o0, rfl, rfl, by omega, ST, rfl, HC⟩
  case round =>
    clear ST HC
    obtain ⟨k, p, s', l, b1, o1, rfl, rfl, hk, AT, rfl, HC⟩ := hrel
    obtain ⟨_, _, _, _, a4⟩ := HC.out
    have hkl := AT.out.ok.l2
    unfold maxLen at hkl
    by_cases hlt : k < path.length
    · obtain ⟨b, o, hA, c0⟩ := HP.out.at_ hlt
      subst hA
      simp only [rdInt, Nat.mul_one, Nat.add_zero] at c0
      by_cases hr : 0 ≤ path[k] ∧ path[k] < (p.kids.length : Int)
      · obtain ⟨j, hj⟩ : ∃ j : Nat, path[k] = (j : Int) := ⟨path[k].toNat, by omega⟩
        have hjl : j < p.kids.length := by omega
        have HJ := hid hj
        rw [hj] at c0
        obtain ⟨b', o', s2, l2, hA2, d0, d1, d2, d3, d4, AT2⟩ := AT.out.next hlt hj hjl
        have AT2' := hid AT2
        have HD := hid (show w.cell? ⟨b', o' + j * 5 + 0, none⟩ = some (.int .i64 p.kids[j].kind) ∧ w.cell? ⟨b', o' + j * 5 + 1, none⟩ = some (.int .i64 p.kids[j].table) ∧ w.cell? ⟨b', o' + j * 5 + 2, none⟩ = some (.slice s2.a0 p.kids[j].exprs.length s2.c0) ∧ w.cell? ⟨b', o' + j * 5 + 3, none⟩ = some (.slice s2.a1 p.kids[j].cols.length s2.c1) ∧ w.cell? ⟨b', o' + j * 5 + 4, none⟩ = some (.slice s2.a2 p.kids[j].kids.length s2.c2) from ⟨d0, d1, d2, d3, d4⟩)
        rw [hA2] at a4
        have t0 : decide ((j : Int) < 0) = false := decide_eq_false (by omega)
        have t1 : decide ((p.kids.length : Int) ≤ (j : Int)) = false := decide_eq_false (by omega)
        clear hr hj d0 d1 d2 d3 d4 AT2
        go_wp2
        go_roundw
        case rel => exact ⟨k + 1, p.kids[j], s2, l2, b', o' + j * 5, rfl, by go_num, by omega, AT2', trivial, HD⟩
        case measure => simp [intOf]; omega
      · have hno : part e path = none := AT.out.pt.trans (part_no hlt hr)
        have HN := hid hno
        have HR := hid hr
        clear hno hr
        obtain ⟨x, hxx⟩ : ∃ x, path[k] = x := ⟨_, rfl⟩
        rw [hxx] at c0 HR
        clear hxx
        by_cases hneg : x < 0
        · have t0 : decide (x < 0) = true := decide_eq_true hneg
          go_wp2
          go_ret
          exact ⟨.inl ⟨HN.out, rfl⟩, rfl⟩
        · have t0 : decide (x < 0) = false := decide_eq_false hneg
          have t1 : decide ((p.kids.length : Int) ≤ x) = true := decide_eq_true (by have := HR.out; omega)
          go_wp2
          go_ret
          exact ⟨.inl ⟨HN.out, rfl⟩, rfl⟩
    · obtain rfl : k = path.length := by omega
      have hyes : part e path = some p := by have h := AT.out.pt; rw [List.drop_length] at h; exact h
      have HY := hid hyes
      have HL := hid AT.out.lv
      clear hyes
      go_wp2
      go_ret
      obtain ⟨g0, g1, g2, g3, g4⟩ := HC.out
      exact ⟨.inr ⟨p, b1, o1, l, HY.out, HL.out, rfl, ok_rdPl g0 g1 g2 g3 g4 AT.out.ok, AT.out.sm⟩, rfl⟩
end Go.Proofs.Ytlmiadeaiiehaaa
