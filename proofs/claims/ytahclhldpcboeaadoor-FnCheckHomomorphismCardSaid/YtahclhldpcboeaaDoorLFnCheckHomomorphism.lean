/- Walk of the law FnCheckHomomorphism, and of the generator of its arguments. -/
import Derived.Test.YtahclhldpcboeaaDoorQryT
import Derived.Test.YtahclhldpcboeaaDoorHmgX
import Derived.Test.YtahclhldpcboeaaDoorHmC
import Derived.Test.YtahclhldpcboeaaDoorHomW
import Derived.Test.YtahclhldpcboeaaDoorLawD
namespace Go.Proofs.YtahclhldpcboeaaDoor
open Go Go.RowKit
/-- Two queries that a generator holds, in blocks g and h; the results' blocks as they were made. -/
structure DC (w0 : World) (r p g h : Nat) (qa : Int) (A0 : Option Addr) (a0 : Nat) (A1 : Option Addr) (a1 : Nat) (ha : List Int) (ba : List Atom) (qb : Int) (B0 : Option Addr) (b0 : Nat) (B1 : Option Addr) (b1 : Nat) (hb : List Int) (bb : List Atom) (w : World) : Prop where
  kA : Blk w g 30 #[.int .i64 qa, .slice A0 ha.length a0, .slice A1 ba.length a1]
  kB : Blk w h 30 #[.int .i64 qb, .slice B0 hb.length b0, .slice B1 bb.length b1]
  oA0 : w.ownsRow (r + 1) 3 1 (.slice A0 ha.length a0) ha.length (ha.map iv)
  oA1 : w.ownsRow (r + 1) 64 3 (.slice A1 ba.length a1) ba.length (ba.flatMap cellsA)
  oB0 : w.ownsRow (r + 1) 3 1 (.slice B0 hb.length b0) hb.length (hb.map iv)
  oB1 : w.ownsRow (r + 1) 64 3 (.slice B1 bb.length b1) bb.length (bb.flatMap cellsA)
  rd : Rdr w r p
  fr : Fr w0 w
  z0 : Blk w w0.heap.size 30 #[.int .i64 0, .slice none 0 0, .slice none 0 0]
  z1 : Blk w (w0.heap.size + 1) 30 #[.int .i64 0, .slice none 0 0, .slice none 0 0]
  lt : w0.heap.size + 1 < r
  gr : r < g
  gh : g < h
section
variable {w0 w w' : World} {r p p' g h : Nat} {qa qb : Int} {A0 A1 B0 B1 : Option Addr} {a0 a1 b0 b1 : Nat} {ha hb : List Int} {ba bb : List Atom}
theorem DC.ch (k : DC w0 r p g h qa A0 a0 A1 a1 ha ba qb B0 b0 B1 b1 hb bb w) (hc : Ch (· = r) w w') (hr : Rdr w' r p') : DC w0 r p' g h qa A0 a0 A1 a1 ha ba qb B0 b0 B1 b1 hb bb w' := by
  obtain ⟨k1, k2, k3, k4, k5, k6, k7, k8, k9, k10, k11, k12, k13⟩ := k
  exact ⟨k1.ch hc (by omega), k2.ch hc (by omega), gown_ch k3 hc (by omega), gown_ch k4 hc (by omega), gown_ch k5 hc (by omega), gown_ch k6 hc (by omega), hr, hc.fr (fun j hj => by have : j = r := hj; omega) k8, k9.ch hc (by omega), k10.ch hc (by omega), k11, k12, k13⟩
theorem DC.qA (k : DC w0 r p g h qa A0 a0 A1 a1 ha ba qb B0 b0 B1 b1 hb bb w) : QIn w A0 A1 a0 a1 ha ba := QIn.mk' k.oA0 k.oA1
theorem DC.qB (k : DC w0 r p g h qa A0 a0 A1 a1 ha ba qb B0 b0 B1 b1 hb bb w) : QIn w B0 B1 b0 b1 hb bb := QIn.mk' k.oB0 k.oB1
end
/-- A slice of ints whose cells may be written. -/
def ML (w : World) (lo : Nat) (m : List Int) (M : Option Addr) : Prop := m ≠ [] → ∃ mb cs, M = some ⟨mb, 0, none⟩ ∧ lo ≤ mb ∧ Blk w mb 3 cs ∧ IAt cs m ∧ m.length ≤ cs.size
section
variable {w w' : World} {lo : Nat} {m : List Int} {M : Option Addr}
theorem ML.rd (h : ML w lo m M) : RdSl rdInt w.cell? 1 M m := fun hne => by
  obtain ⟨mb, cs, hM, _, hB, hI, _⟩ := h hne
  refine ⟨mb, 0, hM, fun i hi => ?_⟩
  show w.cell? ⟨mb, 0 + i * 1 + 0, none⟩ = _
  rw [hB.cell]
  have h1 := hI i hi
  simpa using h1
theorem ML.ch {r : Nat} (h : ML w lo m M) (hc : Ch (· = r) w w') (hr : r < lo) : ML w' lo m M := fun hne => by
  obtain ⟨mb, cs, hM, hl, hB, hI, hs⟩ := h hne
  exact ⟨mb, cs, hM, hl, hB.ch hc (by omega), hI, hs⟩
theorem ML.far {p : Addr} (h : ML w lo m M) (hp : p.block < lo) (u : Value) : ML (w.setCell p u) lo m M := fun hne => by
  obtain ⟨mb, cs, hM, hl, hB, hI, hs⟩ := h hne
  exact ⟨mb, cs, hM, hl, hB.far (by omega) u, hI, hs⟩
theorem own_ml {n c : Nat} (h : w.ownsRow lo 3 1 (.slice M n c) n (m.map iv)) (hn : n = m.length) : ML w lo m M := fun hne => by
  rcases h.2 with ⟨_, h1⟩ | ⟨g, cap, cur, hv, hg, hh, hnc, hcm, hs, ht⟩
  · exact absurd (List.eq_nil_of_length_eq_zero (by omega)) hne
  · injection hv with hM _ hc
    refine ⟨g, cur, hM, hg, hh, fun i hi => ?_, by omega⟩
    have h1 : cur.toList.take (n * 1) = m.map iv := ht
    have h2 : cur.toList[i]? = (m.map iv)[i]? := by rw [← h1, List.getElem?_take_of_lt (by omega)]
    rw [Array.getElem?_toList, List.getElem?_map, List.getElem?_eq_getElem hi] at h2
    exact h2
end
/-- Two queries and a mapping, drawn anew. -/
def ThreeDrawn (w0 : World) (e : Ending) (w : World) : Prop := ∃ (qa : Int) (ha : List Int) (ba : List Atom) (qb : Int) (hb : List Int) (bb : List Atom) (A0 : Option Addr) (a0 : Nat) (A1 : Option Addr) (a1 : Nat) (B0 : Option Addr) (b0 : Nat) (B1 : Option Addr) (b1 : Nat) (m : List Int) (M : Option Addr) (c : Nat),
  e = .returned (.tuple #[.agg #[.int .i64 qa, .slice A0 ha.length a0, .slice A1 ba.length a1], .agg #[.int .i64 qb, .slice B0 hb.length b0, .slice B1 bb.length b1], .slice M m.length c]) ∧
  QIn w A0 A1 a0 a1 ha ba ∧ QIn w B0 B1 b0 b1 hb bb ∧ RdSl rdInt w.cell? 1 M m ∧ (ha.length ≤ 3 ∧ ba.length ≤ 4 ∧ hb.length ≤ 3 ∧ bb.length ≤ 4 ∧ m.length ≤ 7) ∧ Fr w0 w
theorem fndC_len {q1 q2 : Int} {hd1 hd2 : List Int} {bd1 bd2 : List Atom} : ((fndO q1 hd1 bd1 q2 hd2 bd2).getD []).length ≤ 6 := by
  cases e : fndO q1 hd1 bd1 q2 hd2 bd2 with
  | none => simp
  | some M =>
    have h := chk_fnd e
    unfold chkHom at h
    simp only [Bool.and_eq_true, decide_eq_true_eq] at h
    obtain ⟨⟨⟨h1, _⟩, h3⟩, _⟩ := h
    have := vrule_parts h1
    show M.length ≤ 6
    omega
theorem own_blk_ge {w : World} {base e sz n : Nat} {v : Value} {xs : List Value} (h : w.ownsRow base e sz v n xs) : ∀ k, v.ownBlock = some k → base ≤ k := fun k hk => by
  rcases h.2 with ⟨rfl, _⟩ | ⟨g, cap, cur, rfl, hg, _⟩
  · cases hk
  · simp only [Value.ownBlock, Option.some.injEq] at hk
    omega
/-- The end: the results are stored. -/
theorem three_end {w0 W3 w : World} {r p0 p g h : Nat} {qa qb : Int} {A0 A1 B0 B1 M : Option Addr} {a0 a1 b0 b1 c : Nat} {ha hb m : List Int} {ba bb : List Atom} (k : DC w0 r p0 g h qa A0 a0 A1 a1 ha ba qb B0 b0 B1 b1 hb bb W3) (hc : Ch (· = r) W3 w) (hr : Rdr w r p) (hM : ML w W3.heap.size m M)
    (hbd : ha.length ≤ 3 ∧ ba.length ≤ 4 ∧ hb.length ≤ 3 ∧ bb.length ≤ 4 ∧ m.length ≤ 7) :
    ThreeDrawn w0 (.returned (.tuple #[.agg #[.int .i64 qa, .slice A0 ha.length a0, .slice A1 ba.length a1], .agg #[.int .i64 qb, .slice B0 hb.length b0, .slice B1 bb.length b1], .slice M m.length c]))
      ((((((w.setCell ⟨w0.heap.size, 0, none⟩ (.int .i64 qa)).setCell ⟨w0.heap.size, 1, none⟩ (.slice A0 ha.length a0)).setCell ⟨w0.heap.size, 2, none⟩ (.slice A1 ba.length a1)).setCell ⟨w0.heap.size + 1, 0, none⟩ (.int .i64 qb)).setCell ⟨w0.heap.size + 1, 1, none⟩ (.slice B0 hb.length b0)).setCell ⟨w0.heap.size + 1, 2, none⟩ (.slice B1 bb.length b1)) ∧
    Blk ((((((w.setCell ⟨w0.heap.size, 0, none⟩ (.int .i64 qa)).setCell ⟨w0.heap.size, 1, none⟩ (.slice A0 ha.length a0)).setCell ⟨w0.heap.size, 2, none⟩ (.slice A1 ba.length a1)).setCell ⟨w0.heap.size + 1, 0, none⟩ (.int .i64 qb)).setCell ⟨w0.heap.size + 1, 1, none⟩ (.slice B0 hb.length b0)).setCell ⟨w0.heap.size + 1, 2, none⟩ (.slice B1 bb.length b1)) w0.heap.size 30 #[.int .i64 qa, .slice A0 ha.length a0, .slice A1 ba.length a1] ∧
    Blk ((((((w.setCell ⟨w0.heap.size, 0, none⟩ (.int .i64 qa)).setCell ⟨w0.heap.size, 1, none⟩ (.slice A0 ha.length a0)).setCell ⟨w0.heap.size, 2, none⟩ (.slice A1 ba.length a1)).setCell ⟨w0.heap.size + 1, 0, none⟩ (.int .i64 qb)).setCell ⟨w0.heap.size + 1, 1, none⟩ (.slice B0 hb.length b0)).setCell ⟨w0.heap.size + 1, 2, none⟩ (.slice B1 bb.length b1)) (w0.heap.size + 1) 30 #[.int .i64 qb, .slice B0 hb.length b0, .slice B1 bb.length b1] := by
  have hs3 := k.kB.lt
  have k' := k.ch hc hr
  obtain ⟨z1, z2, z3, z4⟩ := two_put (q1 := qa) (q2 := qb) k'.oA0 k'.oA1 k'.oB0 k'.oB1 k'.z0 k'.z1
  have h11 := k.lt
  have h12 := k.gr
  have h13 := k.gh
  have e0 : ∀ o : Nat, (⟨w0.heap.size, o, none⟩ : Addr).block < W3.heap.size := fun o => by show w0.heap.size < _; omega
  have e1 : ∀ o : Nat, (⟨w0.heap.size + 1, o, none⟩ : Addr).block < W3.heap.size := fun o => by show w0.heap.size + 1 < _; omega
  refine ⟨⟨qa, ha, ba, qb, hb, bb, A0, a0, A1, a1, B0, b0, B1, b1, m, M, c, rfl, z3, z4, ((((((hM.far (e0 0) _).far (e0 1) _).far (e0 2) _).far (e1 0) _).far (e1 1) _).far (e1 2) _).rd, hbd, ?_⟩, z1, z2⟩
  exact (((((k'.fr.setNew (Nat.le_refl _) _).setNew (Nat.le_refl _) _).setNew (Nat.le_refl _) _).setNew (Nat.le_succ _) _).setNew (Nat.le_succ _) _).setNew (Nat.le_succ _) _
set_option maxRecDepth 100000 in
set_option maxHeartbeats 2000000 in
theorem drawCheckHomomorphism (A : Option Addr) (cap : Nat) (xs : List Nat) (w : World) (hx : RdSl rdByte w.cell? 1 A xs) (hl : xs.length ≤ 1048576) (hc : xs.length ≤ cap) :
    Calls Tryd.prog 34 #[.slice A xs.length cap] w (ThreeDrawn w) := by
  have HX := hid hx
  have BQ := (Blk.new w 30 #[.int .i64 0, .slice none 0 0, .slice none 0 0]).alloc (.cells #[.int .i64 0, .slice none 0 0, .slice none 0 0] 30)
  have BR := blk_new1 w (.cells #[.int .i64 0, .slice none 0 0, .slice none 0 0] 30) 30 #[.int .i64 0, .slice none 0 0, .slice none 0 0]
  have F0 : Fr w ((w.alloc (.cells #[.int .i64 0, .slice none 0 0, .slice none 0 0] 30)).alloc (.cells #[.int .i64 0, .slice none 0 0, .slice none 0 0] 30)) := by (repeat (first | with_reducible exact Fr.refl _ | with_reducible assumption | with_reducible refine Fr.alloc ?_ _ | with_reducible refine Fr.drew ?_ | with_reducible refine Fr.drewN ?_ _ | (with_reducible refine Fr.setNew2 ?_ ?_ _; · (simp <;> omega)) | with_reducible refine Fr.trans ?_ (by assumption)))
  clear hx
  go_enter Tryd.func34, Tryd.ntmps34
  go_wp2_with fail
  refine absW fun W0 hW0 => ?_
  rw [← hW0] at BQ BR F0
  clear hW0
  have hs0 := BR.lt
  refine (newReader A cap xs _ (HX.out.fr rdByte_mono F0) hl hc).mono ?_
  rintro e w1 ⟨r, rfl, hr, hrd, hF1⟩
  have F1 := F0.trans hF1
  replace BQ := BQ.fr hF1
  replace BR := BR.fr hF1
  clear hF1
  have hrl := hrd.lt
  go_wp2_with fail
  refine (twoRules r 0 _ hrd (by omega)).mono ?_
  rintro e w2 ⟨qa, ha, ba, qb, hb, bb, A0, a0, A1, a1, B0, b0, B1, b1, rfl, ⟨k3, k4⟩, ⟨k5, k6⟩, hbd, p2, hp2, hr2, hC⟩
  replace BQ := BQ.ch hC (by omega)
  replace BR := BR.ch hC (by omega)
  have F2 : Fr w w2 := hC.fr (fun j hj => by have : j = r := hj; omega) F1
  have hrl2 := hr2.lt
  have G2 : Fr w2 ((w2.alloc (.cells #[.int .i64 qa, .slice A0 ha.length a0, .slice A1 ba.length a1] 30)).alloc (.cells #[.int .i64 qb, .slice B0 hb.length b0, .slice B1 bb.length b1] 30)) := by (repeat (first | with_reducible exact Fr.refl _ | with_reducible assumption | with_reducible refine Fr.alloc ?_ _ | with_reducible refine Fr.drew ?_ | with_reducible refine Fr.drewN ?_ _ | (with_reducible refine Fr.setNew2 ?_ ?_ _; · (simp <;> omega)) | with_reducible refine Fr.trans ?_ (by assumption)))
  have S3 := hid (show DC w r p2 w2.heap.size (w2.heap.size + 1) qa A0 a0 A1 a1 ha ba qb B0 b0 B1 b1 hb bb ((w2.alloc (.cells #[.int .i64 qa, .slice A0 ha.length a0, .slice A1 ba.length a1] 30)).alloc (.cells #[.int .i64 qb, .slice B0 hb.length b0, .slice B1 bb.length b1] 30)) from
    ⟨(Blk.new w2 _ _).alloc _, blk_new1 w2 _ _ _, own_base (own_fr k3 G2) (by omega), own_base (own_fr k4 G2) (by omega), own_base (own_fr k5 G2) (by omega), own_base (own_fr k6 G2) (by omega), hr2.fr G2, F2.trans G2, BQ.fr G2, BR.fr G2, by omega, hrl2, by omega⟩)
  clear k3 k4 k5 k6 BQ BR hC hrd F2 hr2 G2 hs0 F1
  obtain ⟨g, eg⟩ : ∃ g, w2.heap.size = g := ⟨_, rfl⟩
  go_wp2_with fail
  refine absW fun W3 hW3 => ?_
  rw [← hW3, eg] at S3
  clear hW3 eg
  refine (specFindHom qa qb A0 A1 B0 B1 a0 a1 b0 b1 ha hb ba bb _ S3.out.qA.r0 S3.out.qA.r1 S3.out.qB.r0 S3.out.qB.r1 (by omega) (by omega) (by omega) (by omega)).mono ?_
  rintro e w4 ⟨hP, hF⟩
  have hs34 := hF.size
  have C4 : Ch (· = r) W3 w4 := hF.ch
  have R4 := S3.out.rd.fr hF
  have hg3 := S3.out.kB.lt
  have hlt := S3.out.lt
  have hgr := S3.out.gr
  cases eo : fndO qa ha ba qb hb bb with
  | none =>
    rw [eo] at hP
    obtain rfl : e = .returned (.tuple #[.slice none 0 0, .bool false]) := hP
    have O5 := own_empty (w := w4) (base := W3.heap.size) (e := 3) (sz := 1) hs34
    have C5 : Ch (· = r) W3 (w4.alloc (.cells #[] 3)) := C4.alloc _
    have R5 := R4.alloc (.cells #[] 3)
    clear hF C4 R4
    go_wp2
    generalize w4.alloc (.cells #[] 3) = W5 at O5 C5 R5 ⊢
    go_loopw [8, 10] (fun s t wr => ∃ (k : Nat) (v : Value) (m : List Int), t = .int .i64 k ∧ v = s ∧ m.length = k ∧ (k = 0 ∨ (k : Int) ≤ qa) ∧ Hid (wr.ownsRow W3.heap.size 3 1 v k (m.map iv)) ∧ Hid (Ch (· = r) W3 wr) ∧ Hid (Rdr wr r (p2 + k))) (fun _ t _ => 7 - (intOf t).toNat)
    case atStart => exact ⟨0, _, [], rfl, rfl, rfl, .inl rfl, hid O5, hid C5, hid R5⟩
    case round =>
      obtain ⟨k, v, m, rfl, rfl, hmk, hkq, hO, hC, hR⟩ := hrel
      have x0 := (S3.out.kA.ch hC.out (by omega)).cell 0
      have y0 := (S3.out.kB.ch hC.out (by omega)).cell 0
      have hsr := hC.out.size
      clear O5 C5 R5
      by_cases hlt : (k : Int) < qa
      · have e1 : decide ((k : Int) < qa) = true := decide_eq_true hlt
        go_wp2_with fail
        all_goals
          refine (pick _ r _ _ hR.out (by omega) (by (repeat' split) <;> omega)).mono ?_
          rintro e w6 ⟨x, rfl, _, hr6, hc6⟩
          have O6 := hid (gown_ch hO.out hc6 (by omega))
          have C6 := hid (hC.out.trans hc6)
          have hs6 := hc6.size
          clear hc6 x0 y0 hO hC hR
          go_wp2_with (first | (at_builtin; refine wp_appS rfl _ _ 22 rfl W3.heap.size 3 (.int .i64 0) 1 8 Tryd.underlying22 (by kernel_rfl) rfl (by decide) (by decide) _ _ _ rfl (own_fr O6.out ((Fr.refl w6).alloc _)) (by omega) (by simp; omega) w6.heap.size 0 1 1 [.int .i64 x] rfl rfl (fun j u hu => by rw [Nat.zero_add, (Blk.new w6 _ _).cell]; simpa using hu) (by omega) rfl ?_; intro v8 w8 hO8 hg8; have C8 : Ch (· = r) W3 w8 := Ch.grown (C6.out.alloc _) hg8 (own_blk_ge O6.out); have R8 : Rdr w8 r (p2 + (k + 1)) := Rdr.grown (hr6.alloc _) hg8 (fun k' hk' => by have := own_blk_ge O6.out k' hk'; omega)) | fail)
          have HO8 := hid (show w8.ownsRow W3.heap.size 3 1 v8 (k + 1) ((m ++ [(x : Int)]).map iv) by rw [List.map_append]; exact hO8)
          have HC8 := hid C8
          have HR8 := hid R8
          clear hO8 C8 R8 hr6
          go_roundw
          case rel => exact ⟨k + 1, _, m ++ [(x : Int)], by go_num, rfl, by simp [hmk], .inr (by omega), HO8, HC8, HR8⟩
          case measure => simp [intOf]; omega
      · have e1 : decide ((k : Int) < qa) = false := decide_eq_false hlt
        obtain ⟨M, c, rfl⟩ := own_form hO.out
        have MLT := own_ml hO.out hmk.symm
        have CT := hC.out
        have RT := hR.out
        obtain ⟨n, hnk⟩ : ∃ n, n = k := ⟨_, rfl⟩
        subst hnk
        have hn := hmk
        clear hO hC hR
        rcases Nat.eq_zero_or_pos n with h0 | hpos
        · have e0 : decide ((0 : Int) < (n : Int)) = false := by simp; omega
          go_wp2_with fail
          have S9 := S3.out.ch (CT).drew (RT).drew
          have HML9 := (MLT).ch ((Ch.refl wr).drew) (by omega)
          have C9 := (CT).drew
          have R9 := (RT).drew
          refine wp_region_T (fun W => (W.cell? ⟨g, 0, none⟩ = some (.int .i64 qa) ∧ W.cell? ⟨g, 1, none⟩ = some (.slice A0 ha.length a0) ∧ W.cell? ⟨g, 2, none⟩ = some (.slice A1 ba.length a1)) ∧ (W.cell? ⟨g + 1, 0, none⟩ = some (.int .i64 qb) ∧ W.cell? ⟨g + 1, 1, none⟩ = some (.slice B0 hb.length b0) ∧ W.cell? ⟨g + 1, 2, none⟩ = some (.slice B1 bb.length b1))) 5 (by kernel_rfl) ?_
          generalize (wr).drew = w6 at S9 HML9 C9 R9 ⊢
          have keepQ : ∀ W, Blk W g 30 #[.int .i64 qa, .slice A0 ha.length a0, .slice A1 ba.length a1] → Blk W (g + 1) 30 #[.int .i64 qb, .slice B0 hb.length b0, .slice B1 bb.length b1] → _ := fun W x y => And.intro (And.intro (x.cell 0) (And.intro (x.cell 1) (x.cell 2))) (And.intro (y.cell 0) (And.intro (y.cell 1) (y.cell 2)))
          have k1 := S9.kA
          have k2 := S9.kB
          have HS : (w6.cell? ⟨g, 0, none⟩ = some (.int .i64 qa) ∧ w6.cell? ⟨g, 1, none⟩ = some (.slice A0 ha.length a0) ∧ w6.cell? ⟨g, 2, none⟩ = some (.slice A1 ba.length a1)) ∧ (w6.cell? ⟨g + 1, 0, none⟩ = some (.int .i64 qb) ∧ w6.cell? ⟨g + 1, 1, none⟩ = some (.slice B0 hb.length b0) ∧ w6.cell? ⟨g + 1, 2, none⟩ = some (.slice B1 bb.length b1)) := keepQ _ k1 k2
          obtain ⟨d0, d1, d2, f0, f1, f2⟩ := S9.z0.three
          obtain ⟨d0', d1', d2', f0', f1', f2'⟩ := S9.z1.three
          have o1 : ¬ (g = w.heap.size) := by omega
          have o2 : ¬ (g + 1 = w.heap.size) := by omega
          have o1' : ¬ (g = w.heap.size + 1) := by omega
          have o2' : ¬ (g + 1 = w.heap.size + 1) := by omega
          have o3 : ¬ (w.heap.size = w.heap.size + 1) := by omega
          have o4 : ¬ (w.heap.size + 1 = w.heap.size) := by omega
          have KE := three_end (c := c) S3.out C9 R9 HML9 ⟨by omega, by omega, by omega, by omega, by omega⟩
          rw [hn] at KE
          replace KE := hid KE
          clear S9 HML9 C9 R9 S3
          ((refine wpAnyT_take 0 (v := ?_) rfl (by kernel_rfl) (fun _ _ _ h => h) (Or.inl ⟨by rfl, ?_⟩) (by assumption) ?_; rotate_left; (focus (intro W hSw; (try dsimp only at hSw); go_simp; (try with_reducible rfl); done)); (try simp only [Act.put, List.setIfInBounds_toArray, List.set_cons_zero, List.set_cons_succ])); (refine wpAnyT_take 1 (v := ?_) rfl (by kernel_rfl) (fun _ _ _ h => h) (Or.inl ⟨by rfl, ?_⟩) (by assumption) ?_; rotate_left; (focus (intro W hSw; (try dsimp only at hSw); go_simp; (try with_reducible rfl); done)); (try simp only [Act.put, List.setIfInBounds_toArray, List.set_cons_zero, List.set_cons_succ])); (refine wpAnyT_take 2 (v := ?_) rfl (by kernel_rfl) (fun _ _ _ h => h) (Or.inl ⟨by rfl, ?_⟩) (by assumption) ?_; rotate_left; (focus (intro W hSw; (try dsimp only at hSw); go_simp; (try with_reducible rfl); done)); (try simp only [Act.put, List.setIfInBounds_toArray, List.set_cons_zero, List.set_cons_succ])))
          ((refine wpAnyT_one 3 rfl (by kernel_rfl) (fun K hK => ?_); go_simp))
          have HS := keepQ (((w6.setCell ⟨w.heap.size, 0, none⟩ (.int .i64 qa)).setCell ⟨w.heap.size, 1, none⟩ (.slice A0 ha.length a0)).setCell ⟨w.heap.size, 2, none⟩ (.slice A1 ba.length a1)) (((k1.far (by exact o1) _).far (by exact o1) _).far (by exact o1) _) (((k2.far (by exact o2) _).far (by exact o2) _).far (by exact o2) _)
          ((try dsimp only); refine hK.out _ _ (fun _ => HS) (fun _ => ?_); clear hK K; (try simp only [Act.put, List.setIfInBounds_toArray, List.set_cons_zero, List.set_cons_succ]))
          ((refine wpAnyT_one 4 rfl (by kernel_rfl) (fun K hK => ?_); go_simp))
          have HS := keepQ ((((((w6.setCell ⟨w.heap.size, 0, none⟩ (.int .i64 qa)).setCell ⟨w.heap.size, 1, none⟩ (.slice A0 ha.length a0)).setCell ⟨w.heap.size, 2, none⟩ (.slice A1 ba.length a1)).setCell ⟨w.heap.size + 1, 0, none⟩ (.int .i64 qb)).setCell ⟨w.heap.size + 1, 1, none⟩ (.slice B0 hb.length b0)).setCell ⟨w.heap.size + 1, 2, none⟩ (.slice B1 bb.length b1)) ((((((k1.far (by exact o1) _).far (by exact o1) _).far (by exact o1) _).far (by exact o1') _).far (by exact o1') _).far (by exact o1') _) ((((((k2.far (by exact o2) _).far (by exact o2) _).far (by exact o2) _).far (by exact o2') _).far (by exact o2') _).far (by exact o2') _)
          ((try dsimp only); refine hK.out _ _ (fun _ => HS) (fun _ => ?_); clear hK K; (try simp only [Act.put, List.setIfInBounds_toArray, List.set_cons_zero, List.set_cons_succ]))
          clear k1 k2 HS keepQ
          ((refine wpAnyT_one 5 rfl (by kernel_rfl) (fun K hK => ?_); go_simp))
          ((try dsimp only); refine hK.out _ _ (fun h => absurd rfl h) (fun _ => ?_); clear hK K; (try simp only [Act.put, List.setIfInBounds_toArray, List.set_cons_zero, List.set_cons_succ]); refine wpAnyT_done (by kernel_rfl) ?_ _)
          go_wp2
          obtain ⟨z1, z2, z3⟩ := KE.out
          generalize ((((((w6.setCell ⟨w.heap.size, 0, none⟩ (.int .i64 qa)).setCell ⟨w.heap.size, 1, none⟩ (.slice A0 ha.length a0)).setCell ⟨w.heap.size, 2, none⟩ (.slice A1 ba.length a1)).setCell ⟨w.heap.size + 1, 0, none⟩ (.int .i64 qb)).setCell ⟨w.heap.size + 1, 1, none⟩ (.slice B0 hb.length b0)).setCell ⟨w.heap.size + 1, 2, none⟩ (.slice B1 bb.length b1)) = w9 at z1 z2 z3 ⊢
          obtain ⟨u0, u1, u2, _⟩ := z2.three
          obtain ⟨v0, v1, v2, _⟩ := z3.three
          exact bodyPost_ret (v := .tuple #[.agg #[.int .i64 qa, .slice A0 ha.length a0, .slice A1 ba.length a1], .agg #[.int .i64 qb, .slice B0 hb.length b0, .slice B1 bb.length b1], .slice M n c]) (by simp [results, Tryd.results34, go_sem, h0, u0, u1, u2, v0, v1, v2]) rfl z1
        · have e0 : decide ((0 : Int) < (n : Int)) = true := by simp; omega
          go_wp2_with fail
          refine (pick 6 r _ _ RT (by omega) (by omega)).mono ?_
          rintro e w7 ⟨v, rfl, _, hr7, hc7⟩
          have C7 := CT.trans hc7
          have ML7 := MLT.ch hc7 (by omega)
          clear hc7 RT CT MLT
          cases ev : ((v : Int) == 0)
          · go_wp2_with fail
            have S9 := S3.out.ch (C7).drew (hr7).drew
            have HML9 := (ML7).ch ((Ch.refl w7).drew) (by omega)
            have C9 := (C7).drew
            have R9 := (hr7).drew
            refine wp_region_T (fun W => (W.cell? ⟨g, 0, none⟩ = some (.int .i64 qa) ∧ W.cell? ⟨g, 1, none⟩ = some (.slice A0 ha.length a0) ∧ W.cell? ⟨g, 2, none⟩ = some (.slice A1 ba.length a1)) ∧ (W.cell? ⟨g + 1, 0, none⟩ = some (.int .i64 qb) ∧ W.cell? ⟨g + 1, 1, none⟩ = some (.slice B0 hb.length b0) ∧ W.cell? ⟨g + 1, 2, none⟩ = some (.slice B1 bb.length b1))) 5 (by kernel_rfl) ?_
            generalize (w7).drew = w6 at S9 HML9 C9 R9 ⊢
            have keepQ : ∀ W, Blk W g 30 #[.int .i64 qa, .slice A0 ha.length a0, .slice A1 ba.length a1] → Blk W (g + 1) 30 #[.int .i64 qb, .slice B0 hb.length b0, .slice B1 bb.length b1] → _ := fun W x y => And.intro (And.intro (x.cell 0) (And.intro (x.cell 1) (x.cell 2))) (And.intro (y.cell 0) (And.intro (y.cell 1) (y.cell 2)))
            have k1 := S9.kA
            have k2 := S9.kB
            have HS : (w6.cell? ⟨g, 0, none⟩ = some (.int .i64 qa) ∧ w6.cell? ⟨g, 1, none⟩ = some (.slice A0 ha.length a0) ∧ w6.cell? ⟨g, 2, none⟩ = some (.slice A1 ba.length a1)) ∧ (w6.cell? ⟨g + 1, 0, none⟩ = some (.int .i64 qb) ∧ w6.cell? ⟨g + 1, 1, none⟩ = some (.slice B0 hb.length b0) ∧ w6.cell? ⟨g + 1, 2, none⟩ = some (.slice B1 bb.length b1)) := keepQ _ k1 k2
            obtain ⟨d0, d1, d2, f0, f1, f2⟩ := S9.z0.three
            obtain ⟨d0', d1', d2', f0', f1', f2'⟩ := S9.z1.three
            have o1 : ¬ (g = w.heap.size) := by omega
            have o2 : ¬ (g + 1 = w.heap.size) := by omega
            have o1' : ¬ (g = w.heap.size + 1) := by omega
            have o2' : ¬ (g + 1 = w.heap.size + 1) := by omega
            have o3 : ¬ (w.heap.size = w.heap.size + 1) := by omega
            have o4 : ¬ (w.heap.size + 1 = w.heap.size) := by omega
            have KE := three_end (c := c) S3.out C9 R9 HML9 ⟨by omega, by omega, by omega, by omega, by omega⟩
            rw [hn] at KE
            replace KE := hid KE
            clear S9 HML9 C9 R9 S3
            ((refine wpAnyT_take 0 (v := ?_) rfl (by kernel_rfl) (fun _ _ _ h => h) (Or.inl ⟨by rfl, ?_⟩) (by assumption) ?_; rotate_left; (focus (intro W hSw; (try dsimp only at hSw); go_simp; (try with_reducible rfl); done)); (try simp only [Act.put, List.setIfInBounds_toArray, List.set_cons_zero, List.set_cons_succ])); (refine wpAnyT_take 1 (v := ?_) rfl (by kernel_rfl) (fun _ _ _ h => h) (Or.inl ⟨by rfl, ?_⟩) (by assumption) ?_; rotate_left; (focus (intro W hSw; (try dsimp only at hSw); go_simp; (try with_reducible rfl); done)); (try simp only [Act.put, List.setIfInBounds_toArray, List.set_cons_zero, List.set_cons_succ])); (refine wpAnyT_take 2 (v := ?_) rfl (by kernel_rfl) (fun _ _ _ h => h) (Or.inl ⟨by rfl, ?_⟩) (by assumption) ?_; rotate_left; (focus (intro W hSw; (try dsimp only at hSw); go_simp; (try with_reducible rfl); done)); (try simp only [Act.put, List.setIfInBounds_toArray, List.set_cons_zero, List.set_cons_succ])))
            ((refine wpAnyT_one 3 rfl (by kernel_rfl) (fun K hK => ?_); go_simp))
            have HS := keepQ (((w6.setCell ⟨w.heap.size, 0, none⟩ (.int .i64 qa)).setCell ⟨w.heap.size, 1, none⟩ (.slice A0 ha.length a0)).setCell ⟨w.heap.size, 2, none⟩ (.slice A1 ba.length a1)) (((k1.far (by exact o1) _).far (by exact o1) _).far (by exact o1) _) (((k2.far (by exact o2) _).far (by exact o2) _).far (by exact o2) _)
            ((try dsimp only); refine hK.out _ _ (fun _ => HS) (fun _ => ?_); clear hK K; (try simp only [Act.put, List.setIfInBounds_toArray, List.set_cons_zero, List.set_cons_succ]))
            ((refine wpAnyT_one 4 rfl (by kernel_rfl) (fun K hK => ?_); go_simp))
            have HS := keepQ ((((((w6.setCell ⟨w.heap.size, 0, none⟩ (.int .i64 qa)).setCell ⟨w.heap.size, 1, none⟩ (.slice A0 ha.length a0)).setCell ⟨w.heap.size, 2, none⟩ (.slice A1 ba.length a1)).setCell ⟨w.heap.size + 1, 0, none⟩ (.int .i64 qb)).setCell ⟨w.heap.size + 1, 1, none⟩ (.slice B0 hb.length b0)).setCell ⟨w.heap.size + 1, 2, none⟩ (.slice B1 bb.length b1)) ((((((k1.far (by exact o1) _).far (by exact o1) _).far (by exact o1) _).far (by exact o1') _).far (by exact o1') _).far (by exact o1') _) ((((((k2.far (by exact o2) _).far (by exact o2) _).far (by exact o2) _).far (by exact o2') _).far (by exact o2') _).far (by exact o2') _)
            ((try dsimp only); refine hK.out _ _ (fun _ => HS) (fun _ => ?_); clear hK K; (try simp only [Act.put, List.setIfInBounds_toArray, List.set_cons_zero, List.set_cons_succ]))
            clear k1 k2 HS keepQ
            ((refine wpAnyT_one 5 rfl (by kernel_rfl) (fun K hK => ?_); go_simp))
            ((try dsimp only); refine hK.out _ _ (fun h => absurd rfl h) (fun _ => ?_); clear hK K; (try simp only [Act.put, List.setIfInBounds_toArray, List.set_cons_zero, List.set_cons_succ]); refine wpAnyT_done (by kernel_rfl) ?_ _)
            go_wp2
            obtain ⟨z1, z2, z3⟩ := KE.out
            generalize ((((((w6.setCell ⟨w.heap.size, 0, none⟩ (.int .i64 qa)).setCell ⟨w.heap.size, 1, none⟩ (.slice A0 ha.length a0)).setCell ⟨w.heap.size, 2, none⟩ (.slice A1 ba.length a1)).setCell ⟨w.heap.size + 1, 0, none⟩ (.int .i64 qb)).setCell ⟨w.heap.size + 1, 1, none⟩ (.slice B0 hb.length b0)).setCell ⟨w.heap.size + 1, 2, none⟩ (.slice B1 bb.length b1)) = w9 at z1 z2 z3 ⊢
            obtain ⟨u0, u1, u2, _⟩ := z2.three
            obtain ⟨v0, v1, v2, _⟩ := z3.three
            exact bodyPost_ret (v := .tuple #[.agg #[.int .i64 qa, .slice A0 ha.length a0, .slice A1 ba.length a1], .agg #[.int .i64 qb, .slice B0 hb.length b0, .slice B1 bb.length b1], .slice M n c]) (by simp [results, Tryd.results34, go_sem, u0, u1, u2, v0, v1, v2]) rfl z1
          · go_wp2_with fail
            refine (pick _ r _ _ hr7 (by omega) (by omega)).mono ?_
            rintro e w8 ⟨j, rfl, hj, hr8, hc8⟩
            have C8 := C7.trans hc8
            have ML8 := ML7.ch hc8 (by omega)
            have hjn : j < n := by omega
            have C8a : Ch (· = r) W3 (w8.alloc (.cells #[.int .i64 0, .int .i64 1, .int .i64 (-1), .int .i64 6] 3)) := C8.alloc _
            have ML8a : ML (w8.alloc (.cells #[.int .i64 0, .int .i64 1, .int .i64 (-1), .int .i64 6] 3)) W3.heap.size m M := ML8.ch ((Ch.refl w8).alloc _) (by omega)
            have hs8 := C8.size
            clear hr7 C7 ML7 hc8
            go_wp2_with fail
            refine (one _ _ [0, 1, -1, 6] r _ _ (hr8.alloc _) (by omega) (lit_ints (xs := [0, 1, -1, 6]) (by omega)) (by simp) (by simp)).mono ?_
            rintro e w9 ⟨z, hz, rfl, hr9, hc9⟩
            have C9 := C8a.trans hc9
            obtain ⟨mb, cs, hMb, hlo, hB, hI, hcs⟩ := (ML8a.ch hc9 (by omega)) (by intro e; rw [e] at hn; simp at hn; omega)
            subst hMb
            obtain ⟨u, hu⟩ := hB.cell_some (show j < cs.size by omega)
            have hfz := hB.frozen j
            have ML10 : ML (w9.setCell ⟨mb, j, none⟩ (.int .i64 z)) W3.heap.size (m.set j z) (some ⟨mb, 0, none⟩) := fun _ => ⟨mb, _, rfl, hlo, hB.set_ j _, hI.set hcs, by rw [List.length_set, Array.size_setIfInBounds]; exact hcs⟩
            have C10 : Ch (· = r) W3 (w9.setCell ⟨mb, j, none⟩ (.int .i64 z)) := C9.setNew hlo _
            have R10 : Rdr (w9.setCell ⟨mb, j, none⟩ (.int .i64 z)) r _ := hr9.set (by show r < mb; omega) _
            have hn10 : (m.set j z).length = n := by rw [List.length_set]; exact hn
            clear hr8 C8 ML8 C8a ML8a hc9 hB hI
            go_wp2_with fail
            generalize w9.setCell ⟨mb, j, none⟩ (.int .i64 z) = wt at C10 R10 ML10 ⊢
            have S9 := S3.out.ch (C10).drew (R10).drew
            have HML9 := (ML10).ch ((Ch.refl wt).drew) (by omega)
            have C9 := (C10).drew
            have R9 := (R10).drew
            refine wp_region_T (fun W => (W.cell? ⟨g, 0, none⟩ = some (.int .i64 qa) ∧ W.cell? ⟨g, 1, none⟩ = some (.slice A0 ha.length a0) ∧ W.cell? ⟨g, 2, none⟩ = some (.slice A1 ba.length a1)) ∧ (W.cell? ⟨g + 1, 0, none⟩ = some (.int .i64 qb) ∧ W.cell? ⟨g + 1, 1, none⟩ = some (.slice B0 hb.length b0) ∧ W.cell? ⟨g + 1, 2, none⟩ = some (.slice B1 bb.length b1))) 5 (by kernel_rfl) ?_
            generalize (wt).drew = w6 at S9 HML9 C9 R9 ⊢
            have keepQ : ∀ W, Blk W g 30 #[.int .i64 qa, .slice A0 ha.length a0, .slice A1 ba.length a1] → Blk W (g + 1) 30 #[.int .i64 qb, .slice B0 hb.length b0, .slice B1 bb.length b1] → _ := fun W x y => And.intro (And.intro (x.cell 0) (And.intro (x.cell 1) (x.cell 2))) (And.intro (y.cell 0) (And.intro (y.cell 1) (y.cell 2)))
            have k1 := S9.kA
            have k2 := S9.kB
            have HS : (w6.cell? ⟨g, 0, none⟩ = some (.int .i64 qa) ∧ w6.cell? ⟨g, 1, none⟩ = some (.slice A0 ha.length a0) ∧ w6.cell? ⟨g, 2, none⟩ = some (.slice A1 ba.length a1)) ∧ (w6.cell? ⟨g + 1, 0, none⟩ = some (.int .i64 qb) ∧ w6.cell? ⟨g + 1, 1, none⟩ = some (.slice B0 hb.length b0) ∧ w6.cell? ⟨g + 1, 2, none⟩ = some (.slice B1 bb.length b1)) := keepQ _ k1 k2
            obtain ⟨d0, d1, d2, f0, f1, f2⟩ := S9.z0.three
            obtain ⟨d0', d1', d2', f0', f1', f2'⟩ := S9.z1.three
            have o1 : ¬ (g = w.heap.size) := by omega
            have o2 : ¬ (g + 1 = w.heap.size) := by omega
            have o1' : ¬ (g = w.heap.size + 1) := by omega
            have o2' : ¬ (g + 1 = w.heap.size + 1) := by omega
            have o3 : ¬ (w.heap.size = w.heap.size + 1) := by omega
            have o4 : ¬ (w.heap.size + 1 = w.heap.size) := by omega
            have KE := three_end (c := c) S3.out C9 R9 HML9 ⟨by omega, by omega, by omega, by omega, by omega⟩
            rw [hn10] at KE
            replace KE := hid KE
            clear S9 HML9 C9 R9 S3
            ((refine wpAnyT_take 0 (v := ?_) rfl (by kernel_rfl) (fun _ _ _ h => h) (Or.inl ⟨by rfl, ?_⟩) (by assumption) ?_; rotate_left; (focus (intro W hSw; (try dsimp only at hSw); go_simp; (try with_reducible rfl); done)); (try simp only [Act.put, List.setIfInBounds_toArray, List.set_cons_zero, List.set_cons_succ])); (refine wpAnyT_take 1 (v := ?_) rfl (by kernel_rfl) (fun _ _ _ h => h) (Or.inl ⟨by rfl, ?_⟩) (by assumption) ?_; rotate_left; (focus (intro W hSw; (try dsimp only at hSw); go_simp; (try with_reducible rfl); done)); (try simp only [Act.put, List.setIfInBounds_toArray, List.set_cons_zero, List.set_cons_succ])); (refine wpAnyT_take 2 (v := ?_) rfl (by kernel_rfl) (fun _ _ _ h => h) (Or.inl ⟨by rfl, ?_⟩) (by assumption) ?_; rotate_left; (focus (intro W hSw; (try dsimp only at hSw); go_simp; (try with_reducible rfl); done)); (try simp only [Act.put, List.setIfInBounds_toArray, List.set_cons_zero, List.set_cons_succ])))
            ((refine wpAnyT_one 3 rfl (by kernel_rfl) (fun K hK => ?_); go_simp))
            have HS := keepQ (((w6.setCell ⟨w.heap.size, 0, none⟩ (.int .i64 qa)).setCell ⟨w.heap.size, 1, none⟩ (.slice A0 ha.length a0)).setCell ⟨w.heap.size, 2, none⟩ (.slice A1 ba.length a1)) (((k1.far (by exact o1) _).far (by exact o1) _).far (by exact o1) _) (((k2.far (by exact o2) _).far (by exact o2) _).far (by exact o2) _)
            ((try dsimp only); refine hK.out _ _ (fun _ => HS) (fun _ => ?_); clear hK K; (try simp only [Act.put, List.setIfInBounds_toArray, List.set_cons_zero, List.set_cons_succ]))
            ((refine wpAnyT_one 4 rfl (by kernel_rfl) (fun K hK => ?_); go_simp))
            have HS := keepQ ((((((w6.setCell ⟨w.heap.size, 0, none⟩ (.int .i64 qa)).setCell ⟨w.heap.size, 1, none⟩ (.slice A0 ha.length a0)).setCell ⟨w.heap.size, 2, none⟩ (.slice A1 ba.length a1)).setCell ⟨w.heap.size + 1, 0, none⟩ (.int .i64 qb)).setCell ⟨w.heap.size + 1, 1, none⟩ (.slice B0 hb.length b0)).setCell ⟨w.heap.size + 1, 2, none⟩ (.slice B1 bb.length b1)) ((((((k1.far (by exact o1) _).far (by exact o1) _).far (by exact o1) _).far (by exact o1') _).far (by exact o1') _).far (by exact o1') _) ((((((k2.far (by exact o2) _).far (by exact o2) _).far (by exact o2) _).far (by exact o2') _).far (by exact o2') _).far (by exact o2') _)
            ((try dsimp only); refine hK.out _ _ (fun _ => HS) (fun _ => ?_); clear hK K; (try simp only [Act.put, List.setIfInBounds_toArray, List.set_cons_zero, List.set_cons_succ]))
            clear k1 k2 HS keepQ
            ((refine wpAnyT_one 5 rfl (by kernel_rfl) (fun K hK => ?_); go_simp))
            ((try dsimp only); refine hK.out _ _ (fun h => absurd rfl h) (fun _ => ?_); clear hK K; (try simp only [Act.put, List.setIfInBounds_toArray, List.set_cons_zero, List.set_cons_succ]); refine wpAnyT_done (by kernel_rfl) ?_ _)
            go_wp2
            obtain ⟨z1, z2, z3⟩ := KE.out
            generalize ((((((w6.setCell ⟨w.heap.size, 0, none⟩ (.int .i64 qa)).setCell ⟨w.heap.size, 1, none⟩ (.slice A0 ha.length a0)).setCell ⟨w.heap.size, 2, none⟩ (.slice A1 ba.length a1)).setCell ⟨w.heap.size + 1, 0, none⟩ (.int .i64 qb)).setCell ⟨w.heap.size + 1, 1, none⟩ (.slice B0 hb.length b0)).setCell ⟨w.heap.size + 1, 2, none⟩ (.slice B1 bb.length b1)) = w9 at z1 z2 z3 ⊢
            obtain ⟨u0, u1, u2, _⟩ := z2.three
            obtain ⟨v0, v1, v2, _⟩ := z3.three
            exact bodyPost_ret (v := .tuple #[.agg #[.int .i64 qa, .slice A0 ha.length a0, .slice A1 ba.length a1], .agg #[.int .i64 qb, .slice B0 hb.length b0, .slice B1 bb.length b1], .slice (some ⟨mb, 0, none⟩) n c]) (by simp [results, Tryd.results34, go_sem, u0, u1, u2, v0, v1, v2]) rfl z1
  | some L =>
    have hL : L.length ≤ 6 := by have := fndC_len (q1 := qa) (hd1 := ha) (bd1 := ba) (q2 := qb) (hd2 := hb) (bd2 := bb); rw [eo] at this; exact this
    rw [eo] at hP
    obtain ⟨mb, c, cs, rfl, hB, hI, hcs, hmb⟩ := hP
    have MLT : ML w4 W3.heap.size L (some ⟨mb, 0, none⟩) := fun _ => ⟨mb, cs, rfl, hmb, hB, hI, hcs⟩
    have CT := C4
    have RT := R4
    obtain ⟨n, hn⟩ : ∃ n, L.length = n := ⟨_, rfl⟩
    rw [hn]
    obtain ⟨m, em⟩ : ∃ m, L = m := ⟨_, rfl⟩
    subst em
    obtain ⟨M, eM⟩ : ∃ M, (some ⟨mb, 0, none⟩ : Option Addr) = M := ⟨_, rfl⟩
    rw [eM] at MLT ⊢
    clear hB hI hF C4 R4 eM
    rcases Nat.eq_zero_or_pos n with h0 | hpos
    · have e0 : decide ((0 : Int) < (n : Int)) = false := by simp; omega
      go_wp2_with fail
      have S9 := S3.out.ch (CT).drew (RT).drew
      have HML9 := (MLT).ch ((Ch.refl w4).drew) (by omega)
      have C9 := (CT).drew
      have R9 := (RT).drew
      refine wp_region_T (fun W => (W.cell? ⟨g, 0, none⟩ = some (.int .i64 qa) ∧ W.cell? ⟨g, 1, none⟩ = some (.slice A0 ha.length a0) ∧ W.cell? ⟨g, 2, none⟩ = some (.slice A1 ba.length a1)) ∧ (W.cell? ⟨g + 1, 0, none⟩ = some (.int .i64 qb) ∧ W.cell? ⟨g + 1, 1, none⟩ = some (.slice B0 hb.length b0) ∧ W.cell? ⟨g + 1, 2, none⟩ = some (.slice B1 bb.length b1))) 5 (by kernel_rfl) ?_
      generalize (w4).drew = w6 at S9 HML9 C9 R9 ⊢
      have keepQ : ∀ W, Blk W g 30 #[.int .i64 qa, .slice A0 ha.length a0, .slice A1 ba.length a1] → Blk W (g + 1) 30 #[.int .i64 qb, .slice B0 hb.length b0, .slice B1 bb.length b1] → _ := fun W x y => And.intro (And.intro (x.cell 0) (And.intro (x.cell 1) (x.cell 2))) (And.intro (y.cell 0) (And.intro (y.cell 1) (y.cell 2)))
      have k1 := S9.kA
      have k2 := S9.kB
      have HS : (w6.cell? ⟨g, 0, none⟩ = some (.int .i64 qa) ∧ w6.cell? ⟨g, 1, none⟩ = some (.slice A0 ha.length a0) ∧ w6.cell? ⟨g, 2, none⟩ = some (.slice A1 ba.length a1)) ∧ (w6.cell? ⟨g + 1, 0, none⟩ = some (.int .i64 qb) ∧ w6.cell? ⟨g + 1, 1, none⟩ = some (.slice B0 hb.length b0) ∧ w6.cell? ⟨g + 1, 2, none⟩ = some (.slice B1 bb.length b1)) := keepQ _ k1 k2
      obtain ⟨d0, d1, d2, f0, f1, f2⟩ := S9.z0.three
      obtain ⟨d0', d1', d2', f0', f1', f2'⟩ := S9.z1.three
      have o1 : ¬ (g = w.heap.size) := by omega
      have o2 : ¬ (g + 1 = w.heap.size) := by omega
      have o1' : ¬ (g = w.heap.size + 1) := by omega
      have o2' : ¬ (g + 1 = w.heap.size + 1) := by omega
      have o3 : ¬ (w.heap.size = w.heap.size + 1) := by omega
      have o4 : ¬ (w.heap.size + 1 = w.heap.size) := by omega
      have KE := three_end (c := c) S3.out C9 R9 HML9 ⟨by omega, by omega, by omega, by omega, by omega⟩
      rw [hn] at KE
      replace KE := hid KE
      clear S9 HML9 C9 R9 S3
      ((refine wpAnyT_take 0 (v := ?_) rfl (by kernel_rfl) (fun _ _ _ h => h) (Or.inl ⟨by rfl, ?_⟩) (by assumption) ?_; rotate_left; (focus (intro W hSw; (try dsimp only at hSw); go_simp; (try with_reducible rfl); done)); (try simp only [Act.put, List.setIfInBounds_toArray, List.set_cons_zero, List.set_cons_succ])); (refine wpAnyT_take 1 (v := ?_) rfl (by kernel_rfl) (fun _ _ _ h => h) (Or.inl ⟨by rfl, ?_⟩) (by assumption) ?_; rotate_left; (focus (intro W hSw; (try dsimp only at hSw); go_simp; (try with_reducible rfl); done)); (try simp only [Act.put, List.setIfInBounds_toArray, List.set_cons_zero, List.set_cons_succ])); (refine wpAnyT_take 2 (v := ?_) rfl (by kernel_rfl) (fun _ _ _ h => h) (Or.inl ⟨by rfl, ?_⟩) (by assumption) ?_; rotate_left; (focus (intro W hSw; (try dsimp only at hSw); go_simp; (try with_reducible rfl); done)); (try simp only [Act.put, List.setIfInBounds_toArray, List.set_cons_zero, List.set_cons_succ])))
      ((refine wpAnyT_one 3 rfl (by kernel_rfl) (fun K hK => ?_); go_simp))
      have HS := keepQ (((w6.setCell ⟨w.heap.size, 0, none⟩ (.int .i64 qa)).setCell ⟨w.heap.size, 1, none⟩ (.slice A0 ha.length a0)).setCell ⟨w.heap.size, 2, none⟩ (.slice A1 ba.length a1)) (((k1.far (by exact o1) _).far (by exact o1) _).far (by exact o1) _) (((k2.far (by exact o2) _).far (by exact o2) _).far (by exact o2) _)
      ((try dsimp only); refine hK.out _ _ (fun _ => HS) (fun _ => ?_); clear hK K; (try simp only [Act.put, List.setIfInBounds_toArray, List.set_cons_zero, List.set_cons_succ]))
      ((refine wpAnyT_one 4 rfl (by kernel_rfl) (fun K hK => ?_); go_simp))
      have HS := keepQ ((((((w6.setCell ⟨w.heap.size, 0, none⟩ (.int .i64 qa)).setCell ⟨w.heap.size, 1, none⟩ (.slice A0 ha.length a0)).setCell ⟨w.heap.size, 2, none⟩ (.slice A1 ba.length a1)).setCell ⟨w.heap.size + 1, 0, none⟩ (.int .i64 qb)).setCell ⟨w.heap.size + 1, 1, none⟩ (.slice B0 hb.length b0)).setCell ⟨w.heap.size + 1, 2, none⟩ (.slice B1 bb.length b1)) ((((((k1.far (by exact o1) _).far (by exact o1) _).far (by exact o1) _).far (by exact o1') _).far (by exact o1') _).far (by exact o1') _) ((((((k2.far (by exact o2) _).far (by exact o2) _).far (by exact o2) _).far (by exact o2') _).far (by exact o2') _).far (by exact o2') _)
      ((try dsimp only); refine hK.out _ _ (fun _ => HS) (fun _ => ?_); clear hK K; (try simp only [Act.put, List.setIfInBounds_toArray, List.set_cons_zero, List.set_cons_succ]))
      clear k1 k2 HS keepQ
      ((refine wpAnyT_one 5 rfl (by kernel_rfl) (fun K hK => ?_); go_simp))
      ((try dsimp only); refine hK.out _ _ (fun h => absurd rfl h) (fun _ => ?_); clear hK K; (try simp only [Act.put, List.setIfInBounds_toArray, List.set_cons_zero, List.set_cons_succ]); refine wpAnyT_done (by kernel_rfl) ?_ _)
      go_wp2
      obtain ⟨z1, z2, z3⟩ := KE.out
      generalize ((((((w6.setCell ⟨w.heap.size, 0, none⟩ (.int .i64 qa)).setCell ⟨w.heap.size, 1, none⟩ (.slice A0 ha.length a0)).setCell ⟨w.heap.size, 2, none⟩ (.slice A1 ba.length a1)).setCell ⟨w.heap.size + 1, 0, none⟩ (.int .i64 qb)).setCell ⟨w.heap.size + 1, 1, none⟩ (.slice B0 hb.length b0)).setCell ⟨w.heap.size + 1, 2, none⟩ (.slice B1 bb.length b1)) = w9 at z1 z2 z3 ⊢
      obtain ⟨u0, u1, u2, _⟩ := z2.three
      obtain ⟨v0, v1, v2, _⟩ := z3.three
      exact bodyPost_ret (v := .tuple #[.agg #[.int .i64 qa, .slice A0 ha.length a0, .slice A1 ba.length a1], .agg #[.int .i64 qb, .slice B0 hb.length b0, .slice B1 bb.length b1], .slice M n c]) (by simp [results, Tryd.results34, go_sem, h0, u0, u1, u2, v0, v1, v2]) rfl z1
    · have e0 : decide ((0 : Int) < (n : Int)) = true := by simp; omega
      go_wp2_with fail
      refine (pick 6 r _ _ RT (by omega) (by omega)).mono ?_
      rintro e w7 ⟨v, rfl, _, hr7, hc7⟩
      have C7 := CT.trans hc7
      have ML7 := MLT.ch hc7 (by omega)
      clear hc7 RT CT MLT
      cases ev : ((v : Int) == 0)
      · go_wp2_with fail
        have S9 := S3.out.ch (C7).drew (hr7).drew
        have HML9 := (ML7).ch ((Ch.refl w7).drew) (by omega)
        have C9 := (C7).drew
        have R9 := (hr7).drew
        refine wp_region_T (fun W => (W.cell? ⟨g, 0, none⟩ = some (.int .i64 qa) ∧ W.cell? ⟨g, 1, none⟩ = some (.slice A0 ha.length a0) ∧ W.cell? ⟨g, 2, none⟩ = some (.slice A1 ba.length a1)) ∧ (W.cell? ⟨g + 1, 0, none⟩ = some (.int .i64 qb) ∧ W.cell? ⟨g + 1, 1, none⟩ = some (.slice B0 hb.length b0) ∧ W.cell? ⟨g + 1, 2, none⟩ = some (.slice B1 bb.length b1))) 5 (by kernel_rfl) ?_
        generalize (w7).drew = w6 at S9 HML9 C9 R9 ⊢
        have keepQ : ∀ W, Blk W g 30 #[.int .i64 qa, .slice A0 ha.length a0, .slice A1 ba.length a1] → Blk W (g + 1) 30 #[.int .i64 qb, .slice B0 hb.length b0, .slice B1 bb.length b1] → _ := fun W x y => And.intro (And.intro (x.cell 0) (And.intro (x.cell 1) (x.cell 2))) (And.intro (y.cell 0) (And.intro (y.cell 1) (y.cell 2)))
        have k1 := S9.kA
        have k2 := S9.kB
        have HS : (w6.cell? ⟨g, 0, none⟩ = some (.int .i64 qa) ∧ w6.cell? ⟨g, 1, none⟩ = some (.slice A0 ha.length a0) ∧ w6.cell? ⟨g, 2, none⟩ = some (.slice A1 ba.length a1)) ∧ (w6.cell? ⟨g + 1, 0, none⟩ = some (.int .i64 qb) ∧ w6.cell? ⟨g + 1, 1, none⟩ = some (.slice B0 hb.length b0) ∧ w6.cell? ⟨g + 1, 2, none⟩ = some (.slice B1 bb.length b1)) := keepQ _ k1 k2
        obtain ⟨d0, d1, d2, f0, f1, f2⟩ := S9.z0.three
        obtain ⟨d0', d1', d2', f0', f1', f2'⟩ := S9.z1.three
        have o1 : ¬ (g = w.heap.size) := by omega
        have o2 : ¬ (g + 1 = w.heap.size) := by omega
        have o1' : ¬ (g = w.heap.size + 1) := by omega
        have o2' : ¬ (g + 1 = w.heap.size + 1) := by omega
        have o3 : ¬ (w.heap.size = w.heap.size + 1) := by omega
        have o4 : ¬ (w.heap.size + 1 = w.heap.size) := by omega
        have KE := three_end (c := c) S3.out C9 R9 HML9 ⟨by omega, by omega, by omega, by omega, by omega⟩
        rw [hn] at KE
        replace KE := hid KE
        clear S9 HML9 C9 R9 S3
        ((refine wpAnyT_take 0 (v := ?_) rfl (by kernel_rfl) (fun _ _ _ h => h) (Or.inl ⟨by rfl, ?_⟩) (by assumption) ?_; rotate_left; (focus (intro W hSw; (try dsimp only at hSw); go_simp; (try with_reducible rfl); done)); (try simp only [Act.put, List.setIfInBounds_toArray, List.set_cons_zero, List.set_cons_succ])); (refine wpAnyT_take 1 (v := ?_) rfl (by kernel_rfl) (fun _ _ _ h => h) (Or.inl ⟨by rfl, ?_⟩) (by assumption) ?_; rotate_left; (focus (intro W hSw; (try dsimp only at hSw); go_simp; (try with_reducible rfl); done)); (try simp only [Act.put, List.setIfInBounds_toArray, List.set_cons_zero, List.set_cons_succ])); (refine wpAnyT_take 2 (v := ?_) rfl (by kernel_rfl) (fun _ _ _ h => h) (Or.inl ⟨by rfl, ?_⟩) (by assumption) ?_; rotate_left; (focus (intro W hSw; (try dsimp only at hSw); go_simp; (try with_reducible rfl); done)); (try simp only [Act.put, List.setIfInBounds_toArray, List.set_cons_zero, List.set_cons_succ])))
        ((refine wpAnyT_one 3 rfl (by kernel_rfl) (fun K hK => ?_); go_simp))
        have HS := keepQ (((w6.setCell ⟨w.heap.size, 0, none⟩ (.int .i64 qa)).setCell ⟨w.heap.size, 1, none⟩ (.slice A0 ha.length a0)).setCell ⟨w.heap.size, 2, none⟩ (.slice A1 ba.length a1)) (((k1.far (by exact o1) _).far (by exact o1) _).far (by exact o1) _) (((k2.far (by exact o2) _).far (by exact o2) _).far (by exact o2) _)
        ((try dsimp only); refine hK.out _ _ (fun _ => HS) (fun _ => ?_); clear hK K; (try simp only [Act.put, List.setIfInBounds_toArray, List.set_cons_zero, List.set_cons_succ]))
        ((refine wpAnyT_one 4 rfl (by kernel_rfl) (fun K hK => ?_); go_simp))
        have HS := keepQ ((((((w6.setCell ⟨w.heap.size, 0, none⟩ (.int .i64 qa)).setCell ⟨w.heap.size, 1, none⟩ (.slice A0 ha.length a0)).setCell ⟨w.heap.size, 2, none⟩ (.slice A1 ba.length a1)).setCell ⟨w.heap.size + 1, 0, none⟩ (.int .i64 qb)).setCell ⟨w.heap.size + 1, 1, none⟩ (.slice B0 hb.length b0)).setCell ⟨w.heap.size + 1, 2, none⟩ (.slice B1 bb.length b1)) ((((((k1.far (by exact o1) _).far (by exact o1) _).far (by exact o1) _).far (by exact o1') _).far (by exact o1') _).far (by exact o1') _) ((((((k2.far (by exact o2) _).far (by exact o2) _).far (by exact o2) _).far (by exact o2') _).far (by exact o2') _).far (by exact o2') _)
        ((try dsimp only); refine hK.out _ _ (fun _ => HS) (fun _ => ?_); clear hK K; (try simp only [Act.put, List.setIfInBounds_toArray, List.set_cons_zero, List.set_cons_succ]))
        clear k1 k2 HS keepQ
        ((refine wpAnyT_one 5 rfl (by kernel_rfl) (fun K hK => ?_); go_simp))
        ((try dsimp only); refine hK.out _ _ (fun h => absurd rfl h) (fun _ => ?_); clear hK K; (try simp only [Act.put, List.setIfInBounds_toArray, List.set_cons_zero, List.set_cons_succ]); refine wpAnyT_done (by kernel_rfl) ?_ _)
        go_wp2
        obtain ⟨z1, z2, z3⟩ := KE.out
        generalize ((((((w6.setCell ⟨w.heap.size, 0, none⟩ (.int .i64 qa)).setCell ⟨w.heap.size, 1, none⟩ (.slice A0 ha.length a0)).setCell ⟨w.heap.size, 2, none⟩ (.slice A1 ba.length a1)).setCell ⟨w.heap.size + 1, 0, none⟩ (.int .i64 qb)).setCell ⟨w.heap.size + 1, 1, none⟩ (.slice B0 hb.length b0)).setCell ⟨w.heap.size + 1, 2, none⟩ (.slice B1 bb.length b1)) = w9 at z1 z2 z3 ⊢
        obtain ⟨u0, u1, u2, _⟩ := z2.three
        obtain ⟨v0, v1, v2, _⟩ := z3.three
        exact bodyPost_ret (v := .tuple #[.agg #[.int .i64 qa, .slice A0 ha.length a0, .slice A1 ba.length a1], .agg #[.int .i64 qb, .slice B0 hb.length b0, .slice B1 bb.length b1], .slice M n c]) (by simp [results, Tryd.results34, go_sem, u0, u1, u2, v0, v1, v2]) rfl z1
      · go_wp2_with fail
        refine (pick _ r _ _ hr7 (by omega) (by omega)).mono ?_
        rintro e w8 ⟨j, rfl, hj, hr8, hc8⟩
        have C8 := C7.trans hc8
        have ML8 := ML7.ch hc8 (by omega)
        have hjn : j < n := by omega
        have C8a : Ch (· = r) W3 (w8.alloc (.cells #[.int .i64 0, .int .i64 1, .int .i64 (-1), .int .i64 6] 3)) := C8.alloc _
        have ML8a : ML (w8.alloc (.cells #[.int .i64 0, .int .i64 1, .int .i64 (-1), .int .i64 6] 3)) W3.heap.size L M := ML8.ch ((Ch.refl w8).alloc _) (by omega)
        have hs8 := C8.size
        clear hr7 C7 ML7 hc8
        go_wp2_with fail
        refine (one _ _ [0, 1, -1, 6] r _ _ (hr8.alloc _) (by omega) (lit_ints (xs := [0, 1, -1, 6]) (by omega)) (by simp) (by simp)).mono ?_
        rintro e w9 ⟨z, hz, rfl, hr9, hc9⟩
        have C9 := C8a.trans hc9
        obtain ⟨mb, cs, hMb, hlo, hB, hI, hcs⟩ := (ML8a.ch hc9 (by omega)) (by intro e; rw [e] at hn; simp at hn; omega)
        subst hMb
        obtain ⟨u, hu⟩ := hB.cell_some (show j < cs.size by omega)
        have hfz := hB.frozen j
        have ML10 : ML (w9.setCell ⟨mb, j, none⟩ (.int .i64 z)) W3.heap.size (L.set j z) (some ⟨mb, 0, none⟩) := fun _ => ⟨mb, _, rfl, hlo, hB.set_ j _, hI.set hcs, by rw [List.length_set, Array.size_setIfInBounds]; exact hcs⟩
        have C10 : Ch (· = r) W3 (w9.setCell ⟨mb, j, none⟩ (.int .i64 z)) := C9.setNew hlo _
        have R10 : Rdr (w9.setCell ⟨mb, j, none⟩ (.int .i64 z)) r _ := hr9.set (by show r < mb; omega) _
        have hn10 : (L.set j z).length = n := by rw [List.length_set]; exact hn
        clear hr8 C8 ML8 C8a ML8a hc9 hB hI
        go_wp2_with fail
        generalize w9.setCell ⟨mb, j, none⟩ (.int .i64 z) = wt at C10 R10 ML10 ⊢
        have S9 := S3.out.ch (C10).drew (R10).drew
        have HML9 := (ML10).ch ((Ch.refl wt).drew) (by omega)
        have C9 := (C10).drew
        have R9 := (R10).drew
        refine wp_region_T (fun W => (W.cell? ⟨g, 0, none⟩ = some (.int .i64 qa) ∧ W.cell? ⟨g, 1, none⟩ = some (.slice A0 ha.length a0) ∧ W.cell? ⟨g, 2, none⟩ = some (.slice A1 ba.length a1)) ∧ (W.cell? ⟨g + 1, 0, none⟩ = some (.int .i64 qb) ∧ W.cell? ⟨g + 1, 1, none⟩ = some (.slice B0 hb.length b0) ∧ W.cell? ⟨g + 1, 2, none⟩ = some (.slice B1 bb.length b1))) 5 (by kernel_rfl) ?_
        generalize (wt).drew = w6 at S9 HML9 C9 R9 ⊢
        have keepQ : ∀ W, Blk W g 30 #[.int .i64 qa, .slice A0 ha.length a0, .slice A1 ba.length a1] → Blk W (g + 1) 30 #[.int .i64 qb, .slice B0 hb.length b0, .slice B1 bb.length b1] → _ := fun W x y => And.intro (And.intro (x.cell 0) (And.intro (x.cell 1) (x.cell 2))) (And.intro (y.cell 0) (And.intro (y.cell 1) (y.cell 2)))
        have k1 := S9.kA
        have k2 := S9.kB
        have HS : (w6.cell? ⟨g, 0, none⟩ = some (.int .i64 qa) ∧ w6.cell? ⟨g, 1, none⟩ = some (.slice A0 ha.length a0) ∧ w6.cell? ⟨g, 2, none⟩ = some (.slice A1 ba.length a1)) ∧ (w6.cell? ⟨g + 1, 0, none⟩ = some (.int .i64 qb) ∧ w6.cell? ⟨g + 1, 1, none⟩ = some (.slice B0 hb.length b0) ∧ w6.cell? ⟨g + 1, 2, none⟩ = some (.slice B1 bb.length b1)) := keepQ _ k1 k2
        obtain ⟨d0, d1, d2, f0, f1, f2⟩ := S9.z0.three
        obtain ⟨d0', d1', d2', f0', f1', f2'⟩ := S9.z1.three
        have o1 : ¬ (g = w.heap.size) := by omega
        have o2 : ¬ (g + 1 = w.heap.size) := by omega
        have o1' : ¬ (g = w.heap.size + 1) := by omega
        have o2' : ¬ (g + 1 = w.heap.size + 1) := by omega
        have o3 : ¬ (w.heap.size = w.heap.size + 1) := by omega
        have o4 : ¬ (w.heap.size + 1 = w.heap.size) := by omega
        have KE := three_end (c := c) S3.out C9 R9 HML9 ⟨by omega, by omega, by omega, by omega, by omega⟩
        rw [hn10] at KE
        replace KE := hid KE
        clear S9 HML9 C9 R9 S3
        ((refine wpAnyT_take 0 (v := ?_) rfl (by kernel_rfl) (fun _ _ _ h => h) (Or.inl ⟨by rfl, ?_⟩) (by assumption) ?_; rotate_left; (focus (intro W hSw; (try dsimp only at hSw); go_simp; (try with_reducible rfl); done)); (try simp only [Act.put, List.setIfInBounds_toArray, List.set_cons_zero, List.set_cons_succ])); (refine wpAnyT_take 1 (v := ?_) rfl (by kernel_rfl) (fun _ _ _ h => h) (Or.inl ⟨by rfl, ?_⟩) (by assumption) ?_; rotate_left; (focus (intro W hSw; (try dsimp only at hSw); go_simp; (try with_reducible rfl); done)); (try simp only [Act.put, List.setIfInBounds_toArray, List.set_cons_zero, List.set_cons_succ])); (refine wpAnyT_take 2 (v := ?_) rfl (by kernel_rfl) (fun _ _ _ h => h) (Or.inl ⟨by rfl, ?_⟩) (by assumption) ?_; rotate_left; (focus (intro W hSw; (try dsimp only at hSw); go_simp; (try with_reducible rfl); done)); (try simp only [Act.put, List.setIfInBounds_toArray, List.set_cons_zero, List.set_cons_succ])))
        ((refine wpAnyT_one 3 rfl (by kernel_rfl) (fun K hK => ?_); go_simp))
        have HS := keepQ (((w6.setCell ⟨w.heap.size, 0, none⟩ (.int .i64 qa)).setCell ⟨w.heap.size, 1, none⟩ (.slice A0 ha.length a0)).setCell ⟨w.heap.size, 2, none⟩ (.slice A1 ba.length a1)) (((k1.far (by exact o1) _).far (by exact o1) _).far (by exact o1) _) (((k2.far (by exact o2) _).far (by exact o2) _).far (by exact o2) _)
        ((try dsimp only); refine hK.out _ _ (fun _ => HS) (fun _ => ?_); clear hK K; (try simp only [Act.put, List.setIfInBounds_toArray, List.set_cons_zero, List.set_cons_succ]))
        ((refine wpAnyT_one 4 rfl (by kernel_rfl) (fun K hK => ?_); go_simp))
        have HS := keepQ ((((((w6.setCell ⟨w.heap.size, 0, none⟩ (.int .i64 qa)).setCell ⟨w.heap.size, 1, none⟩ (.slice A0 ha.length a0)).setCell ⟨w.heap.size, 2, none⟩ (.slice A1 ba.length a1)).setCell ⟨w.heap.size + 1, 0, none⟩ (.int .i64 qb)).setCell ⟨w.heap.size + 1, 1, none⟩ (.slice B0 hb.length b0)).setCell ⟨w.heap.size + 1, 2, none⟩ (.slice B1 bb.length b1)) ((((((k1.far (by exact o1) _).far (by exact o1) _).far (by exact o1) _).far (by exact o1') _).far (by exact o1') _).far (by exact o1') _) ((((((k2.far (by exact o2) _).far (by exact o2) _).far (by exact o2) _).far (by exact o2') _).far (by exact o2') _).far (by exact o2') _)
        ((try dsimp only); refine hK.out _ _ (fun _ => HS) (fun _ => ?_); clear hK K; (try simp only [Act.put, List.setIfInBounds_toArray, List.set_cons_zero, List.set_cons_succ]))
        clear k1 k2 HS keepQ
        ((refine wpAnyT_one 5 rfl (by kernel_rfl) (fun K hK => ?_); go_simp))
        ((try dsimp only); refine hK.out _ _ (fun h => absurd rfl h) (fun _ => ?_); clear hK K; (try simp only [Act.put, List.setIfInBounds_toArray, List.set_cons_zero, List.set_cons_succ]); refine wpAnyT_done (by kernel_rfl) ?_ _)
        go_wp2
        obtain ⟨z1, z2, z3⟩ := KE.out
        generalize ((((((w6.setCell ⟨w.heap.size, 0, none⟩ (.int .i64 qa)).setCell ⟨w.heap.size, 1, none⟩ (.slice A0 ha.length a0)).setCell ⟨w.heap.size, 2, none⟩ (.slice A1 ba.length a1)).setCell ⟨w.heap.size + 1, 0, none⟩ (.int .i64 qb)).setCell ⟨w.heap.size + 1, 1, none⟩ (.slice B0 hb.length b0)).setCell ⟨w.heap.size + 1, 2, none⟩ (.slice B1 bb.length b1)) = w9 at z1 z2 z3 ⊢
        obtain ⟨u0, u1, u2, _⟩ := z2.three
        obtain ⟨v0, v1, v2, _⟩ := z3.three
        exact bodyPost_ret (v := .tuple #[.agg #[.int .i64 qa, .slice A0 ha.length a0, .slice A1 ba.length a1], .agg #[.int .i64 qb, .slice B0 hb.length b0, .slice B1 bb.length b1], .slice (some ⟨mb, 0, none⟩) n c]) (by simp [results, Tryd.results34, go_sem, u0, u1, u2, v0, v1, v2]) rfl z1
theorem idM_take {q : Int} {k : Nat} (h : k < q.toNat) : ((idM q).take (k + 1)).map iv = ((idM q).take k).map iv ++ [.int .i64 k] := by
  rw [List.take_succ_eq_append_getElem (by rw [idM_len]; exact h), List.map_append]
  simp [idM, iv]
set_option maxRecDepth 100000 in
set_option maxHeartbeats 2000000 in
theorem walkFnCheckHomomorphism (A : Option Addr) (c : Nat) (xs : List Nat) (ei ea : Addr) (w : World) (hx : RdSl rdByte w.cell? 1 A xs) (_ : xs.length ≤ maxLen) (hc : xs.length ≤ c) (he0 : w.cell? ⟨0, 0, none⟩ = some (noHom ei)) (he1 : w.cell? ⟨1, 0, none⟩ = some (noHom ea)) :
    Calls Tryd.prog 10 #[.slice A xs.length c] w fun r w' => r = .returned (.bool true) ∧ Fr w w' := by
  have HX := hid hx
  clear hx
  by_cases hlen : (1048576 : Int) < xs.length
  · have e0 : decide ((1048576 : Int) < (xs.length : Int)) = true := by simp; omega
    go_enter Tryd.func10, Tryd.ntmps10
    go_wp2
    go_ret
    exact ⟨rfl, Fr.refl _⟩
  have e0 : decide ((1048576 : Int) < (xs.length : Int)) = false := by simp; omega
  have hl : xs.length ≤ 1048576 := by omega
  clear hlen
  go_enter Tryd.func10, Tryd.ntmps10
  go_wp2_with fail
  refine (drawCheckHomomorphism A c xs _ HX.out hl hc).mono ?_
  rintro r w1 ⟨qa, ha, ba, qb, hb, bb, A0, a0, A1, a1, B0, b0, B1, b1, m, M, cm, rfl, QA, QB, hM, ⟨l1, l2, l3, l4, l5⟩, F1⟩
  have BA1 := hid ((Blk.new w1 30 #[.int .i64 qa, .slice A0 ha.length a0, .slice A1 ba.length a1]).alloc (.cells #[.int .i64 qb, .slice B0 hb.length b0, .slice B1 bb.length b1] 30))
  have BB1 := hid (blk_new1 w1 (.cells #[.int .i64 qa, .slice A0 ha.length a0, .slice A1 ba.length a1] 30) 30 #[.int .i64 qb, .slice B0 hb.length b0, .slice B1 bb.length b1])
  have G1 : Fr w1 ((w1.alloc (.cells #[.int .i64 qa, .slice A0 ha.length a0, .slice A1 ba.length a1] 30)).alloc (.cells #[.int .i64 qb, .slice B0 hb.length b0, .slice B1 bb.length b1] 30)) := by (repeat (first | with_reducible exact Fr.refl _ | with_reducible assumption | with_reducible refine Fr.alloc ?_ _ | with_reducible refine Fr.drew ?_ | with_reducible refine Fr.drewN ?_ _ | (with_reducible refine Fr.setNew2 ?_ ?_ _; · (simp <;> omega)) | with_reducible refine Fr.trans ?_ (by assumption)))
  have HQA := hid QA
  have HQB := hid QB
  have HM := hid hM
  clear QA QB HX hM
  go_wp2_with fail
  refine absW fun W2 hW2 => ?_
  rw [← hW2] at BA1 BB1 G1
  obtain ⟨g3, eg3⟩ : ∃ g, w1.heap.size = g := ⟨_, rfl⟩
  rw [eg3] at BA1 BB1 ⊢
  clear hW2 eg3
  have QA2 := hid (HQA.out.fr G1)
  have QB2 := hid (HQB.out.fr G1)
  have M2 := hid (HM.out.fr rdInt_mono G1)
  have F2 := F1.trans G1
  clear HQA HQB G1 HM
  refine (implCheckHom qa qb A0 A1 B0 B1 M a0 a1 b0 b1 cm ha hb m ba bb _ QA2.out.r0 QA2.out.r1 QB2.out.r0 QB2.out.r1 M2.out (by omega) (by omega) (by omega) (by omega) (by omega)).mono ?_
  obtain ⟨ok, eok⟩ : ∃ b, chkHom qa ha ba qb hb bb m = b := ⟨_, rfl⟩
  have CK : ok = true → (fndO qa ha ba qb hb bb).isSome = true := fun h => fndO_chk (by rw [eok]; exact h)
  have EOK := hid eok
  have HCK := hid CK
  clear eok CK
  rw [EOK.out]
  rintro r w3 ⟨rfl, b3⟩
  have hne : (ok != ok) = false := by simp
  have heq : (ok == ok) = true := by simp
  obtain ⟨x0, x1, x2, _⟩ := (BA1.out.fr b3).three
  obtain ⟨y0, y1, y2, _⟩ := (BB1.out.fr b3).three
  go_wp2_with fail
  refine (specCheckHom qa qb A0 A1 B0 B1 M a0 a1 b0 b1 cm ha hb m ba bb _ (QA2.out.fr b3).r0 (QA2.out.fr b3).r1 (QB2.out.fr b3).r0 (QB2.out.fr b3).r1 (M2.out.fr rdInt_mono b3) (by omega) (by omega) (by omega) (by omega) (by omega)).mono ?_
  rw [EOK.out]
  rintro r w4 ⟨rfl, b4⟩
  have F4 := b3.trans b4
  clear x0 x1 x2 y0 y1 y2 b3 b4
  obtain ⟨x0, x1, x2, _⟩ := (BA1.out.fr F4).three
  go_wp2_with fail
  refine (implValidRule qa A0 a0 ha A1 a1 ba _ (QA2.out.fr F4).r0 (QA2.out.fr F4).r1 (by omega) (by omega)).mono ?_
  rintro r w5 ⟨rfl, b5⟩
  have F5 := F4.trans b5
  clear x0 x1 x2 b5 F4
  cases hv : vrule qa ha ba
  · obtain ⟨x0, x1, x2, _⟩ := (BA1.out.fr F5).three
    obtain ⟨y0, y1, y2, _⟩ := (BB1.out.fr F5).three
    go_wp2_with fail
    refine (specCheckHom qa qb A0 A1 B0 B1 M a0 a1 b0 b1 cm ha hb m ba bb _ (QA2.out.fr F5).r0 (QA2.out.fr F5).r1 (QB2.out.fr F5).r0 (QB2.out.fr F5).r1 (M2.out.fr rdInt_mono F5) (by omega) (by omega) (by omega) (by omega) (by omega)).mono ?_
    rw [EOK.out]
    rintro r w9 ⟨rfl, b9⟩
    go_wp2
    go_ret
    exact ⟨by simp, (F2.trans F5).trans b9⟩
  · have hv6 := vrule_parts hv
    have O6 := own_empty (w := w5) (base := w5.heap.size) (e := 3) (sz := 1) (Nat.le_refl _)
    have F6 : Fr w5 (w5.alloc (.cells #[] 3)) := (Fr.refl _).alloc _
    go_wp2
    generalize w5.alloc (.cells #[] 3) = W6 at O6 F6 ⊢
    go_loopw [7, 8] (fun s t wr => ∃ (k : Nat) (v : Value), k ≤ qa.toNat ∧ t = .int .i64 k ∧ v = s ∧ Hid (Fr w5 wr) ∧ Hid (wr.ownsRow w5.heap.size 3 1 v k (((idM qa).take k).map iv))) (fun _ t _ => qa.toNat - (intOf t).toNat)
    case atStart => exact ⟨0, _, by omega, rfl, rfl, hid F6, hid (by simpa using O6)⟩
    case round =>
      obtain ⟨k, v, hk, rfl, rfl, hf, hO⟩ := hrel
      have hsr := hf.out.size
      have x0 := (BA1.out.fr (F5.trans hf.out)).cell 0
      clear O6 F6
      by_cases hlt : (k : Int) < qa
      · have e1 : decide ((k : Int) < qa) = true := decide_eq_true hlt
        have T := hid (idM_take (q := qa) (k := k) (by omega))
        go_wp2_with (first | (at_builtin; refine wp_appS rfl _ _ 22 rfl w5.heap.size 3 (.int .i64 0) 1 8 Tryd.underlying22 (by kernel_rfl) rfl (by decide) (by decide) _ _ _ rfl (own_fr hO.out ((Fr.refl wr).alloc _)) (by omega) (by simp; omega) wr.heap.size 0 1 1 [.int .i64 k] rfl rfl (fun j u hu => by rw [Nat.zero_add, (Blk.new wr _ _).cell]; simpa using hu) (by omega) rfl ?_; intro v8 w8 hO8 hg8; have F8 : Fr w5 w8 := Fr.grown (hf.out.alloc _) hg8 (own_fr hO.out ((Fr.refl wr).alloc _))) | fail)
        rw [← T.out] at hO8
        have HO8 := hid hO8
        have HF8 := hid F8
        clear hO8 F8
        go_roundw
        case rel => exact ⟨k + 1, _, by omega, by go_num, rfl, HF8, HO8⟩
        case measure => simp [intOf]; omega
      · have e1 : decide ((k : Int) < qa) = false := decide_eq_false hlt
        obtain ⟨O, co, rfl⟩ := own_form hO.out
        have hkq : k = (idM qa).length := by rw [idM_len]; omega
        have RO := hid (own_int (xs := idM qa) (by
          have h := hO.out
          rw [List.take_of_length_le (by omega)] at h
          exact h) hkq)
        have F7 := F5.trans hf.out
        obtain ⟨_, x1, x2, _⟩ := (BA1.out.fr F7).three
        obtain ⟨y0, y1, y2, _⟩ := (BB1.out.fr F7).three
        obtain ⟨L, fo, eL, efo⟩ : ∃ L b, (fndO qa ha ba qb hb bb).getD [] = L ∧ (fndO qa ha ba qb hb bb).isSome = b := ⟨_, _, rfl, rfl⟩
        have EL := hid eL
        have EFO := hid efo
        clear eL efo
        go_wp2_with fail
        refine (implFH qa qb A0 A1 B0 B1 a0 a1 b0 b1 ha hb ba bb ei ea _ (QA2.out.fr F7).r0 (QA2.out.fr F7).r1 (QB2.out.fr F7).r0 (QB2.out.fr F7).r1 (by omega) (by omega) (by omega) (by omega) QA2.out.l1 QA2.out.m1 ((F2.trans F7).cell he0) ((F2.trans F7).cell he1)).mono ?_
        rw [EL.out, EFO.out]
        rintro r w8 ⟨⟨_, _, rfl, _⟩, b8⟩
        have F8 := F7.trans b8
        clear x0 x1 x2 y0 y1 y2
        obtain ⟨x0, x1, x2, _⟩ := (BA1.out.fr F8).three
        go_wp2_with fail
        refine (implCheckHom qa qa A0 A1 A0 A1 O a0 a1 a0 a1 co ha ha (idM qa) ba ba _ (QA2.out.fr F8).r0 (QA2.out.fr F8).r1 (QA2.out.fr F8).r0 (QA2.out.fr F8).r1 ((RO.out.mono rdInt_mono (fromB_le _ _)).fr rdInt_mono b8) (by omega) (by omega) (by omega) (by omega) (by omega)).mono ?_
        rw [chk_id hv]
        rintro r w9 ⟨rfl, b9⟩
        have hfin : ok = true → fo = true := fun h => EFO.out.symm.trans (HCK.out h)
        cases ok
        · go_wp2
          go_ret
          exact ⟨by simp, (F2.trans F8).trans b9⟩
        · have := hfin rfl
          subst this
          go_wp2
          go_ret
          exact ⟨by simp, (F2.trans F8).trans b9⟩
end Go.Proofs.YtahclhldpcboeaaDoor
