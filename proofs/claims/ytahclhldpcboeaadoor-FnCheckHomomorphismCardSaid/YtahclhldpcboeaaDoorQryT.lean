/- Walks of the generators of conjunctive queries: two queries. -/
import Derived.Test.YtahclhldpcboeaaDoorQryG
import Derived.Test.YtahclhldpcboeaaDoorRedS
namespace Go.Proofs.YtahclhldpcboeaaDoor
open Go Go.RowKit
/-- Two queries while they are drawn: their blocks, their rows; the results' blocks as they were made. -/
def T2 (w0 w : World) (r p g h : Nat) (qa : Int) (ha : List Int) (ba : List Atom) (qb : Int) (hb : List Int) (bb : List Atom) : Prop :=
  ∃ VA0 VA1 VB0 VB1, Blk w g 30 #[.int .i64 qa, VA0, VA1] ∧ Blk w h 30 #[.int .i64 qb, VB0, VB1] ∧ (w.ownsRow w0.heap.size 3 1 VA0 ha.length (ha.map iv) ∧ w.ownsRow w0.heap.size 64 3 VA1 ba.length (ba.flatMap cellsA)) ∧
    (w.ownsRow w0.heap.size 3 1 VB0 hb.length (hb.map iv) ∧ w.ownsRow w0.heap.size 64 3 VB1 bb.length (bb.flatMap cellsA)) ∧ Rdr w r p ∧ Ch (· = r) w0 w ∧ Blk w w0.heap.size 30 #[.int .i64 0, .slice none 0 0, .slice none 0 0] ∧ Blk w (w0.heap.size + 1) 30 #[.int .i64 0, .slice none 0 0, .slice none 0 0]
section
variable {w0 w w' : World} {r p p' g h : Nat} {qa qb : Int} {ha hb : List Int} {ba bb : List Atom}
theorem T2.ch (k : T2 w0 w r p g h qa ha ba qb hb bb) (hc : Ch (· = r) w w') (hr : Rdr w' r p') (hlt : r < w0.heap.size) (hg : w0.heap.size ≤ g) (hh : w0.heap.size ≤ h) : T2 w0 w' r p' g h qa ha ba qb hb bb := by
  obtain ⟨VA0, VA1, VB0, VB1, k1, k2, ⟨k3, k4⟩, ⟨k5, k6⟩, k7, k8, k9, k10⟩ := k
  exact ⟨VA0, VA1, VB0, VB1, k1.ch hc (by omega), k2.ch hc (by omega), ⟨gown_ch k3 hc hlt, gown_ch k4 hc hlt⟩, ⟨gown_ch k5 hc hlt, gown_ch k6 hc hlt⟩, hr, k8.trans hc, k9.ch hc (by omega), k10.ch hc (by omega)⟩
theorem T2.rdr (k : T2 w0 w r p g h qa ha ba qb hb bb) : Rdr w r p := by
  obtain ⟨_, _, _, _, _, _, _, _, k7, _⟩ := k
  exact k7
/-- A row of one's own that is cut is one. -/
theorem own_cut {base c n m : Nat} {A : Option Addr} {xs : List Atom} (hO : w.ownsRow base 64 3 (.slice A n c) n (xs.flatMap cellsA)) (hn : n = xs.length) (hm : m < n) : w.ownsRow base 64 3 (.slice A m c) m ((xs.take m).flatMap cellsA) := by
  have hl : (xs.take m).length = m := by simp; omega
  have hl3 := cellsA_len (xs.take m)
  rw [hl] at hl3
  rcases hO.2 with ⟨h1, h2⟩ | ⟨g', cap, cur, hv, hg, hh, hnc, hcm, hs, ht⟩
  · cases h1; omega
  · injection hv with hA _ hc
    subst hA hc
    refine ⟨hl3, .inr ⟨g', c, cur, rfl, hg, hh, by omega, hcm, hs, ?_⟩⟩
    have e1 : cur.toList.take (m * 3) = (cur.toList.take (n * 3)).take (m * 3) := by rw [List.take_take]; congr 1; omega
    rw [e1, ht]
    conv => lhs; rw [← List.take_append_drop m xs, List.flatMap_append]
    rw [List.take_append_of_le_length (by omega), List.take_of_length_le (by omega)]
end
/-- Two queries that have been drawn. -/
def TwoOut (w0 : World) (r p : Nat) (e : Ending) (w : World) : Prop := ∃ (qa : Int) (ha : List Int) (ba : List Atom) (qb : Int) (hb : List Int) (bb : List Atom) (A0 : Option Addr) (a0 : Nat) (A1 : Option Addr) (a1 : Nat) (B0 : Option Addr) (b0 : Nat) (B1 : Option Addr) (b1 : Nat),
  e = .returned (.tuple #[.agg #[.int .i64 qa, .slice A0 ha.length a0, .slice A1 ba.length a1], .agg #[.int .i64 qb, .slice B0 hb.length b0, .slice B1 bb.length b1]]) ∧
  (w.ownsRow w0.heap.size 3 1 (.slice A0 ha.length a0) ha.length (ha.map iv) ∧ w.ownsRow w0.heap.size 64 3 (.slice A1 ba.length a1) ba.length (ba.flatMap cellsA)) ∧
  (w.ownsRow w0.heap.size 3 1 (.slice B0 hb.length b0) hb.length (hb.map iv) ∧ w.ownsRow w0.heap.size 64 3 (.slice B1 bb.length b1) bb.length (bb.flatMap cellsA)) ∧
  (ha.length ≤ 3 ∧ ba.length ≤ 4 ∧ hb.length ≤ 3 ∧ bb.length ≤ 4 ∧ 0 ≤ qa ∧ (qa ≤ 4 ∨ qa = 7) ∧ 0 ≤ qb ∧ (qb ≤ 4 ∨ qb = 7)) ∧ Drawn 90 r p w0 w
/-- The end: two queries stored into the results' blocks. -/
theorem two_end {w0 w : World} {r p : Nat} {q1 q2 : Int} {h1 h2 : List Int} {b1 b2 : List Atom} {A0 A1 B0 B1 : Option Addr} {a0 a1 c0 c1 : Nat} (k3 : w.ownsRow w0.heap.size 3 1 (.slice A0 h1.length a0) h1.length (h1.map iv)) (k4 : w.ownsRow w0.heap.size 64 3 (.slice A1 b1.length a1) b1.length (b1.flatMap cellsA))
    (k5 : w.ownsRow w0.heap.size 3 1 (.slice B0 h2.length c0) h2.length (h2.map iv)) (k6 : w.ownsRow w0.heap.size 64 3 (.slice B1 b2.length c1) b2.length (b2.flatMap cellsA)) (k7 : Rdr w r p) (k8 : Ch (· = r) w0 w) (k9 : Blk w w0.heap.size 30 #[.int .i64 0, .slice none 0 0, .slice none 0 0]) (k10 : Blk w (w0.heap.size + 1) 30 #[.int .i64 0, .slice none 0 0, .slice none 0 0]) (hlt : r < w0.heap.size)
    (hb : h1.length ≤ 3 ∧ b1.length ≤ 4 ∧ h2.length ≤ 3 ∧ b2.length ≤ 4 ∧ 0 ≤ q1 ∧ (q1 ≤ 4 ∨ q1 = 7) ∧ 0 ≤ q2 ∧ (q2 ≤ 4 ∨ q2 = 7)) {p0 : Nat} (hp : p ≤ p0 + 90) :
    Blk ((((((w.setCell ⟨w0.heap.size, 0, none⟩ (.int .i64 q1)).setCell ⟨w0.heap.size, 1, none⟩ (.slice A0 h1.length a0)).setCell ⟨w0.heap.size, 2, none⟩ (.slice A1 b1.length a1)).setCell ⟨w0.heap.size + 1, 0, none⟩ (.int .i64 q2)).setCell ⟨w0.heap.size + 1, 1, none⟩ (.slice B0 h2.length c0)).setCell ⟨w0.heap.size + 1, 2, none⟩ (.slice B1 b2.length c1)) w0.heap.size 30 #[.int .i64 q1, .slice A0 h1.length a0, .slice A1 b1.length a1] ∧
    Blk ((((((w.setCell ⟨w0.heap.size, 0, none⟩ (.int .i64 q1)).setCell ⟨w0.heap.size, 1, none⟩ (.slice A0 h1.length a0)).setCell ⟨w0.heap.size, 2, none⟩ (.slice A1 b1.length a1)).setCell ⟨w0.heap.size + 1, 0, none⟩ (.int .i64 q2)).setCell ⟨w0.heap.size + 1, 1, none⟩ (.slice B0 h2.length c0)).setCell ⟨w0.heap.size + 1, 2, none⟩ (.slice B1 b2.length c1)) (w0.heap.size + 1) 30 #[.int .i64 q2, .slice B0 h2.length c0, .slice B1 b2.length c1] ∧
    TwoOut w0 r p0 (.returned (.tuple #[.agg #[.int .i64 q1, .slice A0 h1.length a0, .slice A1 b1.length a1], .agg #[.int .i64 q2, .slice B0 h2.length c0, .slice B1 b2.length c1]])) ((((((w.setCell ⟨w0.heap.size, 0, none⟩ (.int .i64 q1)).setCell ⟨w0.heap.size, 1, none⟩ (.slice A0 h1.length a0)).setCell ⟨w0.heap.size, 2, none⟩ (.slice A1 b1.length a1)).setCell ⟨w0.heap.size + 1, 0, none⟩ (.int .i64 q2)).setCell ⟨w0.heap.size + 1, 1, none⟩ (.slice B0 h2.length c0)).setCell ⟨w0.heap.size + 1, 2, none⟩ (.slice B1 b2.length c1)) := by
  have e3 := own_ne k3 k9 (by decide)
  have e4 := own_ne k4 k9 (by decide)
  have e5 := own_ne k5 k9 (by decide)
  have e6 := own_ne k6 k9 (by decide)
  have f3 := own_ne k3 k10 (by decide)
  have f4 := own_ne k4 k10 (by decide)
  have f5 := own_ne k5 k10 (by decide)
  have f6 := own_ne k6 k10 (by decide)
  have n1 : ∀ (o : Nat), w0.heap.size ≠ (⟨w0.heap.size + 1, o, none⟩ : Addr).block := fun o => by show w0.heap.size ≠ w0.heap.size + 1; omega
  have n2 : ∀ (o : Nat), w0.heap.size + 1 ≠ (⟨w0.heap.size, o, none⟩ : Addr).block := fun o => by show w0.heap.size + 1 ≠ w0.heap.size; omega
  have m1 : ∀ (o : Nat), r < (⟨w0.heap.size, o, none⟩ : Addr).block := fun o => by show r < w0.heap.size; omega
  have m2 : ∀ (o : Nat), r < (⟨w0.heap.size + 1, o, none⟩ : Addr).block := fun o => by show r < w0.heap.size + 1; omega
  refine ⟨((((((k9.set_ 0 _).set_ 1 _).set_ 2 _).far (n1 _) _).far (n1 _) _).far (n1 _) _), (((((k10.far (n2 _) _).far (n2 _) _).far (n2 _) _).set_ 0 _).set_ 1 _).set_ 2 _, q1, h1, b1, q2, h2, b2, A0, a0, A1, a1, B0, c0, B1, c1, rfl,
    ⟨own_set (own_set (own_set (own_set (own_set (own_set k3 e3) e3) e3) f3) f3) f3, own_set (own_set (own_set (own_set (own_set (own_set k4 e4) e4) e4) f4) f4) f4⟩,
    ⟨own_set (own_set (own_set (own_set (own_set (own_set k5 e5) e5) e5) f5) f5) f5, own_set (own_set (own_set (own_set (own_set (own_set k6 e6) e6) e6) f6) f6) f6⟩, hb, p, hp,
    (((((k7.set (m1 _) _).set (m1 _) _).set (m1 _) _).set (m2 _) _).set (m2 _) _).set (m2 _) _,
    (((((k8.setNew (Nat.le_refl _) _).setNew (Nat.le_refl _) _).setNew (Nat.le_refl _) _).setNew (Nat.le_succ _) _).setNew (Nat.le_succ _) _).setNew (Nat.le_succ _) _⟩
theorem own_nilcap {w : World} {base e sz n c : Nat} {A : Option Addr} {xs : List Value} (h : w.ownsRow base e sz (.slice A n c) n xs) : A = none → c = 0 := fun hA => by
  subst hA
  rcases h.2 with ⟨h1, _⟩ | ⟨g, cap, cur, hv, _⟩
  · cases h1; rfl
  · cases hv
/-- The second query is another one. -/
theorem T2.setB {w0 w : World} {r p g h : Nat} {qa qb q : Int} {ha hb hd : List Int} {ba bb bd : List Atom} {C0 C1 : Option Addr} {c0 c1 : Nat} (k : T2 w0 w r p g h qa ha ba qb hb bb) (hR : w.ownsRow w0.heap.size 3 1 (.slice C0 hd.length c0) hd.length (hd.map iv)) (hE : w.ownsRow w0.heap.size 64 3 (.slice C1 bd.length c1) bd.length (bd.flatMap cellsA)) (hlt : r < w0.heap.size) (hgh : g < h) (hg : w0.heap.size + 1 < g) :
    T2 w0 (((w.setCell ⟨h, 0, none⟩ (.int .i64 q)).setCell ⟨h, 1, none⟩ (.slice C0 hd.length c0)).setCell ⟨h, 2, none⟩ (.slice C1 bd.length c1)) r p g h qa ha ba q hd bd := by
  obtain ⟨VA0, VA1, VB0, VB1, k1, k2, ⟨k3, k4⟩, _, k7, k8, k9, k10⟩ := k
  have e3 := own_ne k3 k2 (by decide)
  have e4 := own_ne k4 k2 (by decide)
  have e5 := own_ne hR k2 (by decide)
  have e6 := own_ne hE k2 (by decide)
  have n1 : ∀ (o : Nat), g ≠ (⟨h, o, none⟩ : Addr).block := fun o => by show g ≠ h; omega
  have n2 : ∀ (o : Nat), w0.heap.size ≠ (⟨h, o, none⟩ : Addr).block := fun o => by show w0.heap.size ≠ h; omega
  have n3 : ∀ (o : Nat), w0.heap.size + 1 ≠ (⟨h, o, none⟩ : Addr).block := fun o => by show w0.heap.size + 1 ≠ h; omega
  have m1 : ∀ (o : Nat), r < (⟨h, o, none⟩ : Addr).block := fun o => by show r < h; omega
  have m2 : ∀ (o : Nat), w0.heap.size ≤ (⟨h, o, none⟩ : Addr).block := fun o => by show w0.heap.size ≤ h; omega
  exact ⟨VA0, VA1, _, _, ((k1.far (n1 _) _).far (n1 _) _).far (n1 _) _, ((k2.set_ 0 _).set_ 1 _).set_ 2 _, ⟨own_set (own_set (own_set k3 e3) e3) e3, own_set (own_set (own_set k4 e4) e4) e4⟩, ⟨own_set (own_set (own_set hR e5) e5) e5, own_set (own_set (own_set hE e6) e6) e6⟩,
    ((k7.set (m1 _) _).set (m1 _) _).set (m1 _) _, ((k8.setNew (m2 _) _).setNew (m2 _) _).setNew (m2 _) _, ((k9.far (n2 _) _).far (n2 _) _).far (n2 _) _, ((k10.far (n3 _) _).far (n3 _) _).far (n3 _) _⟩
/-- Its body is cut. -/
theorem T2.cut {w0 w : World} {r p g h m : Nat} {qa qb : Int} {ha hb : List Int} {ba bb : List Atom} {C1 : Option Addr} {c1 : Nat} (k : T2 w0 w r p g h qa ha ba qb hb bb) (hc : w.cell? ⟨h, 2, none⟩ = some (.slice C1 bb.length c1)) (hm : m < bb.length) (hlt : r < w0.heap.size) (hgh : g < h) (hg : w0.heap.size + 1 < g) :
    T2 w0 (w.setCell ⟨h, 2, none⟩ (.slice C1 m c1)) r p g h qa ha ba qb hb (bb.take m) := by
  obtain ⟨VA0, VA1, VB0, VB1, k1, k2, ⟨k3, k4⟩, ⟨k5, k6⟩, k7, k8, k9, k10⟩ := k
  have e0 : VB1 = .slice C1 bb.length c1 := by
    have h2 : w.cell? ⟨h, 2, none⟩ = some VB1 := k2.cell 2
    rw [h2] at hc
    exact Option.some.inj hc
  subst e0
  have e3 := own_ne k3 k2 (by decide)
  have e4 := own_ne k4 k2 (by decide)
  have e5 := own_ne k5 k2 (by decide)
  have k6' := own_cut k6 rfl hm
  have e6 := own_ne k6' k2 (by decide)
  have hl : (bb.take m).length = m := by simp; omega
  exact ⟨VA0, VA1, _, _, k1.far (by show g ≠ h; omega) _, k2.set_ 2 _, ⟨own_set k3 e3, own_set k4 e4⟩, ⟨own_set k5 e5, by rw [hl]; exact own_set k6' e6⟩, k7.set (by show r < h; omega) _, k8.setNew (by show w0.heap.size ≤ h; omega) _, k9.far (by show w0.heap.size ≠ h; omega) _, k10.far (by show w0.heap.size + 1 ≠ h; omega) _⟩
set_option maxRecDepth 100000 in
set_option maxHeartbeats 4000000 in
theorem twoRules (r p : Nat) (w : World) (hr : Rdr w r p) (hp : p ≤ 800000) :
    Calls Tryd.prog 53 #[.pointer (some ⟨r, 0, none⟩)] w (TwoOut w r p) := by
  have hlt := hr.lt
  have BQ := (Blk.new w 30 #[.int .i64 0, .slice none 0 0, .slice none 0 0]).alloc (.cells #[.int .i64 0, .slice none 0 0, .slice none 0 0] 30)
  have BR := blk_new1 w (.cells #[.int .i64 0, .slice none 0 0, .slice none 0 0] 30) 30 #[.int .i64 0, .slice none 0 0, .slice none 0 0]
  have F0 : Fr w ((w.alloc (.cells #[.int .i64 0, .slice none 0 0, .slice none 0 0] 30)).alloc (.cells #[.int .i64 0, .slice none 0 0, .slice none 0 0] 30)) := by (repeat (first | with_reducible exact Fr.refl _ | with_reducible assumption | with_reducible refine Fr.alloc ?_ _ | with_reducible refine Fr.drew ?_ | with_reducible refine Fr.drewN ?_ _ | (with_reducible refine Fr.setNew2 ?_ ?_ _; · (simp <;> omega)) | with_reducible refine Fr.trans ?_ (by assumption)))
  go_enter Tryd.func53, Tryd.ntmps53
  go_wp2_with fail
  refine absW fun W0 hW0 => ?_
  rw [← hW0] at BQ BR F0
  clear hW0
  have hs0 := BR.lt
  refine (anyRule r p _ (hr.fr F0) (by omega)).mono ?_
  rintro e w1 ⟨qa, ha, ba, ⟨A0, a0, A1, a1, rfl, hR, hE⟩, hqa0, hqa4, hla, hlba, p1, hp1, hr1, hc1⟩
  have BQ1 := hid ((BQ.ch hc1 (by omega)).alloc (.cells #[.int .i64 qa, .slice A0 ha.length a0, .slice A1 ba.length a1] 30))
  have BR1 := hid ((BR.ch hc1 (by omega)).alloc (.cells #[.int .i64 qa, .slice A0 ha.length a0, .slice A1 ba.length a1] 30))
  have BA1 := hid (Blk.new w1 30 #[.int .i64 qa, .slice A0 ha.length a0, .slice A1 ba.length a1])
  have hs1 := hc1.size
  have RA1 := hid (own_base (own_fr hR ((Fr.refl _).alloc (.cells #[.int .i64 qa, .slice A0 ha.length a0, .slice A1 ba.length a1] 30))) (show w.heap.size ≤ W0.heap.size by omega))
  have EA1 := hid (own_base (own_fr hE ((Fr.refl _).alloc (.cells #[.int .i64 qa, .slice A0 ha.length a0, .slice A1 ba.length a1] 30))) (show w.heap.size ≤ W0.heap.size by omega))
  have C1 : Ch (· = r) w (w1.alloc (.cells #[.int .i64 qa, .slice A0 ha.length a0, .slice A1 ba.length a1] 30)) := (F0.ch.trans hc1).alloc _
  have hr1' := hr1.alloc (.cells #[.int .i64 qa, .slice A0 ha.length a0, .slice A1 ba.length a1] 30)
  obtain ⟨g4, eg4⟩ : ∃ g, w1.heap.size = g := ⟨_, rfl⟩
  clear hR hE hc1 hr1 BQ BR
  go_wp2_with fail
  refine absW fun W1 hW1 => ?_
  rw [← hW1] at BQ1 BR1 BA1 RA1 EA1 C1 hr1'
  rw [eg4] at BA1 hs1
  have hg4 := BA1.out.lt
  clear hW1
  refine (anyRule r p1 _ hr1' (by omega)).mono ?_
  rintro e w2 ⟨qb, hb, bb, ⟨B0, b0, B1, b1, rfl, hR, hE⟩, hqb0, hqb4, hlb, hlbb, p2, hp2, hr2, hc2⟩
  have S2 := hid (show T2 w (w2.alloc (.cells #[.int .i64 qb, .slice B0 hb.length b0, .slice B1 bb.length b1] 30)) r p2 g4 w2.heap.size qa ha ba qb hb bb from
    ⟨_, _, _, _, (BA1.out.ch hc2 (by omega)).alloc _, Blk.new _ _ _, ⟨own_fr (gown_ch RA1.out hc2 hlt) ((Fr.refl _).alloc _), own_fr (gown_ch EA1.out hc2 hlt) ((Fr.refl _).alloc _)⟩, ⟨own_base (own_fr hR ((Fr.refl _).alloc _)) C1.size, own_base (own_fr hE ((Fr.refl _).alloc _)) C1.size⟩, hr2.alloc _, (C1.trans hc2).alloc _, (BQ1.out.ch hc2 (by omega)).alloc _, (BR1.out.ch hc2 (by omega)).alloc _⟩)
  have hs2 := hc2.size
  obtain ⟨g5, eg5⟩ : ∃ g, w2.heap.size = g := ⟨_, rfl⟩
  rw [eg5] at hs2
  clear hR hE hc2 hr2 hr1' BQ1 BR1 BA1 RA1 EA1 C1 eg4
  go_wp2_with fail
  refine absW fun W2 hW2 => ?_
  rw [← hW2, eg5] at S2
  clear hW2 eg5
  refine (pick _ r _ _ S2.out.rdr (by omega) (by omega)).mono ?_
  rintro e w3 ⟨v, rfl, _, hr3, hc3⟩
  have S3 := hid (S2.out.ch hc3 hr3 hlt (by omega) (by omega))
  clear S2 hr3 hc3
  by_cases hgo : v = 0 ∧ 1 < ba.length
  · obtain ⟨rfl, hba1⟩ := hgo
    obtain ⟨m, hm⟩ : ∃ m, ba.length = m + 1 := ⟨ba.length - 1, by omega⟩
    have hba : decide (1 < ba.length) = true := decide_eq_true (by omega)
    have hba' : decide ((1 : Int) < (ba.length : Int)) = true := decide_eq_true (by omega)
    obtain ⟨VA0, VA1, VB0, VB1, k1, k2, ⟨k3, k4⟩, ⟨k5, k6⟩, k7, k8, k9, k10⟩ := S3.out
    obtain ⟨E0, e0, rfl⟩ := own_form k3
    obtain ⟨E1, e1, rfl⟩ := own_form k4
    obtain ⟨x0, x1, x2, _⟩ := k1.three
    obtain ⟨y0, y1, y2, yf0, yf1, yf2⟩ := k2.three
    have hws := k8.size
    have CR := hid (copyRuleW qa E0 E1 e0 e1 ha ba w3 ((own_int k3 rfl).mono rdInt_mono (fromB_le _ _)) ((own_A k4 rfl).mono rdAtom_mono (fromB_le _ _)) (by omega) (by omega) (own_nilcap k3) (own_nilcap k4))
    clear k3 k4 k5 k6 k7 k8 k9 k10 k1
    have HM := hid hm
    clear hm
    go_wp2_with fail
    refine CR.out.mono ?_
    rintro e w4 ⟨⟨C0, c0, C1, c1, rfl, hR, hE⟩, hF⟩
    obtain ⟨ab, hab⟩ : ∃ ab : Nat, C1 = some ⟨ab, 0, none⟩ := by
      rcases hE.2 with ⟨_, h⟩ | ⟨g, cap, cur, hv, _⟩
      · omega
      · injection hv with hA _ _; exact ⟨g, hA⟩
    subst hab
    have hcap := (own_capM hE).1
    have S4 := S3.out.ch hF.ch (S3.out.rdr.fr hF) hlt (by omega) (by omega)
    have SB := hid (S4.setB (q := qa) (own_base hR hws) (own_base hE hws) hlt (by omega) (by omega))
    obtain ⟨z0, z1, z2, zf0, zf1, zf2⟩ := (k2.fr hF).three
    have hg5w := (k2.fr hF).lt
    have K2 := k2.fr hF
    clear hR hE S4 k2 CR S3 y0 y1 y2 yf0 yf1 yf2 x0 x1 x2 hF
    go_wp2_with fail
    have hc7 : (((w4.setCell ⟨g5, 0, none⟩ (.int .i64 qa)).setCell ⟨g5, 1, none⟩ (.slice C0 ha.length c0)).setCell ⟨g5, 2, none⟩ (.slice (some ⟨ab, 0, none⟩) ba.length c1)).cell? ⟨g5, 2, none⟩ = some (.slice (some ⟨ab, 0, none⟩) ba.length c1) := (((K2.set_ 0 _).set_ 1 _).set_ 2 _).cell 2
    clear K2
    generalize ((w4.setCell ⟨g5, 0, none⟩ (.int .i64 qa)).setCell ⟨g5, 1, none⟩ (.slice C0 ha.length c0)).setCell ⟨g5, 2, none⟩ (.slice (some ⟨ab, 0, none⟩) ba.length c1) = w7 at SB hc7 ⊢
    have hcut : w7.cell? ⟨g5, 2, none⟩ = some (.slice (some ⟨ab, 0, none⟩) ba.length c1) := hc7
    have S7 := SB.out.cut (m := ba.length - 1) hcut (by omega) hlt (by omega) (by omega)
    obtain ⟨bb', hbb'⟩ : ∃ bb', ba.take (ba.length - 1) = bb' := ⟨_, rfl⟩
    rw [hbb'] at S7
    have hl' : bb'.length ≤ 4 := by rw [← hbb']; simp; omega
    have S8 := hid S7
    clear S7 hcut SB hbb' hc7
    generalize w7.setCell ⟨g5, 2, none⟩ (.slice (some ⟨ab, 0, none⟩) (ba.length - 1) c1) = w8 at S8 ⊢
    refine (pick _ r _ _ S8.out.rdr (by omega) (by omega)).mono ?_
    rintro e w5 ⟨u, rfl, _, hr5, hc5⟩
    have S5 := hid (S8.out.ch hc5 hr5 hlt (by omega) (by omega))
    clear hr5 hc5 S8
    cases e9 : ((u : Int) == 0)
    · go_wp2_with fail
      have S6 := hid (S5.out.ch (Ch.refl w5).drew S5.out.rdr.drew hlt (by omega) (by omega))
      obtain ⟨VA0, VA1, VB0, VB1, k1, k2, ⟨k3, k4⟩, ⟨k5, k6⟩, k7, k8, k9, k10⟩ := S6.out
      obtain ⟨E0, e0, rfl⟩ := own_form k3
      obtain ⟨E1, e1, rfl⟩ := own_form k4
      obtain ⟨G0, c0, rfl⟩ := own_form k5
      obtain ⟨G1, c1, rfl⟩ := own_form k6
      refine wp_region_T (fun W => (W.cell? ⟨g4, 0, none⟩ = some (.int .i64 qa) ∧ W.cell? ⟨g4, 1, none⟩ = some (.slice E0 ha.length e0) ∧ W.cell? ⟨g4, 2, none⟩ = some (.slice E1 ba.length e1)) ∧ (W.cell? ⟨g5, 0, none⟩ = some (.int .i64 qa) ∧ W.cell? ⟨g5, 1, none⟩ = some (.slice G0 ha.length c0) ∧ W.cell? ⟨g5, 2, none⟩ = some (.slice G1 bb'.length c1))) 3 (by kernel_rfl) ?_
      clear S6
      generalize w5.drew = w6 at k1 k2 k3 k4 k5 k6 k7 k8 k9 k10 ⊢
      have keepQ : ∀ W, Blk W g4 30 #[.int .i64 qa, .slice E0 ha.length e0, .slice E1 ba.length e1] → Blk W g5 30 #[.int .i64 qa, .slice G0 ha.length c0, .slice G1 bb'.length c1] → _ := fun W x y => And.intro (And.intro (x.cell 0) (And.intro (x.cell 1) (x.cell 2))) (And.intro (y.cell 0) (And.intro (y.cell 1) (y.cell 2)))
      have HS : (w6.cell? ⟨g4, 0, none⟩ = some (.int .i64 qa) ∧ w6.cell? ⟨g4, 1, none⟩ = some (.slice E0 ha.length e0) ∧ w6.cell? ⟨g4, 2, none⟩ = some (.slice E1 ba.length e1)) ∧ (w6.cell? ⟨g5, 0, none⟩ = some (.int .i64 qa) ∧ w6.cell? ⟨g5, 1, none⟩ = some (.slice G0 ha.length c0) ∧ w6.cell? ⟨g5, 2, none⟩ = some (.slice G1 bb'.length c1)) := keepQ _ k1 k2
      obtain ⟨d0, d1, d2, f0, f1, f2⟩ := k9.three
      obtain ⟨d0', d1', d2', f0', f1', f2'⟩ := k10.three
      have o1 : ¬ (g4 = w.heap.size) := by omega
      have o2 : ¬ (g5 = w.heap.size) := by omega
      have o3 : ¬ (w.heap.size = w.heap.size + 1) := by omega
      have o4 : ¬ (w.heap.size + 1 = w.heap.size) := by omega
      have KE := hid (two_end (p0 := p) (q1 := qa) (q2 := qa) k3 k4 k5 k6 k7 k8 k9 k10 hlt (by omega) (by omega))
      ((refine wpAnyT_take 0 (v := ?_) rfl (by kernel_rfl) (fun _ _ _ h => h) (Or.inl ⟨by rfl, ?_⟩) (by assumption) ?_; rotate_left; (focus (intro W hSw; (try dsimp only at hSw); go_simp; (try with_reducible rfl); done)); (try simp only [Act.put, List.setIfInBounds_toArray, List.set_cons_zero, List.set_cons_succ])); (refine wpAnyT_take 1 (v := ?_) rfl (by kernel_rfl) (fun _ _ _ h => h) (Or.inl ⟨by rfl, ?_⟩) (by assumption) ?_; rotate_left; (focus (intro W hSw; (try dsimp only at hSw); go_simp; (try with_reducible rfl); done)); (try simp only [Act.put, List.setIfInBounds_toArray, List.set_cons_zero, List.set_cons_succ])))
      ((refine wpAnyT_one 2 rfl (by kernel_rfl) (fun K hK => ?_); go_simp))
      have HS := keepQ (((w6.setCell ⟨w.heap.size, 0, none⟩ (.int .i64 qa)).setCell ⟨w.heap.size, 1, none⟩ (.slice E0 ha.length e0)).setCell ⟨w.heap.size, 2, none⟩ (.slice E1 ba.length e1)) (((k1.far (by exact o1) _).far (by exact o1) _).far (by exact o1) _) (((k2.far (by exact o2) _).far (by exact o2) _).far (by exact o2) _)
      ((try dsimp only); refine hK.out _ _ (fun _ => HS) (fun _ => ?_); clear hK K; (try simp only [Act.put, List.setIfInBounds_toArray, List.set_cons_zero, List.set_cons_succ]))
      clear k1 k2 k3 k4 k5 k6 k7 k8 k9 k10 S5 HS keepQ
      ((refine wpAnyT_one 3 rfl (by kernel_rfl) (fun K hK => ?_); go_simp))
      ((try dsimp only); refine hK.out _ _ (fun h => absurd rfl h) (fun _ => ?_); clear hK K; (try simp only [Act.put, List.setIfInBounds_toArray, List.set_cons_zero, List.set_cons_succ]); refine wpAnyT_done (by kernel_rfl) ?_ _)
      go_wp2
      obtain ⟨z1, z2, z3⟩ := KE.out
      generalize ((((((w6.setCell ⟨w.heap.size, 0, none⟩ (.int .i64 qa)).setCell ⟨w.heap.size, 1, none⟩ (.slice E0 ha.length e0)).setCell ⟨w.heap.size, 2, none⟩ (.slice E1 ba.length e1)).setCell ⟨w.heap.size + 1, 0, none⟩ (.int .i64 qa)).setCell ⟨w.heap.size + 1, 1, none⟩ (.slice G0 ha.length c0)).setCell ⟨w.heap.size + 1, 2, none⟩ (.slice G1 bb'.length c1)) = w9 at z1 z2 z3 ⊢
      obtain ⟨u0, u1, u2, _⟩ := z1.three
      obtain ⟨v0, v1, v2, _⟩ := z2.three
      exact bodyPost_ret (v := .tuple #[.agg #[.int .i64 qa, .slice E0 ha.length e0, .slice E1 ba.length e1], .agg #[.int .i64 qa, .slice G0 ha.length c0, .slice G1 bb'.length c1]]) (by simp [results, Tryd.results53, go_sem, u0, u1, u2, v0, v1, v2]) rfl z3
    · go_wp2_with fail
      have S6 := hid (S5.out.ch (Ch.refl w5).drew S5.out.rdr.drew hlt (by omega) (by omega))
      obtain ⟨VA0, VA1, VB0, VB1, k1, k2, ⟨k3, k4⟩, ⟨k5, k6⟩, k7, k8, k9, k10⟩ := S6.out
      obtain ⟨E0, e0, rfl⟩ := own_form k3
      obtain ⟨E1, e1, rfl⟩ := own_form k4
      obtain ⟨G0, c0, rfl⟩ := own_form k5
      obtain ⟨G1, c1, rfl⟩ := own_form k6
      refine wp_region_T (fun W => (W.cell? ⟨g4, 0, none⟩ = some (.int .i64 qa) ∧ W.cell? ⟨g4, 1, none⟩ = some (.slice E0 ha.length e0) ∧ W.cell? ⟨g4, 2, none⟩ = some (.slice E1 ba.length e1)) ∧ (W.cell? ⟨g5, 0, none⟩ = some (.int .i64 qa) ∧ W.cell? ⟨g5, 1, none⟩ = some (.slice G0 ha.length c0) ∧ W.cell? ⟨g5, 2, none⟩ = some (.slice G1 bb'.length c1))) 3 (by kernel_rfl) ?_
      clear S6
      generalize w5.drew = w6 at k1 k2 k3 k4 k5 k6 k7 k8 k9 k10 ⊢
      have keepQ : ∀ W, Blk W g4 30 #[.int .i64 qa, .slice E0 ha.length e0, .slice E1 ba.length e1] → Blk W g5 30 #[.int .i64 qa, .slice G0 ha.length c0, .slice G1 bb'.length c1] → _ := fun W x y => And.intro (And.intro (x.cell 0) (And.intro (x.cell 1) (x.cell 2))) (And.intro (y.cell 0) (And.intro (y.cell 1) (y.cell 2)))
      have HS : (w6.cell? ⟨g4, 0, none⟩ = some (.int .i64 qa) ∧ w6.cell? ⟨g4, 1, none⟩ = some (.slice E0 ha.length e0) ∧ w6.cell? ⟨g4, 2, none⟩ = some (.slice E1 ba.length e1)) ∧ (w6.cell? ⟨g5, 0, none⟩ = some (.int .i64 qa) ∧ w6.cell? ⟨g5, 1, none⟩ = some (.slice G0 ha.length c0) ∧ w6.cell? ⟨g5, 2, none⟩ = some (.slice G1 bb'.length c1)) := keepQ _ k1 k2
      obtain ⟨d0, d1, d2, f0, f1, f2⟩ := k9.three
      obtain ⟨d0', d1', d2', f0', f1', f2'⟩ := k10.three
      have o1 : ¬ (g4 = w.heap.size) := by omega
      have o2 : ¬ (g5 = w.heap.size) := by omega
      have o3 : ¬ (w.heap.size = w.heap.size + 1) := by omega
      have o4 : ¬ (w.heap.size + 1 = w.heap.size) := by omega
      have KE := hid (two_end (p0 := p) (q1 := qa) (q2 := qa) k5 k6 k3 k4 k7 k8 k9 k10 hlt (by omega) (by omega))
      ((refine wpAnyT_take 0 (v := ?_) rfl (by kernel_rfl) (fun _ _ _ h => h) (Or.inl ⟨by rfl, ?_⟩) (by assumption) ?_; rotate_left; (focus (intro W hSw; (try dsimp only at hSw); go_simp; (try with_reducible rfl); done)); (try simp only [Act.put, List.setIfInBounds_toArray, List.set_cons_zero, List.set_cons_succ])); (refine wpAnyT_take 1 (v := ?_) rfl (by kernel_rfl) (fun _ _ _ h => h) (Or.inl ⟨by rfl, ?_⟩) (by assumption) ?_; rotate_left; (focus (intro W hSw; (try dsimp only at hSw); go_simp; (try with_reducible rfl); done)); (try simp only [Act.put, List.setIfInBounds_toArray, List.set_cons_zero, List.set_cons_succ])))
      ((refine wpAnyT_one 2 rfl (by kernel_rfl) (fun K hK => ?_); go_simp))
      have HS := keepQ (((w6.setCell ⟨w.heap.size, 0, none⟩ (.int .i64 qa)).setCell ⟨w.heap.size, 1, none⟩ (.slice G0 ha.length c0)).setCell ⟨w.heap.size, 2, none⟩ (.slice G1 bb'.length c1)) (((k1.far (by exact o1) _).far (by exact o1) _).far (by exact o1) _) (((k2.far (by exact o2) _).far (by exact o2) _).far (by exact o2) _)
      ((try dsimp only); refine hK.out _ _ (fun _ => HS) (fun _ => ?_); clear hK K; (try simp only [Act.put, List.setIfInBounds_toArray, List.set_cons_zero, List.set_cons_succ]))
      clear k1 k2 k3 k4 k5 k6 k7 k8 k9 k10 S5 HS keepQ
      ((refine wpAnyT_one 3 rfl (by kernel_rfl) (fun K hK => ?_); go_simp))
      ((try dsimp only); refine hK.out _ _ (fun h => absurd rfl h) (fun _ => ?_); clear hK K; (try simp only [Act.put, List.setIfInBounds_toArray, List.set_cons_zero, List.set_cons_succ]); refine wpAnyT_done (by kernel_rfl) ?_ _)
      go_wp2
      obtain ⟨z1, z2, z3⟩ := KE.out
      generalize ((((((w6.setCell ⟨w.heap.size, 0, none⟩ (.int .i64 qa)).setCell ⟨w.heap.size, 1, none⟩ (.slice G0 ha.length c0)).setCell ⟨w.heap.size, 2, none⟩ (.slice G1 bb'.length c1)).setCell ⟨w.heap.size + 1, 0, none⟩ (.int .i64 qa)).setCell ⟨w.heap.size + 1, 1, none⟩ (.slice E0 ha.length e0)).setCell ⟨w.heap.size + 1, 2, none⟩ (.slice E1 ba.length e1)) = w9 at z1 z2 z3 ⊢
      obtain ⟨u0, u1, u2, _⟩ := z1.three
      obtain ⟨v0, v1, v2, _⟩ := z2.three
      exact bodyPost_ret (v := .tuple #[.agg #[.int .i64 qa, .slice G0 ha.length c0, .slice G1 bb'.length c1], .agg #[.int .i64 qa, .slice E0 ha.length e0, .slice E1 ba.length e1]]) (by simp [results, Tryd.results53, go_sem, u0, u1, u2, v0, v1, v2]) rfl z3
  · by_cases hv0 : v = 0
    · subst hv0
      have hba : decide (1 < ba.length) = false := decide_eq_false (by omega)
      have hba' : decide ((1 : Int) < (ba.length : Int)) = false := decide_eq_false (by omega)
      obtain ⟨E, f, hE2⟩ : ∃ E f, w3.cell? ⟨g4, 2, none⟩ = some (.slice E ba.length f) := by
        obtain ⟨VA0, VA1, VB0, VB1, k1, _, ⟨_, k4⟩, _⟩ := S3.out
        obtain ⟨E1, e1, rfl⟩ := own_form k4
        exact ⟨E1, e1, k1.cell 2⟩
      go_wp2_with fail
      refine (pick _ r _ _ S3.out.rdr (by omega) (by omega)).mono ?_
      rintro e w5 ⟨u, rfl, _, hr5, hc5⟩
      have S5 := hid (S3.out.ch hc5 hr5 hlt (by omega) (by omega))
      clear hr5 hc5 S3
      cases e9 : ((u : Int) == 0)
      · go_wp2_with fail
        have S6 := hid (S5.out.ch (Ch.refl w5).drew S5.out.rdr.drew hlt (by omega) (by omega))
        obtain ⟨VA0, VA1, VB0, VB1, k1, k2, ⟨k3, k4⟩, ⟨k5, k6⟩, k7, k8, k9, k10⟩ := S6.out
        obtain ⟨E0, e0, rfl⟩ := own_form k3
        obtain ⟨E1, e1, rfl⟩ := own_form k4
        obtain ⟨G0, c0, rfl⟩ := own_form k5
        obtain ⟨G1, c1, rfl⟩ := own_form k6
        refine wp_region_T (fun W => (W.cell? ⟨g4, 0, none⟩ = some (.int .i64 qa) ∧ W.cell? ⟨g4, 1, none⟩ = some (.slice E0 ha.length e0) ∧ W.cell? ⟨g4, 2, none⟩ = some (.slice E1 ba.length e1)) ∧ (W.cell? ⟨g5, 0, none⟩ = some (.int .i64 qb) ∧ W.cell? ⟨g5, 1, none⟩ = some (.slice G0 hb.length c0) ∧ W.cell? ⟨g5, 2, none⟩ = some (.slice G1 bb.length c1))) 3 (by kernel_rfl) ?_
        clear S6
        generalize w5.drew = w6 at k1 k2 k3 k4 k5 k6 k7 k8 k9 k10 ⊢
        have keepQ : ∀ W, Blk W g4 30 #[.int .i64 qa, .slice E0 ha.length e0, .slice E1 ba.length e1] → Blk W g5 30 #[.int .i64 qb, .slice G0 hb.length c0, .slice G1 bb.length c1] → _ := fun W x y => And.intro (And.intro (x.cell 0) (And.intro (x.cell 1) (x.cell 2))) (And.intro (y.cell 0) (And.intro (y.cell 1) (y.cell 2)))
        have HS : (w6.cell? ⟨g4, 0, none⟩ = some (.int .i64 qa) ∧ w6.cell? ⟨g4, 1, none⟩ = some (.slice E0 ha.length e0) ∧ w6.cell? ⟨g4, 2, none⟩ = some (.slice E1 ba.length e1)) ∧ (w6.cell? ⟨g5, 0, none⟩ = some (.int .i64 qb) ∧ w6.cell? ⟨g5, 1, none⟩ = some (.slice G0 hb.length c0) ∧ w6.cell? ⟨g5, 2, none⟩ = some (.slice G1 bb.length c1)) := keepQ _ k1 k2
        obtain ⟨d0, d1, d2, f0, f1, f2⟩ := k9.three
        obtain ⟨d0', d1', d2', f0', f1', f2'⟩ := k10.three
        have o1 : ¬ (g4 = w.heap.size) := by omega
        have o2 : ¬ (g5 = w.heap.size) := by omega
        have o3 : ¬ (w.heap.size = w.heap.size + 1) := by omega
        have o4 : ¬ (w.heap.size + 1 = w.heap.size) := by omega
        have KE := hid (two_end (p0 := p) (q1 := qa) (q2 := qb) k3 k4 k5 k6 k7 k8 k9 k10 hlt (by omega) (by omega))
        ((refine wpAnyT_take 0 (v := ?_) rfl (by kernel_rfl) (fun _ _ _ h => h) (Or.inl ⟨by rfl, ?_⟩) (by assumption) ?_; rotate_left; (focus (intro W hSw; (try dsimp only at hSw); go_simp; (try with_reducible rfl); done)); (try simp only [Act.put, List.setIfInBounds_toArray, List.set_cons_zero, List.set_cons_succ])); (refine wpAnyT_take 1 (v := ?_) rfl (by kernel_rfl) (fun _ _ _ h => h) (Or.inl ⟨by rfl, ?_⟩) (by assumption) ?_; rotate_left; (focus (intro W hSw; (try dsimp only at hSw); go_simp; (try with_reducible rfl); done)); (try simp only [Act.put, List.setIfInBounds_toArray, List.set_cons_zero, List.set_cons_succ])))
        ((refine wpAnyT_one 2 rfl (by kernel_rfl) (fun K hK => ?_); go_simp))
        have HS := keepQ (((w6.setCell ⟨w.heap.size, 0, none⟩ (.int .i64 qa)).setCell ⟨w.heap.size, 1, none⟩ (.slice E0 ha.length e0)).setCell ⟨w.heap.size, 2, none⟩ (.slice E1 ba.length e1)) (((k1.far (by exact o1) _).far (by exact o1) _).far (by exact o1) _) (((k2.far (by exact o2) _).far (by exact o2) _).far (by exact o2) _)
        ((try dsimp only); refine hK.out _ _ (fun _ => HS) (fun _ => ?_); clear hK K; (try simp only [Act.put, List.setIfInBounds_toArray, List.set_cons_zero, List.set_cons_succ]))
        clear k1 k2 k3 k4 k5 k6 k7 k8 k9 k10 S5 HS keepQ
        ((refine wpAnyT_one 3 rfl (by kernel_rfl) (fun K hK => ?_); go_simp))
        ((try dsimp only); refine hK.out _ _ (fun h => absurd rfl h) (fun _ => ?_); clear hK K; (try simp only [Act.put, List.setIfInBounds_toArray, List.set_cons_zero, List.set_cons_succ]); refine wpAnyT_done (by kernel_rfl) ?_ _)
        go_wp2
        obtain ⟨z1, z2, z3⟩ := KE.out
        generalize ((((((w6.setCell ⟨w.heap.size, 0, none⟩ (.int .i64 qa)).setCell ⟨w.heap.size, 1, none⟩ (.slice E0 ha.length e0)).setCell ⟨w.heap.size, 2, none⟩ (.slice E1 ba.length e1)).setCell ⟨w.heap.size + 1, 0, none⟩ (.int .i64 qb)).setCell ⟨w.heap.size + 1, 1, none⟩ (.slice G0 hb.length c0)).setCell ⟨w.heap.size + 1, 2, none⟩ (.slice G1 bb.length c1)) = w9 at z1 z2 z3 ⊢
        obtain ⟨u0, u1, u2, _⟩ := z1.three
        obtain ⟨v0, v1, v2, _⟩ := z2.three
        exact bodyPost_ret (v := .tuple #[.agg #[.int .i64 qa, .slice E0 ha.length e0, .slice E1 ba.length e1], .agg #[.int .i64 qb, .slice G0 hb.length c0, .slice G1 bb.length c1]]) (by simp [results, Tryd.results53, go_sem, u0, u1, u2, v0, v1, v2]) rfl z3
      · go_wp2_with fail
        have S6 := hid (S5.out.ch (Ch.refl w5).drew S5.out.rdr.drew hlt (by omega) (by omega))
        obtain ⟨VA0, VA1, VB0, VB1, k1, k2, ⟨k3, k4⟩, ⟨k5, k6⟩, k7, k8, k9, k10⟩ := S6.out
        obtain ⟨E0, e0, rfl⟩ := own_form k3
        obtain ⟨E1, e1, rfl⟩ := own_form k4
        obtain ⟨G0, c0, rfl⟩ := own_form k5
        obtain ⟨G1, c1, rfl⟩ := own_form k6
        refine wp_region_T (fun W => (W.cell? ⟨g4, 0, none⟩ = some (.int .i64 qa) ∧ W.cell? ⟨g4, 1, none⟩ = some (.slice E0 ha.length e0) ∧ W.cell? ⟨g4, 2, none⟩ = some (.slice E1 ba.length e1)) ∧ (W.cell? ⟨g5, 0, none⟩ = some (.int .i64 qb) ∧ W.cell? ⟨g5, 1, none⟩ = some (.slice G0 hb.length c0) ∧ W.cell? ⟨g5, 2, none⟩ = some (.slice G1 bb.length c1))) 3 (by kernel_rfl) ?_
        clear S6
        generalize w5.drew = w6 at k1 k2 k3 k4 k5 k6 k7 k8 k9 k10 ⊢
        have keepQ : ∀ W, Blk W g4 30 #[.int .i64 qa, .slice E0 ha.length e0, .slice E1 ba.length e1] → Blk W g5 30 #[.int .i64 qb, .slice G0 hb.length c0, .slice G1 bb.length c1] → _ := fun W x y => And.intro (And.intro (x.cell 0) (And.intro (x.cell 1) (x.cell 2))) (And.intro (y.cell 0) (And.intro (y.cell 1) (y.cell 2)))
        have HS : (w6.cell? ⟨g4, 0, none⟩ = some (.int .i64 qa) ∧ w6.cell? ⟨g4, 1, none⟩ = some (.slice E0 ha.length e0) ∧ w6.cell? ⟨g4, 2, none⟩ = some (.slice E1 ba.length e1)) ∧ (w6.cell? ⟨g5, 0, none⟩ = some (.int .i64 qb) ∧ w6.cell? ⟨g5, 1, none⟩ = some (.slice G0 hb.length c0) ∧ w6.cell? ⟨g5, 2, none⟩ = some (.slice G1 bb.length c1)) := keepQ _ k1 k2
        obtain ⟨d0, d1, d2, f0, f1, f2⟩ := k9.three
        obtain ⟨d0', d1', d2', f0', f1', f2'⟩ := k10.three
        have o1 : ¬ (g4 = w.heap.size) := by omega
        have o2 : ¬ (g5 = w.heap.size) := by omega
        have o3 : ¬ (w.heap.size = w.heap.size + 1) := by omega
        have o4 : ¬ (w.heap.size + 1 = w.heap.size) := by omega
        have KE := hid (two_end (p0 := p) (q1 := qb) (q2 := qa) k5 k6 k3 k4 k7 k8 k9 k10 hlt (by omega) (by omega))
        ((refine wpAnyT_take 0 (v := ?_) rfl (by kernel_rfl) (fun _ _ _ h => h) (Or.inl ⟨by rfl, ?_⟩) (by assumption) ?_; rotate_left; (focus (intro W hSw; (try dsimp only at hSw); go_simp; (try with_reducible rfl); done)); (try simp only [Act.put, List.setIfInBounds_toArray, List.set_cons_zero, List.set_cons_succ])); (refine wpAnyT_take 1 (v := ?_) rfl (by kernel_rfl) (fun _ _ _ h => h) (Or.inl ⟨by rfl, ?_⟩) (by assumption) ?_; rotate_left; (focus (intro W hSw; (try dsimp only at hSw); go_simp; (try with_reducible rfl); done)); (try simp only [Act.put, List.setIfInBounds_toArray, List.set_cons_zero, List.set_cons_succ])))
        ((refine wpAnyT_one 2 rfl (by kernel_rfl) (fun K hK => ?_); go_simp))
        have HS := keepQ (((w6.setCell ⟨w.heap.size, 0, none⟩ (.int .i64 qb)).setCell ⟨w.heap.size, 1, none⟩ (.slice G0 hb.length c0)).setCell ⟨w.heap.size, 2, none⟩ (.slice G1 bb.length c1)) (((k1.far (by exact o1) _).far (by exact o1) _).far (by exact o1) _) (((k2.far (by exact o2) _).far (by exact o2) _).far (by exact o2) _)
        ((try dsimp only); refine hK.out _ _ (fun _ => HS) (fun _ => ?_); clear hK K; (try simp only [Act.put, List.setIfInBounds_toArray, List.set_cons_zero, List.set_cons_succ]))
        clear k1 k2 k3 k4 k5 k6 k7 k8 k9 k10 S5 HS keepQ
        ((refine wpAnyT_one 3 rfl (by kernel_rfl) (fun K hK => ?_); go_simp))
        ((try dsimp only); refine hK.out _ _ (fun h => absurd rfl h) (fun _ => ?_); clear hK K; (try simp only [Act.put, List.setIfInBounds_toArray, List.set_cons_zero, List.set_cons_succ]); refine wpAnyT_done (by kernel_rfl) ?_ _)
        go_wp2
        obtain ⟨z1, z2, z3⟩ := KE.out
        generalize ((((((w6.setCell ⟨w.heap.size, 0, none⟩ (.int .i64 qb)).setCell ⟨w.heap.size, 1, none⟩ (.slice G0 hb.length c0)).setCell ⟨w.heap.size, 2, none⟩ (.slice G1 bb.length c1)).setCell ⟨w.heap.size + 1, 0, none⟩ (.int .i64 qa)).setCell ⟨w.heap.size + 1, 1, none⟩ (.slice E0 ha.length e0)).setCell ⟨w.heap.size + 1, 2, none⟩ (.slice E1 ba.length e1)) = w9 at z1 z2 z3 ⊢
        obtain ⟨u0, u1, u2, _⟩ := z1.three
        obtain ⟨v0, v1, v2, _⟩ := z2.three
        exact bodyPost_ret (v := .tuple #[.agg #[.int .i64 qb, .slice G0 hb.length c0, .slice G1 bb.length c1], .agg #[.int .i64 qa, .slice E0 ha.length e0, .slice E1 ba.length e1]]) (by simp [results, Tryd.results53, go_sem, u0, u1, u2, v0, v1, v2]) rfl z3
    · have e0 : ((v : Int) == 0) = false := by simp; omega
      go_wp2_with fail
      refine (pick _ r _ _ S3.out.rdr (by omega) (by omega)).mono ?_
      rintro e w5 ⟨u, rfl, _, hr5, hc5⟩
      have S5 := hid (S3.out.ch hc5 hr5 hlt (by omega) (by omega))
      clear hr5 hc5 S3
      cases e9 : ((u : Int) == 0)
      · go_wp2_with fail
        have S6 := hid (S5.out.ch (Ch.refl w5).drew S5.out.rdr.drew hlt (by omega) (by omega))
        obtain ⟨VA0, VA1, VB0, VB1, k1, k2, ⟨k3, k4⟩, ⟨k5, k6⟩, k7, k8, k9, k10⟩ := S6.out
        obtain ⟨E0, e0, rfl⟩ := own_form k3
        obtain ⟨E1, e1, rfl⟩ := own_form k4
        obtain ⟨G0, c0, rfl⟩ := own_form k5
        obtain ⟨G1, c1, rfl⟩ := own_form k6
        refine wp_region_T (fun W => (W.cell? ⟨g4, 0, none⟩ = some (.int .i64 qa) ∧ W.cell? ⟨g4, 1, none⟩ = some (.slice E0 ha.length e0) ∧ W.cell? ⟨g4, 2, none⟩ = some (.slice E1 ba.length e1)) ∧ (W.cell? ⟨g5, 0, none⟩ = some (.int .i64 qb) ∧ W.cell? ⟨g5, 1, none⟩ = some (.slice G0 hb.length c0) ∧ W.cell? ⟨g5, 2, none⟩ = some (.slice G1 bb.length c1))) 3 (by kernel_rfl) ?_
        clear S6
        generalize w5.drew = w6 at k1 k2 k3 k4 k5 k6 k7 k8 k9 k10 ⊢
        have keepQ : ∀ W, Blk W g4 30 #[.int .i64 qa, .slice E0 ha.length e0, .slice E1 ba.length e1] → Blk W g5 30 #[.int .i64 qb, .slice G0 hb.length c0, .slice G1 bb.length c1] → _ := fun W x y => And.intro (And.intro (x.cell 0) (And.intro (x.cell 1) (x.cell 2))) (And.intro (y.cell 0) (And.intro (y.cell 1) (y.cell 2)))
        have HS : (w6.cell? ⟨g4, 0, none⟩ = some (.int .i64 qa) ∧ w6.cell? ⟨g4, 1, none⟩ = some (.slice E0 ha.length e0) ∧ w6.cell? ⟨g4, 2, none⟩ = some (.slice E1 ba.length e1)) ∧ (w6.cell? ⟨g5, 0, none⟩ = some (.int .i64 qb) ∧ w6.cell? ⟨g5, 1, none⟩ = some (.slice G0 hb.length c0) ∧ w6.cell? ⟨g5, 2, none⟩ = some (.slice G1 bb.length c1)) := keepQ _ k1 k2
        obtain ⟨d0, d1, d2, f0, f1, f2⟩ := k9.three
        obtain ⟨d0', d1', d2', f0', f1', f2'⟩ := k10.three
        have o1 : ¬ (g4 = w.heap.size) := by omega
        have o2 : ¬ (g5 = w.heap.size) := by omega
        have o3 : ¬ (w.heap.size = w.heap.size + 1) := by omega
        have o4 : ¬ (w.heap.size + 1 = w.heap.size) := by omega
        have KE := hid (two_end (p0 := p) (q1 := qa) (q2 := qb) k3 k4 k5 k6 k7 k8 k9 k10 hlt (by omega) (by omega))
        ((refine wpAnyT_take 0 (v := ?_) rfl (by kernel_rfl) (fun _ _ _ h => h) (Or.inl ⟨by rfl, ?_⟩) (by assumption) ?_; rotate_left; (focus (intro W hSw; (try dsimp only at hSw); go_simp; (try with_reducible rfl); done)); (try simp only [Act.put, List.setIfInBounds_toArray, List.set_cons_zero, List.set_cons_succ])); (refine wpAnyT_take 1 (v := ?_) rfl (by kernel_rfl) (fun _ _ _ h => h) (Or.inl ⟨by rfl, ?_⟩) (by assumption) ?_; rotate_left; (focus (intro W hSw; (try dsimp only at hSw); go_simp; (try with_reducible rfl); done)); (try simp only [Act.put, List.setIfInBounds_toArray, List.set_cons_zero, List.set_cons_succ])))
        ((refine wpAnyT_one 2 rfl (by kernel_rfl) (fun K hK => ?_); go_simp))
        have HS := keepQ (((w6.setCell ⟨w.heap.size, 0, none⟩ (.int .i64 qa)).setCell ⟨w.heap.size, 1, none⟩ (.slice E0 ha.length e0)).setCell ⟨w.heap.size, 2, none⟩ (.slice E1 ba.length e1)) (((k1.far (by exact o1) _).far (by exact o1) _).far (by exact o1) _) (((k2.far (by exact o2) _).far (by exact o2) _).far (by exact o2) _)
        ((try dsimp only); refine hK.out _ _ (fun _ => HS) (fun _ => ?_); clear hK K; (try simp only [Act.put, List.setIfInBounds_toArray, List.set_cons_zero, List.set_cons_succ]))
        clear k1 k2 k3 k4 k5 k6 k7 k8 k9 k10 S5 HS keepQ
        ((refine wpAnyT_one 3 rfl (by kernel_rfl) (fun K hK => ?_); go_simp))
        ((try dsimp only); refine hK.out _ _ (fun h => absurd rfl h) (fun _ => ?_); clear hK K; (try simp only [Act.put, List.setIfInBounds_toArray, List.set_cons_zero, List.set_cons_succ]); refine wpAnyT_done (by kernel_rfl) ?_ _)
        go_wp2
        obtain ⟨z1, z2, z3⟩ := KE.out
        generalize ((((((w6.setCell ⟨w.heap.size, 0, none⟩ (.int .i64 qa)).setCell ⟨w.heap.size, 1, none⟩ (.slice E0 ha.length e0)).setCell ⟨w.heap.size, 2, none⟩ (.slice E1 ba.length e1)).setCell ⟨w.heap.size + 1, 0, none⟩ (.int .i64 qb)).setCell ⟨w.heap.size + 1, 1, none⟩ (.slice G0 hb.length c0)).setCell ⟨w.heap.size + 1, 2, none⟩ (.slice G1 bb.length c1)) = w9 at z1 z2 z3 ⊢
        obtain ⟨u0, u1, u2, _⟩ := z1.three
        obtain ⟨v0, v1, v2, _⟩ := z2.three
        exact bodyPost_ret (v := .tuple #[.agg #[.int .i64 qa, .slice E0 ha.length e0, .slice E1 ba.length e1], .agg #[.int .i64 qb, .slice G0 hb.length c0, .slice G1 bb.length c1]]) (by simp [results, Tryd.results53, go_sem, u0, u1, u2, v0, v1, v2]) rfl z3
      · go_wp2_with fail
        have S6 := hid (S5.out.ch (Ch.refl w5).drew S5.out.rdr.drew hlt (by omega) (by omega))
        obtain ⟨VA0, VA1, VB0, VB1, k1, k2, ⟨k3, k4⟩, ⟨k5, k6⟩, k7, k8, k9, k10⟩ := S6.out
        obtain ⟨E0, e0, rfl⟩ := own_form k3
        obtain ⟨E1, e1, rfl⟩ := own_form k4
        obtain ⟨G0, c0, rfl⟩ := own_form k5
        obtain ⟨G1, c1, rfl⟩ := own_form k6
        refine wp_region_T (fun W => (W.cell? ⟨g4, 0, none⟩ = some (.int .i64 qa) ∧ W.cell? ⟨g4, 1, none⟩ = some (.slice E0 ha.length e0) ∧ W.cell? ⟨g4, 2, none⟩ = some (.slice E1 ba.length e1)) ∧ (W.cell? ⟨g5, 0, none⟩ = some (.int .i64 qb) ∧ W.cell? ⟨g5, 1, none⟩ = some (.slice G0 hb.length c0) ∧ W.cell? ⟨g5, 2, none⟩ = some (.slice G1 bb.length c1))) 3 (by kernel_rfl) ?_
        clear S6
        generalize w5.drew = w6 at k1 k2 k3 k4 k5 k6 k7 k8 k9 k10 ⊢
        have keepQ : ∀ W, Blk W g4 30 #[.int .i64 qa, .slice E0 ha.length e0, .slice E1 ba.length e1] → Blk W g5 30 #[.int .i64 qb, .slice G0 hb.length c0, .slice G1 bb.length c1] → _ := fun W x y => And.intro (And.intro (x.cell 0) (And.intro (x.cell 1) (x.cell 2))) (And.intro (y.cell 0) (And.intro (y.cell 1) (y.cell 2)))
        have HS : (w6.cell? ⟨g4, 0, none⟩ = some (.int .i64 qa) ∧ w6.cell? ⟨g4, 1, none⟩ = some (.slice E0 ha.length e0) ∧ w6.cell? ⟨g4, 2, none⟩ = some (.slice E1 ba.length e1)) ∧ (w6.cell? ⟨g5, 0, none⟩ = some (.int .i64 qb) ∧ w6.cell? ⟨g5, 1, none⟩ = some (.slice G0 hb.length c0) ∧ w6.cell? ⟨g5, 2, none⟩ = some (.slice G1 bb.length c1)) := keepQ _ k1 k2
        obtain ⟨d0, d1, d2, f0, f1, f2⟩ := k9.three
        obtain ⟨d0', d1', d2', f0', f1', f2'⟩ := k10.three
        have o1 : ¬ (g4 = w.heap.size) := by omega
        have o2 : ¬ (g5 = w.heap.size) := by omega
        have o3 : ¬ (w.heap.size = w.heap.size + 1) := by omega
        have o4 : ¬ (w.heap.size + 1 = w.heap.size) := by omega
        have KE := hid (two_end (p0 := p) (q1 := qb) (q2 := qa) k5 k6 k3 k4 k7 k8 k9 k10 hlt (by omega) (by omega))
        ((refine wpAnyT_take 0 (v := ?_) rfl (by kernel_rfl) (fun _ _ _ h => h) (Or.inl ⟨by rfl, ?_⟩) (by assumption) ?_; rotate_left; (focus (intro W hSw; (try dsimp only at hSw); go_simp; (try with_reducible rfl); done)); (try simp only [Act.put, List.setIfInBounds_toArray, List.set_cons_zero, List.set_cons_succ])); (refine wpAnyT_take 1 (v := ?_) rfl (by kernel_rfl) (fun _ _ _ h => h) (Or.inl ⟨by rfl, ?_⟩) (by assumption) ?_; rotate_left; (focus (intro W hSw; (try dsimp only at hSw); go_simp; (try with_reducible rfl); done)); (try simp only [Act.put, List.setIfInBounds_toArray, List.set_cons_zero, List.set_cons_succ])))
        ((refine wpAnyT_one 2 rfl (by kernel_rfl) (fun K hK => ?_); go_simp))
        have HS := keepQ (((w6.setCell ⟨w.heap.size, 0, none⟩ (.int .i64 qb)).setCell ⟨w.heap.size, 1, none⟩ (.slice G0 hb.length c0)).setCell ⟨w.heap.size, 2, none⟩ (.slice G1 bb.length c1)) (((k1.far (by exact o1) _).far (by exact o1) _).far (by exact o1) _) (((k2.far (by exact o2) _).far (by exact o2) _).far (by exact o2) _)
        ((try dsimp only); refine hK.out _ _ (fun _ => HS) (fun _ => ?_); clear hK K; (try simp only [Act.put, List.setIfInBounds_toArray, List.set_cons_zero, List.set_cons_succ]))
        clear k1 k2 k3 k4 k5 k6 k7 k8 k9 k10 S5 HS keepQ
        ((refine wpAnyT_one 3 rfl (by kernel_rfl) (fun K hK => ?_); go_simp))
        ((try dsimp only); refine hK.out _ _ (fun h => absurd rfl h) (fun _ => ?_); clear hK K; (try simp only [Act.put, List.setIfInBounds_toArray, List.set_cons_zero, List.set_cons_succ]); refine wpAnyT_done (by kernel_rfl) ?_ _)
        go_wp2
        obtain ⟨z1, z2, z3⟩ := KE.out
        generalize ((((((w6.setCell ⟨w.heap.size, 0, none⟩ (.int .i64 qb)).setCell ⟨w.heap.size, 1, none⟩ (.slice G0 hb.length c0)).setCell ⟨w.heap.size, 2, none⟩ (.slice G1 bb.length c1)).setCell ⟨w.heap.size + 1, 0, none⟩ (.int .i64 qa)).setCell ⟨w.heap.size + 1, 1, none⟩ (.slice E0 ha.length e0)).setCell ⟨w.heap.size + 1, 2, none⟩ (.slice E1 ba.length e1)) = w9 at z1 z2 z3 ⊢
        obtain ⟨u0, u1, u2, _⟩ := z1.three
        obtain ⟨v0, v1, v2, _⟩ := z2.three
        exact bodyPost_ret (v := .tuple #[.agg #[.int .i64 qb, .slice G0 hb.length c0, .slice G1 bb.length c1], .agg #[.int .i64 qa, .slice E0 ha.length e0, .slice E1 ba.length e1]]) (by simp [results, Tryd.results53, go_sem, u0, u1, u2, v0, v1, v2]) rfl z3
/-- What is known of a query in memory. -/
structure QIn (w : World) (A0 A1 : Option Addr) (c0 c1 : Nat) (hd : List Int) (bd : List Atom) : Prop where
  r0 : RdSl rdInt w.cell? 1 A0 hd
  r1 : RdSl rdAtom w.cell? 3 A1 bd
  n0 : A0 = none → c0 = 0
  n1 : A1 = none → c1 = 0
  l1 : bd.length ≤ c1
  m1 : c1 ≤ maxLen
theorem QIn.fr {w w' : World} {A0 A1 : Option Addr} {c0 c1 : Nat} {hd : List Int} {bd : List Atom} (h : QIn w A0 A1 c0 c1 hd bd) (hf : Fr w w') : QIn w' A0 A1 c0 c1 hd bd :=
  ⟨h.r0.fr rdInt_mono hf, h.r1.fr rdAtom_mono hf, h.n0, h.n1, h.l1, h.m1⟩
theorem QIn.mk' {w : World} {base : Nat} {A0 A1 : Option Addr} {c0 c1 : Nat} {hd : List Int} {bd : List Atom} (h0 : w.ownsRow base 3 1 (.slice A0 hd.length c0) hd.length (hd.map iv)) (h1 : w.ownsRow base 64 3 (.slice A1 bd.length c1) bd.length (bd.flatMap cellsA)) : QIn w A0 A1 c0 c1 hd bd :=
  ⟨(own_int h0 rfl).mono rdInt_mono (fromB_le _ _), (own_A h1 rfl).mono rdAtom_mono (fromB_le _ _), own_nilcap h0, own_nilcap h1, (own_capM h1).1, (own_capM h1).2⟩
/-- Two queries, drawn anew. -/
def TwoDrawn (w0 : World) (e : Ending) (w : World) : Prop := ∃ (qa : Int) (ha : List Int) (ba : List Atom) (qb : Int) (hb : List Int) (bb : List Atom) (A0 : Option Addr) (a0 : Nat) (A1 : Option Addr) (a1 : Nat) (B0 : Option Addr) (b0 : Nat) (B1 : Option Addr) (b1 : Nat),
  e = .returned (.tuple #[.agg #[.int .i64 qa, .slice A0 ha.length a0, .slice A1 ba.length a1], .agg #[.int .i64 qb, .slice B0 hb.length b0, .slice B1 bb.length b1]]) ∧
  QIn w A0 A1 a0 a1 ha ba ∧ QIn w B0 B1 b0 b1 hb bb ∧ (ha.length ≤ 3 ∧ ba.length ≤ 4 ∧ hb.length ≤ 3 ∧ bb.length ≤ 4 ∧ 0 ≤ qa ∧ (qa ≤ 4 ∨ qa = 7) ∧ 0 ≤ qb ∧ (qb ≤ 4 ∨ qb = 7)) ∧ Fr w0 w
theorem two_put {w : World} {base s : Nat} {q1 q2 : Int} {h1 h2 : List Int} {b1 b2 : List Atom} {A0 A1 B0 B1 : Option Addr} {a0 a1 c0 c1 : Nat} (k3 : w.ownsRow base 3 1 (.slice A0 h1.length a0) h1.length (h1.map iv)) (k4 : w.ownsRow base 64 3 (.slice A1 b1.length a1) b1.length (b1.flatMap cellsA))
    (k5 : w.ownsRow base 3 1 (.slice B0 h2.length c0) h2.length (h2.map iv)) (k6 : w.ownsRow base 64 3 (.slice B1 b2.length c1) b2.length (b2.flatMap cellsA)) (k9 : Blk w s 30 #[.int .i64 0, .slice none 0 0, .slice none 0 0]) (k10 : Blk w (s + 1) 30 #[.int .i64 0, .slice none 0 0, .slice none 0 0]) :
    Blk ((((((w.setCell ⟨s, 0, none⟩ (.int .i64 q1)).setCell ⟨s, 1, none⟩ (.slice A0 h1.length a0)).setCell ⟨s, 2, none⟩ (.slice A1 b1.length a1)).setCell ⟨s + 1, 0, none⟩ (.int .i64 q2)).setCell ⟨s + 1, 1, none⟩ (.slice B0 h2.length c0)).setCell ⟨s + 1, 2, none⟩ (.slice B1 b2.length c1)) s 30 #[.int .i64 q1, .slice A0 h1.length a0, .slice A1 b1.length a1] ∧
    Blk ((((((w.setCell ⟨s, 0, none⟩ (.int .i64 q1)).setCell ⟨s, 1, none⟩ (.slice A0 h1.length a0)).setCell ⟨s, 2, none⟩ (.slice A1 b1.length a1)).setCell ⟨s + 1, 0, none⟩ (.int .i64 q2)).setCell ⟨s + 1, 1, none⟩ (.slice B0 h2.length c0)).setCell ⟨s + 1, 2, none⟩ (.slice B1 b2.length c1)) (s + 1) 30 #[.int .i64 q2, .slice B0 h2.length c0, .slice B1 b2.length c1] ∧
    QIn ((((((w.setCell ⟨s, 0, none⟩ (.int .i64 q1)).setCell ⟨s, 1, none⟩ (.slice A0 h1.length a0)).setCell ⟨s, 2, none⟩ (.slice A1 b1.length a1)).setCell ⟨s + 1, 0, none⟩ (.int .i64 q2)).setCell ⟨s + 1, 1, none⟩ (.slice B0 h2.length c0)).setCell ⟨s + 1, 2, none⟩ (.slice B1 b2.length c1)) A0 A1 a0 a1 h1 b1 ∧ QIn ((((((w.setCell ⟨s, 0, none⟩ (.int .i64 q1)).setCell ⟨s, 1, none⟩ (.slice A0 h1.length a0)).setCell ⟨s, 2, none⟩ (.slice A1 b1.length a1)).setCell ⟨s + 1, 0, none⟩ (.int .i64 q2)).setCell ⟨s + 1, 1, none⟩ (.slice B0 h2.length c0)).setCell ⟨s + 1, 2, none⟩ (.slice B1 b2.length c1)) B0 B1 c0 c1 h2 b2 := by
  have e3 := own_ne k3 k9 (by decide)
  have e4 := own_ne k4 k9 (by decide)
  have e5 := own_ne k5 k9 (by decide)
  have e6 := own_ne k6 k9 (by decide)
  have f3 := own_ne k3 k10 (by decide)
  have f4 := own_ne k4 k10 (by decide)
  have f5 := own_ne k5 k10 (by decide)
  have f6 := own_ne k6 k10 (by decide)
  have n1 : ∀ (o : Nat), s ≠ (⟨s + 1, o, none⟩ : Addr).block := fun o => by show s ≠ s + 1; omega
  have n2 : ∀ (o : Nat), s + 1 ≠ (⟨s, o, none⟩ : Addr).block := fun o => by show s + 1 ≠ s; omega
  exact ⟨((((((k9.set_ 0 _).set_ 1 _).set_ 2 _).far (n1 _) _).far (n1 _) _).far (n1 _) _), (((((k10.far (n2 _) _).far (n2 _) _).far (n2 _) _).set_ 0 _).set_ 1 _).set_ 2 _,
    QIn.mk' (own_set (own_set (own_set (own_set (own_set (own_set k3 e3) e3) e3) f3) f3) f3) (own_set (own_set (own_set (own_set (own_set (own_set k4 e4) e4) e4) f4) f4) f4),
    QIn.mk' (own_set (own_set (own_set (own_set (own_set (own_set k5 e5) e5) e5) f5) f5) f5) (own_set (own_set (own_set (own_set (own_set (own_set k6 e6) e6) e6) f6) f6) f6)⟩
set_option maxRecDepth 100000 in
set_option maxHeartbeats 2000000 in
theorem drawIsContained (A : Option Addr) (cap : Nat) (xs : List Nat) (w : World) (hx : RdSl rdByte w.cell? 1 A xs) (hl : xs.length ≤ 1048576) (hc : xs.length ≤ cap) :
    Calls Tryd.prog 27 #[.slice A xs.length cap] w (TwoDrawn w) := by
  have HX := hid hx
  have BQ := (Blk.new w 30 #[.int .i64 0, .slice none 0 0, .slice none 0 0]).alloc (.cells #[.int .i64 0, .slice none 0 0, .slice none 0 0] 30)
  have BR := blk_new1 w (.cells #[.int .i64 0, .slice none 0 0, .slice none 0 0] 30) 30 #[.int .i64 0, .slice none 0 0, .slice none 0 0]
  have F0 : Fr w ((w.alloc (.cells #[.int .i64 0, .slice none 0 0, .slice none 0 0] 30)).alloc (.cells #[.int .i64 0, .slice none 0 0, .slice none 0 0] 30)) := by (repeat (first | with_reducible exact Fr.refl _ | with_reducible assumption | with_reducible refine Fr.alloc ?_ _ | with_reducible refine Fr.drew ?_ | with_reducible refine Fr.drewN ?_ _ | (with_reducible refine Fr.setNew2 ?_ ?_ _; · (simp <;> omega)) | with_reducible refine Fr.trans ?_ (by assumption)))
  clear hx
  go_enter Tryd.func27, Tryd.ntmps27
  go_wp2_with fail
  refine absW fun W0 hW0 => ?_
  rw [← hW0] at BQ BR F0
  clear hW0
  have hs0 := BR.lt
  refine (newReader A cap xs _ (HX.out.fr rdByte_mono F0) hl hc).mono ?_
  rintro e w1 ⟨r, rfl, hr, hrd, hF1⟩
  have F1 := F0.trans hF1
  replace BQ := BQ.fr hF1
  replace BR := BR.fr hF1
  clear hF1
  go_wp2_with fail
  refine (twoRules r 0 _ hrd (by omega)).mono ?_
  rintro e w2 ⟨qa, ha, ba, qb, hb, bb, A0, a0, A1, a1, B0, b0, B1, b1, rfl, ⟨k3, k4⟩, ⟨k5, k6⟩, hbd, _, _, _, hC⟩
  replace BQ := BQ.ch hC (by omega)
  replace BR := BR.ch hC (by omega)
  have F2 : Fr w w2 := hC.fr (fun j hj => by have : j = r := hj; omega) F1
  obtain ⟨d0, d1, d2, f0, f1, f2⟩ := BQ.three
  obtain ⟨d0', d1', d2', f0', f1', f2'⟩ := BR.three
  have o3 : ¬ (w.heap.size = w.heap.size + 1) := by omega
  have o4 : ¬ (w.heap.size + 1 = w.heap.size) := by omega
  have KE := hid (two_put (q1 := qa) (q2 := qb) k3 k4 k5 k6 BQ BR)
  have F9 : Fr w ((((((w2.setCell ⟨w.heap.size, 0, none⟩ (.int .i64 qa)).setCell ⟨w.heap.size, 1, none⟩ (.slice A0 ha.length a0)).setCell ⟨w.heap.size, 2, none⟩ (.slice A1 ba.length a1)).setCell ⟨w.heap.size + 1, 0, none⟩ (.int .i64 qb)).setCell ⟨w.heap.size + 1, 1, none⟩ (.slice B0 hb.length b0)).setCell ⟨w.heap.size + 1, 2, none⟩ (.slice B1 bb.length b1)) := (((((F2.setNew (Nat.le_refl _) _).setNew (Nat.le_refl _) _).setNew (Nat.le_refl _) _).setNew (Nat.le_succ _) _).setNew (Nat.le_succ _) _).setNew (Nat.le_succ _) _
  clear k3 k4 k5 k6 BQ BR hC hrd F2
  go_wp2
  obtain ⟨z1, z2, z3, z4⟩ := KE.out
  generalize ((((((w2.setCell ⟨w.heap.size, 0, none⟩ (.int .i64 qa)).setCell ⟨w.heap.size, 1, none⟩ (.slice A0 ha.length a0)).setCell ⟨w.heap.size, 2, none⟩ (.slice A1 ba.length a1)).setCell ⟨w.heap.size + 1, 0, none⟩ (.int .i64 qb)).setCell ⟨w.heap.size + 1, 1, none⟩ (.slice B0 hb.length b0)).setCell ⟨w.heap.size + 1, 2, none⟩ (.slice B1 bb.length b1)) = w9 at z1 z2 z3 z4 F9 ⊢
  obtain ⟨u0, u1, u2, _⟩ := z1.three
  obtain ⟨v0, v1, v2, _⟩ := z2.three
  exact bodyPost_ret (v := .tuple #[.agg #[.int .i64 qa, .slice A0 ha.length a0, .slice A1 ba.length a1], .agg #[.int .i64 qb, .slice B0 hb.length b0, .slice B1 bb.length b1]]) (by simp [results, Tryd.results27, go_sem, u0, u1, u2, v0, v1, v2]) rfl ⟨qa, ha, ba, qb, hb, bb, A0, a0, A1, a1, B0, b0, B1, b1, rfl, z3, z4, hbd, F9⟩
set_option maxRecDepth 100000 in
set_option maxHeartbeats 2000000 in
theorem drawFindHomomorphism (A : Option Addr) (cap : Nat) (xs : List Nat) (w : World) (hx : RdSl rdByte w.cell? 1 A xs) (hl : xs.length ≤ 1048576) (hc : xs.length ≤ cap) :
    Calls Tryd.prog 29 #[.slice A xs.length cap] w (TwoDrawn w) := by
  have HX := hid hx
  have BQ := (Blk.new w 30 #[.int .i64 0, .slice none 0 0, .slice none 0 0]).alloc (.cells #[.int .i64 0, .slice none 0 0, .slice none 0 0] 30)
  have BR := blk_new1 w (.cells #[.int .i64 0, .slice none 0 0, .slice none 0 0] 30) 30 #[.int .i64 0, .slice none 0 0, .slice none 0 0]
  have F0 : Fr w ((w.alloc (.cells #[.int .i64 0, .slice none 0 0, .slice none 0 0] 30)).alloc (.cells #[.int .i64 0, .slice none 0 0, .slice none 0 0] 30)) := by (repeat (first | with_reducible exact Fr.refl _ | with_reducible assumption | with_reducible refine Fr.alloc ?_ _ | with_reducible refine Fr.drew ?_ | with_reducible refine Fr.drewN ?_ _ | (with_reducible refine Fr.setNew2 ?_ ?_ _; · (simp <;> omega)) | with_reducible refine Fr.trans ?_ (by assumption)))
  clear hx
  go_enter Tryd.func29, Tryd.ntmps29
  go_wp2_with fail
  refine absW fun W0 hW0 => ?_
  rw [← hW0] at BQ BR F0
  clear hW0
  have hs0 := BR.lt
  refine (newReader A cap xs _ (HX.out.fr rdByte_mono F0) hl hc).mono ?_
  rintro e w1 ⟨r, rfl, hr, hrd, hF1⟩
  have F1 := F0.trans hF1
  replace BQ := BQ.fr hF1
  replace BR := BR.fr hF1
  clear hF1
  go_wp2_with fail
  refine (twoRules r 0 _ hrd (by omega)).mono ?_
  rintro e w2 ⟨qa, ha, ba, qb, hb, bb, A0, a0, A1, a1, B0, b0, B1, b1, rfl, ⟨k3, k4⟩, ⟨k5, k6⟩, hbd, _, _, _, hC⟩
  replace BQ := BQ.ch hC (by omega)
  replace BR := BR.ch hC (by omega)
  have F2 : Fr w w2 := hC.fr (fun j hj => by have : j = r := hj; omega) F1
  obtain ⟨d0, d1, d2, f0, f1, f2⟩ := BQ.three
  obtain ⟨d0', d1', d2', f0', f1', f2'⟩ := BR.three
  have o3 : ¬ (w.heap.size = w.heap.size + 1) := by omega
  have o4 : ¬ (w.heap.size + 1 = w.heap.size) := by omega
  have KE := hid (two_put (q1 := qa) (q2 := qb) k3 k4 k5 k6 BQ BR)
  have F9 : Fr w ((((((w2.setCell ⟨w.heap.size, 0, none⟩ (.int .i64 qa)).setCell ⟨w.heap.size, 1, none⟩ (.slice A0 ha.length a0)).setCell ⟨w.heap.size, 2, none⟩ (.slice A1 ba.length a1)).setCell ⟨w.heap.size + 1, 0, none⟩ (.int .i64 qb)).setCell ⟨w.heap.size + 1, 1, none⟩ (.slice B0 hb.length b0)).setCell ⟨w.heap.size + 1, 2, none⟩ (.slice B1 bb.length b1)) := (((((F2.setNew (Nat.le_refl _) _).setNew (Nat.le_refl _) _).setNew (Nat.le_refl _) _).setNew (Nat.le_succ _) _).setNew (Nat.le_succ _) _).setNew (Nat.le_succ _) _
  clear k3 k4 k5 k6 BQ BR hC hrd F2
  go_wp2
  obtain ⟨z1, z2, z3, z4⟩ := KE.out
  generalize ((((((w2.setCell ⟨w.heap.size, 0, none⟩ (.int .i64 qa)).setCell ⟨w.heap.size, 1, none⟩ (.slice A0 ha.length a0)).setCell ⟨w.heap.size, 2, none⟩ (.slice A1 ba.length a1)).setCell ⟨w.heap.size + 1, 0, none⟩ (.int .i64 qb)).setCell ⟨w.heap.size + 1, 1, none⟩ (.slice B0 hb.length b0)).setCell ⟨w.heap.size + 1, 2, none⟩ (.slice B1 bb.length b1)) = w9 at z1 z2 z3 z4 F9 ⊢
  obtain ⟨u0, u1, u2, _⟩ := z1.three
  obtain ⟨v0, v1, v2, _⟩ := z2.three
  exact bodyPost_ret (v := .tuple #[.agg #[.int .i64 qa, .slice A0 ha.length a0, .slice A1 ba.length a1], .agg #[.int .i64 qb, .slice B0 hb.length b0, .slice B1 bb.length b1]]) (by simp [results, Tryd.results29, go_sem, u0, u1, u2, v0, v1, v2]) rfl ⟨qa, ha, ba, qb, hb, bb, A0, a0, A1, a1, B0, b0, B1, b1, rfl, z3, z4, hbd, F9⟩
end Go.Proofs.YtahclhldpcboeaaDoor
