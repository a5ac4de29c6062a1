/- The program's search in memory; the walk of the closure that takes an answer. -/
import Derived.Test.YtahclhldpcboeaaGreatDoorCndI
import Derived.Test.YtahclhldpcboeaaGreatDoorFrzW
namespace Go.Proofs.YtahclhldpcboeaaGreatDoor
open Go Go.RowKit

/-- What stays as it is while the search runs. -/
structure FC where
  wA : World
  W0 : World
  qpb : Nat
  fdb : Nat
  vxb : Nat
  bxb : Nat
  lxb : Nat
  frb : Nat
  qb : Nat
  lb : Nat
  vb : Nat
  bb : Nat
  lsb : Nat
  mb : Nat
  n : Nat
  A0 : Option Addr
  A1 : Option Addr
  c0 : Nat
  c1 : Nat
  hd : List Int
  bd : List Atom
  L : List (List Fact)
def FC.S (C : FC) (k : Nat) : Prop := k = C.vb ∨ k = C.bb ∨ k = C.lsb ∨ k = C.mb
structure FK (C : FC) : Prop where
  fr : Fr C.wA C.W0
  k1 : C.W0.cell? ⟨C.qpb, 0, none⟩ = some (.pointer (some ⟨C.qb, 0, none⟩))
  k2 : C.W0.cell? ⟨C.fdb, 0, none⟩ = some (.func (.func 30) #[] #[.pointer (some ⟨C.qb, 0, none⟩), .pointer (some ⟨C.lsb, 0, none⟩), .pointer (some ⟨C.mb, 0, none⟩)])
  k3 : C.W0.cell? ⟨C.vxb, 0, none⟩ = some (.slice (some ⟨C.vb, 0, none⟩) C.n C.n)
  k4 : C.W0.cell? ⟨C.bxb, 0, none⟩ = some (.slice (some ⟨C.bb, 0, none⟩) C.n C.n)
  k5 : C.W0.cell? ⟨C.lxb, 0, none⟩ = some (.slice (some ⟨C.lb, 0, none⟩) C.bd.length C.bd.length)
  k6 : C.W0.cell? ⟨C.frb, 0, none⟩ = some (.func (.func 62) #[] #[.pointer (some ⟨C.qpb, 0, none⟩), .pointer (some ⟨C.fdb, 0, none⟩), .pointer (some ⟨C.vxb, 0, none⟩), .pointer (some ⟨C.bxb, 0, none⟩), .pointer (some ⟨C.lxb, 0, none⟩), .pointer (some ⟨C.frb, 0, none⟩)])
  q1 : C.W0.cell? ⟨C.qb, 1, none⟩ = some (.slice C.A0 C.hd.length C.c0)
  q2 : C.W0.cell? ⟨C.qb, 2, none⟩ = some (.slice C.A1 C.bd.length C.c1)
  rH : RdSl rdInt C.wA.cell? 1 C.A0 C.hd
  rB : RdSl rdAtom C.wA.cell? 3 C.A1 C.bd
  rows : LSt C.wA.heap.size C.lb C.L C.W0
  len : C.L.length = C.bd.length
  tS : ∀ k, C.S k → ∃ t cs, Blk C.W0 k t cs ∧ t ≠ 54 ∧ t ≠ 27 ∧ t ≠ 63 ∧ t ≠ 23
  tv : ∃ cs, Blk C.W0 C.vb 3 cs
  tb : ∃ cs, Blk C.W0 C.bb 4 cs
  tl : ∃ cs, Blk C.W0 C.lsb 32 cs
  tm : ∃ cs, Blk C.W0 C.mb 3 cs
  vm : C.vb ≠ C.mb
  sA : ∀ k, C.S k → C.wA.heap.size ≤ k
  n1 : ¬ C.S C.qpb
  n2 : ¬ C.S C.fdb
  n3 : ¬ C.S C.vxb
  n4 : ¬ C.S C.bxb
  n5 : ¬ C.S C.lxb
  n6 : ¬ C.S C.frb
  n7 : ¬ C.S C.qb
  hx : ∀ a ∈ C.bd, 0 ≤ a.x ∧ a.x < C.n ∧ 0 ≤ a.y ∧ a.y < C.n
  hh : ∀ v ∈ C.hd, 0 ≤ v ∧ v < C.n ∧ ∃ a ∈ C.bd, a.x = v ∨ a.y = v
  hL : ∀ i (h : i < C.bd.length), ∀ f ∈ C.L.getD i [], cnd C.bd[i] f = true ∧ 0 ≤ f.x ∧ 0 ≤ f.y
  b1 : C.bd.length ≤ 900
  b2 : C.hd.length ≤ 900
  b3 : C.n ≤ 900
  b4 : ∀ i, (C.L.getD i []).length ≤ 900
/-- Marks at the head of a block. -/
def BAt (cs : Array Value) (m : List Bool) : Prop := ∀ i (h : i < m.length), cs[i]? = some (.bool m[i])
theorem BAt.set {cs : Array Value} {m : List Bool} {j : Nat} {x : Bool} (h : BAt cs m) (hs : m.length ≤ cs.size) : BAt (cs.setIfInBounds j (.bool x)) (m.set j x) := fun i hi => by
  simp only [List.length_set] at hi
  rw [List.getElem_set, Array.getElem?_setIfInBounds]
  by_cases e : j = i
  · rw [if_pos e, if_pos e, if_pos (by omega)]
  · rw [if_neg e, if_neg e]; exact h i hi
/-- Answers that have been taken: each in a block for itself. -/
def rowV (r : Nat × List Int) : Value := .slice (some ⟨r.1, 0, none⟩) r.2.length r.2.length
structure AR (w : World) (base : Nat) (R : List (Nat × List Int)) : Prop where
  blk : ∀ r ∈ R, base ≤ r.1 ∧ Blk w r.1 3 (r.2.map iv).toArray
  nd : (R.map (·.1)).Nodup
/-- The state of the search. -/
structure FS (C : FC) (w : World) (vs : List Int) (bs : List Bool) (fd : List (List Int)) : Prop where
  ch : Ch C.S C.W0 w
  hv : ∃ cs, Blk w C.vb 3 cs ∧ IAt cs vs ∧ cs.size = C.n
  hb : ∃ cs, Blk w C.bb 4 cs ∧ BAt cs bs ∧ cs.size = C.n
  lv : vs.length = C.n
  lb : bs.length = C.n
  hl : ∃ R V, Blk w C.lsb 32 #[V] ∧ w.ownsRow C.W0.heap.size 23 1 V fd.length (R.map rowV) ∧ AR w C.W0.heap.size R ∧ R.map (·.2) = fd
  hm : Blk w C.mb 3 #[.int .i64 fd.length]
section
variable {C : FC} {w w' : World} {vs : List Int} {bs : List Bool} {fd : List (List Int)}
theorem FK.lt (k : FK C) {j : Nat} (h : C.S j) : j < C.W0.heap.size := by
  obtain ⟨t, cs, h, _⟩ := k.tS j h
  exact h.lt
theorem FS.fr (h : FS C w vs bs fd) (hf : Fr w w') : FS C w' vs bs fd := by
  obtain ⟨h1, ⟨cs, a1, a2, a3⟩, ⟨ds, b1, b2, b3⟩, h4, h5, ⟨R, V, c1, c2, c3, c4⟩, h7⟩ := h
  exact ⟨h1.trans hf.ch, ⟨cs, a1.fr hf, a2, a3⟩, ⟨ds, b1.fr hf, b2, b3⟩, h4, h5, ⟨R, V, c1.fr hf, own_fr c2 hf, ⟨fun r hr => ⟨(c3.blk r hr).1, (c3.blk r hr).2.fr hf⟩, c3.nd⟩, c4⟩, h7.fr hf⟩
theorem FS.frA (h : FS C w vs bs fd) (k : FK C) : Fr C.wA w := h.ch.fr k.sA k.fr
theorem FS.cell (h : FS C w vs bs fd) {p : Addr} {v : Value} (hp : ¬ C.S p.block) (hc : C.W0.cell? p = some v) : w.cell? p = some v := h.ch.cell hp hc
/-- Rows of facts are kept where blocks of other types are written. -/
theorem LSt.chS {B lb : Nat} {L : List (List Fact)} {W : World} {S : Nat → Prop} (h : LSt B lb L W) (hc : Ch S W w) (hS : ∀ k, S k → ∃ t cs, Blk W k t cs ∧ t ≠ 54 ∧ t ≠ 27) : LSt B lb L w := by
  obtain ⟨cs, h1, h2, h3, h4⟩ := h
  have nS : ∀ g t cs, Blk W g t cs → (t = 54 ∨ t = 27) → ¬ S g := fun g t cs hB ht hs => by
    obtain ⟨t', cs', hB', q1, q2⟩ := hS g hs
    rcases ht with rfl | rfl
    · exact blk_type hB' hB q1 rfl
    · exact blk_type hB' hB q2 rfl
  refine ⟨cs, h1.ch hc (nS _ _ _ h1 (.inr rfl)), h2, fun i hi => ?_, h4⟩
  obtain ⟨v, k1, k2⟩ := h3 i hi
  refine ⟨v, k1, own_same k2 fun k hk => hc.block k (k2.lt k hk).2 fun hs => ?_⟩
  obtain ⟨t', cs', hB', q1, q2⟩ := hS k hs
  exact own_ne k2 hB' (Ne.symm q1) hk.symm
theorem FS.rows (h : FS C w vs bs fd) (k : FK C) : LSt C.wA.heap.size C.lb C.L w := k.rows.chS h.ch fun j hj => by
  obtain ⟨t, cs, q1, q2, q3, _⟩ := k.tS j hj
  exact ⟨t, cs, q1, q2, q3⟩
theorem FS.val (h : FS C w vs bs fd) {v : Nat} (hv : v < C.n) : w.cell? ⟨C.vb, v, none⟩ = some (.int .i64 (vs.getD v 0)) := by
  obtain ⟨cs, a1, a2, a3⟩ := h.hv
  have hl := h.lv
  rw [a1.cell, a2 v (by omega), getD_at (by omega)]
theorem FS.mark (h : FS C w vs bs fd) {v : Nat} (hv : v < C.n) : w.cell? ⟨C.bb, v, none⟩ = some (.bool (bs.getD v false)) := by
  obtain ⟨cs, a1, a2, a3⟩ := h.hb
  have hl := h.lb
  rw [a1.cell, a2 v (by omega), getD_at (by omega)]
/-- An answer is taken. -/
theorem FS.take (h : FS C w vs bs fd) (k : FK C) : ∃ (A : Option Addr) (c : Nat) (R : List (Nat × List Int)), w.cell? ⟨C.lsb, 0, none⟩ = some (.slice A fd.length c) ∧ w.ownsRow C.W0.heap.size 23 1 (.slice A fd.length c) fd.length (R.map rowV) ∧ w.cell? ⟨C.mb, 0, none⟩ = some (.int .i64 fd.length) ∧ C.lsb < w.heap.size ∧ C.mb < w.heap.size ∧ C.W0.heap.size ≤ w.heap.size ∧
    ∀ (b : Nat) (xs : List Int) (w5 w8 : World) (v8 : Value), Fr w w5 → w.heap.size ≤ b → Blk w5 b 3 (xs.map iv).toArray → w8.ownsRow C.W0.heap.size 23 1 v8 (fd.length + 1) (R.map rowV ++ [.slice (some ⟨b, 0, none⟩) xs.length xs.length]) → w5.grownBy w8 (Value.slice A fd.length c).ownBlock →
      (w8.cell? ⟨C.lsb, 0, none⟩ = some (.slice A fd.length c) ∧ w8.frozen? ⟨C.lsb, 0, none⟩ = false) ∧ ((w8.setCell ⟨C.lsb, 0, none⟩ v8).cell? ⟨C.mb, 0, none⟩ = some (.int .i64 fd.length) ∧ (w8.setCell ⟨C.lsb, 0, none⟩ v8).frozen? ⟨C.mb, 0, none⟩ = false) ∧
        FS C ((w8.setCell ⟨C.lsb, 0, none⟩ v8).setCell ⟨C.mb, 0, none⟩ (.int .i64 ((fd.length + 1 : Nat) : Int))) vs bs (fd ++ [xs]) ∧ Kp w ((w8.setCell ⟨C.lsb, 0, none⟩ v8).setCell ⟨C.mb, 0, none⟩ (.int .i64 ((fd.length + 1 : Nat) : Int))) := by
  have hFS := h
  obtain ⟨h1, ⟨cs, a1, a2, a3⟩, ⟨ds, b1, b2, b3⟩, h4, h5, ⟨R, V, c1, c2, c3, c4⟩, h7⟩ := h
  obtain ⟨A, c, rfl⟩ := own_form c2
  refine ⟨A, c, R, c1.cell 0, c2, h7.cell 0, c1.lt, h7.lt, h1.size, fun b xs w5 w8 v8 hf hb hBb hO hg => ?_⟩
  have c2' := own_fr c2 hf
  have neI : ∀ g cs, Blk w5 g 3 cs → Blk w8 g 3 cs := fun g cs hB => blk_grown hB hg (own_ne c2' hB (by decide))
  have B8l := blk_grown (c1.fr hf) hg (own_ne c2' (c1.fr hf) (by decide))
  have B8m := neI _ _ (h7.fr hf)
  have B8v := neI _ _ (a1.fr hf)
  have B8b := blk_grown (b1.fr hf) hg (own_ne c2' (b1.fr hf) (by decide))
  have lm : C.lsb ≠ C.mb := blk_type c1 h7 (by decide)
  have lv : C.vb ≠ C.lsb := blk_type a1 c1 (by decide)
  have bl : C.bb ≠ C.lsb := blk_type b1 c1 (by decide)
  have bm : C.bb ≠ C.mb := blk_type b1 h7 (by decide)
  have M9 := B8m.far (p := ⟨C.lsb, 0, none⟩) (by exact (Ne.symm lm)) v8
  have hl0 := k.lt (j := C.lsb) (.inr (.inr (.inl rfl)))
  have hm0 := k.lt (j := C.mb) (.inr (.inr (.inr rfl)))
  have hsz := h1.size
  have C8 : Ch C.S C.W0 w8 := (h1.trans hf.ch).grown hg fun j hj => (c2'.lt j hj).1
  refine ⟨⟨B8l.cell 0, B8l.frozen 0⟩, ⟨M9.cell 0, M9.frozen 0⟩, ⟨(C8.set (.inl (.inr (.inr (.inl rfl)))) _).set (.inl (.inr (.inr (.inr rfl)))) _, ⟨cs, (B8v.far (by exact lv) _).far (by exact k.vm) _, a2, a3⟩, ⟨ds, (B8b.far (by exact bl) _).far (by exact bm) _, b2, b3⟩, h4, h5, ⟨R ++ [(b, xs)], v8, (B8l.set_ 0 v8).far (by exact lm) _, ?_, ⟨fun r hr => ?_, ?_⟩, by simp [c4]⟩, ?_⟩, ?_⟩
  · rw [List.map_append, List.length_append]
    exact own_set (own_set hO (own_ne hO B8l (by decide))) (own_ne (own_set hO (own_ne hO B8l (by decide))) M9 (by decide))
  · rcases List.mem_append.1 hr with hr | hr
    · obtain ⟨q1, q2⟩ := c3.blk r hr
      exact ⟨q1, ((neI _ _ (q2.fr hf)).far (by show r.1 ≠ C.lsb; omega) _).far (by show r.1 ≠ C.mb; omega) _⟩
    · simp only [List.mem_cons, List.not_mem_nil, or_false] at hr
      subst hr
      exact ⟨by show C.W0.heap.size ≤ b; omega, ((neI _ _ hBb).far (by show b ≠ C.lsb; omega) _).far (by show b ≠ C.mb; omega) _⟩
  · rw [List.map_append, List.nodup_append]
    refine ⟨c3.nd, by simp, fun x hx y hy e => ?_⟩
    subst e
    simp only [List.map_cons, List.map_nil, List.mem_cons, List.not_mem_nil, or_false] at hy
    obtain ⟨r, hr, rfl⟩ := List.mem_map.1 hx
    have := (c3.blk r hr).2.lt
    omega
  · have := M9.set_ 0 (.int .i64 ((fd.length + 1 : Nat) : Int))
    rw [List.length_append]
    exact this
  · exact ((Kp.fr hf).trans (Kp.grown hg c2')).trans ((Kp.set B8l (by decide) (by decide)).trans (Kp.set M9 (by decide) (by decide)))
end
/- The walk of the closure that takes an answer. -/
set_option maxRecDepth 100000 in
set_option maxHeartbeats 2000000 in
theorem foundW {C : FC} (k : FK C) {w : World} {vs : List Int} {bs : List Bool} {fd : List (List Int)} (h : FS C w vs bs fd) (hlt : fd.length < 2000) :
    Calls Tryz.prog 30 #[.slice (some ⟨C.vb, 0, none⟩) C.n C.n, .pointer (some ⟨C.qb, 0, none⟩), .pointer (some ⟨C.lsb, 0, none⟩), .pointer (some ⟨C.mb, 0, none⟩)] w fun r w' => r = .returned (.bool (decide (fd.length + 1 < 2000))) ∧ FS C w' vs bs (fd ++ [hdV C.hd vs]) ∧ Kp w w' := by
  have q1 := h.cell k.n7 k.q1
  have hqb := cell_lt q1
  have hb2 := k.b2
  obtain ⟨A, c, R, t0, tO, tm, hls, hms, hsz, TAKE⟩ := h.take k
  have HT := hid TAKE
  have HO := hid tO
  have HV := hid (fun (v : Nat) (hv : v < C.n) => h.val hv)
  have HH := hid k.hh
  have HA := hid (h.frA k)
  have HR := hid k.rH
  clear TAKE tO
  obtain ⟨hd, ehd⟩ : ∃ hd, C.hd = hd := ⟨_, rfl⟩
  obtain ⟨A0, eA0⟩ : ∃ A, C.A0 = A := ⟨_, rfl⟩
  rw [ehd] at HH HR hb2 q1 ⊢
  rw [eA0] at HR q1
  clear ehd eA0
  have hmk := mk_row (P := Tryz.prog) 23 3 (.int .i64 0) 1 8 Tryz.underlying23 (by kernel_rfl) hd.length (by omega) (by omega)
  simp only [Nat.mul_one, show (Value.int .i64 0).cells = #[Value.int .i64 0] from rfl] at hmk
  have F0 : Fr w (w.alloc (.cells (madeCells #[.int .i64 0] hd.length) 3)) := (Fr.refl _).alloc _
  have B0 := Blk.new w 3 (madeCells #[.int .i64 0] hd.length)
  have hlen : (hdV hd vs).length = hd.length := by unfold hdV; simp
  go_enter Tryz.func30, Tryz.ntmps30
  go_wp2
  generalize w.alloc (.cells (madeCells #[.int .i64 0] hd.length) 3) = W1 at F0 B0 ⊢
  obtain ⟨b, eb⟩ : ∃ b, w.heap.size = b := ⟨_, rfl⟩
  rw [eb] at B0 ⊢
  go_loopw [16] (fun t wr => ∃ i : Nat, i ≤ hd.length ∧ t = .int .i64 i ∧ Hid (Fr w wr) ∧ Hid (∃ cs, Blk wr b 3 cs ∧ cs.size = hd.length ∧ ∀ j (hj : j < hd.length), j < i → cs[j]? = some (.int .i64 (var vs hd[j])))) (fun t _ => hd.length - (intOf t).toNat)
  case atStart => exact ⟨0, by omega, rfl, hid F0, hid ⟨_, B0, by rw [made_size], fun j hj h => by omega⟩⟩
  case round =>
    clear F0 B0 hmk
    obtain ⟨i, hi, rfl, hF, hB⟩ := hrel
    have hFs := hF.out.size
    by_cases hil : i < hd.length
    · obtain ⟨ab, ao, hA, h0⟩ := HR.out.at_ hil
      replace h0 := (HA.out.trans hF.out).cell h0
      simp only [Nat.mul_one, Nat.add_zero] at h0
      subst hA
      obtain ⟨v0, vn, _⟩ := HH.out hd[i] (List.getElem_mem hil)
      obtain ⟨j, hj⟩ : ∃ j : Nat, hd[i] = j := ⟨hd[i].toNat, by omega⟩
      have hjn : j < C.n := by omega
      have g0 := hF.out.cell (HV.out j hjn)
      obtain ⟨x, ex⟩ : ∃ x, vs.getD j 0 = x := ⟨_, rfl⟩
      have EX := hid (show var vs hd[i] = x by rw [hj]; exact ex)
      rw [hj] at h0
      rw [ex] at g0
      obtain ⟨cs, hBk, hcs, hpre⟩ := hB.out
      obtain ⟨u, hu⟩ := hBk.cell_some (show i < cs.size by omega)
      have hfz := hBk.frozen i
      have hbl := hBk.lt
      have FN := hid (hF.out.setNew (p := ⟨b, i, none⟩) (by show w.heap.size ≤ b; omega) (.int .i64 x))
      have BN := hid (show ∃ cs, Blk (wr.setCell ⟨b, i, none⟩ (.int .i64 x)) b 3 cs ∧ cs.size = hd.length ∧ ∀ j (hj : j < hd.length), j < i + 1 → cs[j]? = some (.int .i64 (var vs hd[j])) from
        ⟨_, hBk.set_ i _, by simp [hcs], fun q hq hqi => by
          rw [Array.getElem?_setIfInBounds]
          by_cases e : i = q
          · subst e; rw [if_pos rfl, if_pos (by omega), EX.out]
          · rw [if_neg e]; exact hpre q hq (by omega)⟩)
      clear hBk hpre hB hF ex hj v0 vn
      go_wp2
      go_roundw
      case rel => exact ⟨i + 1, by omega, by go_num, FN, BN⟩
      case measure => simp [intOf]; omega
    · obtain rfl : i = hd.length := by omega
      have BF : Blk wr b 3 ((hdV hd vs).map iv).toArray := by
        obtain ⟨cs, hBk, hcs, hpre⟩ := hB.out
        have e : cs = ((hdV hd vs).map iv).toArray := by
          refine Array.ext_getElem? fun j => ?_
          rcases Nat.lt_or_ge j hd.length with hj | hj
          · rw [hpre j hj hj]
            unfold hdV
            simp [hj, iv]
          · rw [Array.getElem?_eq_none (by omega), Array.getElem?_eq_none (by simp [hdV]; exact hj)]
        rw [← e]; exact hBk
      have s0 := hF.out.cell t0
      have hlw := Nat.lt_of_lt_of_le hls hFs
      have hmw := Nat.lt_of_lt_of_le hms hFs
      have e9 : decide ((fd.length : Int) + 1 < 2000) = decide (fd.length + 1 < 2000) := by
        rw [decide_eq_decide]; omega
      have HB9 := hid BF
      clear hB BF
      go_wp2_with (first | (at_builtin; refine wp_appS rfl _ _ 32 rfl C.W0.heap.size 23 (.slice none 0 0) 1 24 Tryz.underlying32 (by kernel_rfl) rfl (by decide) (by decide) _ _ _ rfl (own_fr HO.out (hF.out.alloc (.cells #[.slice (some ⟨b, 0, none⟩) hd.length hd.length] 23))) (by omega) (by simp; omega) wr.heap.size 0 1 1 [.slice (some ⟨b, 0, none⟩) hd.length hd.length] rfl rfl (fun j u hu => by rw [Nat.zero_add, (Blk.new wr _ _).cell]; simpa using hu) (by omega) rfl ?_; intro v8 w8 hO8 hg8; obtain ⟨A8, c8, rfl⟩ := own_form hO8; obtain ⟨⟨y0, y1⟩, ⟨z0, z1⟩, FN, KN⟩ := HT.out b (hdV hd vs) (wr.alloc (.cells #[.slice (some ⟨b, 0, none⟩) hd.length hd.length] 23)) w8 (.slice A8 (fd.length + 1) c8) (hF.out.alloc _) (by omega) (HB9.out.alloc _) (by rw [hlen]; exact hO8) hg8; rw [show ((fd.length + 1 : Nat) : Int) = (fd.length : Int) + 1 from by omega] at FN KN; have HFN := hid FN; have HKN := hid KN; clear FN KN hO8 hg8) | fail)
      go_ret
      exact ⟨rfl, HFN.out, HKN.out⟩
/- The walk of the program's search over the atoms. -/
section
variable {C : FC} {w w' : World} {vs : List Int} {bs : List Bool} {fd : List (List Int)}
theorem FS.setV (h : FS C w vs bs fd) (k : FK C) (x : Nat) (u : Int) : FS C (w.setCell ⟨C.vb, x, none⟩ (.int .i64 u)) (vs.set x u) bs fd ∧ Kp w (w.setCell ⟨C.vb, x, none⟩ (.int .i64 u)) := by
  obtain ⟨h1, ⟨cs, a1, a2, a3⟩, ⟨ds, b1, b2, b3⟩, h4, h5, ⟨R, V, c1, c2, c3, c4⟩, h7⟩ := h
  have hv0 := k.lt (j := C.vb) (.inl rfl)
  refine ⟨⟨h1.set (.inl (.inl rfl)) _, ⟨_, a1.set_ x _, a2.set (by omega), by simp [a3]⟩, ⟨ds, b1.far (by exact blk_type b1 a1 (by decide)) _, b2, b3⟩, by rw [List.length_set]; exact h4, h5, ⟨R, V, c1.far (by exact blk_type c1 a1 (by decide)) _, own_set c2 (own_ne c2 a1 (by decide)), ⟨fun r hr => ⟨(c3.blk r hr).1, (c3.blk r hr).2.far (by have := (c3.blk r hr).1; show r.1 ≠ C.vb; omega) _⟩, c3.nd⟩, c4⟩, h7.far (by exact (Ne.symm k.vm)) _⟩, Kp.set a1 (by decide) (by decide)⟩
theorem FS.setB (h : FS C w vs bs fd) (k : FK C) (x : Nat) (u : Bool) : FS C (w.setCell ⟨C.bb, x, none⟩ (.bool u)) vs (bs.set x u) fd ∧ Kp w (w.setCell ⟨C.bb, x, none⟩ (.bool u)) := by
  obtain ⟨h1, ⟨cs, a1, a2, a3⟩, ⟨ds, b1, b2, b3⟩, h4, h5, ⟨R, V, c1, c2, c3, c4⟩, h7⟩ := h
  have hv0 := k.lt (j := C.bb) (.inr (.inl rfl))
  refine ⟨⟨h1.set (.inl (.inr (.inl rfl))) _, ⟨cs, a1.far (by exact blk_type a1 b1 (by decide)) _, a2, a3⟩, ⟨_, b1.set_ x _, b2.set (by omega), by simp [b3]⟩, h4, by rw [List.length_set]; exact h5, ⟨R, V, c1.far (by exact blk_type c1 b1 (by decide)) _, own_set c2 (own_ne c2 b1 (by decide)), ⟨fun r hr => ⟨(c3.blk r hr).1, (c3.blk r hr).2.far (by have := (c3.blk r hr).1; show r.1 ≠ C.bb; omega) _⟩, c3.nd⟩, c4⟩, h7.far (by exact blk_type h7 b1 (by decide)) _⟩, Kp.set b1 (by decide) (by decide)⟩
theorem FS.freeV (h : FS C w vs bs fd) (x : Nat) : w.frozen? ⟨C.vb, x, none⟩ = false := by
  obtain ⟨cs, a1, _⟩ := h.hv; exact a1.frozen x
theorem FS.freeB (h : FS C w vs bs fd) (x : Nat) : w.frozen? ⟨C.bb, x, none⟩ = false := by
  obtain ⟨cs, a1, _⟩ := h.hb; exact a1.frozen x
theorem FK.row (k : FK C) {i : Nat} (hi : i < C.bd.length) : ∃ A c, ∀ {w vs bs fd}, FS C w vs bs fd → w.cell? ⟨C.lb, i, none⟩ = some (.slice A (C.L.getD i []).length c) ∧ RdSl rdFact w.cell? 3 A (C.L.getD i []) := by
  have hl : i < C.L.length := by rw [k.len]; exact hi
  obtain ⟨A, c, hr, hown⟩ := k.rows.row hl
  refine ⟨A, c, fun {w vs bs fd} h => ?_⟩
  rw [getD_at hl]
  obtain ⟨cs, h1, _⟩ := k.rows
  refine ⟨h.ch.cell (fun hs => ?_) hr, (own_F (own_same hown fun j hj => h.ch.block j (hown.lt j hj).2 fun hs => ?_) rfl).mono rdFact_mono (fromB_le _ _)⟩
  · obtain ⟨t, cs', hB, _, q2, _⟩ := k.tS _ hs
    exact blk_type hB h1 q2 rfl
  · obtain ⟨t, cs', hB, q1, _⟩ := k.tS _ hs
    exact own_ne hown hB (Ne.symm q1) hj.symm
end
/-- What a call of the search leaves. -/
def FrPost (C : FC) (w : World) (m : List Int) (res : List (List Int)) (r : Ending) (w' : World) : Prop := r = .returned (.bool (decide (res.length < 2000))) ∧ ∃ vs' bs', FS C w' vs' bs' (res.take 2000) ∧ (res.length < 2000 → VB m vs' bs') ∧ Kp w w'
set_option maxRecDepth 100000 in
set_option maxHeartbeats 2000000 in
/-- At the end of the body. -/
theorem fromEnd {C : FC} (k : FK C) {w : World} {m vs : List Int} {bs : List Bool} {fd : List (List Int)} (h : FS C w vs bs fd) (hV : VB m vs bs) (hm : m.length = C.n) (hlt : fd.length < 2000) (hp : ∀ a ∈ C.bd, 0 ≤ var m a.x ∧ 0 ≤ var m a.y) :
    Calls Tryz.prog 62 #[.int .i64 C.bd.length, .pointer (some ⟨C.qpb, 0, none⟩), .pointer (some ⟨C.fdb, 0, none⟩), .pointer (some ⟨C.vxb, 0, none⟩), .pointer (some ⟨C.bxb, 0, none⟩), .pointer (some ⟨C.lxb, 0, none⟩), .pointer (some ⟨C.frb, 0, none⟩)] w
      (FrPost C w m (fd ++ [hdV C.hd m])) := by
  have c1 := h.cell k.n1 k.k1
  have c2 := h.cell k.n2 k.k2
  have c3 := h.cell k.n3 k.k3
  have q2 := h.cell k.n7 k.q2
  have l1 := cell_lt c1
  have l7 := cell_lt q2
  have e0 : ((C.bd.length : Int) == (C.bd.length : Int)) = true := by simp
  have eh : hdV C.hd vs = hdV C.hd m := hV.head fun v hv => by
    obtain ⟨v0, vn, a, ha, hav⟩ := k.hh v hv
    have := hp a ha
    rcases hav with rfl | rfl
    · exact ⟨v0, by omega, this.1⟩
    · exact ⟨v0, by omega, this.2⟩
  have CALL := hid (foundW k h hlt)
  have HV := hid hV
  clear hp hV
  go_enter Tryz.func62, Tryz.ntmps62
  go_wp2_with fail
  refine CALL.out.mono ?_
  rintro r w9 ⟨rfl, hF, hK⟩
  rw [eh] at hF
  go_wp2
  go_ret
  refine ⟨by rw [List.length_append]; rfl, vs, bs, ?_, fun _ => HV.out, hK⟩
  rw [List.take_of_length_le (by rw [List.length_append, List.length_singleton]; omega)]
  exact hF
end Go.Proofs.YtahclhldpcboeaaGreatDoor
