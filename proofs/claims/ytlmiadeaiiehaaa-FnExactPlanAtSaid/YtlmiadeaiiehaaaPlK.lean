/- Copies of plans, on the program's side: the walk. -/
import Derived.Test.YtlmiadeaiiehaaaPlC
import Derived.Test.YtlmiadeaiiehaaaHeldT
namespace Go.Proofs.Ytlmiadeaiiehaaa
open Go Go.RowKit

def ptrsP (L : List Ip) : List Value := L.map fun x => .pointer (some ⟨x.b, x.o, none⟩)
theorem ptrsP_app (a b : List Ip) : ptrsP (a ++ b) = ptrsP a ++ ptrsP b := by simp [ptrsP]
/-- The state at the head of the loop: what is left is L. -/
structure PInv (w : World) (Q : World → Prop) (v : Value) (wr : World) (L : List Ip) : Prop where
  fr : Fr w wr
  own : wr.ownsRow (w.heap.size + 1) 71 1 v L.length (ptrsP L)
  it : ∀ x ∈ L, ∃ s, ItP w.cell? wr (w.heap.size + 1) x s
  ne : L.Pairwise fun x y => ¬ (x.b = y.b ∧ x.o = y.o)
  fin : FinR Q L.reverse wr
  bnd : muP L ≤ 1048577
  res : Blk wr w.heap.size 47 #[.int .i64 0, .int .i64 0, .slice none 0 0, .slice none 0 0, .slice none 0 0]
def PAt (w : World) (Q : World → Prop) (v : Value) (wr : World) (k : Nat) : Prop := ∃ L, PInv w Q v wr L ∧ muP L = k
/-- The step as a whole: behind the round the state stands again. -/
theorem PInv.step {w wr wx : World} {Q : World → Prop} {v s : Value} {L : List Ip} {x : Ip} {q : List (Pl × Sl3)} {s0 : Sl3} {B : Nat} (h : PInv w Q v wr (L ++ [x])) (hx : ItP w.cell? wr (w.heap.size + 1) x s0) (hS : StepP x wr wx B q)
    (hq : q.map (·.1) = x.e.kids) (hk : ∀ d, x.d = d + 1 → ∀ y ∈ q, PlOk d w.cell? y.1 y.2) (hd : x.e.kids ≠ [] → 0 < x.d) (hBw : x.e.kids ≠ [] → wr.heap.size ≤ B) (hf : Fr w wx) (ho : wx.ownsRow (w.heap.size + 1) 71 1 s (L.length + x.e.kids.length) (ptrsP (L ++ newsP x B))) :
    PInv w Q s wx (L ++ newsP x B) := by
  have hlo : w.heap.size + 1 ≤ wr.heap.size := by have := h.res.lt; omega
  have hp : ∀ y ∈ L, ¬ (y.b = x.b ∧ y.o = x.o) := fun y hy => (List.pairwise_append.1 h.ne).2.2 y hy x (by simp)
  have hpt := ndT_parts hx.sm
  refine ⟨hf, by rw [List.length_append, newsP_len]; exact ho, fun y hy => ?_, ?_, h.fin.step hS hd hx.ok.l0 hx.ok.l1 hx.ok.l2 (by rw [← hq, List.length_map]), ?_, hS.other _ _ _ (by have := hx.nd.1; omega) (by decide) h.res⟩
  · rcases List.mem_append.1 hy with hy | hy
    · obtain ⟨s', hi⟩ := h.it y (List.mem_append_left _ hy)
      exact ⟨s', hS.nd hx.nd.2.1 hi.nd (fun hh => hp y hy ⟨hh.1.symm, hh.2.symm⟩), hi.ok, hi.sm⟩
    · obtain ⟨i, hi, rfl⟩ := mem_newsP hy
      have hd0 := hd (fun e => by rw [e] at hi; simp at hi)
      obtain ⟨d, hdd⟩ : ∃ d, x.d = d + 1 := ⟨x.d - 1, by omega⟩
      exact hS.kid hdd hlo hq (hk d hdd) hx.sm _ hy
  · refine List.pairwise_append.2 ⟨(List.pairwise_append.1 h.ne).1, ?_, fun y hy z hz => ?_⟩
    · rw [List.pairwise_iff_getElem]
      intro i j hi hj hij hh
      rw [newsP_len] at hi hj
      rw [newsP_at hi, newsP_at hj] at hh
      have := hh.2
      simp only at this
      omega
    · obtain ⟨i, hi, rfl⟩ := mem_newsP hz
      obtain ⟨s', hi'⟩ := h.it y (List.mem_append_left _ hy)
      obtain ⟨_, _, cs, hB, _⟩ := hi'.nd
      have := hB.lt
      have := hBw (fun e => by rw [e] at hi; simp at hi)
      intro hh
      have := hh.1
      simp only at this
      omega
  · have h1 := h.bnd
    have h2 := muP_news x B hd
    rw [muP_app] at h1 ⊢
    simp only [muP] at h1
    omega
/-- Within a round: the part's block and the row of pointers. -/
structure RInv (w W1 : World) (xb : Nat) (cs : Array Value) (v : Value) (m : Nat) (ps : List Value) (Wx : World) : Prop where
  fr : Fr w Wx
  ch : Ch (· = xb) W1 Wx
  blk : Blk Wx xb 47 cs
  own : Wx.ownsRow (w.heap.size + 1) 71 1 v m ps
section
variable {w W1 : World} {xb : Nat} {cs : Array Value} {v : Value} {m : Nat} {ps : List Value} {Wx Wy : World}
theorem RInv.go (h : RInv w W1 xb cs v m ps Wx) (hf : Fr Wx Wy) : RInv w W1 xb cs v m ps Wy := ⟨h.fr.trans hf, h.ch.trans hf.ch, h.blk.fr hf, own_fr h.own hf⟩
theorem RInv.put (h : RInv w W1 xb cs v m ps Wx) (hx : w.heap.size ≤ xb) (j : Nat) (u : Value) : RInv w W1 xb (cs.setIfInBounds j u) v m ps (Wx.setCell ⟨xb, j, none⟩ u) :=
  ⟨h.fr.setNew hx _, chSet h.ch, h.blk.set_ j u, own_set h.own (own_ne h.own h.blk (by decide))⟩
/-- A block of expressions that is new since W1 may be written. -/
theorem RInv.ex (h : RInv w W1 xb cs v m ps Wx) {E : Nat} {c : Array Value} (hB : Blk Wx E 93 c) (hE : W1.heap.size ≤ E) (hx : xb < W1.heap.size) (hw : w.heap.size ≤ E) (hc : Ch (· = E) Wx Wy) : RInv w W1 xb cs v m ps Wy := by
  refine ⟨hc.fr (fun k hk => by omega) h.fr, ⟨hc.os.trans h.ch.os, hc.tape.trans h.ch.tape, hc.output.trans h.ch.output, Nat.le_trans h.ch.size hc.size, fun k hk hS => (hc.block k (Nat.lt_of_lt_of_le hk h.ch.size) (by omega)).trans (h.ch.block k hk hS)⟩, (hc.block xb h.blk.lt (by omega)).trans h.blk, ?_⟩
  · refine ⟨h.own.1, ?_⟩
    rcases h.own.2 with hh | ⟨g, cap, cur, hv, hg, hh, hrest⟩
    · exact .inl hh
    · refine .inr ⟨g, cap, cur, hv, hg, (hc.block g (show Blk Wx g 71 cur from hh).lt ?_).trans hh, hrest⟩
      rintro rfl
      exact absurd (Blk.same hB (show Blk Wx g 71 cur from hh)).1 (by decide)
end
theorem rdLaid_mono : RdMono rdLaid := fun _ _ _ _ _ _ hc h => ⟨hc _ _ h.1, hc _ _ h.2.1, hc _ _ h.2.2.1, hc _ _ h.2.2.2.1, hc _ _ h.2.2.2.2⟩
theorem rdLaidP_mono : RdMono rdLaidP := fun _ _ _ _ _ _ hc h => ⟨hc _ _ h.1, hc _ _ h.2.1, hc _ _ h.2.2.1, hc _ _ h.2.2.2.1, hc _ _ h.2.2.2.2⟩
theorem ExL.go {d : Nat} {mo : Mv} {lo E : Nat} {xs : List Ex} {i : Nat} {W W' : World} (h : ExL d mo lo E xs i W) (hf : Fr W W') : ExL d mo lo E xs i W' := by
  obtain ⟨cs, T, hB, hz, hE, t1, t2, t3⟩ := h
  refine ⟨cs, T, hB.fr hf, hz, hE, fun j k hT => ⟨(t1 j k hT).1, by obtain ⟨c, hc⟩ := (t1 j k hT).2; exact ⟨c, hc.fr hf⟩⟩, t2, fun j hj => ?_⟩
  obtain ⟨K, c, a5, l1, l2, h1, h2⟩ := t3 j hj
  exact ⟨K, c, a5, l1, l2, h1, fun h => ⟨(h2 h).1.fr (rdEx_mono d) hf, (h2 h).2.keep hf.keepS⟩⟩
theorem ExL.rd {d : Nat} {mo : Mv} {lo E : Nat} {xs : List Ex} {i : Nat} {W : World} (h : ExL d mo lo E xs i W) (hi : i < xs.length) (hm : Mle mo W.cell?) : rdEx (d + 1) W.cell? (fun j => W.cell? ⟨E, i * 5 + j, none⟩) xs[i] := by
  obtain ⟨cs, T, hB, hz, hE, t1, t2, t3⟩ := h
  obtain ⟨K, c, ⟨b0, b1, b2, b3, b4⟩, l1, l2, h1, _⟩ := t3 i hi
  exact ⟨(hB.cell _).trans b0, (hB.cell _).trans b1, (hB.cell _).trans b2, (hB.cell _).trans b3, K, c, (hB.cell _).trans b4, (h1 (Nat.le_refl _)).mono (rdEx_mono d) hm, l1, l2⟩
/-- The loop over the kids of x. -/
structure KInvP (w w4 : World) (L : List Ip) (x : Ip) (B : Nat) (i : Nat) (s : Value) (wx : World) : Prop where
  fr : Fr w wx
  own : wx.ownsRow (w.heap.size + 1) 71 1 s (L.length + i) (ptrsP (L ++ (newsP x B).take i))
  keep : KeepQ w4 wx
  size : w4.heap.size ≤ wx.heap.size
set_option maxRecDepth 100000 in
set_option maxHeartbeats 4000000 in
theorem implCopiedP (n : Nat) (e : Pl) (b o : Nat) (w : World) (hr : rdPl (n + 1) w.cell? (fun j => w.cell? ⟨b, o + j, none⟩) e) (hs : ndT n e ≤ 1048576) :
    Calls Try.prog 40 #[.pointer (some ⟨b, o, none⟩)] w fun r w' => ∃ s : Sl3, r = .returned (plV e s) ∧ Fr w w' ∧ OwnD w.heap.size w' n e s := by
  obtain ⟨s, a0, a1, a2, a3, a4, ok⟩ := rdPl_ok hr
  simp only [Nat.add_zero] at a0
  have OK := hid ok
  have SM := hid hs
  clear hr hs ok
  obtain ⟨A0, c0, A1, c1, A2, c2⟩ := s
  simp only at a2 a3 a4
  have F3 : Fr w (((w.alloc (.cells #[.int .i64 0, .int .i64 0, .slice none 0 0, .slice none 0 0, .slice none 0 0] 47)).alloc (.cells #[.int .i64 e.kind, .int .i64 e.table, .slice A0 e.exprs.length c0, .slice A1 e.cols.length c1, .slice A2 e.kids.length c2] 47)).alloc (.cells #[.pointer (some ⟨w.heap.size + 1, 0, none⟩)] 71)) := (((Fr.refl _).alloc _).alloc _).alloc _
  have F1 : Fr w (w.alloc (.cells #[.int .i64 0, .int .i64 0, .slice none 0 0, .slice none 0 0, .slice none 0 0] 47)) := (Fr.refl _).alloc _
  have BO2 := (blk_new1 w (.cells #[.int .i64 0, .int .i64 0, .slice none 0 0, .slice none 0 0, .slice none 0 0] 47) 47 #[.int .i64 e.kind, .int .i64 e.table, .slice A0 e.exprs.length c0, .slice A1 e.cols.length c1, .slice A2 e.kids.length c2]).alloc (.cells #[.pointer (some ⟨w.heap.size + 1, 0, none⟩)] 71)
  have BR := ((Blk.new w 47 #[.int .i64 0, .int .i64 0, .slice none 0 0, .slice none 0 0, .slice none 0 0]).alloc (.cells #[.int .i64 e.kind, .int .i64 e.table, .slice A0 e.exprs.length c0, .slice A1 e.cols.length c1, .slice A2 e.kids.length c2] 47)).alloc (.cells #[.pointer (some ⟨w.heap.size + 1, 0, none⟩)] 71)
  have OW := own_lit (w := (w.alloc (.cells #[.int .i64 0, .int .i64 0, .slice none 0 0, .slice none 0 0, .slice none 0 0] 47)).alloc (.cells #[.int .i64 e.kind, .int .i64 e.table, .slice A0 e.exprs.length c0, .slice A1 e.cols.length c1, .slice A2 e.kids.length c2] 47)) (t := 71) (base := w.heap.size + 1) (sz := 1) (n := 1) (xs := [.pointer (some ⟨w.heap.size + 1, 0, none⟩)]) (by simp) (by simp) (by unfold maxLen; omega)
  rw [World.size_alloc, World.size_alloc] at OW
  replace a0 := F1.cell a0
  replace a1 := F1.cell a1
  replace a2 := F1.cell a2
  replace a3 := F1.cell a3
  replace a4 := F1.cell a4
  clear F1
  go_enter Try.func40, Try.ntmps40
  go_wp2_with fail
  clear a0 a1 a2 a3 a4
  generalize hW0 : ((w.alloc (.cells #[.int .i64 0, .int .i64 0, .slice none 0 0, .slice none 0 0, .slice none 0 0] 47)).alloc (.cells #[.int .i64 e.kind, .int .i64 e.table, .slice A0 e.exprs.length c0, .slice A1 e.cols.length c1, .slice A2 e.kids.length c2] 47)).alloc (.cells #[.pointer (some ⟨w.heap.size + 1, 0, none⟩)] 71) = W0 at F3 BO2 BR OW ⊢
  clear hW0
  have HB0 := hid BO2.lt
  have ST : PInv w (DoneP ⟨w.heap.size + 1, 0, e, n⟩ W0) (.slice (some ⟨w.heap.size + 1 + 1, 0, none⟩) 1 1) W0 [⟨w.heap.size + 1, 0, e, n⟩] := ⟨F3, OW, fun x hx => by
    obtain rfl := List.mem_singleton.1 hx
    exact ⟨⟨A0, c0, A1, c1, A2, c2⟩, ⟨Nat.le_refl _, rfl, _, BO2, rfl, rfl, rfl, rfl, rfl⟩, OK.out, SM.out⟩, List.pairwise_singleton _ _, fun W' h => h, by have := partsP_le n e; have := SM.out; unfold ndT at this; simp only [muP]; omega, BR⟩
  replace ST := hid ST
  clear OW F3 BO2 OK BR
  go_loopw [4] (fun v wr => ∃ k, PAt w (DoneP ⟨w.heap.size + 1, 0, e, n⟩ W0) v wr k) (fun v wr => mn (PAt w (DoneP ⟨w.heap.size + 1, 0, e, n⟩ W0) v wr))
  case atStart => exact ⟨_, _, ST.out, rfl⟩
  case round =>
    clear ST
    revert wr
    intro W1 hrel
    obtain ⟨L, INV, hmu⟩ := mn_spec hrel
    clear hrel
    rcases List.eq_nil_or_concat L with rfl | ⟨L', x, rfl⟩
    · obtain ⟨A', cap', rfl⟩ := own_form (show W1.ownsRow (w.heap.size + 1) 71 1 u4 0 [] from INV.own)
      have hD : DoneP ⟨w.heap.size + 1, 0, e, n⟩ W0 W1 := INV.fin
      obtain ⟨cs, cs', _, hB, _, _, s2, h5, hO⟩ := hD.self
      simp only at hB h5 hO
      obtain ⟨g0, g1, g2, g3, g4⟩ := h5
      have d0 : W1.cell? ⟨w.heap.size + 1, 0, none⟩ = some (.int .i64 e.kind) := (hB.cell _).trans g0
      have d1 : W1.cell? ⟨w.heap.size + 1, 1, none⟩ = some (.int .i64 e.table) := (hB.cell _).trans g1
      have d2 : W1.cell? ⟨w.heap.size + 1, 2, none⟩ = some (.slice s2.a0 e.exprs.length s2.c0) := (hB.cell _).trans g2
      have d3 : W1.cell? ⟨w.heap.size + 1, 3, none⟩ = some (.slice s2.a1 e.cols.length s2.c1) := (hB.cell _).trans g3
      have d4 : W1.cell? ⟨w.heap.size + 1, 4, none⟩ = some (.slice s2.a2 e.kids.length s2.c2) := (hB.cell _).trans g4
      obtain ⟨z0, z1, z2, z3, z4, f0, f1, f2, f3, f4⟩ := INV.res.five
      have HO := hid hO
      have FF := INV.fr
      have hw0 := HB0.out
      clear g0 g1 g2 g3 g4 hO hB INV hD
      go_wp2
      have CF : Ch (· = w.heap.size) W1 (((((W1.setCell ⟨w.heap.size, 0, none⟩ (.int .i64 e.kind)).setCell ⟨w.heap.size, 1, none⟩ (.int .i64 e.table)).setCell ⟨w.heap.size, 2, none⟩ (.slice s2.a0 e.exprs.length s2.c0)).setCell ⟨w.heap.size, 3, none⟩ (.slice s2.a1 e.cols.length s2.c1)).setCell ⟨w.heap.size, 4, none⟩ (.slice s2.a2 e.kids.length s2.c2)) := chSet (chSet (chSet (chSet (chSet (Ch.refl W1)))))
      refine bodyPost_ret (v := plV e s2) (by simp [results, Try.results40, go_sem, z0, z1, z2, z3, z4]) rfl ⟨s2, rfl, CF.fr (fun k hk => by omega) FF, ?_⟩
      obtain ⟨S, hS, hN, hK⟩ := HO.out
      have kA := CF.keepA (S := S) fun k hk e => by have := (hS k hk).1; omega
      exact ⟨S, fun k hk => ⟨by have := (hS k hk).1; omega, CF.keepX.gd (by have := (hS k hk).1; omega) (hS k hk).2⟩, hN.kp kA, ndS_ok hN kA hK⟩
    · rw [List.concat_eq_append] at INV hmu
      obtain ⟨s0, IX⟩ := INV.it x (by simp)
      obtain ⟨q, hq1, hq2, hq3, hq4⟩ := laidP IX.ok.r2
      obtain ⟨qe, he1, he2, he3, he4⟩ := laidX IX.ok.r0
      obtain ⟨m, hm'⟩ : ∃ m, L'.length = m := ⟨_, rfl⟩
      have ho := INV.own
      rw [ptrsP_app, List.length_append, List.length_singleton, hm'] at ho
      obtain ⟨g, cap, _, rfl, hg, _, _⟩ := own_form2 ho (by omega)
      have hcell := own_cells ho m (.pointer (some ⟨x.b, x.o, none⟩)) (by rw [List.getElem?_append_right (by simp [ptrsP, hm'])]; simp [ptrsP, hm'])
      obtain ⟨_, _, hoc, hcap⟩ := own_cap ho
      cases hoc
      have hbd := INV.bnd
      have hml := muP_len (L' ++ [x])
      rw [List.length_append, List.length_singleton, hm'] at hml
      have hmN : m + x.e.kids.length ≤ 1048577 := by
        have h2 := muP_news x W1.heap.size hq4
        have h3 := muP_len L'
        have h4 := muP_len (newsP x W1.heap.size)
        rw [newsP_len] at h4
        rw [muP_app] at hbd
        simp only [muP] at hbd
        omega
      have hcm : m + 1 ≤ 9223372036854775807 := by omega
      obtain ⟨hxb, ho5, cs, hB, g0, g1, g2, g3, g4⟩ := IX.nd
      have c2 : W1.cell? ⟨x.b, x.o + 2, none⟩ = some (.slice s0.a0 x.e.exprs.length s0.c0) := (hB.cell _).trans g2
      have hlb := hB.lt
      have hsz : x.o + 4 < cs.size := (Array.getElem?_eq_some_iff.1 g4).1
      have pt := ndT_parts IX.sm
      have RI0 : RInv w W1 x.b cs (.slice (some ⟨g, 0, none⟩) m cap) m (ptrsP L') W1 := ⟨INV.fr, Ch.refl _, hB, by
        have h := own_cut ho (m := m) (by omega)
        rw [Nat.mul_one, List.take_left' (by simp [ptrsP, hm'])] at h
        exact h⟩
      have RI0 := hid RI0
      have hxw : w.heap.size ≤ x.b := by omega
      have HCS := hid (And.intro g0 (And.intro g1 (And.intro g3 g4)))
      have HSZ := hid hsz
      have PT := hid pt
      have HB := hid hB
      have HE := hid (And.intro he1 (And.intro he3 he4))
      have HQ := hid (And.intro hq1 (And.intro hq3 hq4))
      have HIX := hid IX
      have HINV := hid INV
      have HML := hid hmN
      have HMU := hid hmu
      have HHM := hid hm'
      obtain ⟨N0, hN0⟩ : ∃ N, x.e.exprs.length = N := ⟨_, rfl⟩
      obtain ⟨N1, hN1⟩ : ∃ N, x.e.cols.length = N := ⟨_, rfl⟩
      obtain ⟨N2, hN2⟩ : ∃ N, x.e.kids.length = N := ⟨_, rfl⟩
      have n0 : N0 ≤ 1048576 := by rw [← hN0]; exact pt.2.2.1
      have n1 : N1 ≤ 1048576 := by rw [← hN1]; exact pt.2.2.2.1
      have n2 : N2 ≤ 1048576 := by rw [← hN2]; exact pt.2.2.2.2.2
      have hmN2 : m + N2 ≤ 1048577 := by rw [← hN2]; exact hmN
      have CC := hid (copiedAny s0.a0 s0.c0 x.e.exprs qe W1 he1 (he2.fr rdLaid_mono INV.fr) pt.2.2.1)
      have CI := hid (fun (W : World) (F : Fr w W) => copiedI s0.a1 s0.c1 x.e.cols W (IX.ok.r1.fr rdInt_mono F) pt.2.2.2.1)
      have CP := hid (fun (W : World) (F : Fr w W) => copiedAnyP s0.a2 s0.c2 x.e.kids q W hq1 (hq2.fr rdLaidP_mono F) pt.2.2.2.2.2)
      rw [hN0] at CC c2
      rw [hN1] at CI
      rw [hN2] at CP
      have HN0 := hid hN0
      have HN1 := hid hN1
      have HN2 := hid hN2
      clear hN0 hN1 hN2 hq1 hq2 hq3 hq4 he1 he2 he3 he4 hbd hml hB g0 g1 g2 g3 g4 ho IX INV pt hsz hmN hmu hm'
      have F0 := RI0.out.fr
      have e0 : decide ((0 : Int) < ((m + 1 : Nat) : Int)) = true := by simp
      go_wp2_with fail
      refine CC.out.mono ?_
      rintro r w3 ⟨A4, rfl, hA4, b3, hB3⟩
      have HA4 := hid hA4
      have HB3 := hid hB3
      clear hA4 hB3
      have c2' := b3.cell c2
      have f2' : w3.frozen? ⟨x.b, x.o + 2, none⟩ = false := (HB.out.fr b3).frozen _
      have z3 := b3.size
      have RI1 := hid ((RI0.out.go b3).put hxw (x.o + 2) (.slice A4 N0 N0))
      have XL0 : Hid (x.e.exprs ≠ [] → ∃ d, x.d = d + 1 ∧ ExL d w.cell? (W1.heap.size + 1) W1.heap.size x.e.exprs 0 (w3.setCell ⟨x.b, x.o + 2, none⟩ (.slice A4 N0 N0))) := hid fun hne => by
        obtain ⟨d, hd⟩ : ∃ d, x.d = d + 1 := ⟨x.d - 1, by have := HE.out.2.2 hne; omega⟩
        exact ⟨d, hd, ExL.start ((HB3.out hne).far (by show W1.heap.size ≠ x.b; omega) _) (by omega) HE.out.1 (HE.out.2.1 d hd)⟩
      have A44 : (cs.setIfInBounds (x.o + 2) (.slice A4 N0 N0))[x.o + 2]? = some (.slice A4 N0 N0) := by
        have := HSZ.out
        rw [Array.getElem?_setIfInBounds, if_pos rfl, if_pos (by omega)]
      have A43 : (cs.setIfInBounds (x.o + 2) (.slice A4 N0 N0))[x.o + 3]? = some (.slice s0.a1 N1 s0.c1) := by
        rw [Array.getElem?_setIfInBounds, if_neg (by omega), HCS.out.2.2.1, HN1.out]
      have A45 : (cs.setIfInBounds (x.o + 2) (.slice A4 N0 N0))[x.o + 4]? = some (.slice s0.a2 N2 s0.c2) := by
        rw [Array.getElem?_setIfInBounds, if_neg (by omega), HCS.out.2.2.2, HN2.out]
      have HA44 := hid A44
      have HA43 := hid A43
      have HA45 := hid A45
      clear A44 A43 A45
      go_wp2_with fail
      have zw : W1.heap.size ≤ (w3.setCell ⟨x.b, x.o + 2, none⟩ (.slice A4 N0 N0)).heap.size := by rw [World.size_setCell]; exact z3
      generalize w3.setCell ⟨x.b, x.o + 2, none⟩ (.slice A4 N0 N0) = w4 at RI1 XL0 zw ⊢
      clear c2' f2' c2 hcell
      go_loopw [39] (fun t wx => ∃ i, i ≤ N0 ∧ t = .int .i64 i ∧ Hid (RInv w W1 x.b (cs.setIfInBounds (x.o + 2) (.slice A4 N0 N0)) (.slice (some ⟨g, 0, none⟩) m cap) m (ptrsP L') wx) ∧ Hid (x.e.exprs ≠ [] → ∃ d, x.d = d + 1 ∧ W1.heap.size + 1 ≤ wx.heap.size ∧ ExL d w.cell? (W1.heap.size + 1) W1.heap.size x.e.exprs i wx)) (fun t _ => N0 - (intOf t).toNat)
      case atStart => exact ⟨0, by omega, rfl, RI1, hid fun hne => by
        obtain ⟨d, hd, h⟩ := XL0.out hne
        refine ⟨d, hd, ?_, h⟩
        obtain ⟨_, _, hBE, _⟩ := h
        have := hBE.lt
        omega⟩
      case round =>
        clear RI1 XL0
        revert wr
        intro W2 hrel
        obtain ⟨i, hi, rfl, RI, XL⟩ := hrel
        have xc2 : W2.cell? ⟨x.b, x.o + 2, none⟩ = some (.slice A4 N0 N0) := (RI.out.blk.cell _).trans HA44.out
        by_cases hlt : i < N0
        · have hne : x.e.exprs ≠ [] := fun e => by have := HN0.out; rw [e] at this; simp at this; omega
          have hA4 := HA4.out
          rw [if_neg hne] at hA4
          subst hA4
          obtain ⟨d, hd, hzz, XI⟩ := XL.out hne
          have hil : i < x.e.exprs.length := by rw [HN0.out]; exact hlt
          have hlt2 : (i : Int) < (N0 : Int) := by omega
          have XI := hid XI
          have HD := hid hd
          have RD := hid (RI.out.go (Fr.refl W2).drew)
          have XD := hid (XI.out.go (Fr.refl W2).drew)
          have hsl := HN0.out
          go_wp2_with fail
          refine wp_region_T (fun W' => W'.cell? ⟨x.b, x.o + 2, none⟩ = some (.slice (some ⟨W1.heap.size, 0, none⟩) N0 N0)) 13 (by kernel_rfl) ?_
          have HS : W2.drew.cell? ⟨x.b, x.o + 2, none⟩ = some (.slice (some ⟨W1.heap.size, 0, none⟩) N0 N0) := (RD.out.blk.cell _).trans HA44.out
          have zd : W1.heap.size + 1 ≤ W2.drew.heap.size := hzz
          generalize W2.drew = W5 at RD XD HS zd ⊢
          clear xc2
          ((refine wpAnyT_take 0 (v := ?_) rfl (by kernel_rfl) (fun _ _ _ h => h) (Or.inl ⟨by rfl, ?_⟩) (by assumption) ?_; rotate_left; (focus (intro W hSw; (try dsimp only at hSw); go_simp; (try with_reducible rfl); done)); (try simp only [Act.put, List.setIfInBounds_toArray, List.set_cons_zero, List.set_cons_succ])); (refine wpAnyT_take 1 (v := ?_) rfl (by kernel_rfl) (fun _ _ _ h => h) (Or.inl ⟨by rfl, ?_⟩) (by assumption) ?_; rotate_left; (focus (intro W hSw; (try dsimp only at hSw); go_simp; (try with_reducible rfl); done)); (try simp only [Act.put, List.setIfInBounds_toArray, List.set_cons_zero, List.set_cons_succ])); (refine wpAnyT_take 2 (v := ?_) rfl (by kernel_rfl) (fun _ _ _ h => h) (Or.inl ⟨by rfl, ?_⟩) (by assumption) ?_; rotate_left; (focus (intro W hSw; (try dsimp only at hSw); go_simp; (try with_reducible rfl); done)); (try simp only [Act.put, List.setIfInBounds_toArray, List.set_cons_zero, List.set_cons_succ])); (refine wpAnyT_take 3 (v := ?_) rfl (by kernel_rfl) (fun _ _ _ h => h) (Or.inl ⟨by rfl, ?_⟩) (by assumption) ?_; rotate_left; (focus (intro W hSw; (try dsimp only at hSw); go_simp; (try with_reducible rfl); done)); (try simp only [Act.put, List.setIfInBounds_toArray, List.set_cons_zero, List.set_cons_succ])); (refine wpAnyT_take 4 (v := ?_) rfl (by kernel_rfl) (fun _ _ _ h => h) (Or.inl ⟨by rfl, ?_⟩) (by assumption) ?_; rotate_left; (focus (intro W hSw; (try dsimp only at hSw); go_simp; (try with_reducible rfl); done)); (try simp only [Act.put, List.setIfInBounds_toArray, List.set_cons_zero, List.set_cons_succ])); (refine wpAnyT_take 5 (v := ?_) rfl (by kernel_rfl) (fun _ _ _ h => h) (Or.inl ⟨by rfl, ?_⟩) (by assumption) ?_; rotate_left; (focus (intro W hSw; (try dsimp only at hSw); go_simp; (try with_reducible rfl); done)); (try simp only [Act.put, List.setIfInBounds_toArray, List.set_cons_zero, List.set_cons_succ])); (refine wpAnyT_take 6 (v := ?_) rfl (by kernel_rfl) (fun _ _ _ h => h) (Or.inl ⟨by rfl, ?_⟩) (by assumption) ?_; rotate_left; (focus (intro W hSw; (try dsimp only at hSw); go_simp; (try with_reducible rfl); done)); (try simp only [Act.put, List.setIfInBounds_toArray, List.set_cons_zero, List.set_cons_succ])); (refine wpAnyT_take 7 (v := ?_) rfl (by kernel_rfl) (fun _ _ _ h => h) (Or.inl ⟨by rfl, ?_⟩) (by assumption) ?_; rotate_left; (focus (intro W hSw; (try dsimp only at hSw); go_simp; (try with_reducible rfl); done)); (try simp only [Act.put, List.setIfInBounds_toArray, List.set_cons_zero, List.set_cons_succ])); (refine wpAnyT_take 8 (v := ?_) rfl (by kernel_rfl) (fun _ _ _ h => h) (Or.inl ⟨by rfl, ?_⟩) (by assumption) ?_; rotate_left; (focus (intro W hSw; (try dsimp only at hSw); go_simp; (try with_reducible rfl); done)); (try simp only [Act.put, List.setIfInBounds_toArray, List.set_cons_zero, List.set_cons_succ])); (refine wpAnyT_take 9 (v := ?_) rfl (by kernel_rfl) (fun _ _ _ h => h) (Or.inl ⟨by rfl, ?_⟩) (by assumption) ?_; rotate_left; (focus (intro W hSw; (try dsimp only at hSw); go_simp; (try with_reducible rfl); done)); (try simp only [Act.put, List.setIfInBounds_toArray, List.set_cons_zero, List.set_cons_succ])); (refine wpAnyT_take 10 (v := ?_) rfl (by kernel_rfl) (fun _ _ _ h => h) (Or.inl ⟨by rfl, ?_⟩) (by assumption) ?_; rotate_left; (focus (intro W hSw; (try dsimp only at hSw); go_simp; (try with_reducible rfl); done)); (try simp only [Act.put, List.setIfInBounds_toArray, List.set_cons_zero, List.set_cons_succ])))
          ((refine wpAnyT_one 11 rfl (by kernel_rfl) (fun K hK => ?_); go_simp))
          refine (implCopied2 d x.e.exprs[i] W1.heap.size (i * 5) W5 (XD.out.rd hil RD.out.fr.mle) (by have h := PT.out.2.1; rw [HD.out] at h; exact h.2 i hil) (parts_at (by have h := PT.out.1; rw [HD.out] at h; exact h) hil)).mono ?_
          rintro r w6 ⟨A6, c6, rfl, k6, b6, S6, sh6, hS6⟩
          have XN := hid (XD.out.step zd hil b6 k6 sh6 (fun k hk => (hS6 k hk).1))
          have R6 := hid (RD.out.go b6)
          have X6 := hid (XD.out.go b6)
          have HS := b6.cell HS
          ((try dsimp only); refine hK.out _ _ (fun _ => HS) (fun _ => ?_); clear hK K; (try simp only [Act.put, List.setIfInBounds_toArray, List.set_cons_zero, List.set_cons_succ]))
          ((refine wpAnyT_take 12 (v := ?_) rfl (by kernel_rfl) (fun _ _ _ h => h) (Or.inl ⟨by rfl, ?_⟩) (by assumption) ?_; rotate_left; (focus (intro W hSw; (try dsimp only at hSw); go_simp; (try with_reducible rfl); done)); (try simp only [Act.put, List.setIfInBounds_toArray, List.set_cons_zero, List.set_cons_succ])))
          obtain ⟨csE, TE, hBE, hzE, _⟩ := X6.out
          obtain ⟨v0, y0⟩ := hBE.cell_some (i := i * 5) (by omega)
          obtain ⟨v1, y1⟩ := hBE.cell_some (i := i * 5 + 1) (by omega)
          obtain ⟨v2, y2⟩ := hBE.cell_some (i := i * 5 + 2) (by omega)
          obtain ⟨v3, y3⟩ := hBE.cell_some (i := i * 5 + 3) (by omega)
          obtain ⟨v4, y4⟩ := hBE.cell_some (i := i * 5 + 4) (by omega)
          have t0 := hBE.frozen (i * 5)
          have t1 := hBE.frozen (i * 5 + 1)
          have t2 := hBE.frozen (i * 5 + 2)
          have t3 := hBE.frozen (i * 5 + 3)
          have t4 := hBE.frozen (i * 5 + 4)
          have RN := hid (fun Wy (hc : Ch (· = W1.heap.size) w6 Wy) => R6.out.ex hBE (Nat.le_refl _) hlb (by omega) hc)
          have zz6 := b6.size
          clear hBE hzE
          ((refine wpAnyT_one 13 rfl (by kernel_rfl) (fun K hK => ?_); go_simp))
          ((try dsimp only); refine hK.out _ _ (fun h => absurd rfl h) (fun _ => ?_); clear hK K; (try simp only [Act.put, List.setIfInBounds_toArray, List.set_cons_zero, List.set_cons_succ]); refine wpAnyT_done (by kernel_rfl) ?_ _)
          clear HS y0 y1 y2 y3 y4 t0 t1 t2 t3 t4
          have R7 := hid (RN.out _ (chSet (o := i * 5 + 4) (u := .slice A6 x.e.exprs[i].kids.length c6) (chSet (o := i * 5 + 3) (u := .int .i64 x.e.exprs[i].val.n) (chSet (o := i * 5 + 2) (u := .bool x.e.exprs[i].val.null) (chSet (o := i * 5 + 1) (u := .int .i64 x.e.exprs[i].col) (chSet (o := i * 5) (u := .int .i64 x.e.exprs[i].kind) (Ch.refl w6)))))))
          clear RN
          go_wp2
          go_roundw
          case rel => exact ⟨i + 1, by omega, by go_num, R7, hid fun _ => ⟨d, HD.out, by simp; omega, XN.out⟩⟩
          case measure => simp [intOf]; omega
        · obtain rfl : N0 = i := by omega
          have EX : RdSl (rdEx x.d) W2.cell? 5 A4 x.e.exprs ∧ ∃ S0 : Nat → Prop, (∀ k, S0 k → W1.heap.size ≤ k ∧ Gd W2 k) ∧ ShS x.d W2 S0 A4 x.e.exprs := by
            by_cases hne : x.e.exprs = []
            · rw [hne]; exact ⟨RdSl.nil, fun _ => False, fun k h => h.elim, ShS.nil⟩
            · obtain ⟨d, hd, _, XI⟩ := XL.out hne
              rw [← HN0.out] at XI
              have hA4 := HA4.out
              rw [if_neg hne] at hA4
              rw [hd, hA4]
              exact XI.fin
          have EX := hid EX
          have c3 : W2.cell? ⟨x.b, x.o + 3, none⟩ = some (.slice s0.a1 N1 s0.c1) := (RI.out.blk.cell _).trans HA43.out
          have FI := RI.out.fr
          clear XL
          go_wp2_with fail
          refine (CI.out W2 FI).mono ?_
          rintro r w5 ⟨A5, rfl, b5, r5, S1, hS1, sh5⟩
          have c3' := b5.cell c3
          have f3' : w5.frozen? ⟨x.b, x.o + 3, none⟩ = false := (RI.out.blk.fr b5).frozen _
          have c4' : w5.cell? ⟨x.b, x.o + 4, none⟩ = some (.slice s0.a2 N2 s0.c2) := ((RI.out.blk.fr b5).cell _).trans HA45.out
          have f4' : w5.frozen? ⟨x.b, x.o + 4, none⟩ = false := (RI.out.blk.fr b5).frozen _
          have RI2 := hid ((RI.out.go b5).put hxw (x.o + 3) (.slice A5 N1 N1))
          have K5 := hid (And.intro r5 (And.intro hS1 sh5))
          have z5 := b5.size
          have z2 := RI.out.ch.size
          clear r5 hS1 sh5 c3
          go_wp2_with fail
          refine (CP.out (w5.setCell ⟨x.b, x.o + 3, none⟩ (.slice A5 N1 N1)) RI2.out.fr).mono ?_
          rintro r w6 ⟨A6, rfl, hA6, b6, hB6⟩
          rw [World.size_setCell] at hA6 hB6
          have z6 : w5.heap.size ≤ w6.heap.size := by have := b6.size; rwa [World.size_setCell] at this
          have c4'' : w6.cell? ⟨x.b, x.o + 4, none⟩ = some (.slice s0.a2 N2 s0.c2) := by
            refine b6.cell ?_
            rw [World.cell?_setCell_other _ _ _ _ (by simp)]; exact c4'
          have f4'' : w6.frozen? ⟨x.b, x.o + 4, none⟩ = false := (RI2.out.blk.fr b6).frozen _
          have RI3 := hid ((RI2.out.go b6).put hxw (x.o + 4) (.slice A6 N2 N2))
          have C8 : Ch (· = x.b) w5 (w6.setCell ⟨x.b, x.o + 4, none⟩ (.slice A6 N2 N2)) := chSet ((chSet (Ch.refl w5)).trans b6.ch)
          have S8 : StepP x W1 (w6.setCell ⟨x.b, x.o + 4, none⟩ (.slice A6 N2 N2)) w5.heap.size q := by
            obtain ⟨r5, hS1, sh5⟩ := K5.out
            obtain ⟨r0, S0, hS0, sh0⟩ := EX.out
            obtain ⟨g0, g1, g3, g4⟩ := HCS.out
            have hsz := HSZ.out
            have kA : KeepA S0 W2 (w6.setCell ⟨x.b, x.o + 4, none⟩ (.slice A6 N2 N2)) := b5.keepA.trans (C8.keepA fun k hk e => by have := (hS0 k hk).1; omega)
            have kB : KeepA S1 w5 (w6.setCell ⟨x.b, x.o + 4, none⟩ (.slice A6 N2 N2)) := C8.keepA fun k hk e => by have := (hS1 k hk).1; omega
            have e0 := HN0.out
            have e1 := HN1.out
            have e2 := HN2.out
            rw [← e1] at sh5
            refine ⟨RI3.out.ch.size, RI3.out.ch.keepX, ⟨cs, _, HB.out, RI3.out.blk, by simp, fun j hj => ?_, ⟨A4, N0, A5, N1, A6, N2⟩, ?_, hA6, by rw [e2]; exact Nat.le_refl _, shS_rd sh0 kA.keepS r0, by rw [e0]; exact Nat.le_refl _, shI_rd sh5 kB r5, by rw [e1]; exact Nat.le_refl _, S0, S1, fun k hk => ⟨(hS0 k hk).1, C8.keepX.gd (by have := (hS0 k hk).1; omega) (b5.keepQ.gd (hS0 k hk).2), by have := (hS0 k hk).2.lt; omega⟩, fun k hk => ⟨by have := (hS1 k hk).1; omega, C8.keepX.gd (by have := (hS1 k hk).1; omega) (hS1 k hk).2, by have := (hS1 k hk).2.lt; omega⟩, fun k h0 h1 => by have := (hS0 k h0).2.lt; have := (hS1 k h1).1; omega, sh0.keep kA.keepS, sh5.keep kB⟩, fun hne => ⟨by omega, (hB6 hne).far (by show w5.heap.size ≠ x.b; omega) _⟩⟩
            · simp only [Array.getElem?_setIfInBounds, Array.size_setIfInBounds]
              rw [if_neg (by omega), if_neg (by omega), if_neg (by omega)]
            · unfold At5
              simp only [Array.getElem?_setIfInBounds, Array.size_setIfInBounds]
              refine ⟨?_, ?_, ?_, ?_, ?_⟩
              · rw [if_neg (by omega), if_neg (by omega), if_neg (by omega)]; exact g0
              · rw [if_neg (by omega), if_neg (by omega), if_neg (by omega)]; exact g1
              · rw [if_neg (by omega), if_neg (by omega), if_pos trivial, if_pos (by omega), e0]
              · rw [if_neg (by omega), if_pos trivial, if_pos (by omega), e1]
              · rw [if_pos trivial, if_pos (by omega), e2]
          have HS8 := hid S8
          clear S8
          have HBB := hid hB6
          have HA6 := hid hA6
          have A64 : (((cs.setIfInBounds (x.o + 2) (.slice A4 N0 N0)).setIfInBounds (x.o + 3) (.slice A5 N1 N1)).setIfInBounds (x.o + 4) (.slice A6 N2 N2))[x.o + 4]? = some (.slice A6 N2 N2) := by
            have := HSZ.out
            simp only [Array.getElem?_setIfInBounds, Array.size_setIfInBounds]
            rw [if_pos trivial, if_pos (by omega)]
          have HA64 := hid A64
          clear A64 hB6 hA6 C8 K5 EX c3' f3' c4' f4' RI RI2
          go_wp2_with fail
          have z8 : W1.heap.size ≤ (w6.setCell ⟨x.b, x.o + 4, none⟩ (.slice A6 N2 N2)).heap.size := by rw [World.size_setCell]; omega
          generalize w6.setCell ⟨x.b, x.o + 4, none⟩ (.slice A6 N2 N2) = w8 at RI3 HS8 z8 ⊢
          clear c4'' f4'' xc2
          have K0 : Hid (KInvP w w8 L' x w5.heap.size 0 (.slice (some ⟨g, 0, none⟩) m cap) w8) := hid ⟨RI3.out.fr, by rw [HHM.out]; simpa using RI3.out.own, KeepQ.refl _, Nat.le_refl _⟩
          go_loopw [4, 77] (fun s t wx => ∃ i, i ≤ N2 ∧ t = .int .i64 i ∧ Hid (KInvP w w8 L' x w5.heap.size i s wx)) (fun _ t _ => N2 - (intOf t).toNat)
          case atStart => exact ⟨0, by omega, rfl, K0⟩
          case round =>
            clear K0
            revert wr
            intro W9 hrel
            obtain ⟨i, hi, rfl, KI⟩ := hrel
            have Bx := KI.out.keep _ _ _ (by decide) RI3.out.blk
            have xc5 := (Bx.cell _).trans HA64.out
            by_cases hlt : i < N2
            · have hne : x.e.kids ≠ [] := fun e => by have := HN2.out; rw [e] at this; simp at this; omega
              have hA6 := HA6.out
              rw [if_neg hne] at hA6
              subst hA6
              have KO := KI.out.own
              rw [HHM.out] at KO
              have KF := KI.out.fr
              have hlo := KF.size
              obtain ⟨SV, scap, rfl⟩ := own_form KO
              have HKO := hid KO
              have hwlo := (RI3.out.fr).size
              have hres : w.heap.size + 1 ≤ W9.heap.size := by have := KI.out.size; omega
              clear KO
              go_wp2_with (at_builtin; refine wp_appW rfl _ _ 96 rfl (w.heap.size + 1) 71 (.pointer none) 1 8 Try.underlying96 (by kernel_rfl) rfl (by decide) (by decide) _ (m + i) _ rfl (own_fr HKO.out ((Fr.refl W9).alloc _)) (by omega) (by simp; omega) W9.heap.size 0 1 1 [.pointer (some ⟨w5.heap.size, i * 5, none⟩)] rfl rfl (fun j u hu => by rw [Nat.zero_add, (Blk.new W9 _ _).cell]; simpa using hu) (by omega) rfl ?_; intro v9 w9 hO9 hg9 hw9)
              have KI' : KInvP w w8 L' x w5.heap.size (i + 1) v9 w9 := by
                refine ⟨Below.grown (KF.alloc _) hg9 (KF.alloc _).size (fun k hk => by have := own_lt HKO.out k hk; omega), ?_, (KI.out.keep.trans ((Fr.refl W9).alloc _).keepQ).trans (keepQ_grown (own_fr HKO.out ((Fr.refl W9).alloc _)) hg9), ?_⟩
                · have hin : i < (newsP x w5.heap.size).length := by rw [newsP_len]; have := HN2.out; omega
                  rw [HHM.out, List.take_succ_eq_append_getElem hin, ← List.append_assoc, ptrsP_app, newsP_at (by have := HN2.out; omega)]
                  exact hO9
                · exact Nat.le_trans KI.out.size (Nat.le_trans ((Fr.refl W9).alloc _).size hg9.size)
              replace KI' := hid KI'
              clear hO9
              go_roundw
              case rel => exact ⟨i + 1, by omega, by go_num, KI'⟩
              case measure => simp [intOf]; omega
            · obtain rfl : i = N2 := by omega
              have FIN := hid (HINV.out.step HIX.out (HS8.out.keep KI.out.keep KI.out.size) HQ.out.1 HQ.out.2.1 HQ.out.2.2 (fun _ => by omega) KI.out.fr (by have h := KI.out.own; rw [List.take_of_length_le (by rw [newsP_len, HN2.out]; exact Nat.le_refl _)] at h; rw [HN2.out]; exact h))
              go_wp2
              go_roundw
              case rel => exact ⟨_, _, FIN.out, rfl⟩
              case measure =>
                refine Nat.lt_of_le_of_lt (mn_le ⟨_, FIN.out, rfl⟩) ?_
                rw [← HMU.out, muP_app, muP_app]
                have h2 := muP_news x w5.heap.size HQ.out.2.2
                simp only [muP]
                omega
end Go.Proofs.Ytlmiadeaiiehaaa
