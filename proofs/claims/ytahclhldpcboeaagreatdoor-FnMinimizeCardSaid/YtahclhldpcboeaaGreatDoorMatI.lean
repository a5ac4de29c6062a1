/- The walk of the program's match: the search from the first atom on. -/
import Derived.Test.YtahclhldpcboeaaGreatDoorFrmJ
import Derived.Test.YtahclhldpcboeaaGreatDoorAnsL
import Derived.Laws.EntriesVeiled
namespace Go.Proofs.YtahclhldpcboeaaGreatDoor
open Go Go.RowKit
theorem made_one {z : Value} {n i : Nat} (hi : i < n) : (madeCells #[z] n)[i]? = some z := by
  unfold madeCells
  rw [Array.getElem?_map, Array.getElem?_range, if_pos hi]
  simp [Nat.mod_one]
theorem LSt.base {B B' lb : Nat} {L : List (List Fact)} {w : World} (h : LSt B lb L w) (hb : B' ≤ B) : LSt B' lb L w := by
  obtain ⟨cs, h1, h2, h3, h4⟩ := h
  exact ⟨cs, h1, h2, fun i hi => by obtain ⟨v, k1, k2⟩ := h3 i hi; exact ⟨v, k1, own_base k2 hb⟩, h4⟩
set_option maxRecDepth 100000 in
set_option maxHeartbeats 2000000 in
theorem matchW (q : Int) (A0 A1 F : Option Addr) (c0 c1 fc qb lsb mb : Nat) (hd : List Int) (bd : List Atom) (fs : List Fact) (wA w : World) (hfr : Fr wA w)
    (hQ : Blk w qb 26 #[.int .i64 q, .slice A0 hd.length c0, .slice A1 bd.length c1]) (hL : Blk w lsb 32 #[.slice none 0 0]) (hM : Blk w mb 3 #[.int .i64 0]) (hql : wA.heap.size ≤ lsb) (hqm : wA.heap.size ≤ mb)
    (hx0 : RdSl rdInt wA.cell? 1 A0 hd) (hx1 : RdSl rdAtom wA.cell? 3 A1 bd) (hf : RdSl rdFact wA.cell? 3 F fs) (hv : vrule q hd bd = true) (hfn : ∀ f ∈ fs, 0 ≤ f.x ∧ 0 ≤ f.y) (hf9 : fs.length ≤ 900) :
    Calls Tryz.prog 29 #[.pointer (some ⟨qb, 0, none⟩), .slice F fs.length fc, .func (.func 30) #[] #[.pointer (some ⟨qb, 0, none⟩), .pointer (some ⟨lsb, 0, none⟩), .pointer (some ⟨mb, 0, none⟩)]] w fun r w' => r = .returned (.tuple #[]) ∧
      ∃ R V, Blk w' lsb 32 #[V] ∧ w'.ownsRow wA.heap.size 23 1 V R.length (R.map rowV) ∧ AR w' wA.heap.size R ∧ R.map (·.2) = ((mts bd fs (List.replicate q.toNat (-1))).take 2000).map (hdV hd) ∧ Fr wA w' := by
  obtain ⟨p1, p2, p3, p4, p5, p6, p7⟩ := vrule_parts hv
  have hu := vrule_used hv
  obtain ⟨n, hn⟩ : ∃ n : Nat, q = n := ⟨q.toNat, by omega⟩
  have F0 : Fr w ((w.alloc (.cells #[.pointer (some ⟨qb, 0, none⟩)] 88)).alloc (.cells #[.func (.func 30) #[] #[.pointer (some ⟨qb, 0, none⟩), .pointer (some ⟨lsb, 0, none⟩), .pointer (some ⟨mb, 0, none⟩)]] 57)) := by (repeat (first | with_reducible exact Fr.refl _ | with_reducible assumption | with_reducible refine Fr.alloc ?_ _ | with_reducible refine Fr.drew ?_ | with_reducible refine Fr.drewN ?_ _ | (with_reducible refine Fr.setNew2 ?_ ?_ _; · (simp <;> omega)) | with_reducible refine Fr.trans ?_ (by assumption)))
  have BP := (Blk.new w 88 #[.pointer (some ⟨qb, 0, none⟩)]).alloc (.cells #[.func (.func 30) #[] #[.pointer (some ⟨qb, 0, none⟩), .pointer (some ⟨lsb, 0, none⟩), .pointer (some ⟨mb, 0, none⟩)]] 57)
  have BF := Blk.new (w.alloc (.cells #[.pointer (some ⟨qb, 0, none⟩)] 88)) 57 #[.func (.func 30) #[] #[.pointer (some ⟨qb, 0, none⟩), .pointer (some ⟨lsb, 0, none⟩), .pointer (some ⟨mb, 0, none⟩)]]
  rw [World.size_alloc] at BF
  subst hn
  have hqb := hQ.lt
  have hmf : ∀ (fn : Fn) (first cap : Array Value) (w : World), (Instr.makeFunc fn first cap).run Tryz.prog w = .ok (.func fn first cap) w := fun _ _ _ _ => rfl
  have hmk := mk_row (P := Tryz.prog) 23 3 (.int .i64 0) 1 8 Tryz.underlying23 (by kernel_rfl) n (by omega) (by omega)
  simp only [Nat.mul_one, show (Value.int .i64 0).cells = #[Value.int .i64 0] from rfl] at hmk
  have hmk2 := mk_row (P := Tryz.prog) 91 4 (.bool false) 1 1 Tryz.underlying91 (by kernel_rfl) n (by omega) (by omega)
  simp only [Nat.mul_one, show (Value.bool false).cells = #[Value.bool false] from rfl] at hmk2
  go_enter Tryz.func29, Tryz.ntmps29
  go_wp2_with fail
  generalize (w.alloc (.cells #[.pointer (some ⟨qb, 0, none⟩)] 88)).alloc (.cells #[.func (.func 30) #[] #[.pointer (some ⟨qb, 0, none⟩), .pointer (some ⟨lsb, 0, none⟩), .pointer (some ⟨mb, 0, none⟩)]] 57) = W1 at F0 BP BF ⊢
  obtain ⟨g0, eg0⟩ : ∃ g, w.heap.size = g := ⟨_, rfl⟩
  have hs1 := BF.lt
  rw [eg0] at BP BF hqb hs1 ⊢
  have FA1 := hfr.trans F0
  refine (candidatesW qb n A0 A1 c0 c1 hd.length bd F fc fs W1 (hQ.fr F0) (hx1.fr rdAtom_mono FA1) (hf.fr rdFact_mono FA1) (by omega) hf9).mono ?_
  rintro e w2 ⟨lb, L, rfl, HC, HR, hlb, hF2⟩
  have q0 : w2.cell? ⟨qb, 0, none⟩ = some (.int .i64 n) := (hQ.fr (F0.trans hF2)).cell 0
  have p0 : w2.cell? ⟨g0, 0, none⟩ = some (.pointer (some ⟨qb, 0, none⟩)) := (BP.fr hF2).cell 0
  have hqb2 : qb < w2.heap.size := (hQ.fr (F0.trans hF2)).lt
  have hgb2 : g0 < w2.heap.size := (BP.fr hF2).lt
  have hgb2_1 : g0 < w2.heap.size + 1 := by omega
  have hgb2_2 : g0 < w2.heap.size + 1 + 1 := by omega
  have hgb2_2n : g0 < w2.heap.size + 2 := by omega
  have hgb2_3 : g0 < w2.heap.size + 1 + 1 + 1 := by omega
  have hgb2_3n : g0 < w2.heap.size + 3 := by omega
  have hgb2_4 : g0 < w2.heap.size + 1 + 1 + 1 + 1 := by omega
  have hgb2_4n : g0 < w2.heap.size + 4 := by omega
  have hgb2_5 : g0 < w2.heap.size + 1 + 1 + 1 + 1 + 1 := by omega
  have hgb2_5n : g0 < w2.heap.size + 5 := by omega
  have hqb2_1 : qb < w2.heap.size + 1 := by omega
  have hqb2_2 : qb < w2.heap.size + 1 + 1 := by omega
  have hqb2_2n : qb < w2.heap.size + 2 := by omega
  have hqb2_3 : qb < w2.heap.size + 1 + 1 + 1 := by omega
  have hqb2_3n : qb < w2.heap.size + 3 := by omega
  have hqb2_4 : qb < w2.heap.size + 1 + 1 + 1 + 1 := by omega
  have hqb2_4n : qb < w2.heap.size + 4 := by omega
  have hqb2_5 : qb < w2.heap.size + 1 + 1 + 1 + 1 + 1 := by omega
  have hqb2_5n : qb < w2.heap.size + 5 := by omega
  go_wp2_with fail
  -- the world
  have BL := (((((Blk.new w2 89 #[.slice (some ⟨lb, 0, none⟩) bd.length bd.length]).alloc (.cells (madeCells #[.int .i64 0] n) 3)).alloc (.cells #[.slice (some ⟨w2.heap.size + 1, 0, none⟩) n n] 23)).alloc (.cells (madeCells #[.bool false] n) 4)).alloc (.cells #[.slice (some ⟨w2.heap.size + 1 + 1 + 1, 0, none⟩) n n] 91)).alloc (.cells #[.func (.func 62) #[] #[.pointer (some ⟨g0, 0, none⟩), .pointer (some ⟨g0 + 1, 0, none⟩), .pointer (some ⟨w2.heap.size + 1 + 1, 0, none⟩), .pointer (some ⟨w2.heap.size + 1 + 1 + 1 + 1, 0, none⟩), .pointer (some ⟨w2.heap.size, 0, none⟩), .pointer (some ⟨w2.heap.size + 1 + 1 + 1 + 1 + 1, 0, none⟩)]] 64)
  have BVr := ((((Blk.new (w2.alloc (.cells #[.slice (some ⟨lb, 0, none⟩) bd.length bd.length] 89)) 3 (madeCells #[.int .i64 0] n)).alloc (.cells #[.slice (some ⟨w2.heap.size + 1, 0, none⟩) n n] 23)).alloc (.cells (madeCells #[.bool false] n) 4)).alloc (.cells #[.slice (some ⟨w2.heap.size + 1 + 1 + 1, 0, none⟩) n n] 91)).alloc (.cells #[.func (.func 62) #[] #[.pointer (some ⟨g0, 0, none⟩), .pointer (some ⟨g0 + 1, 0, none⟩), .pointer (some ⟨w2.heap.size + 1 + 1, 0, none⟩), .pointer (some ⟨w2.heap.size + 1 + 1 + 1 + 1, 0, none⟩), .pointer (some ⟨w2.heap.size, 0, none⟩), .pointer (some ⟨w2.heap.size + 1 + 1 + 1 + 1 + 1, 0, none⟩)]] 64)
  simp only [World.size_alloc] at BVr
  have BVx := (((Blk.new ((w2.alloc (.cells #[.slice (some ⟨lb, 0, none⟩) bd.length bd.length] 89)).alloc (.cells (madeCells #[.int .i64 0] n) 3)) 23 #[.slice (some ⟨w2.heap.size + 1, 0, none⟩) n n]).alloc (.cells (madeCells #[.bool false] n) 4)).alloc (.cells #[.slice (some ⟨w2.heap.size + 1 + 1 + 1, 0, none⟩) n n] 91)).alloc (.cells #[.func (.func 62) #[] #[.pointer (some ⟨g0, 0, none⟩), .pointer (some ⟨g0 + 1, 0, none⟩), .pointer (some ⟨w2.heap.size + 1 + 1, 0, none⟩), .pointer (some ⟨w2.heap.size + 1 + 1 + 1 + 1, 0, none⟩), .pointer (some ⟨w2.heap.size, 0, none⟩), .pointer (some ⟨w2.heap.size + 1 + 1 + 1 + 1 + 1, 0, none⟩)]] 64)
  simp only [World.size_alloc] at BVx
  have BBr := ((Blk.new (((w2.alloc (.cells #[.slice (some ⟨lb, 0, none⟩) bd.length bd.length] 89)).alloc (.cells (madeCells #[.int .i64 0] n) 3)).alloc (.cells #[.slice (some ⟨w2.heap.size + 1, 0, none⟩) n n] 23)) 4 (madeCells #[.bool false] n)).alloc (.cells #[.slice (some ⟨w2.heap.size + 1 + 1 + 1, 0, none⟩) n n] 91)).alloc (.cells #[.func (.func 62) #[] #[.pointer (some ⟨g0, 0, none⟩), .pointer (some ⟨g0 + 1, 0, none⟩), .pointer (some ⟨w2.heap.size + 1 + 1, 0, none⟩), .pointer (some ⟨w2.heap.size + 1 + 1 + 1 + 1, 0, none⟩), .pointer (some ⟨w2.heap.size, 0, none⟩), .pointer (some ⟨w2.heap.size + 1 + 1 + 1 + 1 + 1, 0, none⟩)]] 64)
  simp only [World.size_alloc] at BBr
  have BBx := (Blk.new ((((w2.alloc (.cells #[.slice (some ⟨lb, 0, none⟩) bd.length bd.length] 89)).alloc (.cells (madeCells #[.int .i64 0] n) 3)).alloc (.cells #[.slice (some ⟨w2.heap.size + 1, 0, none⟩) n n] 23)).alloc (.cells (madeCells #[.bool false] n) 4)) 91 #[.slice (some ⟨w2.heap.size + 1 + 1 + 1, 0, none⟩) n n]).alloc (.cells #[.func (.func 62) #[] #[.pointer (some ⟨g0, 0, none⟩), .pointer (some ⟨g0 + 1, 0, none⟩), .pointer (some ⟨w2.heap.size + 1 + 1, 0, none⟩), .pointer (some ⟨w2.heap.size + 1 + 1 + 1 + 1, 0, none⟩), .pointer (some ⟨w2.heap.size, 0, none⟩), .pointer (some ⟨w2.heap.size + 1 + 1 + 1 + 1 + 1, 0, none⟩)]] 64)
  simp only [World.size_alloc] at BBx
  have BFr := Blk.new (((((w2.alloc (.cells #[.slice (some ⟨lb, 0, none⟩) bd.length bd.length] 89)).alloc (.cells (madeCells #[.int .i64 0] n) 3)).alloc (.cells #[.slice (some ⟨w2.heap.size + 1, 0, none⟩) n n] 23)).alloc (.cells (madeCells #[.bool false] n) 4)).alloc (.cells #[.slice (some ⟨w2.heap.size + 1 + 1 + 1, 0, none⟩) n n] 91)) 64 #[.func (.func 62) #[] #[.pointer (some ⟨g0, 0, none⟩), .pointer (some ⟨g0 + 1, 0, none⟩), .pointer (some ⟨w2.heap.size + 1 + 1, 0, none⟩), .pointer (some ⟨w2.heap.size + 1 + 1 + 1 + 1, 0, none⟩), .pointer (some ⟨w2.heap.size, 0, none⟩), .pointer (some ⟨w2.heap.size + 1 + 1 + 1 + 1 + 1, 0, none⟩)]]
  simp only [World.size_alloc] at BFr
  have F6 : Fr w2 ((((((w2.alloc (.cells #[.slice (some ⟨lb, 0, none⟩) bd.length bd.length] 89)).alloc (.cells (madeCells #[.int .i64 0] n) 3)).alloc (.cells #[.slice (some ⟨w2.heap.size + 1, 0, none⟩) n n] 23)).alloc (.cells (madeCells #[.bool false] n) 4)).alloc (.cells #[.slice (some ⟨w2.heap.size + 1 + 1 + 1, 0, none⟩) n n] 91)).alloc (.cells #[.func (.func 62) #[] #[.pointer (some ⟨g0, 0, none⟩), .pointer (some ⟨g0 + 1, 0, none⟩), .pointer (some ⟨w2.heap.size + 1 + 1, 0, none⟩), .pointer (some ⟨w2.heap.size + 1 + 1 + 1 + 1, 0, none⟩), .pointer (some ⟨w2.heap.size, 0, none⟩), .pointer (some ⟨w2.heap.size + 1 + 1 + 1 + 1 + 1, 0, none⟩)]] 64)) := by (repeat (first | with_reducible exact Fr.refl _ | with_reducible assumption | with_reducible refine Fr.alloc ?_ _ | with_reducible refine Fr.drew ?_ | with_reducible refine Fr.drewN ?_ _ | (with_reducible refine Fr.setNew2 ?_ ?_ _; · (simp <;> omega)) | with_reducible refine Fr.trans ?_ (by assumption)))
  have hlq := hL.lt
  have hmq := hM.lt
  have hs2 := F0.size
  have hs3 := hF2.size
  have hsA := hfr.size
  have hs4 := FA1.size
  refine absW fun W0 hW0 => ?_
  rw [← hW0] at BL BVr BVx BBr BBx BFr F6
  clear hW0
  have FW := F0.trans (hF2.trans F6)
  obtain ⟨C, eC⟩ : ∃ C : FC, ({ wA := wA, W0 := W0, qpb := g0, fdb := g0 + 1, vxb := w2.heap.size + 1 + 1, bxb := w2.heap.size + 1 + 1 + 1 + 1, lxb := w2.heap.size, frb := w2.heap.size + 1 + 1 + 1 + 1 + 1, qb := qb, lb := lb, vb := w2.heap.size + 1, bb := w2.heap.size + 1 + 1 + 1, lsb := lsb, mb := mb, n := n, A0 := A0, A1 := A1, c0 := c0, c1 := c1, hd := hd, bd := bd, L := L } : FC) = C := ⟨_, rfl⟩
  have BQ0 := hQ.fr FW
  have BL0 := hL.fr FW
  have BM0 := hM.fr FW
  have nql : qb ≠ lsb := blk_type BQ0 BL0 (by decide)
  have nqm : qb ≠ mb := blk_type BQ0 BM0 (by decide)
  have hmem : ∀ i (_ : i < bd.length) f, f ∈ L.getD i [] → f ∈ fs := fun i hi f hf => by
    obtain ⟨p, hp⟩ := HC.sub i hi
    rw [hp] at hf
    exact (List.mem_filter.1 hf).1
  have FKK : FK C := by
    subst eC
    refine { fr := hfr.trans FW, k1 := (BP.fr (hF2.trans F6)).cell 0, k2 := (BF.fr (hF2.trans F6)).cell 0, k3 := BVx.cell 0, k4 := BBx.cell 0, k5 := BL.cell 0, k6 := BFr.cell 0, q1 := BQ0.cell 1, q2 := BQ0.cell 2, rH := hx0, rB := hx1, rows := (HR.base (by omega)).fr F6, len := HC.len, tS := ?_, tv := ⟨_, BVr⟩, tb := ⟨_, BBr⟩, tl := ⟨_, BL0⟩, tm := ⟨_, BM0⟩, vm := by show w2.heap.size + 1 ≠ mb; omega, sA := ?_, n1 := ?_, n2 := ?_, n3 := ?_, n4 := ?_, n5 := ?_, n6 := ?_, n7 := ?_, hx := fun a ha => ?_, hh := fun v hv => ?_, hL := fun i hi f hf => ⟨HC.ok i hi f hf, hfn f (hmem i hi f hf)⟩, b1 := by show bd.length ≤ 900; omega, b2 := by show hd.length ≤ 900; omega, b3 := by show n ≤ 900; omega, b4 := fun i => ?_ }
    · rintro j (rfl | rfl | rfl | rfl)
      · exact ⟨_, _, BVr, by decide, by decide, by decide, by decide⟩
      · exact ⟨_, _, BBr, by decide, by decide, by decide, by decide⟩
      · exact ⟨_, _, BL0, by decide, by decide, by decide, by decide⟩
      · exact ⟨_, _, BM0, by decide, by decide, by decide, by decide⟩
    · rintro j (h | h | h | h)
      · have : j = w2.heap.size + 1 := h
        show wA.heap.size ≤ j; omega
      · have : j = w2.heap.size + 1 + 1 + 1 := h
        show wA.heap.size ≤ j; omega
      · have : j = lsb := h
        show wA.heap.size ≤ j; omega
      · have : j = mb := h
        show wA.heap.size ≤ j; omega
    · show ¬ (g0 = w2.heap.size + 1 ∨ g0 = w2.heap.size + 1 + 1 + 1 ∨ g0 = lsb ∨ g0 = mb)
      omega
    · show ¬ (g0 + 1 = w2.heap.size + 1 ∨ g0 + 1 = w2.heap.size + 1 + 1 + 1 ∨ g0 + 1 = lsb ∨ g0 + 1 = mb)
      omega
    · show ¬ (w2.heap.size + 1 + 1 = w2.heap.size + 1 ∨ w2.heap.size + 1 + 1 = w2.heap.size + 1 + 1 + 1 ∨ w2.heap.size + 1 + 1 = lsb ∨ w2.heap.size + 1 + 1 = mb)
      omega
    · show ¬ (w2.heap.size + 1 + 1 + 1 + 1 = w2.heap.size + 1 ∨ w2.heap.size + 1 + 1 + 1 + 1 = w2.heap.size + 1 + 1 + 1 ∨ w2.heap.size + 1 + 1 + 1 + 1 = lsb ∨ w2.heap.size + 1 + 1 + 1 + 1 = mb)
      omega
    · show ¬ (w2.heap.size = w2.heap.size + 1 ∨ w2.heap.size = w2.heap.size + 1 + 1 + 1 ∨ w2.heap.size = lsb ∨ w2.heap.size = mb)
      omega
    · show ¬ (w2.heap.size + 1 + 1 + 1 + 1 + 1 = w2.heap.size + 1 ∨ w2.heap.size + 1 + 1 + 1 + 1 + 1 = w2.heap.size + 1 + 1 + 1 ∨ w2.heap.size + 1 + 1 + 1 + 1 + 1 = lsb ∨ w2.heap.size + 1 + 1 + 1 + 1 + 1 = mb)
      omega
    · show ¬ (qb = w2.heap.size + 1 ∨ qb = w2.heap.size + 1 + 1 + 1 ∨ qb = lsb ∨ qb = mb)
      omega
    · have := p6 a ha
      show 0 ≤ a.x ∧ a.x < (n : Int) ∧ 0 ≤ a.y ∧ a.y < (n : Int)
      omega
    · have := p7 v hv
      exact ⟨this.1, this.2, hu v hv⟩
    · show (L.getD i []).length ≤ 900
      rcases Nat.lt_or_ge i bd.length with hi | hi
      · obtain ⟨p, hp⟩ := HC.sub i hi
        rw [hp]
        exact Nat.le_trans (List.length_filter_le _ _) hf9
      · rw [List.getD_eq_getElem?_getD, List.getElem?_eq_none (by rw [HC.len]; exact hi)]
        simp
  have FSS : FS C W0 (List.replicate n 0) (List.replicate n false) [] := by
    subst eC
    refine ⟨Ch.refl _, ⟨_, BVr, fun i hi => ?_, by rw [size_madeCells]⟩, ⟨_, BBr, fun i hi => ?_, by rw [size_madeCells]⟩, by simp, by simp, ⟨[], _, BL0, own_nil, ⟨(fun r hr => by cases hr), List.nodup_nil⟩, rfl⟩, BM0⟩
    · simp only [List.length_replicate] at hi
      rw [made_one hi, List.getElem_replicate]
    · simp only [List.length_replicate] at hi
      rw [made_one hi, List.getElem_replicate]
  have CALL := fromW FKK bd.length 0 W0 (List.replicate n (-1)) (List.replicate n 0) (List.replicate n false) [] (by subst eC; exact Nat.zero_add _) FSS (vb_new n) (by subst eC; simp) (by simp) (fun a ha => by rw [List.take_zero] at ha; cases ha)
  have EM : mtl (bd.drop 0) (L.drop 0) (List.replicate n (-1)) = mts bd fs (List.replicate n (-1)) := by
    have := mtl_mts HC hfn bd.length 0 (List.replicate n (-1)) (by omega) (fun a ha => by have := p6 a ha; simp; omega) (fun a ha => by rw [List.take_zero] at ha; cases ha)
    rw [this, List.drop_zero]
  have HE1 : C.bd = bd := by subst eC; rfl
  have HE2 : C.L = L := by subst eC; rfl
  have HE3 : C.hd = hd := by subst eC; rfl
  have HE4 : C.wA = wA := by subst eC; rfl
  have HE5 : C.W0.heap.size = W0.heap.size := by subst eC; rfl
  have HE6 : C.lsb = lsb := by subst eC; rfl
  rw [HE1, HE2, HE3, EM, List.nil_append] at CALL
  have hW : wA.heap.size ≤ W0.heap.size := by have := F6.size; omega
  have HCALL : Hid (Calls Tryz.prog 62 #[.int .i64 0, .pointer (some ⟨g0, 0, none⟩), .pointer (some ⟨g0 + 1, 0, none⟩), .pointer (some ⟨w2.heap.size + 1 + 1, 0, none⟩), .pointer (some ⟨w2.heap.size + 1 + 1 + 1 + 1, 0, none⟩), .pointer (some ⟨w2.heap.size, 0, none⟩), .pointer (some ⟨w2.heap.size + 1 + 1 + 1 + 1 + 1, 0, none⟩)] W0 (FrPost C W0 (List.replicate n (-1)) ((mts bd fs (List.replicate n (-1))).map (hdV hd)))) := by
    subst eC
    exact hid CALL
  have HKK := hid FKK
  clear CALL FKK FSS EM BL BVr BVx BBr BBx BFr BP BF BQ0 BL0 BM0 HC HR hmem F6
  refine HCALL.out.mono ?_
  rintro e w9 ⟨rfl, vs, bs, hFS, _, _⟩
  obtain ⟨R, V, r1, r2, r3, r4⟩ := hFS.hl
  have hfin := hFS.frA HKK.out
  rw [HE4] at hfin
  rw [HE6] at r1
  rw [HE5] at r2 r3
  have RES := hid (show ∃ R V, Blk w9 lsb 32 #[V] ∧ w9.ownsRow wA.heap.size 23 1 V R.length (R.map rowV) ∧ AR w9 wA.heap.size R ∧ R.map (·.2) = ((mts bd fs (List.replicate (n : Int).toNat (-1))).take 2000).map (hdV hd) ∧ Fr wA w9 from
    ⟨R, V, r1, own_base (by rw [← r4, List.length_map] at r2; exact r2) hW, ⟨fun r hr => ⟨Nat.le_trans hW (r3.blk r hr).1, (r3.blk r hr).2⟩, r3.nd⟩, by rw [r4, Int.toNat_natCast, List.map_take], hfin⟩)
  clear r1 r2 r3 r4 hfin hFS HCALL HKK
  go_wp2
  go_end0
  exact ⟨rfl, RES.out⟩
/- Walks of the library's Compare and Equal at lists of ints. -/
theorem lx_drop {xs ys : List Int} {k : Nat} (h1 : k < xs.length) (h2 : k < ys.length) : lx (xs.drop k) (ys.drop k) = if xs[k] < ys[k] then -1 else if ys[k] < xs[k] then 1 else lx (xs.drop (k + 1)) (ys.drop (k + 1)) := by
  rw [List.drop_eq_getElem_cons h1, List.drop_eq_getElem_cons h2]
  conv => lhs; unfold lx
theorem lx_long {xs ys : List Int} {k : Nat} (h1 : k < xs.length) (h2 : ys.length ≤ k) : lx (xs.drop k) (ys.drop k) = 1 := by
  rw [List.drop_eq_getElem_cons h1, List.drop_eq_nil_of_le h2]
  rfl
theorem lx_end {xs ys : List Int} {k : Nat} (h1 : xs.length ≤ k) : lx (xs.drop k) (ys.drop k) = if k < ys.length then -1 else 0 := by
  rw [List.drop_eq_nil_of_le h1]
  split
  · rename_i h
    rw [List.drop_eq_getElem_cons h]; rfl
  · rw [List.drop_eq_nil_of_le (by omega)]; rfl
set_option maxRecDepth 100000 in
set_option maxHeartbeats 2000000 in
theorem compareL (A B : Option Addr) (c d : Nat) (xs ys : List Int) (w : World) (hx : RdSl rdInt w.cell? 1 A xs) (hy : RdSl rdInt w.cell? 1 B ys) (hl : xs.length ≤ 1000) (hl2 : ys.length ≤ 1000) :
    Calls Tryz.prog 32 #[.slice A xs.length c, .slice B ys.length d] w fun e w' => e = .returned (.int .i64 (lx xs ys)) ∧ w' = w := by
  have HX := hid hx
  have HY := hid hy
  obtain ⟨r, er⟩ : ∃ r, lx xs ys = r := ⟨_, rfl⟩
  have ER := hid (show lx (xs.drop 0) (ys.drop 0) = r by rw [List.drop_zero, List.drop_zero]; exact er)
  rw [er]
  clear hx hy er
  go_enter Tryz.func32, Tryz.ntmps32
  go_wp2
  go_loopw [11] (fun t wr => ∃ k : Nat, k ≤ xs.length ∧ k ≤ ys.length ∧ t = .int .i64 k ∧ w = wr ∧ Hid (lx (xs.drop k) (ys.drop k) = r)) (fun t _ => xs.length - (intOf t).toNat)
  case atStart => exact ⟨0, by omega, by omega, rfl, rfl, ER⟩
  case round =>
    clear ER
    obtain ⟨k, hk, hk2, rfl, rfl, E⟩ := hrel
    by_cases hlt : k < xs.length
    · obtain ⟨xb, xo, hA, h0⟩ := HX.out.at_ hlt
      replace h0 := (Fr.refl w).cell h0
      simp only [Nat.mul_one, Nat.add_zero] at h0
      subst hA
      obtain ⟨x, ex⟩ : ∃ x, xs[k] = x := ⟨_, rfl⟩
      rw [ex] at h0
      by_cases hlt2 : k < ys.length
      · obtain ⟨yb, yo, hB, g0⟩ := HY.out.at_ hlt2
        replace g0 := (Fr.refl w).cell g0
        simp only [Nat.mul_one, Nat.add_zero] at g0
        subst hB
        obtain ⟨y, ey⟩ : ∃ y, ys[k] = y := ⟨_, rfl⟩
        rw [ey] at g0
        have e1 : decide ((ys.length : Int) ≤ (k : Int)) = false := decide_eq_false (by omega)
        have ED := E.out
        rw [lx_drop hlt hlt2, ex, ey] at ED
        have HED := hid ED
        clear ED ex ey E
        go_wp2_with fail
        refine (cmpInt x y _).mono ?_
        rintro e w1 ⟨rfl, rfl⟩
        have hic : icmp x y = if x < y then -1 else if y < x then 1 else 0 := rfl
        by_cases h1 : x < y
        · rw [if_pos h1] at hic
          have e2 := HED.out
          rw [if_pos h1] at e2
          subst e2
          rw [hic]
          go_wp2
          go_ret
          exact ⟨rfl, rfl⟩
        · rw [if_neg h1] at hic
          by_cases h2 : y < x
          · rw [if_pos h2] at hic
            have e2 := HED.out
            rw [if_neg h1, if_pos h2] at e2
            subst e2
            rw [hic]
            go_wp2
            go_ret
            exact ⟨rfl, rfl⟩
          · rw [if_neg h2] at hic
            have e2 := HED.out
            rw [if_neg h1, if_neg h2] at e2
            rw [hic]
            have E2 := hid e2
            clear e2 HED
            go_wp2
            go_roundw
            case rel => exact ⟨k + 1, by omega, by omega, by go_num, trivial, E2⟩
            case measure => simp [intOf]; omega
      · have e1 : decide ((ys.length : Int) ≤ (k : Int)) = true := decide_eq_true (by omega)
        have e2 := E.out
        rw [lx_long hlt (by omega)] at e2
        subst e2
        go_wp2
        go_ret
        exact ⟨rfl, rfl⟩
    · obtain rfl : k = xs.length := by omega
      have e2 := E.out
      rw [lx_end (Nat.le_refl _)] at e2
      by_cases hlt2 : xs.length < ys.length
      · have e1 : decide ((xs.length : Int) < (ys.length : Int)) = true := decide_eq_true (by omega)
        rw [if_pos hlt2] at e2
        subst e2
        go_wp2
        go_ret
        exact ⟨rfl, rfl⟩
      · have e1 : decide ((xs.length : Int) < (ys.length : Int)) = false := decide_eq_false (by omega)
        rw [if_neg hlt2] at e2
        subst e2
        go_wp2
        go_ret
        exact ⟨rfl, rfl⟩
set_option maxRecDepth 100000 in
set_option maxHeartbeats 2000000 in
theorem equalL (A B : Option Addr) (c d : Nat) (xs ys : List Int) (w : World) (hx : RdSl rdInt w.cell? 1 A xs) (hy : RdSl rdInt w.cell? 1 B ys) (hl : xs.length ≤ 1000) (hl2 : ys.length ≤ 1000) :
    Calls Tryz.prog 34 #[.slice A xs.length c, .slice B ys.length d] w fun e w' => e = .returned (.bool (decide (xs = ys))) ∧ Fr w w' := by
  have HX := hid hx
  have HY := hid hy
  clear hx hy
  by_cases hlen : xs.length = ys.length
  · obtain ⟨r, er⟩ : ∃ r, decide (xs = ys) = r := ⟨_, rfl⟩
    have ER := hid er
    rw [er]
    have e0 : ((xs.length : Int) != (ys.length : Int)) = false := by rw [hlen]; simp
    have HL := hid hlen
    clear er hlen
    go_enter Tryz.func34, Tryz.ntmps34
    go_wp2
    go_loopw [5, 13] (fun _ t wr => ∃ k : Nat, k ≤ xs.length ∧ t = .int .i64 k ∧ Hid (Fr w wr) ∧ Hid (∀ i (h1 : i < xs.length) (h2 : i < ys.length), i < k → xs[i] = ys[i])) (fun _ t _ => xs.length - (intOf t).toNat)
    case atStart => exact ⟨0, by omega, rfl, hid (Fr.refl _), hid (fun i h1 h2 h => by omega)⟩
    case round =>
      clear e0
      obtain ⟨k, hk, rfl, hF, E⟩ := hrel
      by_cases hlt : k < xs.length
      · have hlt2 : k < ys.length := by have := HL.out; omega
        obtain ⟨xb, xo, hA, h0⟩ := HX.out.at_ hlt
        replace h0 := hF.out.cell h0
        simp only [Nat.mul_one, Nat.add_zero] at h0
        subst hA
        obtain ⟨yb, yo, hB, g0⟩ := HY.out.at_ hlt2
        replace g0 := hF.out.cell g0
        simp only [Nat.mul_one, Nat.add_zero] at g0
        subst hB
        obtain ⟨x, ex⟩ : ∃ x, xs[k] = x := ⟨_, rfl⟩
        obtain ⟨y, ey⟩ : ∃ y, ys[k] = y := ⟨_, rfl⟩
        rw [ex] at h0
        rw [ey] at g0
        by_cases hxy : x = y
        · have en : (x != y) = false := by rw [hxy]; simp
          have E2 := hid (show ∀ i (h1 : i < xs.length) (h2 : i < ys.length), i < k + 1 → xs[i] = ys[i] from fun i h1 h2 h => by
            by_cases e : i = k
            · subst e; rw [ex, ey, hxy]
            · exact E.out i h1 h2 (by omega))
          clear hxy ex ey E
          go_wp2_with fail
          go_quiet (fail)
          have F2 := hid (hF.out.trans ((Fr.refl _).drewN nq))
          clear hF h0 g0
          go_wp2
          go_roundw
          case rel => exact ⟨k + 1, by omega, by go_num, F2, E2⟩
          case measure => simp [intOf]; omega
        · have en : (x != y) = true := by simpa using hxy
          have er : r = false := by
            rw [← ER.out]
            exact decide_eq_false fun e => hxy (by subst e; rw [← ex, ← ey])
          subst er
          clear hxy ex ey E ER
          go_wp2_with fail
          go_quiet (fail)
          go_wp2
          go_ret
          exact ⟨rfl, hF.out.trans ((Fr.refl _).drewN nq)⟩
      · obtain rfl : k = xs.length := by omega
        have er : r = true := by
          rw [← ER.out]
          exact decide_eq_true (List.ext_getElem HL.out fun i h1 h2 => E.out i h1 h2 h1)
        subst er
        go_wp2
        go_ret
        exact ⟨rfl, hF.out⟩
  · have e0 : ((xs.length : Int) != (ys.length : Int)) = true := by simp; omega
    have er : decide (xs = ys) = false := decide_eq_false fun e => hlen (by rw [e])
    rw [er]
    go_enter Tryz.func34, Tryz.ntmps34
    go_wp2
    go_ret
    exact ⟨rfl, Fr.refl _⟩
end Go.Proofs.YtahclhldpcboeaaGreatDoor
