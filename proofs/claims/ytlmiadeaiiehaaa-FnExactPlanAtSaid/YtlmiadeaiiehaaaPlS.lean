/- Copies of plans, on the spec's side: copyPlan (printed by genpls.py). -/
import Derived.Test.YtlmiadeaiiehaaaPlR
import Derived.Test.YtlmiadeaiiehaaaCpyS
import Derived.Test.YtlmiadeaiiehaaaHeldT
namespace Go.Proofs.Ytlmiadeaiiehaaa
open Go Go.RowKit

/-- A row of elements of five cells that grows in a cell of the plan in block G, which was there in w; the row itself lies in new blocks. -/
structure Gw {X : Type} (t : TypeId) (cf : X → List Value) (ok : Mv → X → Prop) (w : World) (G : Nat) (cl : Value → Array Value) (wr : World) (q : List X) (v : Value) : Prop where
  ch : Ch (· = G) w wr
  blk : Blk wr G 47 (cl v)
  own : wr.ownsRow w.heap.size t 5 v q.length (q.flatMap cf)
  kids : ∀ x ∈ q, ok (offR wr w.heap.size v) x
section
variable {X : Type} {t : TypeId} {cf : X → List Value} {ok : Mv → X → Prop} {w : World} {G : Nat} {cl : Value → Array Value} {wr : World} {q : List X} {v : Value}
theorem Gw.start (hB : Blk w G 47 (cl (.slice none 0 0))) : Gw t cf ok w G cl w [] (.slice none 0 0) := ⟨Ch.refl _, hB, own_nil, fun x hx => by simp at hx⟩
theorem Gw.b5 (h : Gw t cf ok w G cl wr q v) (hG : G < w.heap.size) {w3 w5 : World} (hc3 : Fr wr w3) {cs : Array Value} {t' : TypeId} (hg5 : (w3.alloc (.cells cs t')).grownBy w5 v.ownBlock) : Blk w5 G 47 (cl v) := by
  have s3 := hc3.size
  have s4 : w3.heap.size ≤ (w3.alloc (.cells cs t')).heap.size := ((Fr.refl w3).alloc _).size
  have g9lt := h.blk.lt
  exact (hg5.block G (by omega) (fun e => by have := own_lt h.own G e.symm; omega)).trans ((h.blk.fr hc3).alloc _)
theorem Gw.step (h : Gw t cf ok w G cl wr q v) (hm : ∀ m m' x, Mle m m' → ok m x → ok m' x) (hG : G < w.heap.size) {w3 w5 : World} {x : X} (hc3 : Fr wr w3) (hx : ok (fromB w3 wr.heap.size) x) {cs : Array Value} {t' : TypeId} {v5 : Value} {slot : Nat}
    (hO5 : w5.ownsRow w.heap.size t 5 v5 (q.length + 1) (q.flatMap cf ++ [x].flatMap cf)) (hg5 : (w3.alloc (.cells cs t')).grownBy w5 v.ownBlock) (hw5 : Wh (w3.alloc (.cells cs t')) v v5) (hcl : (cl v).setIfInBounds slot v5 = cl v5) : Gw t cf ok w G cl (w5.setCell ⟨G, slot, none⟩ v5) (q ++ [x]) v5 := by
  have s0 := h.ch.size
  have s3 := hc3.size
  have s4 : w3.heap.size ≤ (w3.alloc (.cells cs t')).heap.size := ((Fr.refl w3).alloc _).size
  have s5 := hg5.size
  have g9lt := h.blk.lt
  have hcs : Ch (· = G) w5 (w5.setCell ⟨G, slot, none⟩ v5) := chSet (Ch.refl w5)
  have m0 : Mle (offR w3 w.heap.size v) (offR (w5.setCell ⟨G, slot, none⟩ v5) w.heap.size v5) := ((off_fr ((Fr.refl w3).alloc _)).trans (off_grown hg5 hw5)).trans (off_ch hcs hG)
  refine ⟨?_, ?_, ?_, fun y hy => ?_⟩
  · have c1 : Ch (· = G) w (w3.alloc (.cells cs t')) := (h.ch.trans hc3.ch).trans ((Fr.refl w3).alloc _).ch
    refine Ch.trans ⟨hg5.os.trans c1.os, hg5.tape.trans c1.tape, hg5.output.trans c1.output, Nat.le_trans c1.size hg5.size, fun k hk hS => ?_⟩ hcs
    exact (hg5.block k (Nat.lt_of_lt_of_le hk c1.size) (fun e => by have := own_lt h.own k e.symm; omega)).trans (c1.block k hk hS)
  · rw [← hcl]; exact (h.b5 hG hc3 hg5).set_ slot v5
  · have := own_ch hO5 hcs hG
    rw [List.length_append, List.length_singleton, List.flatMap_append]
    exact this
  · rcases List.mem_append.1 hy with hy | hy
    · exact hm _ _ _ ((off_fr hc3).trans m0) (h.kids y hy)
    · have hyx : y = x := by simpa using hy
      subst hyx
      exact hm _ _ _ ((off_from (by omega) (fun k hk => (own_lt h.own k hk).2)).trans m0) hx
end
theorem cellsP_len (q : List (Pl × Sl3)) : (q.flatMap fun x => cellsP x.1 x.2).length = q.length * 5 := by
  induction q with
  | nil => rfl
  | cons a r ih => rw [List.flatMap_cons, List.length_append, ih]; simp [cellsP]; omega
theorem cellsP_one (q : List (Pl × Sl3)) : (q.flatMap fun x => cellsP x.1 x.2).all (·.oneCell') = true := by
  rw [List.all_eq_true]
  intro u hu
  rw [List.mem_flatMap] at hu
  obtain ⟨x, _, hx⟩ := hu
  simp only [cellsP, List.mem_cons, List.not_mem_nil, or_false] at hx
  rcases hx with rfl | rfl | rfl | rfl | rfl <;> rfl
/-- Plans that a call has laid. -/
def rdLaidP : Rd (Pl × Sl3) := fun _ c x => c 0 = some (.int .i64 x.1.kind) ∧ c 1 = some (.int .i64 x.1.table) ∧ c 2 = some (.slice x.2.a0 x.1.exprs.length x.2.c0) ∧ c 3 = some (.slice x.2.a1 x.1.cols.length x.2.c1) ∧ c 4 = some (.slice x.2.a2 x.1.kids.length x.2.c2)
theorem laid_rdP {m : Nat} {mem : Mv} {A : Option Addr} {q : List (Pl × Sl3)} (h : RdSl rdLaidP mem 5 A q) (hk : ∀ x ∈ q, PlOk m mem x.1 x.2) : RdSl (rdPl (m + 1)) mem 5 A (q.map (·.1)) := fun hne => by
  have hne' : q ≠ [] := fun e => hne (by rw [e]; rfl)
  obtain ⟨b, o, hA, hc⟩ := h hne'
  refine ⟨b, o, hA, fun i hi => ?_⟩
  have hi' : i < q.length := by simpa using hi
  obtain ⟨c0, c1, c2, c3, c4⟩ := hc i hi'
  rw [List.getElem_map]
  exact ok_rdPl c0 c1 c2 c3 c4 (hk q[i] (List.getElem_mem hi'))
theorem own_P {w : World} {base e n cap m : Nat} {A : Option Addr} {q : List (Pl × Sl3)} (h : w.ownsRow base e 5 (.slice A n cap) n (q.flatMap fun x => cellsP x.1 x.2)) (hn : n = q.length) (hk : ∀ x ∈ q, PlOk m (fromB w base) x.1 x.2) : RdSl (rdPl (m + 1)) (fromB w base) 5 A (q.map (·.1)) :=
  laid_rdP (own_rd (f := fun x : Pl × Sl3 => cellsP x.1 x.2) h hn (fun _ => rfl) fun m c x hc => ⟨hc 0 (by simp [cellsP]), hc 1 (by simp [cellsP]), hc 2 (by simp [cellsP]), hc 3 (by simp [cellsP]), hc 4 (by simp [cellsP])⟩) hk
theorem blk_cellsP {w : World} {g : Nat} {y : Pl × Sl3} (hB : ∃ e', Blk w g e' (cellsP y.1 y.2).toArray) : ∀ (j : Nat) u, ([y].flatMap fun x : Pl × Sl3 => cellsP x.1 x.2)[j]? = some u → w.cell? ⟨g, 0 + j, none⟩ = some u := fun j u hu => by
  obtain ⟨e', hB⟩ := hB
  rw [Nat.zero_add, hB.cell]
  simpa using hu
set_option maxRecDepth 100000 in
theorem upon_appP {o : Oper} {a : Act} {K : Act → World → Prop} {Q : Exit → Act → World → Prop} {w : World} (base : Nat) (v : Value) (n : Nat) (xs : List Value) (hown : w.ownsRow base 47 5 v n xs) (hn : n ≤ 549755813888) (hbase : base ≤ w.heap.size)
    (g m cap : Nat) (ys : List (Pl × Sl3)) (hm : ys.length = m) (hm2 : m ≤ 549755813888) (hB : ∀ (j : Nat) u, (ys.flatMap fun x => cellsP x.1 x.2)[j]? = some u → w.cell? ⟨g, 0 + j, none⟩ = some u)
    (h : ∀ v' w', w'.ownsRow base 47 5 v' (n + m) (xs ++ ys.flatMap fun x => cellsP x.1 x.2) → w.grownBy w' v.ownBlock → Wh w v v' → K (a.put o.dst v') w') :
    Oper.upon Try.prog o a K Q ((Sem.run Try.prog (Builtin.append_ #[45, 45] 45 #[v, .slice (some ⟨g, 0, none⟩) m cap]) w).andThen fun a w' => .ok (.value a) w') := by
  obtain ⟨i, hi, hz, hsi, hb⟩ := info_parts (P := Try.prog) (e := 47) (z := .agg #[.int .i64 0, .int .i64 0, .slice none 0 0, .slice none 0 0, .slice none 0 0]) (size := 5) (bytes := 88) (by kernel_rfl)
  obtain ⟨v', w', hr, h2, h3, h4⟩ := app_where (P := Try.prog) w base 45 45 47 i (.agg #[.int .i64 0, .int .i64 0, .slice none 0 0, .slice none 0 0, .slice none 0 0]) 5 88 Try.underlying45 hi hz hsi hb rfl (by decide) v n xs hown ⟨g, 0, none⟩ m cap (ys.flatMap fun x => cellsP x.1 x.2) (by rw [cellsP_len, hm]) (cells_add hB) (List.all_eq_true.1 (cellsP_one ys)) (by unfold maxLen; omega) (by omega) hbase
  rw [hr]
  exact h v' w' h2 h3 h4
set_option maxRecDepth 100000 in
/-- append of a slice of ints that reads as a list to an empty row of the call's own. -/
theorem upon_ints {o : Oper} {a : Act} {K : Act → World → Prop} {Q : Exit → Act → World → Prop} {w : World} (base : Nat) (v : Value) (hown : w.ownsRow base 3 1 v 0 []) (hbase : base ≤ w.heap.size)
    (A : Option Addr) (cap : Nat) (ys : List Int) (hm2 : ys.length ≤ 1048576) (hR : RdSl rdInt w.cell? 1 A ys)
    (h : ∀ v' w', w'.ownsRow base 3 1 v' ys.length (ys.map iv) → w.grownBy w' v.ownBlock → K (a.put o.dst v') w') :
    Oper.upon Try.prog o a K Q ((Sem.run Try.prog (Builtin.append_ #[26, 26] 26 #[v, .slice A ys.length cap]) w).andThen fun a w' => .ok (.value a) w') := by
  obtain ⟨i, hi, hz, hsi, hb⟩ := info_parts (P := Try.prog) (e := 3) (z := .int .i64 0) (size := 1) (bytes := 8) (by kernel_rfl)
  cases A with
  | none =>
    have h0 : ys = [] := by
      by_cases hy : ys = []
      · exact hy
      · obtain ⟨b, o, hA, _⟩ := hR hy
        cases hA
    subst h0
    have hr : (Builtin.append_ #[26, 26] 26 #[v, .slice none 0 cap]).run Try.prog w = .ok v w := by
      rcases hown.2 with ⟨rfl, _⟩ | ⟨g, cp, cur, rfl, _, _, hnc, _⟩
      · simp [Builtin.append_, run_underlying Try.underlying26, sizeOf, typeInfo, hi, Builtin.lenOf, Builtin.firstCells]
      · simp [Builtin.append_, run_underlying Try.underlying26, sizeOf, typeInfo, hi, Builtin.lenOf, Builtin.firstCells, storeCells]
    show Oper.upon Try.prog o a K Q ((Sem.run Try.prog (Builtin.append_ #[26, 26] 26 #[v, .slice none 0 cap]) w).andThen fun a w' => .ok (.value a) w')
    rw [hr]
    exact h v w hown ⟨rfl, rfl, rfl, Nat.le_refl _, fun _ _ _ => rfl⟩
  | some ad =>
    obtain ⟨v', w', hr, h2, h3, _⟩ := run_append_own (P := Try.prog) w base 26 26 3 i (.int .i64 0) 1 8 Try.underlying26 hi hz hsi hb rfl (by decide) v 0 [] hown ad ys.length cap (ys.map iv) (by simp) (fun j u hu => by
      have hy : ys ≠ [] := by rintro rfl; simp at hu
      obtain ⟨b, o, hA, hc⟩ := hR hy
      injection hA with hA
      subst hA
      have hj : j < ys.length := by
        rcases Nat.lt_or_ge j ys.length with hj | hj
        · exact hj
        · rw [List.getElem?_eq_none (by simpa using hj)] at hu; cases hu
      have e1 : (⟨b, o, none⟩ : Addr).add j = ⟨b, o + j, none⟩ := by
        unfold Addr.add
        split
        · rename_i hj; rw [hj]; rfl
        · simp
      rw [e1]
      have h9 := hc j hj
      simp only [rdInt, Nat.mul_one, Nat.add_zero] at h9
      rw [h9, ← hu]
      simp [List.getElem?_eq_getElem hj]) (by simp [Value.oneCell']) (by unfold maxLen; omega) (by omega) hbase
    rw [hr]
    refine h v' w' ?_ h3
    simpa using h2
/-- The cells of the blocks from lo on but G. -/
def butG (w : World) (lo G : Nat) : Mv := fun p => if lo ≤ p.block ∧ p.block ≠ G then w.cell? p else none
theorem butG_ch {w w' : World} {lo G : Nat} (hc : Ch (· = G) w w') : Mle (butG w lo G) (butG w' lo G) := fun p v e => by
  unfold butG at e ⊢
  split at e
  · rename_i h; rw [if_pos h]; exact hc.cell h.2 e
  · cases e
theorem butG_le {w : World} {lo G : Nat} : Mle (butG w lo G) (fromB w lo) := fun p v e => by
  unfold butG at e; unfold fromB
  split at e
  · rename_i h; rw [if_pos h.1]; exact e
  · cases e
/-- The state behind the copy's first region: the copy itself in block G, its columns in a row of its own. -/
structure Mid1 (W0 : World) (e : Pl) (G : Nat) (A' : Option Addr) (c' : Nat) (W1 : World) : Prop where
  fr : Fr W0 W1
  lo : W0.heap.size ≤ G
  blk : Blk W1 G 47 #[.int .i64 e.kind, .int .i64 e.table, .slice none 0 0, .slice A' e.cols.length c', .slice none 0 0]
  rd : RdSl rdInt (butG W1 W0.heap.size G) 1 A' e.cols
  cap : e.cols.length ≤ c'
theorem mid1 {W0 w5 W1 : World} {e : Pl} {G : Nat} {A' : Option Addr} {c' : Nat} (hO : w5.ownsRow W0.heap.size 3 1 (.slice A' e.cols.length c') e.cols.length (e.cols.map iv)) (hF : Fr W0 w5) (hG : some G ≠ (Value.slice A' e.cols.length c').ownBlock) (lo : W0.heap.size ≤ G) (hc : Ch (· = G) w5 W1)
    (blk : Blk W1 G 47 #[.int .i64 e.kind, .int .i64 e.table, .slice none 0 0, .slice A' e.cols.length c', .slice none 0 0]) : Mid1 W0 e G A' c' W1 := by
  refine ⟨hc.fr (fun k hk => by omega) hF, lo, blk, ?_, ?_⟩
  · refine RdSl.mono rdInt_mono ?_ (butG_ch hc)
    have h := own_int hO rfl
    intro hne
    obtain ⟨b, o, rfl, hr⟩ := h hne
    refine ⟨b, o, rfl, fun i hi => ?_⟩
    have h9 := hr i hi
    unfold fromB at h9
    unfold butG
    simp only [rdInt] at h9 ⊢
    split at h9
    · rename_i hb
      rw [if_pos ⟨hb, fun e => hG (by simp [Value.ownBlock, e])⟩]; exact h9
    · cases h9
  · obtain ⟨_, _, hv, hc⟩ := own_cap hO
    cases hv; exact hc
theorem Gw.finE {m : Nat} {w : World} {G : Nat} {cl : Value → Array Value} {wr : World} {q : List (Ex × Option Addr × Nat)} {v : Value} {xs : List Ex} (h : Gw 93 cellsE (KidsOk m) w G cl wr q v) (hq : q.map (·.1) = xs) : ∃ A c, v = .slice A xs.length c ∧ xs.length ≤ c ∧ RdSl (rdEx (m + 1)) (fromB wr w.heap.size) 5 A xs := by
  obtain ⟨A, cap, rfl, hc⟩ := own_cap h.own
  have hl : q.length = xs.length := by rw [← hq, List.length_map]
  have hR := own_E (m := m) h.own rfl (fun x hx => (h.kids x hx).mono off_le)
  rw [hq] at hR
  exact ⟨A, cap, by rw [hl], by omega, hR⟩
theorem Gw.finP {m : Nat} {w : World} {G : Nat} {cl : Value → Array Value} {wr : World} {q : List (Pl × Sl3)} {v : Value} {xs : List Pl} (h : Gw 47 (fun x : Pl × Sl3 => cellsP x.1 x.2) (fun mm (x : Pl × Sl3) => PlOk m mm x.1 x.2) w G cl wr q v) (hq : q.map (·.1) = xs) : ∃ A c, v = .slice A xs.length c ∧ xs.length ≤ c ∧ RdSl (rdPl (m + 1)) (fromB wr w.heap.size) 5 A xs := by
  obtain ⟨A, cap, rfl, hc⟩ := own_cap h.own
  have hl : q.length = xs.length := by rw [← hq, List.length_map]
  have hR := own_P (m := m) h.own rfl (fun x hx => (h.kids x hx).mono off_le)
  rw [hq] at hR
  exact ⟨A, cap, by rw [hl], by omega, hR⟩
def SpecCopyP (n : Nat) : Prop := ∀ (e : Pl) (s : Sl3) (w : World), PlOk n w.cell? e s → ndT n e ≤ 1048576 →
    Calls Try.prog 36 #[plV e s] w fun r w' => ∃ s' : Sl3, r = .returned (plV e s') ∧ PlOk n (fromB w' w.heap.size) e s' ∧ Fr w w'
attribute [-go_sem] Builtin.append_
set_option maxRecDepth 100000 in
set_option maxHeartbeats 4000000 in
theorem specCopyP (n : Nat) : SpecCopyP n := by
  induction n using Nat.strongRecOn with
  | _ n ih =>
    intro e s w hx hsm
    obtain ⟨A0, c0, A1, c1, A2, c2⟩ := s
    have hp := ndT_parts hsm
    have PX := hid hp.2.1
    have hl0 := hp.2.2.1
    have hl1 := hp.2.2.2.1
    have hl2 := hp.2.2.2.2.2
    have SM := hid hsm
    have HX := hid hx
    have IH := hid ih
    clear hx ih hsm hp
    unfold plV
    simp only
    have F2 : Fr w ((w.alloc (.cells #[.int .i64 e.kind, .int .i64 e.table, .slice A0 e.exprs.length c0, .slice A1 e.cols.length c1, .slice A2 e.kids.length c2] 47)).alloc (.cells #[.int .i64 0, .int .i64 0, .slice none 0 0, .slice none 0 0, .slice none 0 0] 47)) := ((Fr.refl _).alloc _).alloc _
    have BA := (Blk.new w 47 #[.int .i64 e.kind, .int .i64 e.table, .slice A0 e.exprs.length c0, .slice A1 e.cols.length c1, .slice A2 e.kids.length c2]).alloc (.cells #[.int .i64 0, .int .i64 0, .slice none 0 0, .slice none 0 0, .slice none 0 0] 47)
    have BR := blk_new1 w (.cells #[.int .i64 e.kind, .int .i64 e.table, .slice A0 e.exprs.length c0, .slice A1 e.cols.length c1, .slice A2 e.kids.length c2] 47) 47 #[.int .i64 0, .int .i64 0, .slice none 0 0, .slice none 0 0, .slice none 0 0]
    have HS0 : Hid (((w.alloc (.cells #[.int .i64 e.kind, .int .i64 e.table, .slice A0 e.exprs.length c0, .slice A1 e.cols.length c1, .slice A2 e.kids.length c2] 47)).alloc (.cells #[.int .i64 0, .int .i64 0, .slice none 0 0, .slice none 0 0, .slice none 0 0] 47)).heap.size = w.heap.size + 1 + 1) := hid (by rw [World.size_alloc, World.size_alloc])
    go_enter Try.func36, Try.ntmps36
    go_wp2_with fail
    generalize (w.alloc (.cells #[.int .i64 e.kind, .int .i64 e.table, .slice A0 e.exprs.length c0, .slice A1 e.cols.length c1, .slice A2 e.kids.length c2] 47)).alloc (.cells #[.int .i64 0, .int .i64 0, .slice none 0 0, .slice none 0 0, .slice none 0 0] 47) = W0 at F2 BA BR HS0 ⊢
    rename_i Q1 K1 hK1
    have MERGE : ∀ (G : Nat) (A' : Option Addr) (c' : Nat) (x10 x14 : Value) (W1 : World), Hid (Mid1 W0 e G A' c' W1) → K1 { tmps := #[.agg #[.int .i64 e.kind, .int .i64 e.table, .slice A0 e.exprs.length c0, .slice A1 e.cols.length c1, .slice A2 e.kids.length c2], .pointer (some ⟨w.heap.size, 0, none⟩), .pointer (some ⟨w.heap.size + 1, 0, none⟩), .pointer (some ⟨G, 0, none⟩), undef, undef, .pointer (some ⟨w.heap.size, 0, none⟩), .int .i64 e.kind, .pointer (some ⟨w.heap.size, 1, none⟩), .int .i64 e.table, x10, .pointer (some ⟨w.heap.size, 3, none⟩), .slice A1 e.cols.length c1, .slice A' e.cols.length c', x14, undef, undef, undef, undef, undef, undef, undef, undef, undef, undef, undef, undef, undef, undef, undef, undef, undef, undef, undef, undef, undef, undef, undef, undef, undef, undef, undef, undef, undef, undef, undef, undef, undef, undef, undef, undef, undef], defers := [] } W1 := by
      intro G A' c' x10 x14 W1 MI
      refine hK1 _ _ ?_
      clear hK1 K1
      have FM := MI.out.fr
      have hlo := MI.out.lo
      have s0 := HS0.out
      have hG1 := MI.out.blk.lt
      have BM := MI.out.blk
      have HGW := hid (show w.heap.size + 1 < G by omega)
      have ST1 : Hid (Gw 93 cellsE (KidsOk (n - 1)) W1 G (fun v => #[.int .i64 e.kind, .int .i64 e.table, v, .slice A' e.cols.length c', .slice none 0 0]) W1 [] (.slice none 0 0)) := hid (Gw.start BM)
      have HW0 := hid hlo
      have HG1 := hid hG1
      clear BM s0 hlo hG1
      go_wp2_with fail
      go_loopw [4] (fun i wr => ∃ (k : Nat) (q : List (Ex × Option Addr × Nat)) (v : Value), i = .int .i64 k ∧ k ≤ e.exprs.length ∧ Hid (q.length = k ∧ q.map (·.1) = e.exprs.take k) ∧ Hid (Gw 93 cellsE (KidsOk (n - 1)) W1 G (fun v => #[.int .i64 e.kind, .int .i64 e.table, v, .slice A' e.cols.length c', .slice none 0 0]) wr q v)) (fun i _ => e.exprs.length - (intOf i).toNat)
      case atStart => exact ⟨0, [], .slice none 0 0, rfl, by omega, hid ⟨rfl, by simp⟩, ST1⟩
      case round =>
        clear ST1
        revert wr
        intro W2 hrel
        obtain ⟨k, q, v, rfl, hkN, HQ, INV⟩ := hrel
        have F3 : Fr W0 W2 := INV.out.ch.fr (fun k hk => by have := HW0.out; omega) FM
        obtain ⟨a0, a1, a2, a3, a4, _⟩ := (BA.fr F3).five
        have c4 : W2.cell? ⟨G, 2, none⟩ = some v := INV.out.blk.cell 2
        by_cases hlt' : k < e.exprs.length
        · cases n with
          | zero => exfalso; rw [HX.out.r0.ex0] at hlt'; simp at hlt'
          | succ n =>
            obtain ⟨kb, ko, K, kc, hA, d0, d1, d2, d3, d4, rK, rl⟩ := HX.out.r0.ex hlt'
            simp only at hA
            subst hA
            have RK := hid (rK.fr (rdEx_mono n) (F2.trans F3))
            clear rK
            replace d0 := (F2.trans F3).cell d0
            replace d1 := (F2.trans F3).cell d1
            replace d2 := (F2.trans F3).cell d2
            replace d3 := (F2.trans F3).cell d3
            replace d4 := (F2.trans F3).cell d4
            go_wp2_with fail
            first | (go_region_with (first
              | (go_at_call 59; refine (specCopy n e.exprs[k] K kc _ (RK.out.fr (rdEx_mono n) (Fr.refl _).drew) (PX.out.2 k hlt')).mono ?_; rintro r w3 ⟨A3, c3, rfl, hx3, b3⟩; have hc3 := (Fr.refl W2).drew.trans b3; have c4' : w3.cell? ⟨G, 2, none⟩ = some v := hc3.cell c4; have c4'' : (w3.alloc (.cells #[.int .i64 e.exprs[k].kind, .int .i64 e.exprs[k].col, .bool e.exprs[k].val.null, .int .i64 e.exprs[k].val.n, .slice A3 e.exprs[k].kids.length c3] 93)).cell? ⟨G, 2, none⟩ = some v := (hc3.alloc _).cell c4)
              | (have q2 : q.length ≤ 549755813888 := (by have := HQ.out.1; omega); refine upon_appW W1.heap.size v q.length (q.flatMap cellsE) ?own q2 ?base w3.heap.size 1 1 [(e.exprs[k], A3, c3)] rfl ?om ?hB ?_; (case own => exact own_fr INV.out.own (hc3.alloc _)); (case base => exact Nat.le_trans INV.out.ch.size (hc3.alloc _).size); (case om => omega); (case hB => exact blk_cells (blk_new rfl)); intro v5 w5 hO5 hg5 hw5; obtain ⟨A5, cap5, rfl⟩ := own_form hO5; have B5 := INV.out.b5 HG1.out hc3 hg5; have s4 : w5.cell? ⟨G, 2, none⟩ = some v := B5.cell 2; have f4 := B5.frozen 2))) | fail
            all_goals have INV' := hid (INV.out.step (fun _ _ _ hm h => h.mono hm) HG1.out (slot := 2) hc3 hx3 hO5 hg5 hw5 rfl)
            all_goals clear c4 c4' c4'' s4 f4 hO5
            all_goals go_wp2
            all_goals go_roundw
            all_goals first
              | exact ⟨k + 1, _, _, by go_num, by omega, hid ⟨by rw [List.length_append, HQ.out.1]; rfl, by rw [List.map_append, HQ.out.2, List.map_cons, List.map_nil, List.take_succ_eq_append_getElem hlt']⟩, INV'⟩
              | (simp [intOf]; omega)
        · obtain rfl : k = e.exprs.length := by omega
          have hq2 := HQ.out.2
          rw [List.take_length] at hq2
          obtain ⟨B0, e0, rfl, he0, hR0⟩ := INV.out.finE hq2
          have R0 : Hid (RdSl (rdEx n) (fromB W2 W1.heap.size) 5 B0 e.exprs) := hid (by
            cases n with
            | zero => intro hne; exact absurd HX.out.r0.ex0 hne
            | succ n => exact hR0)
          have HE0 := hid he0
          have C12 := hid INV.out.ch
          have ST2 : Hid (Gw 47 (fun x : Pl × Sl3 => cellsP x.1 x.2) (fun mm (x : Pl × Sl3) => PlOk (n - 1) mm x.1 x.2) W2 G (fun v => #[.int .i64 e.kind, .int .i64 e.table, .slice B0 e.exprs.length e0, .slice A' e.cols.length c', v]) W2 [] (.slice none 0 0)) := hid (Gw.start INV.out.blk)
          have HG2 := hid (Nat.lt_of_lt_of_le HG1.out C12.out.size)
          clear hR0 hq2 HQ INV c4 he0
          go_wp2_with fail
          clear a0 a1 a2 a3 a4
          go_loopw [5] (fun i wr => ∃ (k : Nat) (q : List (Pl × Sl3)) (v : Value), i = .int .i64 k ∧ k ≤ e.kids.length ∧ Hid (q.length = k ∧ q.map (·.1) = e.kids.take k) ∧ Hid (Gw 47 (fun x : Pl × Sl3 => cellsP x.1 x.2) (fun mm (x : Pl × Sl3) => PlOk (n - 1) mm x.1 x.2) W2 G (fun v => #[.int .i64 e.kind, .int .i64 e.table, .slice B0 e.exprs.length e0, .slice A' e.cols.length c', v]) wr q v)) (fun i _ => e.kids.length - (intOf i).toNat)
          case atStart => exact ⟨0, [], .slice none 0 0, rfl, by omega, hid ⟨rfl, by simp⟩, ST2⟩
          case round =>
            clear ST2
            revert wr
            intro W3 hrel
            obtain ⟨k, q, v, rfl, hkN, HQ, INV⟩ := hrel
            have F4 : Fr W0 W3 := INV.out.ch.fr (fun k hk => by have := HW0.out; omega) F3
            obtain ⟨a0, a1, a2, a3, a4, _⟩ := (BA.fr F4).five
            have c4 : W3.cell? ⟨G, 4, none⟩ = some v := INV.out.blk.cell 4
            by_cases hlt' : k < e.kids.length
            · cases n with
              | zero => exfalso; rw [HX.out.r2.pl0] at hlt'; simp at hlt'
              | succ n =>
                obtain ⟨kb, ko, ks, hA, d0, d1, d2, d3, d4, ok⟩ := HX.out.r2.pl hlt'
                simp only at hA
                subst hA
                have OK := hid (ok.fr (F2.trans F4))
                have MK := hid (ndT_kid SM.out hlt')
                clear ok
                replace d0 := (F2.trans F4).cell d0
                replace d1 := (F2.trans F4).cell d1
                replace d2 := (F2.trans F4).cell d2
                replace d3 := (F2.trans F4).cell d3
                replace d4 := (F2.trans F4).cell d4
                go_wp2_with fail
                first | (go_region_with (first
                  | (go_at_call 36; refine (IH.out n (by omega) e.kids[k] ks _ (OK.out.fr (Fr.refl _).drew) MK.out).mono ?_; rintro r w3 ⟨s3, rfl, hx3, b3⟩; have hc3 := (Fr.refl W3).drew.trans b3; have c4' : w3.cell? ⟨G, 4, none⟩ = some v := hc3.cell c4; have c4'' : (w3.alloc (.cells #[.int .i64 e.kids[k].kind, .int .i64 e.kids[k].table, .slice s3.a0 e.kids[k].exprs.length s3.c0, .slice s3.a1 e.kids[k].cols.length s3.c1, .slice s3.a2 e.kids[k].kids.length s3.c2] 47)).cell? ⟨G, 4, none⟩ = some v := (hc3.alloc _).cell c4)
                  | (have q2 : q.length ≤ 549755813888 := (by have := HQ.out.1; omega); refine upon_appP W2.heap.size v q.length (q.flatMap fun x => cellsP x.1 x.2) ?own q2 ?base w3.heap.size 1 1 [(e.kids[k], s3)] rfl ?om ?hB ?_; (case own => exact own_fr INV.out.own (hc3.alloc _)); (case base => exact Nat.le_trans INV.out.ch.size (hc3.alloc _).size); (case om => omega); (case hB => exact blk_cellsP (blk_new rfl)); intro v5 w5 hO5 hg5 hw5; obtain ⟨A5, cap5, rfl⟩ := own_form hO5; have B5 := INV.out.b5 HG2.out hc3 hg5; have s4 : w5.cell? ⟨G, 4, none⟩ = some v := B5.cell 4; have f4 := B5.frozen 4))) | fail
                all_goals have INV' := hid (INV.out.step (x := (e.kids[k], s3)) (fun _ _ _ hm h => h.mono hm) HG2.out (slot := 4) hc3 hx3 hO5 hg5 hw5 rfl)
                all_goals clear c4 c4' c4'' s4 f4 hO5
                all_goals go_wp2
                all_goals go_roundw
                all_goals first
                  | exact ⟨k + 1, _, _, by go_num, by omega, hid ⟨by rw [List.length_append, HQ.out.1]; rfl, by rw [List.map_append, HQ.out.2, List.map_cons, List.map_nil, List.take_succ_eq_append_getElem hlt']⟩, INV'⟩
                  | (simp [intOf]; omega)
            · obtain rfl : k = e.kids.length := by omega
              have hq2 := HQ.out.2
              rw [List.take_length] at hq2
              obtain ⟨B2, e2, rfl, he2, hR2⟩ := INV.out.finP hq2
              have R2 : Hid (RdSl (rdPl n) (fromB W3 W2.heap.size) 5 B2 e.kids) := hid (by
                cases n with
                | zero => intro hne; exact absurd HX.out.r2.pl0 hne
                | succ n => exact hR2)
              have HE2 := hid he2
              have C23 := hid INV.out.ch
              obtain ⟨g0, g1, g2, g3, g4, _⟩ := INV.out.blk.five
              obtain ⟨z0, z1, z2, z3, z4, f0, f1, f2, f3, f4⟩ := (BR.fr F4).five
              have FF := hid (F2.trans F4)
              have z12 := C12.out.size
              have z23 := C23.out.size
              have zg := HG1.out
              have zw := HGW.out
              have zlo := HW0.out
              have zs := HS0.out
              clear c4 hR2 hq2 HQ INV he2
              go_wp2
              have CF : Ch (· = w.heap.size + 1) W3 (((((W3.setCell ⟨w.heap.size + 1, 0, none⟩ (.int .i64 e.kind)).setCell ⟨w.heap.size + 1, 1, none⟩ (.int .i64 e.table)).setCell ⟨w.heap.size + 1, 2, none⟩ (.slice B0 e.exprs.length e0)).setCell ⟨w.heap.size + 1, 3, none⟩ (.slice A' e.cols.length c')).setCell ⟨w.heap.size + 1, 4, none⟩ (.slice B2 e.kids.length e2)) := chSet (chSet (chSet (chSet (chSet (Ch.refl W3)))))
              refine bodyPost_ret (v := plV e ⟨B0, e0, A', c', B2, e2⟩) (by simp [results, Try.results36, go_sem, z0, z1, z2, z3, z4]) rfl ⟨⟨B0, e0, A', c', B2, e2⟩, rfl, ?_, CF.fr (fun k hk => by omega) FF.out⟩
              have mF : ∀ lo, w.heap.size + 1 < lo → Mle (fromB W3 lo) (fromB _ w.heap.size) := fun lo h => (CF.mle_from (lo := lo) (fun k hk => by omega)).trans (fromB_lo (by omega))
              exact ⟨R0.out.mono (rdEx_mono n) ((C23.out.mle_from (fun k hk => by omega)).trans (mF _ (by omega))), HX.out.l0, HE0.out, MI.out.rd.mono rdInt_mono ((((butG_ch C12.out).trans (butG_ch C23.out)).trans butG_le).trans (mF _ (by omega))), HX.out.l1, MI.out.cap, R2.out.mono (rdPl_mono n) (mF _ (by omega)), HX.out.l2, HE2.out⟩
    clear hK1
    have hlt := BA.lt
    have hlt2 := BR.lt
    obtain ⟨a0, a1, a2, a3, a4, _⟩ := BA.five
    have keepQ : ∀ W', Fr W0 W' → W'.cell? ⟨w.heap.size, 0, none⟩ = some (.int .i64 e.kind) ∧ W'.cell? ⟨w.heap.size, 1, none⟩ = some (.int .i64 e.table) ∧ W'.cell? ⟨w.heap.size, 3, none⟩ = some (.slice A1 e.cols.length c1) := fun W' h => ⟨h.cell a0, h.cell a1, h.cell a3⟩
    have D1 : Fr W0 W0.drew := (Fr.refl _).drew
    have hr1 : RdSl rdInt W0.cell? 1 A1 e.cols := HX.out.r1.fr rdInt_mono F2
    have HR1 := hid hr1
    clear a0 a1 a2 a3 a4 hr1
    refine wp_region_T (fun W' => W'.cell? ⟨w.heap.size, 0, none⟩ = some (.int .i64 e.kind) ∧ W'.cell? ⟨w.heap.size, 1, none⟩ = some (.int .i64 e.table) ∧ W'.cell? ⟨w.heap.size, 3, none⟩ = some (.slice A1 e.cols.length c1)) 10 (by kernel_rfl) ?_
    have HS := keepQ _ D1
    ((refine wpAnyT_take 0 (v := ?_) rfl (by kernel_rfl) (fun _ _ _ h => h) (Or.inl ⟨by rfl, ?_⟩) (by assumption) ?_; rotate_left; (focus (intro W hSw; (try dsimp only at hSw); go_simp; (try with_reducible rfl); done)); (try simp only [Act.put, List.setIfInBounds_toArray, List.set_cons_zero, List.set_cons_succ])); (refine wpAnyT_take 1 (v := ?_) rfl (by kernel_rfl) (fun _ _ _ h => h) (Or.inl ⟨by rfl, ?_⟩) (by assumption) ?_; rotate_left; (focus (intro W hSw; (try dsimp only at hSw); go_simp; (try with_reducible rfl); done)); (try simp only [Act.put, List.setIfInBounds_toArray, List.set_cons_zero, List.set_cons_succ])); (refine wpAnyT_take 2 (v := ?_) rfl (by kernel_rfl) (fun _ _ _ h => h) (Or.inl ⟨by rfl, ?_⟩) (by assumption) ?_; rotate_left; (focus (intro W hSw; (try dsimp only at hSw); go_simp; (try with_reducible rfl); done)); (try simp only [Act.put, List.setIfInBounds_toArray, List.set_cons_zero, List.set_cons_succ])); (refine wpAnyT_take 3 (v := ?_) rfl (by kernel_rfl) (fun _ _ _ h => h) (Or.inl ⟨by rfl, ?_⟩) (by assumption) ?_; rotate_left; (focus (intro W hSw; (try dsimp only at hSw); go_simp; (try with_reducible rfl); done)); (try simp only [Act.put, List.setIfInBounds_toArray, List.set_cons_zero, List.set_cons_succ])); (refine wpAnyT_take 5 (v := ?_) rfl (by kernel_rfl) (fun _ _ _ h => h) (Or.inl ⟨by rfl, ?_⟩) (by assumption) ?_; rotate_left; (focus (intro W hSw; (try dsimp only at hSw); go_simp; (try with_reducible rfl); done)); (try simp only [Act.put, List.setIfInBounds_toArray, List.set_cons_zero, List.set_cons_succ])); (refine wpAnyT_take 6 (v := ?_) rfl (by kernel_rfl) (fun _ _ _ h => h) (Or.inl ⟨by rfl, ?_⟩) (by assumption) ?_; rotate_left; (focus (intro W hSw; (try dsimp only at hSw); go_simp; (try with_reducible rfl); done)); (try simp only [Act.put, List.setIfInBounds_toArray, List.set_cons_zero, List.set_cons_succ])))
    (refine wpAnyT_two 4 9 rfl rfl (by kernel_rfl) (fun K hK => ?_) (fun K hK => ?_)) <;> go_simp
    · have HS := keepQ _ (show Fr W0 (W0.alloc (.cells #[] 3)).drew by (repeat (first | with_reducible exact Fr.refl _ | with_reducible assumption | with_reducible refine Fr.alloc ?_ _ | with_reducible refine Fr.drew ?_ | with_reducible refine Fr.drewN ?_ _ | (with_reducible refine Fr.setNew2 ?_ ?_ _; · (simp <;> omega)) | with_reducible refine Fr.trans ?_ (by assumption))))
      ((try dsimp only); refine hK.out _ _ (fun _ => HS) (fun _ => ?_); clear hK K; (try simp only [Act.put, List.setIfInBounds_toArray, List.set_cons_zero, List.set_cons_succ]))
      (refine wpAnyT_two 7 9 rfl rfl (by kernel_rfl) (fun K hK => ?_) (fun K hK => ?_)) <;> go_simp
      · refine upon_ints W0.heap.size (.slice (some ⟨W0.heap.size, 0, none⟩) 0 0) (own_drew (own_empty (Nat.le_refl _))) (by simp) A1 c1 e.cols hl1 (HR1.out.fr rdInt_mono (show Fr W0 (W0.alloc (.cells #[] 3)).drew by (repeat (first | with_reducible exact Fr.refl _ | with_reducible assumption | with_reducible refine Fr.alloc ?_ _ | with_reducible refine Fr.drew ?_ | with_reducible refine Fr.drewN ?_ _ | (with_reducible refine Fr.setNew2 ?_ ?_ _; · (simp <;> omega)) | with_reducible refine Fr.trans ?_ (by assumption))))) ?_
        intro v5 w5 hO5 hg5
        obtain ⟨A', c', rfl⟩ := own_form hO5
        have F5 : Fr W0 w5 := Below.grown (show Fr W0 (W0.alloc (.cells #[] 3)).drew by (repeat (first | with_reducible exact Fr.refl _ | with_reducible assumption | with_reducible refine Fr.alloc ?_ _ | with_reducible refine Fr.drew ?_ | with_reducible refine Fr.drewN ?_ _ | (with_reducible refine Fr.setNew2 ?_ ?_ _; · (simp <;> omega)) | with_reducible refine Fr.trans ?_ (by assumption)))) hg5 (by simp) (fun k hk => by simp only [Value.ownBlock, Option.some.injEq] at hk; omega)
        have HS := keepQ _ F5
        ((try dsimp only); refine hK.out _ _ (fun _ => HS) (fun _ => ?_); clear hK K; (try simp only [Act.put, List.setIfInBounds_toArray, List.set_cons_zero, List.set_cons_succ]))
        ((refine wpAnyT_take 8 (v := ?_) rfl (by kernel_rfl) (fun _ _ _ h => h) (Or.inl ⟨by rfl, ?_⟩) (by assumption) ?_; rotate_left; (focus (intro W hSw; (try dsimp only at hSw); go_simp; (try with_reducible rfl); done)); (try simp only [Act.put, List.setIfInBounds_toArray, List.set_cons_zero, List.set_cons_succ])))
        ((refine wpAnyT_one 9 rfl (by kernel_rfl) (fun K hK => ?_); go_simp))
        have HS := keepQ _ (show Fr W0 (w5.alloc (.cells #[.int .i64 0, .int .i64 0, .slice none 0 0, .slice none 0 0, .slice none 0 0] 47)) by (repeat (first | with_reducible exact Fr.refl _ | with_reducible assumption | with_reducible refine Fr.alloc ?_ _ | with_reducible refine Fr.drew ?_ | with_reducible refine Fr.drewN ?_ _ | (with_reducible refine Fr.setNew2 ?_ ?_ _; · (simp <;> omega)) | with_reducible refine Fr.trans ?_ (by assumption))))
        ((try dsimp only); refine hK.out _ _ (fun _ => HS) (fun _ => ?_); clear hK K; (try simp only [Act.put, List.setIfInBounds_toArray, List.set_cons_zero, List.set_cons_succ]))
        ((refine wpAnyT_one 10 rfl (by kernel_rfl) (fun K hK => ?_); go_simp))
        ((try dsimp only); refine hK.out _ _ (fun h => absurd rfl h) (fun _ => ?_); clear hK K; (try simp only [Act.put, List.setIfInBounds_toArray, List.set_cons_zero, List.set_cons_succ]); refine wpAnyT_done (by kernel_rfl) ?_ _)
        exact MERGE _ _ _ _ _ _ (hid (mid1 hO5 F5 (fun he => by have := (own_lt hO5 _ he.symm).2; omega) F5.size ((Fr.refl w5).alloc _).ch (Blk.new w5 _ _)))
      · have B9 : Blk ((W0.alloc (.cells #[] 3)).alloc (.cells #[.int .i64 0, .int .i64 0, .slice none 0 0, .slice none 0 0, .slice none 0 0] 47)).drew (W0.heap.size + 1) 47 #[.int .i64 0, .int .i64 0, .slice none 0 0, .slice none 0 0, .slice none 0 0] := blk_new1 _ _ _ _
        have F9 : Fr W0 ((W0.alloc (.cells #[] 3)).alloc (.cells #[.int .i64 0, .int .i64 0, .slice none 0 0, .slice none 0 0, .slice none 0 0] 47)).drew := by (repeat (first | with_reducible exact Fr.refl _ | with_reducible assumption | with_reducible refine Fr.alloc ?_ _ | with_reducible refine Fr.drew ?_ | with_reducible refine Fr.drewN ?_ _ | (with_reducible refine Fr.setNew2 ?_ ?_ _; · (simp <;> omega)) | with_reducible refine Fr.trans ?_ (by assumption)))
        have O9 : ((W0.alloc (.cells #[] 3)).alloc (.cells #[.int .i64 0, .int .i64 0, .slice none 0 0, .slice none 0 0, .slice none 0 0] 47)).drew.ownsRow W0.heap.size 3 1 (.slice (some ⟨W0.heap.size, 0, none⟩) 0 0) 0 [] := own_drew (own_fr (own_empty (Nat.le_refl _)) ((Fr.refl _).alloc _))
        have HS := keepQ _ F9
        ((try dsimp only); refine hK.out _ _ (fun _ => HS) (fun _ => ?_); clear hK K; (try simp only [Act.put, List.setIfInBounds_toArray, List.set_cons_zero, List.set_cons_succ]))
        generalize ((W0.alloc (.cells #[] 3)).alloc (.cells #[.int .i64 0, .int .i64 0, .slice none 0 0, .slice none 0 0, .slice none 0 0] 47)).drew = W9 at B9 F9 O9 ⊢
        ((refine wpAnyT_one 7 rfl (by kernel_rfl) (fun K hK => ?_); go_simp))
        refine upon_ints W0.heap.size (.slice (some ⟨W0.heap.size, 0, none⟩) 0 0) O9 F9.size A1 c1 e.cols hl1 (HR1.out.fr rdInt_mono F9) ?_
        intro v5 w5 hO5 hg5
        obtain ⟨A', c', rfl⟩ := own_form hO5
        have F5 : Fr W0 w5 := Below.grown F9 hg5 F9.size (fun k hk => by simp only [Value.ownBlock, Option.some.injEq] at hk; omega)
        have B5 := blk_grown B9 hg5 (own_ne O9 B9 (by decide))
        have N5 := own_ne hO5 B5 (by decide)
        have HS := keepQ _ F5
        ((try dsimp only); refine hK.out _ _ (fun _ => HS) (fun _ => ?_); clear hK K; (try simp only [Act.put, List.setIfInBounds_toArray, List.set_cons_zero, List.set_cons_succ]))
        ((refine wpAnyT_take 8 (v := ?_) rfl (by kernel_rfl) (fun _ _ _ h => h) (Or.inl ⟨by rfl, ?_⟩) (by assumption) ?_; rotate_left; (focus (intro W hSw; (try dsimp only at hSw); go_simp; (try with_reducible rfl); done)); (try simp only [Act.put, List.setIfInBounds_toArray, List.set_cons_zero, List.set_cons_succ])))
        obtain ⟨y0, y1, y2, y3, y4, z0, z1, z2, z3, z4⟩ := B5.five
        ((refine wpAnyT_one 10 rfl (by kernel_rfl) (fun K hK => ?_); go_simp))
        ((try dsimp only); refine hK.out _ _ (fun h => absurd rfl h) (fun _ => ?_); clear hK K; (try simp only [Act.put, List.setIfInBounds_toArray, List.set_cons_zero, List.set_cons_succ]); refine wpAnyT_done (by kernel_rfl) ?_ _)
        exact MERGE _ _ _ _ _ _ (hid (mid1 hO5 F5 N5 (by omega) (chSet (chSet (chSet (chSet (chSet (Ch.refl w5)))))) (((((B5.set_ 0 _).set_ 1 _).set_ 2 _).set_ 3 _).set_ 4 _)))
    · have B9 : Blk (W0.alloc (.cells #[.int .i64 0, .int .i64 0, .slice none 0 0, .slice none 0 0, .slice none 0 0] 47)).drew W0.heap.size 47 #[.int .i64 0, .int .i64 0, .slice none 0 0, .slice none 0 0, .slice none 0 0] := Blk.new _ _ _
      have F9 : Fr W0 (W0.alloc (.cells #[.int .i64 0, .int .i64 0, .slice none 0 0, .slice none 0 0, .slice none 0 0] 47)).drew := by (repeat (first | with_reducible exact Fr.refl _ | with_reducible assumption | with_reducible refine Fr.alloc ?_ _ | with_reducible refine Fr.drew ?_ | with_reducible refine Fr.drewN ?_ _ | (with_reducible refine Fr.setNew2 ?_ ?_ _; · (simp <;> omega)) | with_reducible refine Fr.trans ?_ (by assumption)))
      have s9 : (W0.alloc (.cells #[.int .i64 0, .int .i64 0, .slice none 0 0, .slice none 0 0, .slice none 0 0] 47)).drew.heap.size = W0.heap.size + 1 := by simp
      have HS := keepQ _ F9
      ((try dsimp only); refine hK.out _ _ (fun _ => HS) (fun _ => ?_); clear hK K; (try simp only [Act.put, List.setIfInBounds_toArray, List.set_cons_zero, List.set_cons_succ]))
      generalize (W0.alloc (.cells #[.int .i64 0, .int .i64 0, .slice none 0 0, .slice none 0 0, .slice none 0 0] 47)).drew = W8 at B9 F9 s9 ⊢
      ((refine wpAnyT_one 4 rfl (by kernel_rfl) (fun K hK => ?_); go_simp))
      have F10 : Fr W0 (W8.alloc (.cells #[] 3)) := by (repeat (first | with_reducible exact Fr.refl _ | with_reducible assumption | with_reducible refine Fr.alloc ?_ _ | with_reducible refine Fr.drew ?_ | with_reducible refine Fr.drewN ?_ _ | (with_reducible refine Fr.setNew2 ?_ ?_ _; · (simp <;> omega)) | with_reducible refine Fr.trans ?_ (by assumption)))
      have O9 : (W8.alloc (.cells #[] 3)).ownsRow W0.heap.size 3 1 (.slice (some ⟨W8.heap.size, 0, none⟩) 0 0) 0 [] := own_empty F9.size
      rw [s9] at O9
      have B10 : Blk (W8.alloc (.cells #[] 3)) W0.heap.size 47 #[.int .i64 0, .int .i64 0, .slice none 0 0, .slice none 0 0, .slice none 0 0] := B9.alloc _
      have HS := keepQ _ F10
      ((try dsimp only); refine hK.out _ _ (fun _ => HS) (fun _ => ?_); clear hK K; (try simp only [Act.put, List.setIfInBounds_toArray, List.set_cons_zero, List.set_cons_succ]))
      generalize (W8.alloc (.cells #[] 3)) = W9 at B10 F10 O9 ⊢
      ((refine wpAnyT_one 7 rfl (by kernel_rfl) (fun K hK => ?_); go_simp))
      refine upon_ints W0.heap.size (.slice (some ⟨W0.heap.size + 1, 0, none⟩) 0 0) O9 F10.size A1 c1 e.cols hl1 (HR1.out.fr rdInt_mono F10) ?_
      intro v5 w5 hO5 hg5
      obtain ⟨A', c', rfl⟩ := own_form hO5
      have F5 : Fr W0 w5 := Below.grown F10 hg5 F10.size (fun k hk => by simp only [Value.ownBlock, Option.some.injEq] at hk; omega)
      have B5 := blk_grown B10 hg5 (own_ne O9 B10 (by decide))
      have N5 := own_ne hO5 B5 (by decide)
      have HS := keepQ _ F5
      ((try dsimp only); refine hK.out _ _ (fun _ => HS) (fun _ => ?_); clear hK K; (try simp only [Act.put, List.setIfInBounds_toArray, List.set_cons_zero, List.set_cons_succ]))
      ((refine wpAnyT_take 8 (v := ?_) rfl (by kernel_rfl) (fun _ _ _ h => h) (Or.inl ⟨by rfl, ?_⟩) (by assumption) ?_; rotate_left; (focus (intro W hSw; (try dsimp only at hSw); go_simp; (try with_reducible rfl); done)); (try simp only [Act.put, List.setIfInBounds_toArray, List.set_cons_zero, List.set_cons_succ])))
      obtain ⟨y0, y1, y2, y3, y4, z0, z1, z2, z3, z4⟩ := B5.five
      ((refine wpAnyT_one 10 rfl (by kernel_rfl) (fun K hK => ?_); go_simp))
      ((try dsimp only); refine hK.out _ _ (fun h => absurd rfl h) (fun _ => ?_); clear hK K; (try simp only [Act.put, List.setIfInBounds_toArray, List.set_cons_zero, List.set_cons_succ]); refine wpAnyT_done (by kernel_rfl) ?_ _)
      exact MERGE _ _ _ _ _ _ (hid (mid1 hO5 F5 N5 (by omega) (chSet (chSet (chSet (chSet (chSet (Ch.refl w5)))))) (((((B5.set_ 0 _).set_ 1 _).set_ 2 _).set_ 3 _).set_ 4 _)))
end Go.Proofs.Ytlmiadeaiiehaaa
