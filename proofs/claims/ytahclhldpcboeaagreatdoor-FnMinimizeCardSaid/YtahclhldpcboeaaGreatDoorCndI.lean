/- Rows of facts of the call's own in a list of rows; the closure that candidates hands to DeleteFunc. -/
import Derived.Test.YtahclhldpcboeaaGreatDoorAgrI
import Derived.Test.YtahclhldpcboeaaGreatDoorGrfG
import Derived.Test.YtahclhldpcboeaaGreatDoorFrzI
import Derived.Test.YtahclhldpcboeaaGreatDoorExtV
import Derived.Shelf.Abstract
import Derived.Test.YtahclhldpcboeaaGreatDoorHeldT
import Derived.Test.YtahclhldpcboeaaGreatDoorRuleW
namespace Go.Proofs.YtahclhldpcboeaaGreatDoor
open Go Go.RowKit

/-- Rows of facts of the call's own, each in a block for itself; their slices lie in block lb. -/
def LSt (B lb : Nat) (L : List (List Fact)) (w : World) : Prop := ∃ cs : Array Value, Blk w lb 27 cs ∧ cs.size = L.length ∧
  (∀ i (h : i < L.length), ∃ v, cs[i]? = some v ∧ w.ownsRow B 54 3 v L[i].length (L[i].flatMap cellsF)) ∧
  ∀ (i j : Nat) (u v : Value) (k : Nat), i ≠ j → cs[i]? = some u → cs[j]? = some v → u.ownBlock = some k → v.ownBlock ≠ some k
section
variable {B lb : Nat} {L : List (List Fact)} {w w' : World}
theorem LSt.fr (h : LSt B lb L w) (hf : Fr w w') : LSt B lb L w' := by
  obtain ⟨cs, h1, h2, h3, h4⟩ := h
  exact ⟨cs, h1.fr hf, h2, fun i hi => by obtain ⟨v, k1, k2⟩ := h3 i hi; exact ⟨v, k1, own_fr k2 hf⟩, h4⟩
theorem LSt.row (h : LSt B lb L w) {i : Nat} (hi : i < L.length) : ∃ A c, w.cell? ⟨lb, i, none⟩ = some (.slice A L[i].length c) ∧ w.ownsRow B 54 3 (.slice A L[i].length c) L[i].length (L[i].flatMap cellsF) := by
  obtain ⟨cs, h1, h2, h3, h4⟩ := h
  obtain ⟨v, k1, k2⟩ := h3 i hi
  obtain ⟨A, c, rfl⟩ := own_form k2
  exact ⟨A, c, by rw [h1.cell]; exact k1, k2⟩
theorem LSt.lt (h : LSt B lb L w) : lb < w.heap.size := by
  obtain ⟨cs, h1, _⟩ := h; exact h1.lt
theorem LSt.free (h : LSt B lb L w) (i : Nat) : w.frozen? ⟨lb, i, none⟩ = false := by
  obtain ⟨cs, h1, _⟩ := h; exact h1.frozen i
theorem own_same {base e sz n : Nat} {v : Value} {xs : List Value} (h : w.ownsRow base e sz v n xs) (hk : ∀ k, v.ownBlock = some k → w'.heap[k]? = w.heap[k]?) : w'.ownsRow base e sz v n xs := by
  refine ⟨h.1, ?_⟩
  rcases h.2 with h | ⟨g, cap, cur, rfl, hg, hh, hrest⟩
  · exact .inl h
  · exact .inr ⟨g, cap, cur, rfl, hg, (hk g rfl).trans hh, hrest⟩
/-- A row is made anew: in its old block, or in a new one. -/
theorem LSt.put (h : LSt B lb L w) {i : Nat} (hi : i < L.length) {u0 v' : Value} {xs' : List Fact} {w2 : World} (hc : w.cell? ⟨lb, i, none⟩ = some u0) (hO : w2.ownsRow B 54 3 v' xs'.length (xs'.flatMap cellsF)) (hg : w.grownBy w2 u0.ownBlock) (hw : Wh w u0 v') :
    LSt B lb (L.set i xs') (w2.setCell ⟨lb, i, none⟩ v') := by
  obtain ⟨cs, h1, h2, h3, h4⟩ := h
  obtain ⟨u, k1, k2⟩ := h3 i hi
  have hcu : cs[i]? = some u0 := by rw [← h1.cell]; exact hc
  have eu : u = u0 := by rw [k1] at hcu; exact Option.some.inj hcu
  subst eu
  have n1 := own_ne k2 h1 (by decide)
  have B2 := blk_grown h1 hg n1
  have n2 := own_ne hO B2 (by decide)
  refine ⟨cs.setIfInBounds i v', B2.set_ i v', by simp [h2], fun j hj => ?_, fun j l x y k hjl hx hy hk => ?_⟩
  · simp only [List.length_set] at hj
    rw [Array.getElem?_setIfInBounds]
    by_cases e : i = j
    · subst e
      rw [if_pos rfl, if_pos (by omega)]
      refine ⟨v', rfl, ?_⟩
      rw [List.getElem_set_self]
      exact own_set hO n2
    · rw [if_neg e, List.getElem_set_ne e]
      obtain ⟨v, m1, m2⟩ := h3 j hj
      refine ⟨v, m1, own_set (own_same m2 fun k hk => hg.block k (m2.lt k hk).2 fun e2 => ?_) ?_⟩
      · exact h4 j i v u k (Ne.symm e) m1 k1 hk e2.symm
      · exact own_ne m2 h1 (by decide)
  · have hlk : ∀ (j : Nat) (v : Value), cs[j]? = some v → ∀ k, v.ownBlock = some k → k < w.heap.size := fun j v hv k hk => by
      have hj : j < cs.size := by
        rcases Nat.lt_or_ge j cs.size with h | h
        · exact h
        · rw [Array.getElem?_eq_none h] at hv; cases hv
      obtain ⟨v2, m1, m2⟩ := h3 j (by omega)
      rw [m1] at hv
      cases hv
      exact (m2.lt k hk).2
    rw [Array.getElem?_setIfInBounds] at hx hy
    by_cases ej : i = j
    · subst ej
      rw [if_pos rfl, if_pos (by omega)] at hx
      cases hx
      rw [if_neg hjl] at hy
      intro hyk
      rcases hw k hk with h5 | h5
      · exact h4 i l u y k hjl k1 hy h5 hyk
      · have := hlk l y hy k hyk; omega
    · rw [if_neg ej] at hx
      by_cases el : i = l
      · subst el
        rw [if_pos rfl, if_pos (by omega)] at hy
        cases hy
        intro hyk
        rcases hw k hyk with h5 | h5
        · exact h4 j i x u k hjl hx k1 hk h5
        · have := hlk j x hx k hk; omega
      · rw [if_neg el] at hy
        exact h4 j l x y k hjl hx hy hk
theorem made_at {n i : Nat} (hi : i < n) : (madeCells (Value.slice none 0 0).cells (n * 1))[i]? = some (Value.slice none 0 0) := by
  unfold madeCells
  rw [Array.getElem?_map, Array.getElem?_range, if_pos (by omega)]
  simp [Value.cells, Nat.mod_one]
theorem lst_new (n : Nat) (w : World) (B : Nat) : LSt B w.heap.size (List.replicate n []) (w.alloc (.cells (madeCells (Value.slice none 0 0).cells (n * 1)) 27)) := by
  refine ⟨_, Blk.new w _ _, by rw [made_size]; simp, fun i hi => ?_, fun i j u v k hij hu hv hk => ?_⟩
  · simp only [List.length_replicate] at hi
    refine ⟨_, made_at hi, ?_⟩
    rw [List.getElem_replicate]
    exact own_nil
  · have hi : i < n := by
      rcases Nat.lt_or_ge i n with h | h
      · exact h
      · rw [Array.getElem?_eq_none (by rw [made_size]; omega)] at hu; cases hu
    rw [made_at hi] at hu
    cases hu
    cases hk
end
/-- How many facts the rows hold, as memory tells it. -/
def lenV : Option Value → Nat
  | some (.slice _ n _) => n
  | _ => 0
def totW (w : World) (lb n : Nat) : Nat := ((List.range n).map fun i => lenV (w.cell? ⟨lb, i, none⟩)).sum
def tot (L : List (List Fact)) : Nat := (L.map List.length).sum
theorem LSt.tot {B lb : Nat} {L : List (List Fact)} {w : World} (h : LSt B lb L w) : totW w lb L.length = tot L := by
  unfold totW Go.Proofs.YtahclhldpcboeaaGreatDoor.tot
  congr 1
  refine List.ext_getElem (by simp) fun i h1 h2 => ?_
  simp only [List.length_map, List.length_range] at h1
  rw [List.getElem_map, List.getElem_range, List.getElem_map]
  obtain ⟨A, c, hc, _⟩ := h.row h1
  rw [hc]; rfl
theorem tot_set : ∀ {L : List (List Fact)} {i : Nat} (h : i < L.length) (xs : List Fact), tot (L.set i xs) + L[i].length = tot L + xs.length
  | x :: r, 0, _, xs => by simp [tot]; omega
  | x :: r, i + 1, h, xs => by
    have := tot_set (L := r) (i := i) (by simpa using h) xs
    simp only [tot, List.set_cons_succ, List.map_cons, List.sum_cons, List.getElem_cons_succ] at this ⊢
    omega
/-- The state of candidates. -/
structure CdS (w0 : World) (LB lb : Nat) (L : List (List Fact)) (w : World) : Prop where
  fr : Fr w0 w
  box : Blk w LB 89 #[.slice (some ⟨lb, 0, none⟩) L.length L.length]
  rows : LSt w0.heap.size lb L w
  b0 : w0.heap.size ≤ LB
  b1 : w0.heap.size ≤ lb
section
variable {w0 w w' w2 : World} {LB lb i : Nat} {L : List (List Fact)} {u0 v' : Value} {xs' : List Fact}
theorem CdS.go (h : CdS w0 LB lb L w) (hf : Fr w w') : CdS w0 LB lb L w' := ⟨h.fr.trans hf, h.box.fr hf, h.rows.fr hf, h.b0, h.b1⟩
theorem CdS.put (h : CdS w0 LB lb L w) (hi : i < L.length) (hc : w.cell? ⟨lb, i, none⟩ = some u0) (hO : w2.ownsRow w0.heap.size 54 3 v' xs'.length (xs'.flatMap cellsF)) (hg : w.grownBy w2 u0.ownBlock) (hw : Wh w u0 v') :
    CdS w0 LB lb (L.set i xs') (w2.setCell ⟨lb, i, none⟩ v') ∧ ∀ g t cs, Blk w g t cs → t ≠ 54 → g ≠ lb → Blk (w2.setCell ⟨lb, i, none⟩ v') g t cs := by
  obtain ⟨A, c, hr, hown⟩ := h.rows.row hi
  rw [hr] at hc
  cases hc
  have key : ∀ g t cs, Blk w g t cs → t ≠ 54 → g ≠ lb → Blk (w2.setCell ⟨lb, i, none⟩ v') g t cs := fun g t cs hB ht hgl => (blk_grown hB hg (own_ne hown hB (Ne.symm ht))).far (by exact hgl) _
  have hlb : LB ≠ lb := fun e => by
    have k := h.rows
    obtain ⟨cs, h1, _⟩ := k
    exact blk_type h.box h1 (by decide) e
  refine ⟨⟨?_, ?_, h.rows.put hi hr hO hg hw, h.b0, h.b1⟩, key⟩
  · exact (Fr.grown h.fr hg hown).setNew (by exact h.b1) _
  · have := key _ _ _ h.box (by decide) hlb
    simpa using this
end
theorem CdS.grow {w0 w w2 : World} {LB lb i : Nat} {L : List (List Fact)} {u0 : Value} (h : CdS w0 LB lb L w) (hi : i < L.length) (hc : w.cell? ⟨lb, i, none⟩ = some u0) (hg : w.grownBy w2 u0.ownBlock) :
    w2.cell? ⟨LB, 0, none⟩ = some (.slice (some ⟨lb, 0, none⟩) L.length L.length) ∧ w2.cell? ⟨lb, i, none⟩ = some u0 ∧ w2.frozen? ⟨lb, i, none⟩ = false ∧ lb < w2.heap.size := by
  obtain ⟨A, c, hr, hown⟩ := h.rows.row hi
  rw [hr] at hc
  cases hc
  obtain ⟨cs, h1, _⟩ := h.rows
  have B2 := blk_grown h1 hg (own_ne hown h1 (by decide))
  refine ⟨(blk_grown h.box hg (own_ne hown h.box (by decide))).cell 0, ?_, B2.frozen i, B2.lt⟩
  rw [B2.cell, ← h1.cell]
  exact hr
theorem ch_grown {w w' : World} {g : Nat} (h : Ch (· = g) w w') : w.grownBy w' (some g) := ⟨h.os, h.tape, h.output, h.size, fun k hk hne => h.block k hk fun e => hne (by rw [e])⟩
/-- What DeleteFunc has left is a row of the call's own. -/
theorem own_del {w' : World} {B g cap : Nat} {cs : Array Value} {ds : List Fact} (hB : Blk w' g 54 cs) (hs : cs.size = cap * 3) (hm : cap ≤ maxLen) (hF : FAt cs ds) (hl : ds.length ≤ cap) (hg : B ≤ g) : w'.ownsRow B 54 3 (.slice (some ⟨g, 0, none⟩) ds.length cap) ds.length (ds.flatMap cellsF) := by
  refine ⟨cellsF_len ds, .inr ⟨g, cap, cs, rfl, hg, hB, hl, hm, hs, ?_⟩⟩
  refine List.ext_getElem? fun k => ?_
  obtain ⟨i, r, rfl, hr⟩ : ∃ i r, k = i * 3 + r ∧ r < 3 := ⟨k / 3, k % 3, by omega, by omega⟩
  rcases Nat.lt_or_ge i ds.length with hi | hi
  · obtain ⟨k0, k1, k2⟩ := hF i hi
    rw [List.getElem?_take_of_lt (by omega), Array.getElem?_toList, flatMap_get (f := cellsF) (sz := 3) (fun _ => rfl) ds i hi r hr (by exact hr)]
    have h3 : r = 0 ∨ r = 1 ∨ r = 2 := by omega
    rcases h3 with rfl | rfl | rfl
    · exact k0
    · exact k1
    · exact k2
  · rw [List.getElem?_eq_none (by rw [List.length_take]; omega), List.getElem?_eq_none (by rw [cellsF_len]; omega)]
set_option maxRecDepth 100000 in
set_option maxHeartbeats 2000000 in
/-- The closure: does a fact agree with none of another row? -/
theorem cand1 (a b : Atom) (f : Fact) (LB lb jb ba bb j n c : Nat) (Aj : Option Addr) (ys : List Fact) (w : World) (hL : w.cell? ⟨LB, 0, none⟩ = some (.slice (some ⟨lb, 0, none⟩) n n)) (hj : w.cell? ⟨jb, 0, none⟩ = some (.int .i64 j)) (hjn : j < n) (hr : w.cell? ⟨lb, j, none⟩ = some (.slice Aj ys.length c)) (hR : RdSl rdFact w.cell? 3 Aj ys) (hl : ys.length ≤ 1048576)
    (hA : Blk w ba 63 #[.int .i64 a.rel, .int .i64 a.x, .int .i64 a.y]) (hB : Blk w bb 63 #[.int .i64 b.rel, .int .i64 b.x, .int .i64 b.y]) :
    Calls Tryz.prog 77 #[.agg #[.int .i64 f.rel, .int .i64 f.x, .int .i64 f.y], .pointer (some ⟨LB, 0, none⟩), .pointer (some ⟨jb, 0, none⟩), .pointer (some ⟨ba, 0, none⟩), .pointer (some ⟨bb, 0, none⟩)] w fun e w' => e = .returned (.bool (!(ys.any fun g => agr a f b g))) ∧ Fr w w' := by
  have hmf : ∀ (fn : Fn) (first cap : Array Value) (w : World), (Instr.makeFunc fn first cap).run Tryz.prog w = .ok (.func fn first cap) w := fun _ _ _ _ => rfl
  have G : Fr w (w.alloc (.cells #[.int .i64 f.rel, .int .i64 f.x, .int .i64 f.y] 54)) := (Fr.refl _).alloc _
  have HC := hid (containsFuncF 79 #[.pointer (some ⟨ba, 0, none⟩), .pointer (some ⟨w.heap.size, 0, none⟩), .pointer (some ⟨bb, 0, none⟩)] (enters_of Tryz.func79 (by kernel_rfl) rfl) (fun g => agr a f b g) Aj c ys (w.alloc (.cells #[.int .i64 f.rel, .int .i64 f.x, .int .i64 f.y] 54)) (hR.fr rdFact_mono G) hl
    fun W g hW => cand11 a b f g ba w.heap.size bb W ((hA.fr G).fr hW) ((Blk.new w 54 #[.int .i64 f.rel, .int .i64 f.x, .int .i64 f.y]).fr hW) ((hB.fr G).fr hW))
  have l0 := cell_lt hL
  have l1 := cell_lt hj
  have l2 := cell_lt hr
  replace hL := G.cell hL
  replace hj := G.cell hj
  replace hr := G.cell hr
  obtain ⟨v, ev⟩ : ∃ v, (ys.any fun g => agr a f b g) = v := ⟨_, rfl⟩
  have EV := hid ev
  rw [ev]
  clear hR hA hB ev
  go_enter Tryz.func77, Tryz.ntmps77
  go_wp2_with fail
  refine HC.out.mono ?_
  rw [EV.out]
  rintro e w' ⟨rfl, hb'⟩
  go_wp2
  go_ret
  exact ⟨rfl, G.trans hb'⟩
/-- DeleteFunc at a row of the call's own. -/
theorem deleteRow (gn : Nat) (cb : Array Value) (eg : ∀ args w, (callFunc gn args).run Tryz.prog w = .ok (.enter gn args) w) (p : Fact → Bool) (B : Nat) (A : Option Addr) (c : Nat) (xs : List Fact) (W : World) (hO : W.ownsRow B 54 3 (.slice A xs.length c) xs.length (xs.flatMap cellsF)) (hl : xs.length ≤ 1000)
    (hp : ∀ W' x, W.grownBy W' (Value.slice A xs.length c).ownBlock → Calls Tryz.prog gn (#[.agg #[.int .i64 x.rel, .int .i64 x.x, .int .i64 x.y]] ++ cb) W' fun e w' => e = .returned (.bool (p x)) ∧ Fr W' w') :
    Calls Tryz.prog 76 #[.slice A xs.length c, .func (.func gn) #[] cb] W fun r w' => ∃ A' c', r = .returned (.slice A' (xs.filter fun x => !p x).length c') ∧ w'.ownsRow B 54 3 (.slice A' (xs.filter fun x => !p x).length c') (xs.filter fun x => !p x).length ((xs.filter fun x => !p x).flatMap cellsF) ∧ W.grownBy w' (Value.slice A xs.length c).ownBlock ∧ Wh W (.slice A xs.length c) (.slice A' (xs.filter fun x => !p x).length c') := by
  have gf : ∀ {W W' : World} (r : Option Nat), Fr W W' → W.grownBy W' r := fun r h => ⟨h.os, h.tape, h.output, h.size, fun k hk _ => h.block k hk⟩
  by_cases h0 : xs = []
  · subst h0
    refine (deleteFuncN gn cb eg p A c W fun W' x hW => hp W' x (gf _ hW)).mono ?_
    rintro r w' ⟨rfl, hF⟩
    exact ⟨A, c, rfl, own_fr hO hF, gf _ hF, fun k hk => .inl hk⟩
  · have hpos : 0 < xs.length := List.length_pos_iff.2 h0
    rcases hO.2 with ⟨_, h1⟩ | ⟨g, cap, cur, hv, hg, hh, hnc, hcm, hs, ht⟩
    · omega
    · injection hv with hA _ hc
      subst hA hc
      have hF : FAt cur xs := by
        obtain ⟨g2, cap2, cs2, e1, _, hB2, _, _, hF2⟩ := own_blkF hO rfl hpos
        injection e1 with e1 _ e2
        injection e1 with e1
        injection e1 with e1 _ _
        subst e1
        have hh' : Blk W g 54 cur := hh
        unfold Blk at hB2 hh'
        rw [hh'] at hB2
        injection hB2 with hB2
        injection hB2 with hB2 _ _
        subst hB2
        exact hF2
      refine (deleteFuncF gn cb eg p g c (c * 3) xs cur W hh hs hF hl (by omega) hnc fun W' x hW => hp W' x (ch_grown hW)).mono ?_
      rintro r w' ⟨rfl, ⟨cs', hB', hz', hF'⟩, hC⟩
      have hle : (xs.filter fun x => !p x).length ≤ c := Nat.le_trans (List.length_filter_le _ _) hnc
      exact ⟨some ⟨g, 0, none⟩, c, rfl, own_del hB' hz' hcm hF' hle hg, ch_grown hC, fun k hk => .inl hk⟩
theorem LSt.two {B lb : Nat} {L : List (List Fact)} {w : World} (h : LSt B lb L w) {k m : Nat} (hk : k < L.length) (hm : m < L.length) (hkm : k ≠ m) {A : Option Addr} {c : Nat} (hc : w.cell? ⟨lb, k, none⟩ = some (.slice A L[k].length c)) :
    ∃ A' c' cs, Blk w lb 27 cs ∧ cs[m]? = some (.slice A' L[m].length c') ∧ w.ownsRow B 54 3 (.slice A' L[m].length c') L[m].length (L[m].flatMap cellsF) ∧ w.ownsRow B 54 3 (.slice A L[k].length c) L[k].length (L[k].flatMap cellsF) ∧
      ∀ j, (Value.slice A' L[m].length c').ownBlock = some j → (Value.slice A L[k].length c).ownBlock ≠ some j := by
  obtain ⟨cs, h1, h2, h3, h4⟩ := h
  obtain ⟨v, k1, k2⟩ := h3 m hm
  obtain ⟨u, m1, m2⟩ := h3 k hk
  have hcu : cs[k]? = some (.slice A L[k].length c) := by rw [← h1.cell]; exact hc
  have eu : u = .slice A L[k].length c := by rw [m1] at hcu; exact Option.some.inj hcu
  subst eu
  obtain ⟨A', c', rfl⟩ := own_form k2
  exact ⟨A', c', cs, h1, k1, k2, m2, fun j hj => h4 m k _ _ j (Ne.symm hkm) k1 m1 hj⟩
theorem CdS.pred {w0 W : World} {LB lb k m gj ga gb : Nat} {L : List (List Fact)} {a b : Atom} {A : Option Addr} {c : Nat} (h : CdS w0 LB lb L W) (hk : k < L.length) (hm : m < L.length) (hkm : k ≠ m) (hc : W.cell? ⟨lb, k, none⟩ = some (.slice A L[k].length c)) (hl : L[m].length ≤ 1048576)
    (Bj : Blk W gj 3 #[.int .i64 m]) (Ba : Blk W ga 63 #[.int .i64 a.rel, .int .i64 a.x, .int .i64 a.y]) (Bb : Blk W gb 63 #[.int .i64 b.rel, .int .i64 b.x, .int .i64 b.y]) :
    ∀ W' (x : Fact), W.grownBy W' (Value.slice A L[k].length c).ownBlock → Calls Tryz.prog 77 (#[.agg #[.int .i64 x.rel, .int .i64 x.x, .int .i64 x.y]] ++ #[.pointer (some ⟨LB, 0, none⟩), .pointer (some ⟨gj, 0, none⟩), .pointer (some ⟨ga, 0, none⟩), .pointer (some ⟨gb, 0, none⟩)]) W'
      fun e w' => e = .returned (.bool (!(L[m].any fun g => agr a x b g))) ∧ Fr W' w' := by
  intro W' x hg
  obtain ⟨A', c', cs, h1, k1, k2, m2, hne⟩ := h.rows.two hk hm hkm hc
  have BL := blk_grown h1 hg (own_ne m2 h1 (by decide))
  have RO := own_same k2 fun j hj => hg.block j (k2.lt j hj).2 fun e => hne j hj e.symm
  exact cand1 a b x LB lb gj ga gb m L.length c' A' L[m] W' ((blk_grown h.box hg (own_ne m2 h.box (by decide))).cell 0) ((blk_grown Bj hg (own_ne m2 Bj (by decide))).cell 0) hm (by rw [BL.cell]; exact k1) ((own_F RO rfl).mono rdFact_mono (fromB_le _ _)) hl
    (blk_grown Ba hg (own_ne m2 Ba (by decide))) (blk_grown Bb hg (own_ne m2 Bb (by decide)))
/- Walk of the program's candidates: the facts for each atom, without those that agree with no candidate of another atom. -/
/-- The lists while they are filled: those below k are done. -/
def Fill (bd : List Atom) (fs : List Fact) (k : Nat) (L : List (List Fact)) : Prop := ∀ i (h : i < bd.length), L.getD i [] = if i < k then fs.filter (cnd bd[i]) else []
/-- .. and of list k the first m facts have been seen. -/
def FillI (bd : List Atom) (fs : List Fact) (k : Nat) (a : Atom) (m : Nat) (L : List (List Fact)) : Prop := L.getD k [] = (fs.take m).filter (cnd a) ∧ ∀ i (h : i < bd.length), i ≠ k → L.getD i [] = if i < k then fs.filter (cnd bd[i]) else []
theorem FillI.skip {bd : List Atom} {fs : List Fact} {k m : Nat} {a : Atom} {L : List (List Fact)} (h : FillI bd fs k a m L) (hm : m < fs.length) (hc : cnd a fs[m] = false) : FillI bd fs k a (m + 1) L := by
  refine ⟨?_, h.2⟩
  rw [h.1, List.take_succ_eq_append_getElem hm, List.filter_append]
  simp [hc]
theorem FillI.put {bd : List Atom} {fs : List Fact} {k m : Nat} {a : Atom} {L : List (List Fact)} (h : FillI bd fs k a m L) (hm : m < fs.length) (hk : k < L.length) (hc : cnd a fs[m] = true) : FillI bd fs k a (m + 1) (L.set k (L[k] ++ [fs[m]])) := by
  refine ⟨?_, fun i hi hne => ?_⟩
  · rw [getD_set hk, if_pos rfl, List.take_succ_eq_append_getElem hm, List.filter_append, ← h.1, getD_at hk]
    simp [hc]
  · rw [getD_set hk, if_neg (Ne.symm hne)]
    exact h.2 i hi hne
theorem FillI.done {bd : List Atom} {fs : List Fact} {k : Nat} {a : Atom} {L : List (List Fact)} (h : FillI bd fs k a fs.length L) (hk : k < bd.length) (ha : bd[k] = a) : Fill bd fs (k + 1) L := fun i hi => by
  by_cases e : i = k
  · subst e
    rw [h.1, List.take_length, if_pos (by omega), ha]
  · rw [h.2 i hi e]
    by_cases hl : i < k
    · rw [if_pos hl, if_pos (by omega)]
    · rw [if_neg hl, if_neg (by omega)]
theorem Fill.cnd {bd : List Atom} {fs : List Fact} {L : List (List Fact)} (h : Fill bd fs bd.length L) (hl : L.length = bd.length) : Cnd bd fs L := by
  have e : L = bd.map fun a => fs.filter (Go.Proofs.YtahclhldpcboeaaGreatDoor.cnd a) := by
    refine List.ext_getElem (by simp [hl]) fun i h1 h2 => ?_
    have := h i (by omega)
    rw [getD_at h1, if_pos (by omega)] at this
    rw [this, List.getElem_map]
  rw [e]
  exact cnd_new bd fs
def bitV : Value → Nat
  | .bool true => 1
  | _ => 0
theorem cnd_b (a : Atom) (f : Fact) : Go.Proofs.YtahclhldpcboeaaGreatDoor.cnd a f = ((a.rel == f.rel) && ((a.x != a.y) || (f.x == f.y))) := by
  have e1 : ∀ x y : Int, (!decide (x = y)) = (x != y) := fun x y => by by_cases h : x = y <;> simp [h]
  have e2 : ∀ x y : Int, decide (x = y) = (x == y) := fun x y => by by_cases h : x = y <;> simp [h]
  unfold Go.Proofs.YtahclhldpcboeaaGreatDoor.cnd
  rw [e1 a.x a.y, e2 a.rel f.rel, e2 f.x f.y]
attribute [-go_sem] Builtin.append_
set_option maxRecDepth 100000 in
set_option maxHeartbeats 4000000 in
theorem candidatesW (qb : Nat) (q : Int) (A0 A1 : Option Addr) (c0 c1 n0 : Nat) (bd : List Atom) (F : Option Addr) (fc : Nat) (fs : List Fact) (w : World)
    (hQ : Blk w qb 26 #[.int .i64 q, .slice A0 n0 c0, .slice A1 bd.length c1]) (hb : RdSl rdAtom w.cell? 3 A1 bd) (hf : RdSl rdFact w.cell? 3 F fs) (hbl : bd.length ≤ 900) (hfl : fs.length ≤ 900) :
    Calls Tryz.prog 61 #[.pointer (some ⟨qb, 0, none⟩), .slice F fs.length fc] w fun e w' => ∃ lb L, e = .returned (.slice (some ⟨lb, 0, none⟩) bd.length bd.length) ∧ Cnd bd fs L ∧ LSt w.heap.size lb L w' ∧ w.heap.size ≤ lb ∧ Fr w w' := by
  have HB := hid hb
  have HF := hid hf
  have q2 : w.cell? ⟨qb, 2, none⟩ = some (.slice A1 bd.length c1) := hQ.cell 2
  have hqb := hQ.lt
  have hmk := mk_row (P := Tryz.prog) 89 27 (.slice none 0 0) 1 24 Tryz.underlying89 (by kernel_rfl) bd.length (by omega) (by omega)
  have hmf : ∀ (fn : Fn) (first cap : Array Value) (w : World), (Instr.makeFunc fn first cap).run Tryz.prog w = .ok (.func fn first cap) w := fun _ _ _ _ => rfl
  have S0 : CdS w (w.heap.size + 1) w.heap.size (List.replicate bd.length []) ((w.alloc (.cells (madeCells (Value.slice none 0 0).cells (bd.length * 1)) 27)).alloc (.cells #[.slice (some ⟨w.heap.size, 0, none⟩) bd.length bd.length] 89)) :=
    ⟨by (repeat (first | with_reducible exact Fr.refl _ | with_reducible assumption | with_reducible refine Fr.alloc ?_ _ | with_reducible refine Fr.drew ?_ | with_reducible refine Fr.drewN ?_ _ | (with_reducible refine Fr.setNew2 ?_ ?_ _; · (simp <;> omega)) | with_reducible refine Fr.trans ?_ (by assumption))), by rw [List.length_replicate]; exact (by have h := Blk.new (w.alloc (.cells (madeCells (Value.slice none 0 0).cells (bd.length * 1)) 27)) 89 #[.slice (some ⟨w.heap.size, 0, none⟩) bd.length bd.length]; rw [World.size_alloc] at h; exact h), (lst_new bd.length w w.heap.size).fr ((Fr.refl _).alloc _), by omega, Nat.le_refl _⟩
  clear hb hf hQ
  go_enter Tryz.func61, Tryz.ntmps61
  simp only [Nat.mul_one, show (Value.slice none 0 0).cells = #[Value.slice none 0 0] from rfl] at S0
  go_wp2
  generalize ((w.alloc (.cells (madeCells #[.slice none 0 0] bd.length) 27)).alloc (.cells #[.slice (some ⟨w.heap.size, 0, none⟩) bd.length bd.length] 89)) = W0 at S0 ⊢
  generalize w.heap.size + 1 = LB at S0 ⊢
  go_loopw [27] (fun t wr => ∃ (k : Nat) (L : List (List Fact)), k ≤ bd.length ∧ t = .int .i64 k ∧ L.length = bd.length ∧ Hid (CdS w LB w.heap.size L wr) ∧ Hid (Fill bd fs k L)) (fun t _ => bd.length - (intOf t).toNat)
  case atStart => exact ⟨0, List.replicate bd.length [], by omega, rfl, by simp, hid S0, hid (fun i hi => by rw [getD_at (by simpa using hi), List.getElem_replicate, if_neg (by omega)])⟩
  case round =>
    clear S0 hmk
    revert wr
    intro W1 hrel
    obtain ⟨k, L, hk, rfl, hLl, S, hP⟩ := hrel
    by_cases hlt : k < bd.length
    · obtain ⟨ab, ao, hA, d0, d1, d2⟩ := HB.out.atom hlt
      subst hA
      replace d0 := S.out.fr.cell d0
      replace d1 := S.out.fr.cell d1
      replace d2 := S.out.fr.cell d2
      obtain ⟨a, ea⟩ : ∃ a, bd[k] = a := ⟨_, rfl⟩
      rw [ea] at d0 d1 d2
      have EA := hid ea
      have BA := Blk.new W1 63 #[.int .i64 a.rel, .int .i64 a.x, .int .i64 a.y]
      have S1 := S.out.go ((Fr.refl W1).alloc (.cells #[.int .i64 a.rel, .int .i64 a.x, .int .i64 a.y] 63))
      have P1 := hid (show FillI bd fs k a 0 L from ⟨by rw [hP.out k hlt, if_neg (by omega)]; rfl, fun i hi _ => hP.out i hi⟩)
      have hg1 : w.heap.size < W1.heap.size := S.out.rows.lt
      clear ea S hP
      go_wp2
      obtain ⟨ga, ega⟩ : ∃ g, W1.heap.size = g := ⟨_, rfl⟩
      generalize W1.alloc (.cells #[.int .i64 a.rel, .int .i64 a.x, .int .i64 a.y] 63) = W2 at S1 BA ⊢
      rw [ega] at BA hg1 ⊢
      clear ega d0 d1 d2
      go_loopw [34] (fun t wr => ∃ (m : Nat) (L' : List (List Fact)), m ≤ fs.length ∧ t = .int .i64 m ∧ L'.length = bd.length ∧ Hid (CdS w LB w.heap.size L' wr) ∧ Hid (Blk wr ga 63 #[.int .i64 a.rel, .int .i64 a.x, .int .i64 a.y]) ∧ Hid (FillI bd fs k a m L')) (fun t _ => fs.length - (intOf t).toNat)
      case atStart => exact ⟨0, L, by omega, rfl, hLl, hid S1, hid BA, P1⟩
      case round =>
        clear S1 BA P1 hLl
        obtain ⟨m, L', hm, rfl, hLl, S, BA, P⟩ := hrel
        by_cases hlm : m < fs.length
        · obtain ⟨fb, fo, hFA, f0, f1, f2⟩ := HF.out.fact hlm
          subst hFA
          replace f0 := S.out.fr.cell f0
          replace f1 := S.out.fr.cell f1
          replace f2 := S.out.fr.cell f2
          obtain ⟨f, ef⟩ : ∃ f, fs[m] = f := ⟨_, rfl⟩
          rw [ef] at f0 f1 f2
          have EF := hid ef
          have hga := BA.out.lt
          have F2 : Fr wr (wr.alloc (.cells #[.int .i64 f.rel, .int .i64 f.x, .int .i64 f.y] 54)) := (Fr.refl wr).alloc _
          have S2 := hid (S.out.go F2)
          have BA2 := hid (BA.out.fr F2)
          have BF := Blk.new wr 54 #[.int .i64 f.rel, .int .i64 f.x, .int .i64 f.y]
          obtain ⟨a0, a1, a2, _⟩ := BA.out.three
          obtain ⟨b1, E1⟩ : ∃ b, (a.rel == f.rel) = b := ⟨_, rfl⟩
          obtain ⟨b2, E2⟩ : ∃ b, (a.x != a.y) = b := ⟨_, rfl⟩
          obtain ⟨b3, E3⟩ : ∃ b, (f.x == f.y) = b := ⟨_, rfl⟩
          have EC := hid (show cnd a f = (b1 && (b2 || b3)) by rw [← E1, ← E2, ← E3]; exact cnd_b a f)
          clear ef BA
          by_cases hc : (b1 && (b2 || b3)) = true
          · have PN := hid (show ∀ (hh : k < L'.length), FillI bd fs k a (m + 1) (L'.set k (L'[k] ++ [f])) from fun hh => by rw [← EF.out]; exact P.out.put hlm hh (by rw [EF.out, EC.out]; exact hc))
            have hways : b1 = true ∧ (b2 = true ∨ (b2 = false ∧ b3 = true)) := by
              cases b1 <;> cases b2 <;> cases b3 <;> simp at hc ⊢
            obtain ⟨rfl, hways⟩ := hways
            have hkl : k < L'.length := by omega
            obtain ⟨A, c, hr, hown⟩ := S.out.rows.row hkl
            have PL := hid (own_fr hown F2)
            replace hr := F2.cell hr
            obtain ⟨n, hn⟩ : ∃ n, L'[k].length = n := ⟨_, rfl⟩
            have hn9 : n ≤ 900 := by
              have h1 := P.out.1
              rw [getD_at hkl] at h1
              rw [← hn, h1]
              exact Nat.le_trans (List.length_filter_le _ _) (by rw [List.length_take]; omega)
            have HN := hid hn
            rw [hn] at hr
            have n3 : some wr.heap.size ≠ (Value.slice A n c).ownBlock := fun e => by
              rw [hn] at hown
              have := (hown.lt _ e.symm).2
              omega
            have hbx : (wr.alloc (.cells #[.int .i64 f.rel, .int .i64 f.x, .int .i64 f.y] 54)).cell? ⟨LB, 0, none⟩ = some (.slice (some ⟨w.heap.size, 0, none⟩) bd.length bd.length) := by rw [← hLl]; exact S2.out.box.cell 0
            obtain ⟨z0, z1, z2, _⟩ := BF.three
            clear hc hn hown EC P S
            have hsz : w.heap.size < wr.heap.size := by omega
            rcases hways with rfl | ⟨rfl, rfl⟩
            all_goals (
              go_wp2_with fail
              refine wp_region_T (fun W => (W.cell? ⟨LB, 0, none⟩ = some (.slice (some ⟨w.heap.size, 0, none⟩) bd.length bd.length) ∧ W.cell? ⟨w.heap.size, k, none⟩ = some (.slice A n c)) ∧ (W.cell? ⟨wr.heap.size, 0, none⟩ = some (.int .i64 f.rel) ∧ W.cell? ⟨wr.heap.size, 1, none⟩ = some (.int .i64 f.x) ∧ W.cell? ⟨wr.heap.size, 2, none⟩ = some (.int .i64 f.y))) 10 (by kernel_rfl) ?_
              replace hbx := (Fr.refl _).drew.cell hbx
              replace hr := (Fr.refl _).drew.cell hr
              replace BF := BF.drew
              have S3 := S2.out.go (Fr.refl _).drew
              have BA3 := BA2.out.fr (Fr.refl _).drew
              have PL3 := own_fr PL.out (Fr.refl _).drew
              rw [HN.out] at PL3
              clear z0 z1 z2 S2 BA2 PL
              obtain ⟨gf, egf⟩ : ∃ g, wr.heap.size = g := ⟨_, rfl⟩
              generalize (wr.alloc (.cells #[.int .i64 f.rel, .int .i64 f.x, .int .i64 f.y] 54)).drew = W6 at S3 BA3 PL3 hr hbx BF ⊢
              rw [egf] at BF n3 ⊢
              have keepQ : ∀ W, W.cell? ⟨LB, 0, none⟩ = some (.slice (some ⟨w.heap.size, 0, none⟩) bd.length bd.length) → W.cell? ⟨w.heap.size, k, none⟩ = some (.slice A n c) → Blk W gf 54 #[.int .i64 f.rel, .int .i64 f.x, .int .i64 f.y] → (W.cell? ⟨LB, 0, none⟩ = some (.slice (some ⟨w.heap.size, 0, none⟩) bd.length bd.length) ∧ W.cell? ⟨w.heap.size, k, none⟩ = some (.slice A n c)) ∧ (W.cell? ⟨gf, 0, none⟩ = some (.int .i64 f.rel) ∧ W.cell? ⟨gf, 1, none⟩ = some (.int .i64 f.x) ∧ W.cell? ⟨gf, 2, none⟩ = some (.int .i64 f.y)) := fun W x y z => ⟨⟨x, y⟩, z.cell 0, z.cell 1, z.cell 2⟩
              have HS := keepQ _ hbx hr BF
              have hkn : (k : Int) < (bd.length : Int) := by omega
              have FL : Fr W6 (W6.alloc (.cells #[.int .i64 f.rel, .int .i64 f.x, .int .i64 f.y] 54)) := (Fr.refl _).alloc _
              ((refine wpAnyT_take 0 (v := ?_) rfl (by kernel_rfl) (fun _ _ _ h => h) (Or.inl ⟨by rfl, ?_⟩) (by assumption) ?_; rotate_left; (focus (intro W hSw; (try dsimp only at hSw); go_simp; (try with_reducible rfl); done)); (try simp only [Act.put, List.setIfInBounds_toArray, List.set_cons_zero, List.set_cons_succ])); (refine wpAnyT_take 1 (v := ?_) rfl (by kernel_rfl) (fun _ _ _ h => h) (Or.inl ⟨by rfl, ?_⟩) (by assumption) ?_; rotate_left; (focus (intro W hSw; (try dsimp only at hSw); go_simp; (try with_reducible rfl); done)); (try simp only [Act.put, List.setIfInBounds_toArray, List.set_cons_zero, List.set_cons_succ])); (refine wpAnyT_take 2 (v := ?_) rfl (by kernel_rfl) (fun _ _ _ h => h) (Or.inl ⟨by rfl, ?_⟩) (by assumption) ?_; rotate_left; (focus (intro W hSw; (try dsimp only at hSw); go_simp; (try with_reducible rfl); done)); (try simp only [Act.put, List.setIfInBounds_toArray, List.set_cons_zero, List.set_cons_succ])); (refine wpAnyT_take 3 (v := ?_) rfl (by kernel_rfl) (fun _ _ _ h => h) (Or.inl ⟨by rfl, ?_⟩) (by assumption) ?_; rotate_left; (focus (intro W hSw; (try dsimp only at hSw); go_simp; (try with_reducible rfl); done)); (try simp only [Act.put, List.setIfInBounds_toArray, List.set_cons_zero, List.set_cons_succ])); (refine wpAnyT_take 4 (v := ?_) rfl (by kernel_rfl) (fun _ _ _ h => h) (Or.inl ⟨by rfl, ?_⟩) (by assumption) ?_; rotate_left; (focus (intro W hSw; (try dsimp only at hSw); go_simp; (try with_reducible rfl); done)); (try simp only [Act.put, List.setIfInBounds_toArray, List.set_cons_zero, List.set_cons_succ])); (refine wpAnyT_take 5 (v := ?_) rfl (by kernel_rfl) (fun _ _ _ h => h) (Or.inl ⟨by rfl, ?_⟩) (by assumption) ?_; rotate_left; (focus (intro W hSw; (try dsimp only at hSw); go_simp; (try with_reducible rfl); done)); (try simp only [Act.put, List.setIfInBounds_toArray, List.set_cons_zero, List.set_cons_succ])); (refine wpAnyT_take 6 (v := ?_) rfl (by kernel_rfl) (fun _ _ _ h => h) (Or.inl ⟨by rfl, ?_⟩) (by assumption) ?_; rotate_left; (focus (intro W hSw; (try dsimp only at hSw); go_simp; (try with_reducible rfl); done)); (try simp only [Act.put, List.setIfInBounds_toArray, List.set_cons_zero, List.set_cons_succ])))
              have HS := keepQ _ (FL.cell hbx) (FL.cell hr) (BF.fr FL)
              ((refine wpAnyT_one 7 rfl (by kernel_rfl) (fun K hK => ?_); go_simp))
              ((try dsimp only); refine hK.out _ _ (fun _ => HS) (fun _ => ?_); clear hK K; (try simp only [Act.put, List.setIfInBounds_toArray, List.set_cons_zero, List.set_cons_succ]))
              ((refine wpAnyT_one 8 rfl (by kernel_rfl) (fun K hK => ?_); go_simp))
              refine upon_appG 27 54 (.agg #[.int .i64 0, .int .i64 0, .int .i64 0]) 3 24 Tryz.underlying27 (by kernel_rfl) rfl (by decide) (by decide) w.heap.size (.slice A n c) n (L'[k].flatMap cellsF) (own_fr PL3 FL) (by omega) (Nat.le_trans S3.fr.size FL.size) W6.heap.size 1 1 [.int .i64 f.rel, .int .i64 f.x, .int .i64 f.y] rfl (by omega) ⟨_, Blk.new W6 _ _⟩ rfl ?_
              intro v8 w8 hO8 hg8 hw8
              obtain ⟨A8, c8, rfl⟩ := own_form hO8
              obtain ⟨y0, y1, y2, y3⟩ := (S3.go FL).grow hkl (FL.cell hr) hg8
              rw [hLl] at y0
              have HS := keepQ _ y0 y1 (blk_grown (BF.fr FL) hg8 n3)
              ((try dsimp only); refine hK.out _ _ (fun _ => HS) (fun _ => ?_); clear hK K; (try simp only [Act.put, List.setIfInBounds_toArray, List.set_cons_zero, List.set_cons_succ]))
              ((refine wpAnyT_take 9 (v := ?_) rfl (by kernel_rfl) (fun _ _ _ h => h) (Or.inl ⟨by rfl, ?_⟩) (by assumption) ?_; rotate_left; (focus (intro W hSw; (try dsimp only at hSw); go_simp; (try with_reducible rfl); done)); (try simp only [Act.put, List.setIfInBounds_toArray, List.set_cons_zero, List.set_cons_succ])))
              ((refine wpAnyT_one 10 rfl (by kernel_rfl) (fun K hK => ?_); go_simp))
              ((try dsimp only); refine hK.out _ _ (fun h => absurd rfl h) (fun _ => ?_); clear hK K; (try simp only [Act.put, List.setIfInBounds_toArray, List.set_cons_zero, List.set_cons_succ]); refine wpAnyT_done (by kernel_rfl) ?_ _)
              obtain ⟨S9, K9⟩ := (S3.go FL).put (xs' := L'[k] ++ [f]) hkl (FL.cell hr) (by rw [List.length_append, HN.out, List.flatMap_append]; exact hO8) hg8 hw8
              have BA9 := hid (K9 _ _ _ (BA3.fr FL) (by decide) (by omega))
              clear keepQ HS BF S3 PL3 hO8 hg8 hw8 K9 BA3 hr hbx FL y0 y1 y2 y3
              generalize w8.setCell ⟨w.heap.size, k, none⟩ (.slice A8 (n + 1) c8) = W9 at S9 BA9 ⊢
              go_wp2
              go_roundw
              case rel => exact ⟨m + 1, L'.set k (L'[k] ++ [f]), by omega, by go_num, by rw [List.length_set]; exact hLl, hid S9, BA9, hid (PN.out hkl)⟩
              case measure => simp [intOf]; omega)
          · have PN := hid (show FillI bd fs k a (m + 1) L' from P.out.skip hlm (by rw [EF.out, EC.out]; simpa using hc))
            have hways : b1 = false ∨ (b1 = true ∧ b2 = false ∧ b3 = false) := by
              cases b1 <;> cases b2 <;> cases b3 <;> simp at hc ⊢
            clear hc EC P BF S
            rcases hways with rfl | ⟨rfl, rfl, rfl⟩
            all_goals (
              go_wp2
              go_roundw
              case rel => exact ⟨m + 1, L', by omega, by go_num, hLl, S2, BA2, PN⟩
              case measure => simp [intOf]; omega)
        · obtain rfl : m = fs.length := by omega
          have PN := hid (P.out.done hlt EA.out)
          clear P BA
          go_wp2
          go_roundw
          case rel => exact ⟨k + 1, L', by omega, by go_num, hLl, S, PN⟩
          case measure => simp [intOf]; omega
    · obtain rfl : k = bd.length := by omega
      have HC := hid (hP.out.cnd hLl)
      clear hP
      go_wp2
      go_loopw [10] (fun t wr => ∃ (b : Bool) (L : List (List Fact)), t = .bool b ∧ L.length = bd.length ∧ Hid (CdS w LB w.heap.size L wr) ∧ Hid (Cnd bd fs L)) (fun t wr => 2 * totW wr w.heap.size bd.length + bitV t)
      case atStart => exact ⟨true, L, rfl, hLl, S, HC⟩
      case round =>
        clear S HC hLl
        revert wr
        intro W1 hrel
        obtain ⟨b0, L, rfl, hLl, S, HC⟩ := hrel
        cases b0
        · have hbx : W1.cell? ⟨LB, 0, none⟩ = some (.slice (some ⟨w.heap.size, 0, none⟩) bd.length bd.length) := by rw [← hLl]; exact S.out.box.cell 0
          have RES := hid (show ∃ lb L, Ending.returned (.slice (some ⟨w.heap.size, 0, none⟩) bd.length bd.length) = .returned (.slice (some ⟨lb, 0, none⟩) bd.length bd.length) ∧ Cnd bd fs L ∧ LSt w.heap.size lb L W1 ∧ w.heap.size ≤ lb ∧ Fr w W1 from ⟨w.heap.size, L, rfl, HC.out, S.out.rows, Nat.le_refl _, S.out.fr⟩)
          clear S HC
          go_wp2
          go_ret
          exact RES.out
        · have q3 := S.out.fr.cell q2
          have hq3 : qb < W1.heap.size := Nat.lt_of_lt_of_le hqb S.out.fr.size
          go_wp2
          go_loopw [10, 75] (fun t s wr => ∃ (b : Bool) (k : Nat) (L' : List (List Fact)), t = .bool b ∧ s = .int .i64 k ∧ k ≤ bd.length ∧ L'.length = bd.length ∧ Hid (CdS w LB w.heap.size L' wr) ∧ Hid (Cnd bd fs L') ∧ Hid (tot L' ≤ tot L ∧ (b = true → tot L' < tot L))) (fun _ s _ => bd.length - (intOf s).toNat)
          case atStart => exact ⟨false, 0, L, rfl, rfl, by omega, hLl, S, HC, hid ⟨Nat.le_refl _, fun h => by cases h⟩⟩
          case round =>
            clear HC q3
            revert wr
            intro W2 hrel
            obtain ⟨b, k, L', rfl, rfl, hk, hLl', S', HC', HT⟩ := hrel
            by_cases hlt : k < bd.length
            · obtain ⟨ab, ao, hA, d0, d1, d2⟩ := HB.out.atom hlt
              subst hA
              replace d0 := S'.out.fr.cell d0
              replace d1 := S'.out.fr.cell d1
              replace d2 := S'.out.fr.cell d2
              have q3 := S'.out.fr.cell q2
              have hq4 : qb < W2.heap.size := Nat.lt_of_lt_of_le hqb S'.out.fr.size
              obtain ⟨a, ea⟩ : ∃ a, bd[k] = a := ⟨_, rfl⟩
              rw [ea] at d0 d1 d2
              have EA := hid ea
              have BA := Blk.new W2 63 #[.int .i64 a.rel, .int .i64 a.x, .int .i64 a.y]
              have S1 := S'.out.go ((Fr.refl W2).alloc (.cells #[.int .i64 a.rel, .int .i64 a.x, .int .i64 a.y] 63))
              have hg1 : w.heap.size < W2.heap.size := S'.out.rows.lt
              clear ea S'
              go_wp2
              obtain ⟨ga, ega⟩ : ∃ g, W2.heap.size = g := ⟨_, rfl⟩
              generalize W2.alloc (.cells #[.int .i64 a.rel, .int .i64 a.x, .int .i64 a.y] 63) = W3 at S1 BA ⊢
              rw [ega] at BA hg1 hq4 ⊢
              clear ega d0 d1 d2 q3
              go_loopw [10, 85] (fun t s wr => ∃ (b : Bool) (m : Nat) (L' : List (List Fact)), t = .bool b ∧ s = .int .i64 m ∧ m ≤ bd.length ∧ L'.length = bd.length ∧ Hid (CdS w LB w.heap.size L' wr) ∧ Hid (Cnd bd fs L') ∧ Hid (tot L' ≤ tot L ∧ (b = true → tot L' < tot L)) ∧ Hid (Blk wr ga 63 #[.int .i64 a.rel, .int .i64 a.x, .int .i64 a.y])) (fun _ s _ => bd.length - (intOf s).toNat)
              case atStart => exact ⟨b, 0, L', rfl, rfl, by omega, hLl', hid S1, HC', HT, hid BA⟩
              case round =>
                clear S1 BA HC' HT hLl'
                obtain ⟨b, m, L', rfl, rfl, hm, hLl', S', HC', HT, BA⟩ := hrel
                by_cases hlm : m < bd.length
                · obtain ⟨ab', ao', hA', e0, e1, e2⟩ := HB.out.atom hlm
                  cases hA'
                  replace e0 := S'.out.fr.cell e0
                  replace e1 := S'.out.fr.cell e1
                  replace e2 := S'.out.fr.cell e2
                  obtain ⟨a', ea'⟩ : ∃ a, bd[m] = a := ⟨_, rfl⟩
                  rw [ea'] at e0 e1 e2
                  have EB := hid ea'
                  have F4 : Fr wr ((wr.alloc (.cells #[.int .i64 m] 3)).alloc (.cells #[.int .i64 a'.rel, .int .i64 a'.x, .int .i64 a'.y] 63)) := by (repeat (first | with_reducible exact Fr.refl _ | with_reducible assumption | with_reducible refine Fr.alloc ?_ _ | with_reducible refine Fr.drew ?_ | with_reducible refine Fr.drewN ?_ _ | (with_reducible refine Fr.setNew2 ?_ ?_ _; · (simp <;> omega)) | with_reducible refine Fr.trans ?_ (by assumption)))
                  have BJ := (Blk.new wr 3 #[.int .i64 m]).alloc (.cells #[.int .i64 a'.rel, .int .i64 a'.x, .int .i64 a'.y] 63)
                  have BB := Blk.new (wr.alloc (.cells #[.int .i64 m] 3)) 63 #[.int .i64 a'.rel, .int .i64 a'.x, .int .i64 a'.y]
                  rw [World.size_alloc] at BB
                  have BA4 := hid (BA.out.fr F4)
                  have S4 := hid (S'.out.go F4)
                  clear ea'
                  by_cases hkm : k = m
                  · have ekm : ((k : Int) == (m : Int)) = true := by rw [hkm]; simp
                    clear BJ BB S' BA
                    go_wp2
                    go_roundw
                    case rel => exact ⟨b, m + 1, L', rfl, by go_num, by omega, hLl', S4, HC', HT, BA4⟩
                    case measure => simp [intOf]; omega
                  · have ekm : ((k : Int) == (m : Int)) = false := by rw [beq_eq_false_iff_ne]; omega
                    have hkl : k < L'.length := by omega
                    have hml : m < L'.length := by omega
                    obtain ⟨A, c, hr, hown⟩ := S'.out.rows.row hkl
                    have hlen : ∀ i (hi : i < L'.length), L'[i].length ≤ 900 := fun i hi => by
                      obtain ⟨p, hp⟩ := HC'.out.sub i (by omega)
                      rw [getD_at hi] at hp
                      rw [hp]
                      exact Nat.le_trans (List.length_filter_le _ _) hfl
                    have hlk := hlen k hkl
                    have hlm9 := hlen m hml
                    have HBJ := hid BJ
                    have HBB := hid BB
                    have hbx : wr.cell? ⟨LB, 0, none⟩ = some (.slice (some ⟨w.heap.size, 0, none⟩) bd.length bd.length) := by rw [← hLl']; exact S'.out.box.cell 0
                    have hsz : LB < wr.heap.size := S'.out.box.lt
                    have hsz2 : w.heap.size < wr.heap.size := S'.out.rows.lt
                    obtain ⟨xs, exs⟩ : ∃ xs, L'[k] = xs := ⟨_, rfl⟩
                    obtain ⟨ys, eys⟩ : ∃ ys, L'[m] = ys := ⟨_, rfl⟩
                    have PL := hid (own_fr hown F4)
                    have HX := hid exs
                    have HY := hid eys
                    rw [exs] at hr PL hlk
                    clear exs eys hown hlen S' BA BJ BB
                    go_wp2_with fail
                    refine wp_region_T (fun W => W.cell? ⟨LB, 0, none⟩ = some (.slice (some ⟨w.heap.size, 0, none⟩) bd.length bd.length) ∧ W.cell? ⟨w.heap.size, k, none⟩ = some (.slice A xs.length c)) 9 (by kernel_rfl) ?_
                    replace hbx := (F4.trans (Fr.refl _).drew).cell hbx
                    replace hr := (F4.trans (Fr.refl _).drew).cell hr
                    have S6 := S4.out.go (Fr.refl _).drew
                    have BJ6 := HBJ.out.drew
                    have BB6 := HBB.out.drew
                    have BA6 := BA4.out.drew
                    have PL6 := own_fr PL.out (Fr.refl _).drew
                    have PRED := S6.pred (k := k) (m := m) (A := A) (c := c) hkl hml hkm (by rw [HX.out]; exact hr) (by omega) BJ6 BA6 BB6
                    rw [HX.out, HY.out] at PRED
                    replace PRED := hid PRED
                    clear S4 HBJ HBB BA4 PL F4 BJ6 BB6
                    generalize ((wr.alloc (.cells #[.int .i64 m] 3)).alloc (.cells #[.int .i64 a'.rel, .int .i64 a'.x, .int .i64 a'.y] 63)).drew = W6 at S6 BA6 PL6 PRED hbx hr ⊢
                    have HS : W6.cell? ⟨LB, 0, none⟩ = some (.slice (some ⟨w.heap.size, 0, none⟩) bd.length bd.length) ∧ W6.cell? ⟨w.heap.size, k, none⟩ = some (.slice A xs.length c) := ⟨hbx, hr⟩
                    have hkn : (k : Int) < (bd.length : Int) := by omega
                    have DR := deleteRow 77 _ (enters_of Tryz.func77 (by kernel_rfl) rfl) (fun x => !(ys.any fun g => agr a x a' g)) w.heap.size A c xs W6 PL6 (by omega) PRED.out
                    obtain ⟨ds, eds⟩ : ∃ ds, (xs.filter fun x => !(!(ys.any fun g => agr a x a' g))) = ds := ⟨_, rfl⟩
                    rw [eds] at DR
                    replace DR := hid DR
                    ((refine wpAnyT_take 0 (v := ?_) rfl (by kernel_rfl) (fun _ _ _ h => h) (Or.inl ⟨by rfl, ?_⟩) (by assumption) ?_; rotate_left; (focus (intro W hSw; (try dsimp only at hSw); go_simp; (try with_reducible rfl); done)); (try simp only [Act.put, List.setIfInBounds_toArray, List.set_cons_zero, List.set_cons_succ])); (refine wpAnyT_take 1 (v := ?_) rfl (by kernel_rfl) (fun _ _ _ h => h) (Or.inl ⟨by rfl, ?_⟩) (by assumption) ?_; rotate_left; (focus (intro W hSw; (try dsimp only at hSw); go_simp; (try with_reducible rfl); done)); (try simp only [Act.put, List.setIfInBounds_toArray, List.set_cons_zero, List.set_cons_succ])); (refine wpAnyT_take 2 (v := ?_) rfl (by kernel_rfl) (fun _ _ _ h => h) (Or.inl ⟨by rfl, ?_⟩) (by assumption) ?_; rotate_left; (focus (intro W hSw; (try dsimp only at hSw); go_simp; (try with_reducible rfl); done)); (try simp only [Act.put, List.setIfInBounds_toArray, List.set_cons_zero, List.set_cons_succ])); (refine wpAnyT_take 3 (v := ?_) rfl (by kernel_rfl) (fun _ _ _ h => h) (Or.inl ⟨by rfl, ?_⟩) (by assumption) ?_; rotate_left; (focus (intro W hSw; (try dsimp only at hSw); go_simp; (try with_reducible rfl); done)); (try simp only [Act.put, List.setIfInBounds_toArray, List.set_cons_zero, List.set_cons_succ])); (refine wpAnyT_take 4 (v := ?_) rfl (by kernel_rfl) (fun _ _ _ h => h) (Or.inl ⟨by rfl, ?_⟩) (by assumption) ?_; rotate_left; (focus (intro W hSw; (try dsimp only at hSw); go_simp; (try with_reducible rfl); done)); (try simp only [Act.put, List.setIfInBounds_toArray, List.set_cons_zero, List.set_cons_succ])); (refine wpAnyT_take 5 (v := ?_) rfl (by kernel_rfl) (fun _ _ _ h => h) (Or.inl ⟨by rfl, ?_⟩) (by assumption) ?_; rotate_left; (focus (intro W hSw; (try dsimp only at hSw); go_simp; (try with_reducible rfl); done)); (try simp only [Act.put, List.setIfInBounds_toArray, List.set_cons_zero, List.set_cons_succ])); (refine wpAnyT_take 6 (v := ?_) rfl (by kernel_rfl) (fun _ _ _ h => h) (Or.inl ⟨by rfl, ?_⟩) (by assumption) ?_; rotate_left; (focus (intro W hSw; (try dsimp only at hSw); go_simp; (try with_reducible rfl); done)); (try simp only [Act.put, List.setIfInBounds_toArray, List.set_cons_zero, List.set_cons_succ])))
                    ((refine wpAnyT_one 7 rfl (by kernel_rfl) (fun K hK => ?_); go_simp))
                    refine DR.out.mono ?_
                    rintro e w7 ⟨A7, c7, rfl, hO7, hg7, hw7⟩
                    have hr6 : W6.cell? ⟨w.heap.size, k, none⟩ = some (.slice A L'[k].length c) := by rw [HX.out]; exact hr
                    obtain ⟨y0, y1, y2, y3⟩ := S6.grow hkl hr hg7
                    rw [hLl'] at y0
                    have HS : w7.cell? ⟨LB, 0, none⟩ = some (.slice (some ⟨w.heap.size, 0, none⟩) bd.length bd.length) ∧ w7.cell? ⟨w.heap.size, k, none⟩ = some (.slice A xs.length c) := ⟨y0, y1⟩
                    ((try dsimp only); refine hK.out _ _ (fun _ => HS) (fun _ => ?_); clear hK K; (try simp only [Act.put, List.setIfInBounds_toArray, List.set_cons_zero, List.set_cons_succ]))
                    ((refine wpAnyT_take 8 (v := ?_) rfl (by kernel_rfl) (fun _ _ _ h => h) (Or.inl ⟨by rfl, ?_⟩) (by assumption) ?_; rotate_left; (focus (intro W hSw; (try dsimp only at hSw); go_simp; (try with_reducible rfl); done)); (try simp only [Act.put, List.setIfInBounds_toArray, List.set_cons_zero, List.set_cons_succ])))
                    ((refine wpAnyT_one 9 rfl (by kernel_rfl) (fun K hK => ?_); go_simp))
                    ((try dsimp only); refine hK.out _ _ (fun h => absurd rfl h) (fun _ => ?_); clear hK K; (try simp only [Act.put, List.setIfInBounds_toArray, List.set_cons_zero, List.set_cons_succ]); refine wpAnyT_done (by kernel_rfl) ?_ _)
                    obtain ⟨S9, K9⟩ := S6.put (xs' := ds) hkl hr hO7 hg7 hw7
                    have BA9 := hid (K9 _ _ _ BA6 (by decide) (by omega))
                    have hCUT := HC'.out.cut (i := k) (j := m) (by omega) hlm
                    have efl : ((L'.getD k []).filter fun f => (L'.getD m []).any fun g => agr bd[k] f bd[m] g) = ds := by
                      rw [getD_at hkl, getD_at hml, HX.out, HY.out, EA.out, EB.out, ← eds]
                      simp only [Bool.not_not]
                    rw [efl] at hCUT
                    have hle : ds.length ≤ xs.length := by rw [← eds]; exact List.length_filter_le _ _
                    have hTS := tot_set hkl ds
                    rw [HX.out] at hTS
                    have HC9 := hid hCUT
                    clear hCUT efl eds HS PRED hO7 hg7 hw7 K9 BA6 hr hbx hr6 y0 y1 y2 y3 S6 PL6 HC' DR
                    generalize w7.setCell ⟨w.heap.size, k, none⟩ (.slice A7 ds.length c7) = W9 at S9 BA9 ⊢
                    have hl9 : (L'.set k ds).length = bd.length := by rw [List.length_set]; exact hLl'
                    have hbx : W9.cell? ⟨LB, 0, none⟩ = some (.slice (some ⟨w.heap.size, 0, none⟩) bd.length bd.length) := by rw [← hl9]; exact S9.box.cell 0
                    obtain ⟨A9, c9, hr9, _⟩ := S9.rows.row (i := k) (by omega)
                    rw [List.getElem_set_self] at hr9
                    have HT2 := HT.out
                    have HS9 := hid S9
                    clear S9 HX HY
                    cases b
                    · by_cases hdl : ds.length < xs.length
                      · have edl : decide ((ds.length : Int) < (xs.length : Int)) = true := decide_eq_true (by omega)
                        have HT9 := hid (show tot (L'.set k ds) ≤ tot L ∧ (true = true → tot (L'.set k ds) < tot L) from ⟨by omega, fun _ => by omega⟩)
                        clear HT2 hTS hle
                        go_wp2
                        go_roundw
                        case rel => exact ⟨true, m + 1, L'.set k ds, rfl, by go_num, by omega, hl9, HS9, HC9, HT9, BA9⟩
                        case measure => simp [intOf]; omega
                      · have edl : decide ((ds.length : Int) < (xs.length : Int)) = false := decide_eq_false (by omega)
                        have HT9 := hid (show tot (L'.set k ds) ≤ tot L ∧ (false = true → tot (L'.set k ds) < tot L) from ⟨by omega, fun h => by cases h⟩)
                        clear HT2 hTS hle
                        go_wp2
                        go_roundw
                        case rel => exact ⟨false, m + 1, L'.set k ds, rfl, by go_num, by omega, hl9, HS9, HC9, HT9, BA9⟩
                        case measure => simp [intOf]; omega
                    · have := HT2.2 rfl
                      have HT9 := hid (show tot (L'.set k ds) ≤ tot L ∧ (true = true → tot (L'.set k ds) < tot L) from ⟨by omega, fun _ => by omega⟩)
                      clear HT2 hTS hle this
                      go_wp2
                      go_roundw
                      case rel => exact ⟨true, m + 1, L'.set k ds, rfl, by go_num, by omega, hl9, HS9, HC9, HT9, BA9⟩
                      case measure => simp [intOf]; omega
                · obtain rfl : m = bd.length := by omega
                  clear BA
                  go_wp2
                  go_roundw
                  case rel => exact ⟨b, k + 1, L', rfl, by go_num, by omega, hLl', S', HC', HT⟩
                  case measure => simp [intOf]; omega
            · obtain rfl : k = bd.length := by omega
              have e1 := S.out.rows.tot
              have e2 := S'.out.rows.tot
              rw [hLl] at e1
              rw [hLl'] at e2
              have HT2 := HT.out
              have HM := hid (show 2 * totW W2 w.heap.size bd.length + bitV (.bool b) < 2 * totW W1 w.heap.size bd.length + bitV (.bool true) by
                rw [e1, e2]
                cases b
                · show 2 * tot L' + 0 < 2 * tot L + 1
                  omega
                · have := HT2.2 rfl
                  show 2 * tot L' + 1 < 2 * tot L + 1
                  omega)
              clear e1 e2 HT2 HT S
              go_wp2
              go_roundw
              case rel => exact ⟨b, L', rfl, hLl', S', HC'⟩
              case measure => exact HM.out
end Go.Proofs.YtahclhldpcboeaaGreatDoor
