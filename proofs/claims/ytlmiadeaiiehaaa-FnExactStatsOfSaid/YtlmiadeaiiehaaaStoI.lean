/- Walk of the program's StatsOf. -/
import Derived.Test.YtlmiadeaiiehaaaStM
import Derived.Test.YtlmiadeaiiehaaaTableW
import Derived.Test.YtlmiadeaiiehaaaCountP
import Derived.Test.YtlmiadeaiiehaaaOwnN
import Derived.Test.YtlmiadeaiiehaaaHeldT
import Derived.Maps.OwnSet
namespace Go.Proofs.Ytlmiadeaiiehaaa
open Go Go.RowKit Go.Maps

theorem keyInt : Keyed Try.prog 3 := int_keyed Try.underlying3
theorem zeroInt (w : World) : (zeroValue 3).run Try.prog w = .ok (.int .i64 0) w := by kernel_rfl
theorem made_zero (n : Nat) : madeCells #[Value.int .i64 0] n = ((List.replicate n (0 : Int)).map iv).toArray := by
  unfold madeCells
  apply Array.ext
  · simp
  · intro i h1 h2
    simp [iv, Nat.mod_one]
/-- Three numbers may come up. -/
theorem wpAnyT_three {P : Program} {ops : Array Oper} {Q : Exit → Act → World → Prop} {md : Region.Mode} {S : World → Prop} {n : Nat} (i j k : Nat) {o o' o'' : Oper} {r r' r'' : List Oper} {f : Nat} {b : Array Bool} {a : Act} {w : World} (ho : List.drop i ops.toList = o :: r) (ho' : List.drop j ops.toList = o' :: r') (ho'' : List.drop k ops.toList = o'' :: r'') (hr : Region.ready md ops b = [i, j, k])
    (h : ∀ K' : Act → World → Prop, Shut (∀ a w, (i ≠ n → S w) → ((i ≠ n → S w) → wpAnyT P md ops Q S n f (b.setIfInBounds i true) a w) → K' a w) → if Region.wanted o (yielded ops a.tmps) = true then Oper.wp P o a w K' Q else K' (a.put o.dst undef) w)
    (h' : ∀ K' : Act → World → Prop, Shut (∀ a w, (j ≠ n → S w) → ((j ≠ n → S w) → wpAnyT P md ops Q S n f (b.setIfInBounds j true) a w) → K' a w) → if Region.wanted o' (yielded ops a.tmps) = true then Oper.wp P o' a w K' Q else K' (a.put o'.dst undef) w)
    (h'' : ∀ K' : Act → World → Prop, Shut (∀ a w, (k ≠ n → S w) → ((k ≠ n → S w) → wpAnyT P md ops Q S n f (b.setIfInBounds k true) a w) → K' a w) → if Region.wanted o'' (yielded ops a.tmps) = true then Oper.wp P o'' a w K' Q else K' (a.put o''.dst undef) w) :
    wpAnyT P md ops Q S n (f + 1) b a w := by
  refine ⟨fun h0 => by (rw [hr] at h0; cases h0), fun q hq => ?_⟩
  rw [hr] at hq
  rcases List.mem_cons.1 hq with rfl | hq
  · exact wpOp_step (drop_at ho) (fun K' hK => h K' (fun a w hS hW => hK a w ⟨hS, hW hS⟩))
  · rcases List.mem_cons.1 hq with rfl | hq
    · exact wpOp_step (drop_at ho') (fun K' hK => h' K' (fun a w hS hW => hK a w ⟨hS, hW hS⟩))
    · obtain rfl : q = k := by simpa using hq
      exact wpOp_step (drop_at ho'') (fun K' hK => h'' K' (fun a w hS hW => hK a w ⟨hS, hW hS⟩))
/-- The lists while they are filled: columns before k are done, column k as far as row i. -/
def dsA (W : Nat) (rows : List (List V)) (k : Nat) : List Int := (List.range W).map fun c => if c < k then ((seenL c rows).length : Int) else 0
def nsA (W : Nat) (rows : List (List V)) (k i : Nat) : List Int := (List.range W).map fun c => if c < k then (nulC c rows : Int) else if c = k then (nulC k (rows.take i) : Int) else 0
theorem dsA_len (W : Nat) (rows : List (List V)) (k : Nat) : (dsA W rows k).length = W := by simp [dsA]
theorem nsA_len (W : Nat) (rows : List (List V)) (k i : Nat) : (nsA W rows k i).length = W := by simp [nsA]
theorem dsA_zero (W : Nat) (rows : List (List V)) : dsA W rows 0 = List.replicate W 0 := by
  unfold dsA
  apply List.ext_getElem
  · simp
  · intro i h1 h2; simp
theorem nsA_zero (W : Nat) (rows : List (List V)) : nsA W rows 0 0 = List.replicate W 0 := by
  unfold nsA
  apply List.ext_getElem
  · simp
  · intro i h1 h2; simp [nulC]
theorem dsA_all (W : Nat) (rows : List (List V)) : dsA W rows W = dstL W rows := by
  unfold dsA dstL
  apply List.ext_getElem
  · simp
  · intro i h1 h2
    have : i < W := by simpa using h1
    simp [this]
theorem nsA_all (W : Nat) (rows : List (List V)) : nsA W rows W 0 = nulL W rows := by
  unfold nsA nulL
  apply List.ext_getElem
  · simp
  · intro i h1 h2
    have : i < W := by simpa using h1
    simp [this]
theorem dsA_set {W k : Nat} {rows : List (List V)} : (dsA W rows k).set k ((seenL k rows).length : Int) = dsA W rows (k + 1) := by
  unfold dsA
  apply List.ext_getElem
  · simp
  · intro i h1 h2
    rw [List.getElem_set]
    by_cases e : k = i
    · subst e; simp
    · simp only [if_neg e, List.getElem_map, List.getElem_range]
      by_cases h : i < k
      · rw [if_pos h, if_pos (by omega)]
      · rw [if_neg h, if_neg (by omega)]
theorem nsA_at {W k i : Nat} {rows : List (List V)} (h : k < W) : (nsA W rows k i)[k]'(by rw [nsA_len]; exact h) = (nulC k (rows.take i) : Int) := by
  simp [nsA]
theorem nsA_set {W k i j : Nat} {rows : List (List V)} : (nsA W rows k i).set k (nulC k (rows.take j) : Int) = nsA W rows k j := by
  unfold nsA
  apply List.ext_getElem
  · simp
  · intro q h1 h2
    rw [List.getElem_set]
    by_cases e : k = q
    · subst e; simp
    · simp only [if_neg e, List.getElem_map, List.getElem_range]
      by_cases h : q < k
      · rw [if_pos h, if_pos h]
      · rw [if_neg h, if_neg h, if_neg (fun h => e h.symm), if_neg (fun h => e h.symm)]
theorem nsA_next {W k : Nat} {rows : List (List V)} : nsA W rows k rows.length = nsA W rows (k + 1) 0 := by
  unfold nsA
  apply List.ext_getElem
  · simp
  · intro q h1 h2
    simp only [List.getElem_map, List.getElem_range, List.take_length]
    by_cases h : q < k
    · rw [if_pos h, if_pos (by omega)]
    · by_cases e : q = k
      · subst e; rw [if_neg h, if_pos rfl, if_pos (by omega)]
      · rw [if_neg h, if_neg e, if_neg (by omega)]
        split
        · simp [nulC]
        · rfl
theorem nsA_same {W k i : Nat} {rows : List (List V)} (h : nulC k (rows.take (i + 1)) = nulC k (rows.take i)) : nsA W rows k (i + 1) = nsA W rows k i := by
  unfold nsA
  rw [h]
/-- The program's state: where its blocks lie and what they hold. -/
structure ImS (w0 : World) (T R O D N W c : Nat) (A : Option Addr) (rows : List (List V)) (ds ns : List Int) (wr : World) : Prop where
  bT : Blk wr T 32 #[.int .i64 (W : Int), .slice A rows.length c]
  bR : Blk wr R 28 #[.int .i64 0, .slice none 0 0, .slice none 0 0]
  bO : Blk wr O 28 #[.int .i64 (rows.length : Int), .slice (some ⟨D, 0, none⟩) W W, .slice (some ⟨N, 0, none⟩) W W]
  bD : Blk wr D 3 (ds.map iv).toArray
  bN : Blk wr N 3 (ns.map iv).toArray
  fr : Fr w0 wr
/-- The blocks lie apart, behind w0. -/
structure Ord (w0 : World) (T R O D N : Nat) : Prop where
  hT : w0.heap.size ≤ T
  hR : w0.heap.size ≤ R
  hO : w0.heap.size ≤ O
  hD : w0.heap.size ≤ D
  hN : w0.heap.size ≤ N
  h1 : T ≠ D ∧ R ≠ D ∧ O ≠ D ∧ N ≠ D
  h2 : T ≠ N ∧ R ≠ N ∧ O ≠ N
  h3 : T ≠ R ∧ O ≠ R
section
variable {w0 wr w' : World} {T R O D N W c : Nat} {A : Option Addr} {rows : List (List V)} {ds ns : List Int}
theorem ImS.frI (h : ImS w0 T R O D N W c A rows ds ns wr) (hf : Fr wr w') : ImS w0 T R O D N W c A rows ds ns w' := ⟨h.bT.fr hf, h.bR.fr hf, h.bO.fr hf, h.bD.fr hf, h.bN.fr hf, h.fr.trans hf⟩
theorem ImS.grown {B : Nat} (h : ImS w0 T R O D N W c A rows ds ns wr) (hg : wr.grownBy w' (some B)) (hB : w0.heap.size ≤ B) (h1 : T ≠ B) (h2 : R ≠ B) (h3 : O ≠ B) (h4 : D ≠ B) (h5 : N ≠ B) : ImS w0 T R O D N W c A rows ds ns w' :=
  ⟨blk_grown h.bT hg (by simpa using h1), blk_grown h.bR hg (by simpa using h2), blk_grown h.bO hg (by simpa using h3), blk_grown h.bD hg (by simpa using h4), blk_grown h.bN hg (by simpa using h5), Below.grown h.fr hg h.fr.size (fun j hj => by cases hj; exact hB)⟩
theorem arr_set (l : List Int) (k : Nat) (x : Int) : (l.map iv).toArray.setIfInBounds k (.int .i64 x) = ((l.set k x).map iv).toArray := by
  simp [iv]
theorem ImS.setD (h : ImS w0 T R O D N W c A rows ds ns wr) (ho : Ord w0 T R O D N) (k : Nat) (x : Int) : ImS w0 T R O D N W c A rows (ds.set k x) ns (wr.setCell ⟨D, k, none⟩ (.int .i64 x)) := by
  refine ⟨h.bT.far ho.h1.1 _, h.bR.far ho.h1.2.1 _, h.bO.far ho.h1.2.2.1 _, ?_, h.bN.far ho.h1.2.2.2 _, h.fr.setNew ho.hD _⟩
  rw [← arr_set]
  exact h.bD.set_ k _
theorem ImS.setN (h : ImS w0 T R O D N W c A rows ds ns wr) (ho : Ord w0 T R O D N) (k : Nat) (x : Int) : ImS w0 T R O D N W c A rows ds (ns.set k x) (wr.setCell ⟨N, k, none⟩ (.int .i64 x)) := by
  refine ⟨h.bT.far ho.h2.1 _, h.bR.far ho.h2.2.1 _, h.bO.far ho.h2.2.2 _, h.bD.far (Ne.symm ho.h1.2.2.2) _, ?_, h.fr.setNew ho.hN _⟩
  rw [← arr_set]
  exact h.bN.set_ k _
theorem blk_list {g i : Nat} {t : TypeId} {l : List Int} (h : Blk wr g t (l.map iv).toArray) (hi : i < l.length) : wr.cell? ⟨g, i, none⟩ = some (.int .i64 l[i]) := by
  rw [h.cell]
  simp [hi, iv]
theorem rd_blkI {g lo : Nat} {t : TypeId} {l : List Int} (h : Blk wr g t (l.map iv).toArray) (hg : lo ≤ g) : RdSl rdInt (fromB wr lo) 1 (some ⟨g, 0, none⟩) l := fun _ => ⟨g, 0, rfl, fun i hi => by
  show fromB wr lo ⟨g, 0 + i * 1 + 0, none⟩ = _
  unfold fromB
  rw [if_pos hg, show 0 + i * 1 + 0 = i by omega, blk_list h hi]⟩
theorem stPost_mk {lo n : Nat} {r : Int} (hD : Blk wr D 3 (ds.map iv).toArray) (hN : Blk wr N 3 (ns.map iv).toArray) (h1 : lo ≤ D) (h2 : lo ≤ N) (hne : D ≠ N) (l1 : ds.length = n) (l2 : ns.length = n) :
    StPost lo ⟨r, ds, ns⟩ (.returned (.agg #[.int .i64 r, .slice (some ⟨D, 0, none⟩) n n, .slice (some ⟨N, 0, none⟩) n n])) wr := by
  refine ⟨some ⟨D, 0, none⟩, n, some ⟨N, 0, none⟩, n, by dsimp only; rw [l1, l2], ⟨rd_blkI hD h1, rd_blkI hN h2⟩, ⟨fun _ => ⟨D, _, _, rfl, hD, by simp⟩, fun _ => ⟨N, _, _, rfl, hN, by simp⟩, (fun k a b => ?_), (fun k a => ?_)⟩, fun k a => ?_⟩
  · obtain ⟨_, q1, q2⟩ := a
    obtain ⟨_, q3, q4⟩ := b
    cases q1; cases q3
    exact hne (q2.trans q4.symm)
  · rcases a with ⟨_, q1, q2⟩ | ⟨_, q1, q2⟩
    · cases q1; rw [← q2]; exact hD.lt
    · cases q1; rw [← q2]; exact hN.lt
  · rcases a with ⟨_, q1, q2⟩ | ⟨_, q1, q2⟩
    · cases q1; rw [← q2]; exact h1
    · cases q1; rw [← q2]; exact h2
end

set_option maxRecDepth 100000 in
set_option maxHeartbeats 8000000 in
theorem implStatsOf (wd : Int) (A0 : Option Addr) (c0 : Nat) (rows : List (List V)) (w : World) (hx : RdSl rdRow w.cell? 1 A0 rows) (hl : SmallR rows) :
    Calls Try.prog 8 #[.agg #[.int .i64 wd, .slice A0 rows.length c0]] w fun r w' => StPost w.heap.size (statOf wd rows) r w' ∧ Fr w w' := by
  have HX := hid hx
  clear hx
  have BT := (Blk.new w 32 #[.int .i64 wd, .slice A0 rows.length c0]).alloc (.cells #[.int .i64 0, .slice none 0 0, .slice none 0 0] 28)
  have BR := blk_new1 w (.cells #[.int .i64 wd, .slice A0 rows.length c0] 32) 28 #[.int .i64 0, .slice none 0 0, .slice none 0 0]
  have F0 : Fr w ((w.alloc (.cells #[.int .i64 wd, .slice A0 rows.length c0] 32)).alloc (.cells #[.int .i64 0, .slice none 0 0, .slice none 0 0] 28)) := by (repeat (first | with_reducible exact Fr.refl _ | with_reducible assumption | with_reducible refine Fr.alloc ?_ _ | with_reducible refine Fr.drew ?_ | with_reducible refine Fr.drewN ?_ _ | (with_reducible refine Fr.setNew2 ?_ ?_ _; · (simp <;> omega)) | with_reducible refine Fr.trans ?_ (by assumption)))
  have hmm := @run_makeMap Try.prog
  go_enter Try.func8, Try.ntmps8
  go_wp2_with fail
  refine absW fun W0 hW0 => ?_
  rw [← hW0] at BT BR F0
  obtain ⟨T, eT⟩ : ∃ g, w.heap.size = g := ⟨_, rfl⟩
  obtain ⟨R, eR⟩ : ∃ g, T + 1 = g := ⟨_, rfl⟩
  rw [eT] at BT
  rw [eT, eR] at BR
  simp only [eT, eR]
  have ho := hid (show w.heap.size ≤ T ∧ w.heap.size ≤ R ∧ T ≠ R by omega)
  clear hW0 eT eR
  refine (implValidTable wd A0 c0 rows _ (HX.out.fr rdRow_mono F0) hl).mono ?_
  rintro e w1 ⟨rfl, b1⟩
  have F1 := F0.trans b1
  have BR1 := BR.fr b1
  have BT1 := BT.fr b1
  clear BR BT b1 F0
  cases hv : vtab wd rows
  · have E := hid (show statOf wd rows = ⟨0, [], []⟩ by unfold statOf; rw [hv]; rfl)
    obtain ⟨r0, r1, r2, s0, s1, s2⟩ := BR1.three
    have BF := hid (((BR1.set_ 0 (.int .i64 0)).set_ 1 (.slice none 0 0)).set_ 2 (.slice none 0 0))
    have FF := hid (((F1.setNew (p := ⟨R, 0, none⟩) ho.out.2.1 (.int .i64 0)).setNew (p := ⟨R, 1, none⟩) ho.out.2.1 (.slice none 0 0)).setNew (p := ⟨R, 2, none⟩) ho.out.2.1 (.slice none 0 0))
    clear hv
    go_wp2
    rw [E.out]
    obtain ⟨u0, u1, u2, _⟩ := BF.out.three
    exact bodyPost_ret (v := .agg #[.int .i64 0, .slice none 0 0, .slice none 0 0]) (by simp [results, Try.results8, go_sem, u0, u1, u2]) rfl ⟨⟨none, 0, none, 0, rfl, ⟨RdSl.nil, RdSl.nil⟩, ⟨fun h => absurd rfl h, fun h => absurd rfl h, (fun k h => by obtain ⟨_, h, _⟩ := h; cases h), (fun k h => by rcases h with ⟨_, h, _⟩ | ⟨_, h, _⟩ <;> cases h)⟩, (fun k h => by rcases h with ⟨_, h, _⟩ | ⟨_, h, _⟩ <;> cases h)⟩, FF.out⟩
  · obtain ⟨v1, v2, v3⟩ := vtab_parts hv
    obtain ⟨W, eW⟩ : ∃ W : Nat, wd = (W : Int) := ⟨wd.toNat, by omega⟩
    subst eW
    have E := hid (show statOf (W : Int) rows = ⟨rows.length, dstL W rows, nulL W rows⟩ by unfold statOf; rw [hv]; rfl)
    have HR := hid (fun i (h : i < rows.length) => show rows[i].length = W ∧ rows[i].all V.valid = true by have := (vtab_row hv h); exact ⟨by omega, this.1⟩)
    clear hv
    obtain ⟨t0, t1, _⟩ := BT1.pair
    have hTl := BT1.lt
    have hRl := BR1.lt
    have hmk := mk_row (P := Try.prog) 26 3 (.int .i64 0) 1 8 Try.underlying26 (by kernel_rfl) W (by omega) (by omega)
    simp only [Value.cells, Nat.mul_one, made_zero] at hmk
    obtain ⟨Z, eZ⟩ : ∃ Z, ((List.replicate W (0 : Int)).map iv).toArray = Z := ⟨_, rfl⟩
    have HZ := hid eZ
    rw [eZ] at hmk
    clear eZ
    have keepQ : ∀ W', Fr w1 W' → W'.cell? ⟨T, 0, none⟩ = some (.int .i64 (W : Int)) ∧ W'.cell? ⟨T, 1, none⟩ = some (.slice A0 rows.length c0) := fun W' h => ⟨h.cell t0, h.cell t1⟩
    have D1 : Fr w1 w1.drew := (Fr.refl _).drew
    clear t0 t1
    go_wp2_with fail
    refine wp_region_T (fun W' => W'.cell? ⟨T, 0, none⟩ = some (.int .i64 (W : Int)) ∧ W'.cell? ⟨T, 1, none⟩ = some (.slice A0 rows.length c0)) 11 (by kernel_rfl) ?_
    have HS := keepQ _ D1
    ((refine wpAnyT_take 0 (v := ?_) rfl (by kernel_rfl) (fun _ _ _ h => h) (Or.inl ⟨by rfl, ?_⟩) (by assumption) ?_; rotate_left; (focus (intro W hSw; (try dsimp only at hSw); go_simp; (try with_reducible rfl); done)); (try simp only [Act.put, List.setIfInBounds_toArray, List.set_cons_zero, List.set_cons_succ])); (refine wpAnyT_take 1 (v := ?_) rfl (by kernel_rfl) (fun _ _ _ h => h) (Or.inl ⟨by rfl, ?_⟩) (by assumption) ?_; rotate_left; (focus (intro W hSw; (try dsimp only at hSw); go_simp; (try with_reducible rfl); done)); (try simp only [Act.put, List.setIfInBounds_toArray, List.set_cons_zero, List.set_cons_succ])); (refine wpAnyT_take 2 (v := ?_) rfl (by kernel_rfl) (fun _ _ _ h => h) (Or.inl ⟨by rfl, ?_⟩) (by assumption) ?_; rotate_left; (focus (intro W hSw; (try dsimp only at hSw); go_simp; (try with_reducible rfl); done)); (try simp only [Act.put, List.setIfInBounds_toArray, List.set_cons_zero, List.set_cons_succ])); (refine wpAnyT_take 3 (v := ?_) rfl (by kernel_rfl) (fun _ _ _ h => h) (Or.inl ⟨by rfl, ?_⟩) (by assumption) ?_; rotate_left; (focus (intro W hSw; (try dsimp only at hSw); go_simp; (try with_reducible rfl); done)); (try simp only [Act.put, List.setIfInBounds_toArray, List.set_cons_zero, List.set_cons_succ])); (refine wpAnyT_take 4 (v := ?_) rfl (by kernel_rfl) (fun _ _ _ h => h) (Or.inl ⟨by rfl, ?_⟩) (by assumption) ?_; rotate_left; (focus (intro W hSw; (try dsimp only at hSw); go_simp; (try with_reducible rfl); done)); (try simp only [Act.put, List.setIfInBounds_toArray, List.set_cons_zero, List.set_cons_succ])); (refine wpAnyT_take 6 (v := ?_) rfl (by kernel_rfl) (fun _ _ _ h => h) (Or.inl ⟨by rfl, ?_⟩) (by assumption) ?_; rotate_left; (focus (intro W hSw; (try dsimp only at hSw); go_simp; (try with_reducible rfl); done)); (try simp only [Act.put, List.setIfInBounds_toArray, List.set_cons_zero, List.set_cons_succ])); (refine wpAnyT_take 7 (v := ?_) rfl (by kernel_rfl) (fun _ _ _ h => h) (Or.inl ⟨by rfl, ?_⟩) (by assumption) ?_; rotate_left; (focus (intro W hSw; (try dsimp only at hSw); go_simp; (try with_reducible rfl); done)); (try simp only [Act.put, List.setIfInBounds_toArray, List.set_cons_zero, List.set_cons_succ])))
    refine wpAnyT_three 5 8 10 rfl rfl rfl (by kernel_rfl) (fun K hK => ?_) (fun K hK => ?_) (fun K hK => ?_) <;> go_simp
    · have HS := keepQ _ (show Fr w1 (w1.alloc (.cells Z 3)).drew by (repeat (first | with_reducible exact Fr.refl _ | with_reducible assumption | with_reducible refine Fr.alloc ?_ _ | with_reducible refine Fr.drew ?_ | with_reducible refine Fr.drewN ?_ _ | (with_reducible refine Fr.setNew2 ?_ ?_ _; · (simp <;> omega)) | with_reducible refine Fr.trans ?_ (by assumption))))
      ((try dsimp only); refine hK.out _ _ (fun _ => HS) (fun _ => ?_); clear hK K; (try simp only [Act.put, List.setIfInBounds_toArray, List.set_cons_zero, List.set_cons_succ]))
      refine wpAnyT_two 8 10 rfl rfl (by kernel_rfl) (fun K hK => ?_) (fun K hK => ?_) <;> go_simp
      · have HS := keepQ _ (show Fr w1 ((w1.alloc (.cells Z 3)).alloc (.cells Z 3)).drew by (repeat (first | with_reducible exact Fr.refl _ | with_reducible assumption | with_reducible refine Fr.alloc ?_ _ | with_reducible refine Fr.drew ?_ | with_reducible refine Fr.drewN ?_ _ | (with_reducible refine Fr.setNew2 ?_ ?_ _; · (simp <;> omega)) | with_reducible refine Fr.trans ?_ (by assumption))))
        ((try dsimp only); refine hK.out _ _ (fun _ => HS) (fun _ => ?_); clear hK K; (try simp only [Act.put, List.setIfInBounds_toArray, List.set_cons_zero, List.set_cons_succ]))
        ((refine wpAnyT_take 9 (v := ?_) rfl (by kernel_rfl) (fun _ _ _ h => h) (Or.inl ⟨by rfl, ?_⟩) (by assumption) ?_; rotate_left; (focus (intro W hSw; (try dsimp only at hSw); go_simp; (try with_reducible rfl); done)); (try simp only [Act.put, List.setIfInBounds_toArray, List.set_cons_zero, List.set_cons_succ])))
        ((refine wpAnyT_one 10 rfl (by kernel_rfl) (fun K hK => ?_); go_simp))
        have HS := keepQ _ (show Fr w1 (((w1.alloc (.cells Z 3)).alloc (.cells Z 3)).alloc (.cells #[.int .i64 0, .slice none 0 0, .slice none 0 0] 28)).drew by (repeat (first | with_reducible exact Fr.refl _ | with_reducible assumption | with_reducible refine Fr.alloc ?_ _ | with_reducible refine Fr.drew ?_ | with_reducible refine Fr.drewN ?_ _ | (with_reducible refine Fr.setNew2 ?_ ?_ _; · (simp <;> omega)) | with_reducible refine Fr.trans ?_ (by assumption))))
        ((try dsimp only); refine hK.out _ _ (fun _ => HS) (fun _ => ?_); clear hK K; (try simp only [Act.put, List.setIfInBounds_toArray, List.set_cons_zero, List.set_cons_succ]))
        ((refine wpAnyT_one 11 rfl (by kernel_rfl) (fun K hK => ?_); go_simp))
        ((try dsimp only); refine hK.out _ _ (fun h => absurd rfl h) (fun _ => ?_); clear hK K; (try simp only [Act.put, List.setIfInBounds_toArray, List.set_cons_zero, List.set_cons_succ]); refine wpAnyT_done (by kernel_rfl) ?_ _)
        clear HS
        have BD : Blk ((((w1.alloc (.cells Z 3)).alloc (.cells Z 3)).alloc (.cells #[.int .i64 (rows.length : Int), .slice (some ⟨w1.heap.size, 0, none⟩) W W, .slice (some ⟨w1.heap.size + 1, 0, none⟩) W W] 28))) (w1.heap.size) 3 Z := by have h := (((Blk.new (w1) 3 Z).alloc (.cells Z 3)).alloc (.cells #[.int .i64 (rows.length : Int), .slice (some ⟨w1.heap.size, 0, none⟩) W W, .slice (some ⟨w1.heap.size + 1, 0, none⟩) W W] 28)); simpa using h
        have BN : Blk ((((w1.alloc (.cells Z 3)).alloc (.cells Z 3)).alloc (.cells #[.int .i64 (rows.length : Int), .slice (some ⟨w1.heap.size, 0, none⟩) W W, .slice (some ⟨w1.heap.size + 1, 0, none⟩) W W] 28))) (w1.heap.size + 1) 3 Z := by have h := ((Blk.new ((w1.alloc (.cells Z 3))) 3 Z).alloc (.cells #[.int .i64 (rows.length : Int), .slice (some ⟨w1.heap.size, 0, none⟩) W W, .slice (some ⟨w1.heap.size + 1, 0, none⟩) W W] 28)); simpa using h
        have BO : Blk ((((w1.alloc (.cells Z 3)).alloc (.cells Z 3)).alloc (.cells #[.int .i64 (rows.length : Int), .slice (some ⟨w1.heap.size, 0, none⟩) W W, .slice (some ⟨w1.heap.size + 1, 0, none⟩) W W] 28))) (w1.heap.size + 1 + 1) 28 #[.int .i64 (rows.length : Int), .slice (some ⟨w1.heap.size, 0, none⟩) W W, .slice (some ⟨w1.heap.size + 1, 0, none⟩) W W] := by have h := (Blk.new (((w1.alloc (.cells Z 3)).alloc (.cells Z 3))) 28 #[.int .i64 (rows.length : Int), .slice (some ⟨w1.heap.size, 0, none⟩) W W, .slice (some ⟨w1.heap.size + 1, 0, none⟩) W W]); simpa using h
        have G3 : Fr w1 ((((w1.alloc (.cells Z 3)).alloc (.cells Z 3)).alloc (.cells #[.int .i64 (rows.length : Int), .slice (some ⟨w1.heap.size, 0, none⟩) W W, .slice (some ⟨w1.heap.size + 1, 0, none⟩) W W] 28))) := by (repeat (first | with_reducible exact Fr.refl _ | with_reducible assumption | with_reducible refine Fr.alloc ?_ _ | with_reducible refine Fr.drew ?_ | with_reducible refine Fr.drewN ?_ _ | (with_reducible refine Fr.setNew2 ?_ ?_ _; · (simp <;> omega)) | with_reducible refine Fr.trans ?_ (by assumption)))
        obtain ⟨q0, q1, _⟩ := (BT1.fr G3).pair
        go_wp2
        generalize (((w1.alloc (.cells Z 3)).alloc (.cells Z 3)).alloc (.cells #[.int .i64 (rows.length : Int), .slice (some ⟨w1.heap.size, 0, none⟩) W W, .slice (some ⟨w1.heap.size + 1, 0, none⟩) W W] 28)) = W3 at BD BN BO G3 ⊢
        obtain ⟨x2, e2⟩ : ∃ g, w1.heap.size + 1 + 1 = g := ⟨_, rfl⟩
        obtain ⟨x1, e1⟩ : ∃ g, w1.heap.size + 1 = g := ⟨_, rfl⟩
        obtain ⟨x0, e0⟩ : ∃ g, w1.heap.size = g := ⟨_, rfl⟩
        rw [e0] at BD
        rw [e1] at BN
        rw [e2, e1, e0] at BO
        rw [e2, e1, e0]
        have OR := hid (show Ord w T R x2 x0 x1 from ⟨ho.out.1, ho.out.2.1, by have := F1.size; omega, by have := F1.size; omega, by have := F1.size; omega, ⟨by omega, by omega, by omega, by omega⟩, ⟨by omega, by omega, by omega⟩, ⟨ho.out.2.2, by omega⟩⟩)
        clear e0 e1 e2 hTl hRl hmk keepQ D1 q0 q1
        rw [← HZ.out] at BD BN
        have S0 := hid (show ImS w T R x2 x0 x1 W c0 A0 rows (dsA W rows 0) (nsA W rows 0 0) W3.drew from (⟨BT1.fr G3, BR1.fr G3, BO, by rw [dsA_zero]; exact BD, by rw [nsA_zero]; exact BN, F1.trans G3⟩ : ImS w T R x2 x0 x1 W c0 A0 rows (dsA W rows 0) (nsA W rows 0 0) W3).frI (Fr.refl _).drew)
        clear BD BN BO G3 BT1 BR1 F1
        go_loopw [24] (fun t wr => ∃ k : Nat, k ≤ W ∧ t = .int .i64 k ∧ Hid (ImS w T R x2 x0 x1 W c0 A0 rows (dsA W rows k) (nsA W rows k 0) wr)) (fun t _ => W - (intOf t).toNat)
        case atStart => exact ⟨0, by omega, rfl, S0⟩
        case round =>
          clear S0
          revert wr
          intro W2 hrel
          obtain ⟨k, hk, rfl, hO⟩ := hrel
          obtain ⟨t0, t1, _⟩ := hO.out.bT.pair
          by_cases hlt : k < W
          · have el : decide ((k : Int) < (W : Int)) = true := by simp; omega
            have MB := hid (World.ownsMap_made W2 Try.prog 3 (plainElem (H := Unit) Try.prog 3))
            have FM : Fr W2 (W2.alloc (.map #[] 0)) := (Fr.refl _).alloc _
            obtain ⟨B, eB⟩ : ∃ g, W2.heap.size = g := ⟨_, rfl⟩
            have LT := hid (show (T ≠ B ∧ R ≠ B ∧ x2 ≠ B ∧ x0 ≠ B ∧ x1 ≠ B) ∧ w.heap.size ≤ B from by
              rw [← eB]
              have := hO.out.bT.lt; have := hO.out.bR.lt; have := hO.out.bO.lt; have := hO.out.bD.lt; have := hO.out.bN.lt
              exact ⟨⟨by omega, by omega, by omega, by omega, by omega⟩, hO.out.fr.size⟩)
            have I0 := hid (hO.out.frI FM)
            have EBH := hid eB
            obtain ⟨m0, m1, _⟩ := (hO.out.bT.fr FM).pair
            clear eB
            go_wp2
            generalize (W2.alloc (.map #[] 0)) = WI at MB FM I0 ⊢
            rw [EBH.out] at MB ⊢
            have I1 := hid (And.intro I0.out (And.intro MB.out KeysOf.nil))
            clear I0 MB FM t0 t1 EBH m0 m1
            go_loopw [31] (fun i wr => ∃ (j : Nat) (DD : DataW Unit), j ≤ rows.length ∧ i = .int .i64 j ∧ Hid (ImS w T R x2 x0 x1 W c0 A0 rows (dsA W rows k) (nsA W rows k j) wr ∧ wr.ownsMap Try.prog 3 (plainElem Try.prog 3) B j DD ∧ KeysOf DD (seenL k (rows.take j)))) (fun i _ => rows.length - (intOf i).toNat)
            case atStart => exact ⟨0, _, by omega, rfl, I1⟩
            case round =>
              clear I1
              revert wr
              intro Wq hrel
              obtain ⟨j, DD, hj, rfl, hI⟩ := hrel
              have hS := hI.out.1
              have HSI := hid hS
              obtain ⟨p0, p1, p2, _⟩ := hS.bO.three
              by_cases hjl : j < rows.length
              · have ej : decide ((j : Int) < (rows.length : Int)) = true := by simp; omega
                obtain ⟨b, o, X, xc, hA, r0, rr, _, _⟩ := HX.out.row hjl
                subst hA
                replace r0 := hS.fr.cell r0
                obtain ⟨hrl, hval⟩ := HR.out j hjl
                obtain ⟨b2, o2, hB2, y0, y1⟩ := rr.v (k := k) (by omega)
                subst hB2
                replace y0 := hS.fr.cell y0
                replace y1 := hS.fr.cell y1
                have ec : colAt k rows[j] = rows[j][k]'(by omega) := colAt_eq (by omega)
                have E1 := seenL_take (c := k) hjl
                have E2 := nulC_take (c := k) hjl
                have hvv := List.all_eq_true.1 hval (rows[j][k]'(by omega)) (List.getElem_mem _)
                rw [ec] at E1 E2
                obtain ⟨v, ev⟩ : ∃ v, rows[j][k]'(by omega) = v := ⟨_, rfl⟩
                rw [ev] at y0 y1 E1 E2 hvv
                rw [hrl] at r0
                have EH := hid (And.intro E1 E2)
                rcases v with ⟨vn, n⟩
                have HVV := hid hvv
                clear E1 E2 ec ev rr hrl hval hvv hS
                cases vn
                · have hb : -9999 ≤ n ∧ n ≤ 9999 := by
                    have h := HVV.out
                    simpa [V.valid] using h
                  obtain ⟨hb1, hb2⟩ := hb
                  have hkey : keyOf Try.prog 3 (.int .i64 n) = some (.int .i64 n) := keyOf_int_mk Try.underlying3 (WalkArith.wf_i64 (by omega))
                  have OWN := hid hI.out.2.1
                  have KYS := hid hI.out.2.2
                  clear hI HVV p0 p1 p2
                  go_wp2_with (first
                    | (at_lookup; refine wpList_lookup_own_int _ rfl _ _ 60 rfl 3 3 .i64 keyInt Try.underlying60 Try.underlying3 (zeroInt _) B j _ rfl OWN.out _ _ rfl hkey ?_; intro c hat hwc)
                    | (at_mapUpdate; refine wpList_mapUpdate_own _ rfl _ _ _ 60 rfl 3 3 keyInt Try.underlying60 _ B j _ rfl OWN.out (by unfold maxLen; omega) _ _ _ rfl rfl hkey _ [] (plainElem_int Try.underlying3 (wrap64_wf _)) ?_; intro w8 hown8 hgrow8)
                    | fail)
                  have NX := hid (show ImS w T R x2 x0 x1 W c0 (some ⟨b, o, none⟩) rows (dsA W rows k) (nsA W rows k (j + 1)) w8 ∧ w8.ownsMap Try.prog 3 (plainElem Try.prog 3) B (j + 1) (DD.put (.int .i64 n) (.lit (.int .i64 (wrap64 (c + 1))))) ∧ KeysOf (DD.put (.int .i64 n) (.lit (.int .i64 (wrap64 (c + 1))))) (seenL k (rows.take (j + 1))) from by
                    obtain ⟨a1, a2⟩ := EH.out
                    obtain ⟨⟨l1, l2, l3, l4, l5⟩, l6⟩ := LT.out
                    refine ⟨?_, hown8, ?_⟩
                    · rw [nsA_same (by rw [a2]; simp)]
                      exact HSI.out.grown hgrow8 l6 l1 l2 l3 l4 l5
                    · rw [a1]
                      exact KYS.out.put (v := ⟨false, n⟩) seenL_nodup rfl (.lit (.int .i64 (wrap64 (c + 1)))))
                  clear hown8 hgrow8 EH HSI OWN KYS
                  go_wp2
                  go_roundw
                  case rel => exact ⟨j + 1, _, by omega, by go_num, NX⟩
                  case measure => simp [intOf]; omega
                · obtain ⟨N0, eN0⟩ : ∃ x, nulC k (rows.take j) = x := ⟨_, rfl⟩
                  have hN0 : N0 ≤ 400 := by
                    rw [← eN0]
                    exact Nat.le_trans nulC_le (by rw [List.length_take]; omega)
                  have z0 : Wq.cell? ⟨x1, k, none⟩ = some (.int .i64 (N0 : Int)) := by
                    rw [blk_list HSI.out.bN (by rw [nsA_len]; exact hlt), nsA_at hlt, eN0]
                  have z1 := HSI.out.bN.frozen k
                  have NX := hid (show ImS w T R x2 x0 x1 W c0 (some ⟨b, o, none⟩) rows (dsA W rows k) (nsA W rows k (j + 1)) (Wq.setCell ⟨x1, k, none⟩ (.int .i64 ((N0 : Int) + 1))) ∧ (Wq.setCell ⟨x1, k, none⟩ (.int .i64 ((N0 : Int) + 1))).ownsMap Try.prog 3 (plainElem Try.prog 3) B (j + 1) DD ∧ KeysOf DD (seenL k (rows.take (j + 1))) from by
                    obtain ⟨a1, a2⟩ := EH.out
                    obtain ⟨⟨l1, l2, l3, l4, l5⟩, l6⟩ := LT.out
                    refine ⟨?_, (hI.out.2.1.setCell (a := ⟨x1, k, none⟩) (Ne.symm l5) _).mono (Nat.le_succ _), ?_⟩
                    · have e3 : ((N0 : Int) + 1) = (nulC k (rows.take (j + 1)) : Int) := by rw [a2, eN0]; simp
                      rw [e3, ← nsA_set (i := j)]
                      exact HSI.out.setN OR.out k _
                    · rw [a1]
                      have : sn (seenL k (rows.take j)) ⟨true, n⟩ = seenL k (rows.take j) := by unfold sn; simp
                      rw [this]
                      exact hI.out.2.2)
                  clear eN0 EH HSI hI HVV
                  go_wp2
                  go_roundw
                  case rel => exact ⟨j + 1, _, by omega, by go_num, NX⟩
                  case measure => simp [intOf]; omega
              · obtain rfl : j = rows.length := by omega
                have ej : decide ((rows.length : Int) < (rows.length : Int)) = false := by simp
                have hsz := hI.out.2.2.size
                rw [List.take_length] at hsz
                have HSZ := hid hsz
                have OWN := hid hI.out.2.1
                have d0 := blk_list HSI.out.bD (i := k) (by rw [dsA_len]; exact hlt)
                have d1 := HSI.out.bD.frozen k
                obtain ⟨d, ed⟩ : ∃ d, (dsA W rows k)[k]'(by rw [dsA_len]; exact hlt) = d := ⟨_, rfl⟩
                rw [ed] at d0
                obtain ⟨L, eL⟩ : ∃ L, (seenL k rows).length = L := ⟨_, rfl⟩
                rw [eL] at HSZ
                have NX := hid (show ImS w T R x2 x0 x1 W c0 A0 rows (dsA W rows (k + 1)) (nsA W rows (k + 1) 0) (Wq.setCell ⟨x0, k, none⟩ (.int .i64 (L : Int))) from by
                  rw [← dsA_set, ← nsA_next, eL]
                  exact HSI.out.setD OR.out k _)
                clear hS hsz ed eL hI HSI
                go_wp2_with (first
                  | (at_len; refine wpList_len_own _ rfl _ 60 rfl 3 3 Try.underlying60 _ B rows.length DD rfl OWN.out ?_; rw [HSZ.out])
                  | fail)
                go_roundw
                case rel => exact ⟨k + 1, by omega, by go_num, NX⟩
                case measure => simp [intOf]; omega
          · obtain rfl : k = W := by omega
            have el : decide ((k : Int) < (k : Int)) = false := by simp
            have hS := hO.out
            obtain ⟨p0, p1, p2, _⟩ := hS.bO.three
            obtain ⟨r0, r1, r2, s0, s1, s2⟩ := hS.bR.three
            have BF := hid (((hS.bR.set_ 0 (.int .i64 (rows.length : Int))).set_ 1 (.slice (some ⟨x0, 0, none⟩) k k)).set_ 2 (.slice (some ⟨x1, 0, none⟩) k k))
            have FIN := hid (show StPost w.heap.size ⟨rows.length, dstL k rows, nulL k rows⟩ (.returned (.agg #[.int .i64 (rows.length : Int), .slice (some ⟨x0, 0, none⟩) k k, .slice (some ⟨x1, 0, none⟩) k k])) (((W2.setCell ⟨R, 0, none⟩ (.int .i64 (rows.length : Int))).setCell ⟨R, 1, none⟩ (.slice (some ⟨x0, 0, none⟩) k k)).setCell ⟨R, 2, none⟩ (.slice (some ⟨x1, 0, none⟩) k k)) ∧ Fr w (((W2.setCell ⟨R, 0, none⟩ (.int .i64 (rows.length : Int))).setCell ⟨R, 1, none⟩ (.slice (some ⟨x0, 0, none⟩) k k)).setCell ⟨R, 2, none⟩ (.slice (some ⟨x1, 0, none⟩) k k)) from by
              have hr := OR.out
              have nD := Ne.symm hr.h1.2.1
              have nN := Ne.symm hr.h2.2.1
              have BD := ((hS.bD.far (p := ⟨R, 0, none⟩) nD (.int .i64 (rows.length : Int))).far (p := ⟨R, 1, none⟩) nD (.slice (some ⟨x0, 0, none⟩) k k)).far (p := ⟨R, 2, none⟩) nD (.slice (some ⟨x1, 0, none⟩) k k)
              have BN := ((hS.bN.far (p := ⟨R, 0, none⟩) nN (.int .i64 (rows.length : Int))).far (p := ⟨R, 1, none⟩) nN (.slice (some ⟨x0, 0, none⟩) k k)).far (p := ⟨R, 2, none⟩) nN (.slice (some ⟨x1, 0, none⟩) k k)
              rw [dsA_all] at BD
              rw [nsA_all] at BN
              exact ⟨stPost_mk BD BN hr.hD hr.hN (Ne.symm hr.h1.2.2.2) (dstL_len k rows) (nulL_len k rows), ((hS.fr.setNew (p := ⟨R, 0, none⟩) hr.hR _).setNew (p := ⟨R, 1, none⟩) hr.hR _).setNew (p := ⟨R, 2, none⟩) hr.hR _⟩)
            clear hS
            go_wp2
            rw [E.out]
            generalize (((W2.setCell ⟨R, 0, none⟩ (.int .i64 (rows.length : Int))).setCell ⟨R, 1, none⟩ (.slice (some ⟨x0, 0, none⟩) k k)).setCell ⟨R, 2, none⟩ (.slice (some ⟨x1, 0, none⟩) k k)) = w9 at BF FIN ⊢
            obtain ⟨u0, u1, u2, _⟩ := BF.out.three
            exact bodyPost_ret (v := .agg #[.int .i64 (rows.length : Int), .slice (some ⟨x0, 0, none⟩) k k, .slice (some ⟨x1, 0, none⟩) k k]) (by simp [results, Try.results8, go_sem, u0, u1, u2]) rfl FIN.out
      · have HS := keepQ _ (show Fr w1 ((w1.alloc (.cells Z 3)).alloc (.cells #[.int .i64 0, .slice none 0 0, .slice none 0 0] 28)).drew by (repeat (first | with_reducible exact Fr.refl _ | with_reducible assumption | with_reducible refine Fr.alloc ?_ _ | with_reducible refine Fr.drew ?_ | with_reducible refine Fr.drewN ?_ _ | (with_reducible refine Fr.setNew2 ?_ ?_ _; · (simp <;> omega)) | with_reducible refine Fr.trans ?_ (by assumption))))
        ((try dsimp only); refine hK.out _ _ (fun _ => HS) (fun _ => ?_); clear hK K; (try simp only [Act.put, List.setIfInBounds_toArray, List.set_cons_zero, List.set_cons_succ]))
        ((refine wpAnyT_one 8 rfl (by kernel_rfl) (fun K hK => ?_); go_simp))
        have HS := keepQ _ (show Fr w1 (((w1.alloc (.cells Z 3)).alloc (.cells #[.int .i64 0, .slice none 0 0, .slice none 0 0] 28)).alloc (.cells Z 3)).drew by (repeat (first | with_reducible exact Fr.refl _ | with_reducible assumption | with_reducible refine Fr.alloc ?_ _ | with_reducible refine Fr.drew ?_ | with_reducible refine Fr.drewN ?_ _ | (with_reducible refine Fr.setNew2 ?_ ?_ _; · (simp <;> omega)) | with_reducible refine Fr.trans ?_ (by assumption))))
        ((try dsimp only); refine hK.out _ _ (fun _ => HS) (fun _ => ?_); clear hK K; (try simp only [Act.put, List.setIfInBounds_toArray, List.set_cons_zero, List.set_cons_succ]))
        ((refine wpAnyT_take 9 (v := ?_) rfl (by kernel_rfl) (fun _ _ _ h => h) (Or.inl ⟨by rfl, ?_⟩) (by assumption) ?_; rotate_left; (focus (intro W hSw; (try dsimp only at hSw); go_simp; (try with_reducible rfl); done)); (try simp only [Act.put, List.setIfInBounds_toArray, List.set_cons_zero, List.set_cons_succ])))
        ((refine wpAnyT_one 11 rfl (by kernel_rfl) (fun K hK => ?_); go_simp))
        ((try dsimp only); refine hK.out _ _ (fun h => absurd rfl h) (fun _ => ?_); clear hK K; (try simp only [Act.put, List.setIfInBounds_toArray, List.set_cons_zero, List.set_cons_succ]); refine wpAnyT_done (by kernel_rfl) ?_ _)
        clear HS
        have BD : Blk ((((w1.alloc (.cells Z 3)).alloc (.cells #[.int .i64 (rows.length : Int), .slice (some ⟨w1.heap.size, 0, none⟩) W W, .slice (some ⟨w1.heap.size + 1 + 1, 0, none⟩) W W] 28)).alloc (.cells Z 3))) (w1.heap.size) 3 Z := by have h := (((Blk.new (w1) 3 Z).alloc (.cells #[.int .i64 (rows.length : Int), .slice (some ⟨w1.heap.size, 0, none⟩) W W, .slice (some ⟨w1.heap.size + 1 + 1, 0, none⟩) W W] 28)).alloc (.cells Z 3)); simpa using h
        have BN : Blk ((((w1.alloc (.cells Z 3)).alloc (.cells #[.int .i64 (rows.length : Int), .slice (some ⟨w1.heap.size, 0, none⟩) W W, .slice (some ⟨w1.heap.size + 1 + 1, 0, none⟩) W W] 28)).alloc (.cells Z 3))) (w1.heap.size + 1 + 1) 3 Z := by have h := (Blk.new (((w1.alloc (.cells Z 3)).alloc (.cells #[.int .i64 (rows.length : Int), .slice (some ⟨w1.heap.size, 0, none⟩) W W, .slice (some ⟨w1.heap.size + 1 + 1, 0, none⟩) W W] 28))) 3 Z); simpa using h
        have BO : Blk ((((w1.alloc (.cells Z 3)).alloc (.cells #[.int .i64 (rows.length : Int), .slice (some ⟨w1.heap.size, 0, none⟩) W W, .slice (some ⟨w1.heap.size + 1 + 1, 0, none⟩) W W] 28)).alloc (.cells Z 3))) (w1.heap.size + 1) 28 #[.int .i64 (rows.length : Int), .slice (some ⟨w1.heap.size, 0, none⟩) W W, .slice (some ⟨w1.heap.size + 1 + 1, 0, none⟩) W W] := by have h := ((Blk.new ((w1.alloc (.cells Z 3))) 28 #[.int .i64 (rows.length : Int), .slice (some ⟨w1.heap.size, 0, none⟩) W W, .slice (some ⟨w1.heap.size + 1 + 1, 0, none⟩) W W]).alloc (.cells Z 3)); simpa using h
        have G3 : Fr w1 ((((w1.alloc (.cells Z 3)).alloc (.cells #[.int .i64 (rows.length : Int), .slice (some ⟨w1.heap.size, 0, none⟩) W W, .slice (some ⟨w1.heap.size + 1 + 1, 0, none⟩) W W] 28)).alloc (.cells Z 3))) := by (repeat (first | with_reducible exact Fr.refl _ | with_reducible assumption | with_reducible refine Fr.alloc ?_ _ | with_reducible refine Fr.drew ?_ | with_reducible refine Fr.drewN ?_ _ | (with_reducible refine Fr.setNew2 ?_ ?_ _; · (simp <;> omega)) | with_reducible refine Fr.trans ?_ (by assumption)))
        obtain ⟨q0, q1, _⟩ := (BT1.fr G3).pair
        go_wp2
        generalize (((w1.alloc (.cells Z 3)).alloc (.cells #[.int .i64 (rows.length : Int), .slice (some ⟨w1.heap.size, 0, none⟩) W W, .slice (some ⟨w1.heap.size + 1 + 1, 0, none⟩) W W] 28)).alloc (.cells Z 3)) = W3 at BD BN BO G3 ⊢
        obtain ⟨x2, e2⟩ : ∃ g, w1.heap.size + 1 + 1 = g := ⟨_, rfl⟩
        obtain ⟨x1, e1⟩ : ∃ g, w1.heap.size + 1 = g := ⟨_, rfl⟩
        obtain ⟨x0, e0⟩ : ∃ g, w1.heap.size = g := ⟨_, rfl⟩
        rw [e0] at BD
        rw [e2] at BN
        rw [e2, e1, e0] at BO
        rw [e2, e1, e0]
        have OR := hid (show Ord w T R x1 x0 x2 from ⟨ho.out.1, ho.out.2.1, by have := F1.size; omega, by have := F1.size; omega, by have := F1.size; omega, ⟨by omega, by omega, by omega, by omega⟩, ⟨by omega, by omega, by omega⟩, ⟨ho.out.2.2, by omega⟩⟩)
        clear e0 e1 e2 hTl hRl hmk keepQ D1 q0 q1
        rw [← HZ.out] at BD BN
        have S0 := hid (show ImS w T R x1 x0 x2 W c0 A0 rows (dsA W rows 0) (nsA W rows 0 0) W3.drew from (⟨BT1.fr G3, BR1.fr G3, BO, by rw [dsA_zero]; exact BD, by rw [nsA_zero]; exact BN, F1.trans G3⟩ : ImS w T R x1 x0 x2 W c0 A0 rows (dsA W rows 0) (nsA W rows 0 0) W3).frI (Fr.refl _).drew)
        clear BD BN BO G3 BT1 BR1 F1
        go_loopw [24] (fun t wr => ∃ k : Nat, k ≤ W ∧ t = .int .i64 k ∧ Hid (ImS w T R x1 x0 x2 W c0 A0 rows (dsA W rows k) (nsA W rows k 0) wr)) (fun t _ => W - (intOf t).toNat)
        case atStart => exact ⟨0, by omega, rfl, S0⟩
        case round =>
          clear S0
          revert wr
          intro W2 hrel
          obtain ⟨k, hk, rfl, hO⟩ := hrel
          obtain ⟨t0, t1, _⟩ := hO.out.bT.pair
          by_cases hlt : k < W
          · have el : decide ((k : Int) < (W : Int)) = true := by simp; omega
            have MB := hid (World.ownsMap_made W2 Try.prog 3 (plainElem (H := Unit) Try.prog 3))
            have FM : Fr W2 (W2.alloc (.map #[] 0)) := (Fr.refl _).alloc _
            obtain ⟨B, eB⟩ : ∃ g, W2.heap.size = g := ⟨_, rfl⟩
            have LT := hid (show (T ≠ B ∧ R ≠ B ∧ x1 ≠ B ∧ x0 ≠ B ∧ x2 ≠ B) ∧ w.heap.size ≤ B from by
              rw [← eB]
              have := hO.out.bT.lt; have := hO.out.bR.lt; have := hO.out.bO.lt; have := hO.out.bD.lt; have := hO.out.bN.lt
              exact ⟨⟨by omega, by omega, by omega, by omega, by omega⟩, hO.out.fr.size⟩)
            have I0 := hid (hO.out.frI FM)
            have EBH := hid eB
            obtain ⟨m0, m1, _⟩ := (hO.out.bT.fr FM).pair
            clear eB
            go_wp2
            generalize (W2.alloc (.map #[] 0)) = WI at MB FM I0 ⊢
            rw [EBH.out] at MB ⊢
            have I1 := hid (And.intro I0.out (And.intro MB.out KeysOf.nil))
            clear I0 MB FM t0 t1 EBH m0 m1
            go_loopw [31] (fun i wr => ∃ (j : Nat) (DD : DataW Unit), j ≤ rows.length ∧ i = .int .i64 j ∧ Hid (ImS w T R x1 x0 x2 W c0 A0 rows (dsA W rows k) (nsA W rows k j) wr ∧ wr.ownsMap Try.prog 3 (plainElem Try.prog 3) B j DD ∧ KeysOf DD (seenL k (rows.take j)))) (fun i _ => rows.length - (intOf i).toNat)
            case atStart => exact ⟨0, _, by omega, rfl, I1⟩
            case round =>
              clear I1
              revert wr
              intro Wq hrel
              obtain ⟨j, DD, hj, rfl, hI⟩ := hrel
              have hS := hI.out.1
              have HSI := hid hS
              obtain ⟨p0, p1, p2, _⟩ := hS.bO.three
              by_cases hjl : j < rows.length
              · have ej : decide ((j : Int) < (rows.length : Int)) = true := by simp; omega
                obtain ⟨b, o, X, xc, hA, r0, rr, _, _⟩ := HX.out.row hjl
                subst hA
                replace r0 := hS.fr.cell r0
                obtain ⟨hrl, hval⟩ := HR.out j hjl
                obtain ⟨b2, o2, hB2, y0, y1⟩ := rr.v (k := k) (by omega)
                subst hB2
                replace y0 := hS.fr.cell y0
                replace y1 := hS.fr.cell y1
                have ec : colAt k rows[j] = rows[j][k]'(by omega) := colAt_eq (by omega)
                have E1 := seenL_take (c := k) hjl
                have E2 := nulC_take (c := k) hjl
                have hvv := List.all_eq_true.1 hval (rows[j][k]'(by omega)) (List.getElem_mem _)
                rw [ec] at E1 E2
                obtain ⟨v, ev⟩ : ∃ v, rows[j][k]'(by omega) = v := ⟨_, rfl⟩
                rw [ev] at y0 y1 E1 E2 hvv
                rw [hrl] at r0
                have EH := hid (And.intro E1 E2)
                rcases v with ⟨vn, n⟩
                have HVV := hid hvv
                clear E1 E2 ec ev rr hrl hval hvv hS
                cases vn
                · have hb : -9999 ≤ n ∧ n ≤ 9999 := by
                    have h := HVV.out
                    simpa [V.valid] using h
                  obtain ⟨hb1, hb2⟩ := hb
                  have hkey : keyOf Try.prog 3 (.int .i64 n) = some (.int .i64 n) := keyOf_int_mk Try.underlying3 (WalkArith.wf_i64 (by omega))
                  have OWN := hid hI.out.2.1
                  have KYS := hid hI.out.2.2
                  clear hI HVV p0 p1 p2
                  go_wp2_with (first
                    | (at_lookup; refine wpList_lookup_own_int _ rfl _ _ 60 rfl 3 3 .i64 keyInt Try.underlying60 Try.underlying3 (zeroInt _) B j _ rfl OWN.out _ _ rfl hkey ?_; intro c hat hwc)
                    | (at_mapUpdate; refine wpList_mapUpdate_own _ rfl _ _ _ 60 rfl 3 3 keyInt Try.underlying60 _ B j _ rfl OWN.out (by unfold maxLen; omega) _ _ _ rfl rfl hkey _ [] (plainElem_int Try.underlying3 (wrap64_wf _)) ?_; intro w8 hown8 hgrow8)
                    | fail)
                  have NX := hid (show ImS w T R x1 x0 x2 W c0 (some ⟨b, o, none⟩) rows (dsA W rows k) (nsA W rows k (j + 1)) w8 ∧ w8.ownsMap Try.prog 3 (plainElem Try.prog 3) B (j + 1) (DD.put (.int .i64 n) (.lit (.int .i64 (wrap64 (c + 1))))) ∧ KeysOf (DD.put (.int .i64 n) (.lit (.int .i64 (wrap64 (c + 1))))) (seenL k (rows.take (j + 1))) from by
                    obtain ⟨a1, a2⟩ := EH.out
                    obtain ⟨⟨l1, l2, l3, l4, l5⟩, l6⟩ := LT.out
                    refine ⟨?_, hown8, ?_⟩
                    · rw [nsA_same (by rw [a2]; simp)]
                      exact HSI.out.grown hgrow8 l6 l1 l2 l3 l4 l5
                    · rw [a1]
                      exact KYS.out.put (v := ⟨false, n⟩) seenL_nodup rfl (.lit (.int .i64 (wrap64 (c + 1)))))
                  clear hown8 hgrow8 EH HSI OWN KYS
                  go_wp2
                  go_roundw
                  case rel => exact ⟨j + 1, _, by omega, by go_num, NX⟩
                  case measure => simp [intOf]; omega
                · obtain ⟨N0, eN0⟩ : ∃ x, nulC k (rows.take j) = x := ⟨_, rfl⟩
                  have hN0 : N0 ≤ 400 := by
                    rw [← eN0]
                    exact Nat.le_trans nulC_le (by rw [List.length_take]; omega)
                  have z0 : Wq.cell? ⟨x2, k, none⟩ = some (.int .i64 (N0 : Int)) := by
                    rw [blk_list HSI.out.bN (by rw [nsA_len]; exact hlt), nsA_at hlt, eN0]
                  have z1 := HSI.out.bN.frozen k
                  have NX := hid (show ImS w T R x1 x0 x2 W c0 (some ⟨b, o, none⟩) rows (dsA W rows k) (nsA W rows k (j + 1)) (Wq.setCell ⟨x2, k, none⟩ (.int .i64 ((N0 : Int) + 1))) ∧ (Wq.setCell ⟨x2, k, none⟩ (.int .i64 ((N0 : Int) + 1))).ownsMap Try.prog 3 (plainElem Try.prog 3) B (j + 1) DD ∧ KeysOf DD (seenL k (rows.take (j + 1))) from by
                    obtain ⟨a1, a2⟩ := EH.out
                    obtain ⟨⟨l1, l2, l3, l4, l5⟩, l6⟩ := LT.out
                    refine ⟨?_, (hI.out.2.1.setCell (a := ⟨x2, k, none⟩) (Ne.symm l5) _).mono (Nat.le_succ _), ?_⟩
                    · have e3 : ((N0 : Int) + 1) = (nulC k (rows.take (j + 1)) : Int) := by rw [a2, eN0]; simp
                      rw [e3, ← nsA_set (i := j)]
                      exact HSI.out.setN OR.out k _
                    · rw [a1]
                      have : sn (seenL k (rows.take j)) ⟨true, n⟩ = seenL k (rows.take j) := by unfold sn; simp
                      rw [this]
                      exact hI.out.2.2)
                  clear eN0 EH HSI hI HVV
                  go_wp2
                  go_roundw
                  case rel => exact ⟨j + 1, _, by omega, by go_num, NX⟩
                  case measure => simp [intOf]; omega
              · obtain rfl : j = rows.length := by omega
                have ej : decide ((rows.length : Int) < (rows.length : Int)) = false := by simp
                have hsz := hI.out.2.2.size
                rw [List.take_length] at hsz
                have HSZ := hid hsz
                have OWN := hid hI.out.2.1
                have d0 := blk_list HSI.out.bD (i := k) (by rw [dsA_len]; exact hlt)
                have d1 := HSI.out.bD.frozen k
                obtain ⟨d, ed⟩ : ∃ d, (dsA W rows k)[k]'(by rw [dsA_len]; exact hlt) = d := ⟨_, rfl⟩
                rw [ed] at d0
                obtain ⟨L, eL⟩ : ∃ L, (seenL k rows).length = L := ⟨_, rfl⟩
                rw [eL] at HSZ
                have NX := hid (show ImS w T R x1 x0 x2 W c0 A0 rows (dsA W rows (k + 1)) (nsA W rows (k + 1) 0) (Wq.setCell ⟨x0, k, none⟩ (.int .i64 (L : Int))) from by
                  rw [← dsA_set, ← nsA_next, eL]
                  exact HSI.out.setD OR.out k _)
                clear hS hsz ed eL hI HSI
                go_wp2_with (first
                  | (at_len; refine wpList_len_own _ rfl _ 60 rfl 3 3 Try.underlying60 _ B rows.length DD rfl OWN.out ?_; rw [HSZ.out])
                  | fail)
                go_roundw
                case rel => exact ⟨k + 1, by omega, by go_num, NX⟩
                case measure => simp [intOf]; omega
          · obtain rfl : k = W := by omega
            have el : decide ((k : Int) < (k : Int)) = false := by simp
            have hS := hO.out
            obtain ⟨p0, p1, p2, _⟩ := hS.bO.three
            obtain ⟨r0, r1, r2, s0, s1, s2⟩ := hS.bR.three
            have BF := hid (((hS.bR.set_ 0 (.int .i64 (rows.length : Int))).set_ 1 (.slice (some ⟨x0, 0, none⟩) k k)).set_ 2 (.slice (some ⟨x2, 0, none⟩) k k))
            have FIN := hid (show StPost w.heap.size ⟨rows.length, dstL k rows, nulL k rows⟩ (.returned (.agg #[.int .i64 (rows.length : Int), .slice (some ⟨x0, 0, none⟩) k k, .slice (some ⟨x2, 0, none⟩) k k])) (((W2.setCell ⟨R, 0, none⟩ (.int .i64 (rows.length : Int))).setCell ⟨R, 1, none⟩ (.slice (some ⟨x0, 0, none⟩) k k)).setCell ⟨R, 2, none⟩ (.slice (some ⟨x2, 0, none⟩) k k)) ∧ Fr w (((W2.setCell ⟨R, 0, none⟩ (.int .i64 (rows.length : Int))).setCell ⟨R, 1, none⟩ (.slice (some ⟨x0, 0, none⟩) k k)).setCell ⟨R, 2, none⟩ (.slice (some ⟨x2, 0, none⟩) k k)) from by
              have hr := OR.out
              have nD := Ne.symm hr.h1.2.1
              have nN := Ne.symm hr.h2.2.1
              have BD := ((hS.bD.far (p := ⟨R, 0, none⟩) nD (.int .i64 (rows.length : Int))).far (p := ⟨R, 1, none⟩) nD (.slice (some ⟨x0, 0, none⟩) k k)).far (p := ⟨R, 2, none⟩) nD (.slice (some ⟨x2, 0, none⟩) k k)
              have BN := ((hS.bN.far (p := ⟨R, 0, none⟩) nN (.int .i64 (rows.length : Int))).far (p := ⟨R, 1, none⟩) nN (.slice (some ⟨x0, 0, none⟩) k k)).far (p := ⟨R, 2, none⟩) nN (.slice (some ⟨x2, 0, none⟩) k k)
              rw [dsA_all] at BD
              rw [nsA_all] at BN
              exact ⟨stPost_mk BD BN hr.hD hr.hN (Ne.symm hr.h1.2.2.2) (dstL_len k rows) (nulL_len k rows), ((hS.fr.setNew (p := ⟨R, 0, none⟩) hr.hR _).setNew (p := ⟨R, 1, none⟩) hr.hR _).setNew (p := ⟨R, 2, none⟩) hr.hR _⟩)
            clear hS
            go_wp2
            rw [E.out]
            generalize (((W2.setCell ⟨R, 0, none⟩ (.int .i64 (rows.length : Int))).setCell ⟨R, 1, none⟩ (.slice (some ⟨x0, 0, none⟩) k k)).setCell ⟨R, 2, none⟩ (.slice (some ⟨x2, 0, none⟩) k k)) = w9 at BF FIN ⊢
            obtain ⟨u0, u1, u2, _⟩ := BF.out.three
            exact bodyPost_ret (v := .agg #[.int .i64 (rows.length : Int), .slice (some ⟨x0, 0, none⟩) k k, .slice (some ⟨x2, 0, none⟩) k k]) (by simp [results, Try.results8, go_sem, u0, u1, u2]) rfl FIN.out
    · have HS := keepQ _ (show Fr w1 (w1.alloc (.cells Z 3)).drew by (repeat (first | with_reducible exact Fr.refl _ | with_reducible assumption | with_reducible refine Fr.alloc ?_ _ | with_reducible refine Fr.drew ?_ | with_reducible refine Fr.drewN ?_ _ | (with_reducible refine Fr.setNew2 ?_ ?_ _; · (simp <;> omega)) | with_reducible refine Fr.trans ?_ (by assumption))))
      ((try dsimp only); refine hK.out _ _ (fun _ => HS) (fun _ => ?_); clear hK K; (try simp only [Act.put, List.setIfInBounds_toArray, List.set_cons_zero, List.set_cons_succ]))
      refine wpAnyT_two 5 10 rfl rfl (by kernel_rfl) (fun K hK => ?_) (fun K hK => ?_) <;> go_simp
      · have HS := keepQ _ (show Fr w1 ((w1.alloc (.cells Z 3)).alloc (.cells Z 3)).drew by (repeat (first | with_reducible exact Fr.refl _ | with_reducible assumption | with_reducible refine Fr.alloc ?_ _ | with_reducible refine Fr.drew ?_ | with_reducible refine Fr.drewN ?_ _ | (with_reducible refine Fr.setNew2 ?_ ?_ _; · (simp <;> omega)) | with_reducible refine Fr.trans ?_ (by assumption))))
        ((try dsimp only); refine hK.out _ _ (fun _ => HS) (fun _ => ?_); clear hK K; (try simp only [Act.put, List.setIfInBounds_toArray, List.set_cons_zero, List.set_cons_succ]))
        ((refine wpAnyT_take 9 (v := ?_) rfl (by kernel_rfl) (fun _ _ _ h => h) (Or.inl ⟨by rfl, ?_⟩) (by assumption) ?_; rotate_left; (focus (intro W hSw; (try dsimp only at hSw); go_simp; (try with_reducible rfl); done)); (try simp only [Act.put, List.setIfInBounds_toArray, List.set_cons_zero, List.set_cons_succ])))
        ((refine wpAnyT_one 10 rfl (by kernel_rfl) (fun K hK => ?_); go_simp))
        have HS := keepQ _ (show Fr w1 (((w1.alloc (.cells Z 3)).alloc (.cells Z 3)).alloc (.cells #[.int .i64 0, .slice none 0 0, .slice none 0 0] 28)).drew by (repeat (first | with_reducible exact Fr.refl _ | with_reducible assumption | with_reducible refine Fr.alloc ?_ _ | with_reducible refine Fr.drew ?_ | with_reducible refine Fr.drewN ?_ _ | (with_reducible refine Fr.setNew2 ?_ ?_ _; · (simp <;> omega)) | with_reducible refine Fr.trans ?_ (by assumption))))
        ((try dsimp only); refine hK.out _ _ (fun _ => HS) (fun _ => ?_); clear hK K; (try simp only [Act.put, List.setIfInBounds_toArray, List.set_cons_zero, List.set_cons_succ]))
        ((refine wpAnyT_one 11 rfl (by kernel_rfl) (fun K hK => ?_); go_simp))
        ((try dsimp only); refine hK.out _ _ (fun h => absurd rfl h) (fun _ => ?_); clear hK K; (try simp only [Act.put, List.setIfInBounds_toArray, List.set_cons_zero, List.set_cons_succ]); refine wpAnyT_done (by kernel_rfl) ?_ _)
        clear HS
        have BD : Blk ((((w1.alloc (.cells Z 3)).alloc (.cells Z 3)).alloc (.cells #[.int .i64 (rows.length : Int), .slice (some ⟨w1.heap.size + 1, 0, none⟩) W W, .slice (some ⟨w1.heap.size, 0, none⟩) W W] 28))) (w1.heap.size + 1) 3 Z := by have h := ((Blk.new ((w1.alloc (.cells Z 3))) 3 Z).alloc (.cells #[.int .i64 (rows.length : Int), .slice (some ⟨w1.heap.size + 1, 0, none⟩) W W, .slice (some ⟨w1.heap.size, 0, none⟩) W W] 28)); simpa using h
        have BN : Blk ((((w1.alloc (.cells Z 3)).alloc (.cells Z 3)).alloc (.cells #[.int .i64 (rows.length : Int), .slice (some ⟨w1.heap.size + 1, 0, none⟩) W W, .slice (some ⟨w1.heap.size, 0, none⟩) W W] 28))) (w1.heap.size) 3 Z := by have h := (((Blk.new (w1) 3 Z).alloc (.cells Z 3)).alloc (.cells #[.int .i64 (rows.length : Int), .slice (some ⟨w1.heap.size + 1, 0, none⟩) W W, .slice (some ⟨w1.heap.size, 0, none⟩) W W] 28)); simpa using h
        have BO : Blk ((((w1.alloc (.cells Z 3)).alloc (.cells Z 3)).alloc (.cells #[.int .i64 (rows.length : Int), .slice (some ⟨w1.heap.size + 1, 0, none⟩) W W, .slice (some ⟨w1.heap.size, 0, none⟩) W W] 28))) (w1.heap.size + 1 + 1) 28 #[.int .i64 (rows.length : Int), .slice (some ⟨w1.heap.size + 1, 0, none⟩) W W, .slice (some ⟨w1.heap.size, 0, none⟩) W W] := by have h := (Blk.new (((w1.alloc (.cells Z 3)).alloc (.cells Z 3))) 28 #[.int .i64 (rows.length : Int), .slice (some ⟨w1.heap.size + 1, 0, none⟩) W W, .slice (some ⟨w1.heap.size, 0, none⟩) W W]); simpa using h
        have G3 : Fr w1 ((((w1.alloc (.cells Z 3)).alloc (.cells Z 3)).alloc (.cells #[.int .i64 (rows.length : Int), .slice (some ⟨w1.heap.size + 1, 0, none⟩) W W, .slice (some ⟨w1.heap.size, 0, none⟩) W W] 28))) := by (repeat (first | with_reducible exact Fr.refl _ | with_reducible assumption | with_reducible refine Fr.alloc ?_ _ | with_reducible refine Fr.drew ?_ | with_reducible refine Fr.drewN ?_ _ | (with_reducible refine Fr.setNew2 ?_ ?_ _; · (simp <;> omega)) | with_reducible refine Fr.trans ?_ (by assumption)))
        obtain ⟨q0, q1, _⟩ := (BT1.fr G3).pair
        go_wp2
        generalize (((w1.alloc (.cells Z 3)).alloc (.cells Z 3)).alloc (.cells #[.int .i64 (rows.length : Int), .slice (some ⟨w1.heap.size + 1, 0, none⟩) W W, .slice (some ⟨w1.heap.size, 0, none⟩) W W] 28)) = W3 at BD BN BO G3 ⊢
        obtain ⟨x2, e2⟩ : ∃ g, w1.heap.size + 1 + 1 = g := ⟨_, rfl⟩
        obtain ⟨x1, e1⟩ : ∃ g, w1.heap.size + 1 = g := ⟨_, rfl⟩
        obtain ⟨x0, e0⟩ : ∃ g, w1.heap.size = g := ⟨_, rfl⟩
        rw [e1] at BD
        rw [e0] at BN
        rw [e2, e1, e0] at BO
        rw [e2, e1, e0]
        have OR := hid (show Ord w T R x2 x1 x0 from ⟨ho.out.1, ho.out.2.1, by have := F1.size; omega, by have := F1.size; omega, by have := F1.size; omega, ⟨by omega, by omega, by omega, by omega⟩, ⟨by omega, by omega, by omega⟩, ⟨ho.out.2.2, by omega⟩⟩)
        clear e0 e1 e2 hTl hRl hmk keepQ D1 q0 q1
        rw [← HZ.out] at BD BN
        have S0 := hid (show ImS w T R x2 x1 x0 W c0 A0 rows (dsA W rows 0) (nsA W rows 0 0) W3.drew from (⟨BT1.fr G3, BR1.fr G3, BO, by rw [dsA_zero]; exact BD, by rw [nsA_zero]; exact BN, F1.trans G3⟩ : ImS w T R x2 x1 x0 W c0 A0 rows (dsA W rows 0) (nsA W rows 0 0) W3).frI (Fr.refl _).drew)
        clear BD BN BO G3 BT1 BR1 F1
        go_loopw [24] (fun t wr => ∃ k : Nat, k ≤ W ∧ t = .int .i64 k ∧ Hid (ImS w T R x2 x1 x0 W c0 A0 rows (dsA W rows k) (nsA W rows k 0) wr)) (fun t _ => W - (intOf t).toNat)
        case atStart => exact ⟨0, by omega, rfl, S0⟩
        case round =>
          clear S0
          revert wr
          intro W2 hrel
          obtain ⟨k, hk, rfl, hO⟩ := hrel
          obtain ⟨t0, t1, _⟩ := hO.out.bT.pair
          by_cases hlt : k < W
          · have el : decide ((k : Int) < (W : Int)) = true := by simp; omega
            have MB := hid (World.ownsMap_made W2 Try.prog 3 (plainElem (H := Unit) Try.prog 3))
            have FM : Fr W2 (W2.alloc (.map #[] 0)) := (Fr.refl _).alloc _
            obtain ⟨B, eB⟩ : ∃ g, W2.heap.size = g := ⟨_, rfl⟩
            have LT := hid (show (T ≠ B ∧ R ≠ B ∧ x2 ≠ B ∧ x1 ≠ B ∧ x0 ≠ B) ∧ w.heap.size ≤ B from by
              rw [← eB]
              have := hO.out.bT.lt; have := hO.out.bR.lt; have := hO.out.bO.lt; have := hO.out.bD.lt; have := hO.out.bN.lt
              exact ⟨⟨by omega, by omega, by omega, by omega, by omega⟩, hO.out.fr.size⟩)
            have I0 := hid (hO.out.frI FM)
            have EBH := hid eB
            obtain ⟨m0, m1, _⟩ := (hO.out.bT.fr FM).pair
            clear eB
            go_wp2
            generalize (W2.alloc (.map #[] 0)) = WI at MB FM I0 ⊢
            rw [EBH.out] at MB ⊢
            have I1 := hid (And.intro I0.out (And.intro MB.out KeysOf.nil))
            clear I0 MB FM t0 t1 EBH m0 m1
            go_loopw [31] (fun i wr => ∃ (j : Nat) (DD : DataW Unit), j ≤ rows.length ∧ i = .int .i64 j ∧ Hid (ImS w T R x2 x1 x0 W c0 A0 rows (dsA W rows k) (nsA W rows k j) wr ∧ wr.ownsMap Try.prog 3 (plainElem Try.prog 3) B j DD ∧ KeysOf DD (seenL k (rows.take j)))) (fun i _ => rows.length - (intOf i).toNat)
            case atStart => exact ⟨0, _, by omega, rfl, I1⟩
            case round =>
              clear I1
              revert wr
              intro Wq hrel
              obtain ⟨j, DD, hj, rfl, hI⟩ := hrel
              have hS := hI.out.1
              have HSI := hid hS
              obtain ⟨p0, p1, p2, _⟩ := hS.bO.three
              by_cases hjl : j < rows.length
              · have ej : decide ((j : Int) < (rows.length : Int)) = true := by simp; omega
                obtain ⟨b, o, X, xc, hA, r0, rr, _, _⟩ := HX.out.row hjl
                subst hA
                replace r0 := hS.fr.cell r0
                obtain ⟨hrl, hval⟩ := HR.out j hjl
                obtain ⟨b2, o2, hB2, y0, y1⟩ := rr.v (k := k) (by omega)
                subst hB2
                replace y0 := hS.fr.cell y0
                replace y1 := hS.fr.cell y1
                have ec : colAt k rows[j] = rows[j][k]'(by omega) := colAt_eq (by omega)
                have E1 := seenL_take (c := k) hjl
                have E2 := nulC_take (c := k) hjl
                have hvv := List.all_eq_true.1 hval (rows[j][k]'(by omega)) (List.getElem_mem _)
                rw [ec] at E1 E2
                obtain ⟨v, ev⟩ : ∃ v, rows[j][k]'(by omega) = v := ⟨_, rfl⟩
                rw [ev] at y0 y1 E1 E2 hvv
                rw [hrl] at r0
                have EH := hid (And.intro E1 E2)
                rcases v with ⟨vn, n⟩
                have HVV := hid hvv
                clear E1 E2 ec ev rr hrl hval hvv hS
                cases vn
                · have hb : -9999 ≤ n ∧ n ≤ 9999 := by
                    have h := HVV.out
                    simpa [V.valid] using h
                  obtain ⟨hb1, hb2⟩ := hb
                  have hkey : keyOf Try.prog 3 (.int .i64 n) = some (.int .i64 n) := keyOf_int_mk Try.underlying3 (WalkArith.wf_i64 (by omega))
                  have OWN := hid hI.out.2.1
                  have KYS := hid hI.out.2.2
                  clear hI HVV p0 p1 p2
                  go_wp2_with (first
                    | (at_lookup; refine wpList_lookup_own_int _ rfl _ _ 60 rfl 3 3 .i64 keyInt Try.underlying60 Try.underlying3 (zeroInt _) B j _ rfl OWN.out _ _ rfl hkey ?_; intro c hat hwc)
                    | (at_mapUpdate; refine wpList_mapUpdate_own _ rfl _ _ _ 60 rfl 3 3 keyInt Try.underlying60 _ B j _ rfl OWN.out (by unfold maxLen; omega) _ _ _ rfl rfl hkey _ [] (plainElem_int Try.underlying3 (wrap64_wf _)) ?_; intro w8 hown8 hgrow8)
                    | fail)
                  have NX := hid (show ImS w T R x2 x1 x0 W c0 (some ⟨b, o, none⟩) rows (dsA W rows k) (nsA W rows k (j + 1)) w8 ∧ w8.ownsMap Try.prog 3 (plainElem Try.prog 3) B (j + 1) (DD.put (.int .i64 n) (.lit (.int .i64 (wrap64 (c + 1))))) ∧ KeysOf (DD.put (.int .i64 n) (.lit (.int .i64 (wrap64 (c + 1))))) (seenL k (rows.take (j + 1))) from by
                    obtain ⟨a1, a2⟩ := EH.out
                    obtain ⟨⟨l1, l2, l3, l4, l5⟩, l6⟩ := LT.out
                    refine ⟨?_, hown8, ?_⟩
                    · rw [nsA_same (by rw [a2]; simp)]
                      exact HSI.out.grown hgrow8 l6 l1 l2 l3 l4 l5
                    · rw [a1]
                      exact KYS.out.put (v := ⟨false, n⟩) seenL_nodup rfl (.lit (.int .i64 (wrap64 (c + 1)))))
                  clear hown8 hgrow8 EH HSI OWN KYS
                  go_wp2
                  go_roundw
                  case rel => exact ⟨j + 1, _, by omega, by go_num, NX⟩
                  case measure => simp [intOf]; omega
                · obtain ⟨N0, eN0⟩ : ∃ x, nulC k (rows.take j) = x := ⟨_, rfl⟩
                  have hN0 : N0 ≤ 400 := by
                    rw [← eN0]
                    exact Nat.le_trans nulC_le (by rw [List.length_take]; omega)
                  have z0 : Wq.cell? ⟨x0, k, none⟩ = some (.int .i64 (N0 : Int)) := by
                    rw [blk_list HSI.out.bN (by rw [nsA_len]; exact hlt), nsA_at hlt, eN0]
                  have z1 := HSI.out.bN.frozen k
                  have NX := hid (show ImS w T R x2 x1 x0 W c0 (some ⟨b, o, none⟩) rows (dsA W rows k) (nsA W rows k (j + 1)) (Wq.setCell ⟨x0, k, none⟩ (.int .i64 ((N0 : Int) + 1))) ∧ (Wq.setCell ⟨x0, k, none⟩ (.int .i64 ((N0 : Int) + 1))).ownsMap Try.prog 3 (plainElem Try.prog 3) B (j + 1) DD ∧ KeysOf DD (seenL k (rows.take (j + 1))) from by
                    obtain ⟨a1, a2⟩ := EH.out
                    obtain ⟨⟨l1, l2, l3, l4, l5⟩, l6⟩ := LT.out
                    refine ⟨?_, (hI.out.2.1.setCell (a := ⟨x0, k, none⟩) (Ne.symm l5) _).mono (Nat.le_succ _), ?_⟩
                    · have e3 : ((N0 : Int) + 1) = (nulC k (rows.take (j + 1)) : Int) := by rw [a2, eN0]; simp
                      rw [e3, ← nsA_set (i := j)]
                      exact HSI.out.setN OR.out k _
                    · rw [a1]
                      have : sn (seenL k (rows.take j)) ⟨true, n⟩ = seenL k (rows.take j) := by unfold sn; simp
                      rw [this]
                      exact hI.out.2.2)
                  clear eN0 EH HSI hI HVV
                  go_wp2
                  go_roundw
                  case rel => exact ⟨j + 1, _, by omega, by go_num, NX⟩
                  case measure => simp [intOf]; omega
              · obtain rfl : j = rows.length := by omega
                have ej : decide ((rows.length : Int) < (rows.length : Int)) = false := by simp
                have hsz := hI.out.2.2.size
                rw [List.take_length] at hsz
                have HSZ := hid hsz
                have OWN := hid hI.out.2.1
                have d0 := blk_list HSI.out.bD (i := k) (by rw [dsA_len]; exact hlt)
                have d1 := HSI.out.bD.frozen k
                obtain ⟨d, ed⟩ : ∃ d, (dsA W rows k)[k]'(by rw [dsA_len]; exact hlt) = d := ⟨_, rfl⟩
                rw [ed] at d0
                obtain ⟨L, eL⟩ : ∃ L, (seenL k rows).length = L := ⟨_, rfl⟩
                rw [eL] at HSZ
                have NX := hid (show ImS w T R x2 x1 x0 W c0 A0 rows (dsA W rows (k + 1)) (nsA W rows (k + 1) 0) (Wq.setCell ⟨x1, k, none⟩ (.int .i64 (L : Int))) from by
                  rw [← dsA_set, ← nsA_next, eL]
                  exact HSI.out.setD OR.out k _)
                clear hS hsz ed eL hI HSI
                go_wp2_with (first
                  | (at_len; refine wpList_len_own _ rfl _ 60 rfl 3 3 Try.underlying60 _ B rows.length DD rfl OWN.out ?_; rw [HSZ.out])
                  | fail)
                go_roundw
                case rel => exact ⟨k + 1, by omega, by go_num, NX⟩
                case measure => simp [intOf]; omega
          · obtain rfl : k = W := by omega
            have el : decide ((k : Int) < (k : Int)) = false := by simp
            have hS := hO.out
            obtain ⟨p0, p1, p2, _⟩ := hS.bO.three
            obtain ⟨r0, r1, r2, s0, s1, s2⟩ := hS.bR.three
            have BF := hid (((hS.bR.set_ 0 (.int .i64 (rows.length : Int))).set_ 1 (.slice (some ⟨x1, 0, none⟩) k k)).set_ 2 (.slice (some ⟨x0, 0, none⟩) k k))
            have FIN := hid (show StPost w.heap.size ⟨rows.length, dstL k rows, nulL k rows⟩ (.returned (.agg #[.int .i64 (rows.length : Int), .slice (some ⟨x1, 0, none⟩) k k, .slice (some ⟨x0, 0, none⟩) k k])) (((W2.setCell ⟨R, 0, none⟩ (.int .i64 (rows.length : Int))).setCell ⟨R, 1, none⟩ (.slice (some ⟨x1, 0, none⟩) k k)).setCell ⟨R, 2, none⟩ (.slice (some ⟨x0, 0, none⟩) k k)) ∧ Fr w (((W2.setCell ⟨R, 0, none⟩ (.int .i64 (rows.length : Int))).setCell ⟨R, 1, none⟩ (.slice (some ⟨x1, 0, none⟩) k k)).setCell ⟨R, 2, none⟩ (.slice (some ⟨x0, 0, none⟩) k k)) from by
              have hr := OR.out
              have nD := Ne.symm hr.h1.2.1
              have nN := Ne.symm hr.h2.2.1
              have BD := ((hS.bD.far (p := ⟨R, 0, none⟩) nD (.int .i64 (rows.length : Int))).far (p := ⟨R, 1, none⟩) nD (.slice (some ⟨x1, 0, none⟩) k k)).far (p := ⟨R, 2, none⟩) nD (.slice (some ⟨x0, 0, none⟩) k k)
              have BN := ((hS.bN.far (p := ⟨R, 0, none⟩) nN (.int .i64 (rows.length : Int))).far (p := ⟨R, 1, none⟩) nN (.slice (some ⟨x1, 0, none⟩) k k)).far (p := ⟨R, 2, none⟩) nN (.slice (some ⟨x0, 0, none⟩) k k)
              rw [dsA_all] at BD
              rw [nsA_all] at BN
              exact ⟨stPost_mk BD BN hr.hD hr.hN (Ne.symm hr.h1.2.2.2) (dstL_len k rows) (nulL_len k rows), ((hS.fr.setNew (p := ⟨R, 0, none⟩) hr.hR _).setNew (p := ⟨R, 1, none⟩) hr.hR _).setNew (p := ⟨R, 2, none⟩) hr.hR _⟩)
            clear hS
            go_wp2
            rw [E.out]
            generalize (((W2.setCell ⟨R, 0, none⟩ (.int .i64 (rows.length : Int))).setCell ⟨R, 1, none⟩ (.slice (some ⟨x1, 0, none⟩) k k)).setCell ⟨R, 2, none⟩ (.slice (some ⟨x0, 0, none⟩) k k)) = w9 at BF FIN ⊢
            obtain ⟨u0, u1, u2, _⟩ := BF.out.three
            exact bodyPost_ret (v := .agg #[.int .i64 (rows.length : Int), .slice (some ⟨x1, 0, none⟩) k k, .slice (some ⟨x0, 0, none⟩) k k]) (by simp [results, Try.results8, go_sem, u0, u1, u2]) rfl FIN.out
      · have HS := keepQ _ (show Fr w1 ((w1.alloc (.cells Z 3)).alloc (.cells #[.int .i64 0, .slice none 0 0, .slice none 0 0] 28)).drew by (repeat (first | with_reducible exact Fr.refl _ | with_reducible assumption | with_reducible refine Fr.alloc ?_ _ | with_reducible refine Fr.drew ?_ | with_reducible refine Fr.drewN ?_ _ | (with_reducible refine Fr.setNew2 ?_ ?_ _; · (simp <;> omega)) | with_reducible refine Fr.trans ?_ (by assumption))))
        ((try dsimp only); refine hK.out _ _ (fun _ => HS) (fun _ => ?_); clear hK K; (try simp only [Act.put, List.setIfInBounds_toArray, List.set_cons_zero, List.set_cons_succ]))
        ((refine wpAnyT_one 5 rfl (by kernel_rfl) (fun K hK => ?_); go_simp))
        have HS := keepQ _ (show Fr w1 (((w1.alloc (.cells Z 3)).alloc (.cells #[.int .i64 0, .slice none 0 0, .slice none 0 0] 28)).alloc (.cells Z 3)).drew by (repeat (first | with_reducible exact Fr.refl _ | with_reducible assumption | with_reducible refine Fr.alloc ?_ _ | with_reducible refine Fr.drew ?_ | with_reducible refine Fr.drewN ?_ _ | (with_reducible refine Fr.setNew2 ?_ ?_ _; · (simp <;> omega)) | with_reducible refine Fr.trans ?_ (by assumption))))
        ((try dsimp only); refine hK.out _ _ (fun _ => HS) (fun _ => ?_); clear hK K; (try simp only [Act.put, List.setIfInBounds_toArray, List.set_cons_zero, List.set_cons_succ]))
        ((refine wpAnyT_take 9 (v := ?_) rfl (by kernel_rfl) (fun _ _ _ h => h) (Or.inl ⟨by rfl, ?_⟩) (by assumption) ?_; rotate_left; (focus (intro W hSw; (try dsimp only at hSw); go_simp; (try with_reducible rfl); done)); (try simp only [Act.put, List.setIfInBounds_toArray, List.set_cons_zero, List.set_cons_succ])))
        ((refine wpAnyT_one 11 rfl (by kernel_rfl) (fun K hK => ?_); go_simp))
        ((try dsimp only); refine hK.out _ _ (fun h => absurd rfl h) (fun _ => ?_); clear hK K; (try simp only [Act.put, List.setIfInBounds_toArray, List.set_cons_zero, List.set_cons_succ]); refine wpAnyT_done (by kernel_rfl) ?_ _)
        clear HS
        have BD : Blk ((((w1.alloc (.cells Z 3)).alloc (.cells #[.int .i64 (rows.length : Int), .slice (some ⟨w1.heap.size + 1 + 1, 0, none⟩) W W, .slice (some ⟨w1.heap.size, 0, none⟩) W W] 28)).alloc (.cells Z 3))) (w1.heap.size + 1 + 1) 3 Z := by have h := (Blk.new (((w1.alloc (.cells Z 3)).alloc (.cells #[.int .i64 (rows.length : Int), .slice (some ⟨w1.heap.size + 1 + 1, 0, none⟩) W W, .slice (some ⟨w1.heap.size, 0, none⟩) W W] 28))) 3 Z); simpa using h
        have BN : Blk ((((w1.alloc (.cells Z 3)).alloc (.cells #[.int .i64 (rows.length : Int), .slice (some ⟨w1.heap.size + 1 + 1, 0, none⟩) W W, .slice (some ⟨w1.heap.size, 0, none⟩) W W] 28)).alloc (.cells Z 3))) (w1.heap.size) 3 Z := by have h := (((Blk.new (w1) 3 Z).alloc (.cells #[.int .i64 (rows.length : Int), .slice (some ⟨w1.heap.size + 1 + 1, 0, none⟩) W W, .slice (some ⟨w1.heap.size, 0, none⟩) W W] 28)).alloc (.cells Z 3)); simpa using h
        have BO : Blk ((((w1.alloc (.cells Z 3)).alloc (.cells #[.int .i64 (rows.length : Int), .slice (some ⟨w1.heap.size + 1 + 1, 0, none⟩) W W, .slice (some ⟨w1.heap.size, 0, none⟩) W W] 28)).alloc (.cells Z 3))) (w1.heap.size + 1) 28 #[.int .i64 (rows.length : Int), .slice (some ⟨w1.heap.size + 1 + 1, 0, none⟩) W W, .slice (some ⟨w1.heap.size, 0, none⟩) W W] := by have h := ((Blk.new ((w1.alloc (.cells Z 3))) 28 #[.int .i64 (rows.length : Int), .slice (some ⟨w1.heap.size + 1 + 1, 0, none⟩) W W, .slice (some ⟨w1.heap.size, 0, none⟩) W W]).alloc (.cells Z 3)); simpa using h
        have G3 : Fr w1 ((((w1.alloc (.cells Z 3)).alloc (.cells #[.int .i64 (rows.length : Int), .slice (some ⟨w1.heap.size + 1 + 1, 0, none⟩) W W, .slice (some ⟨w1.heap.size, 0, none⟩) W W] 28)).alloc (.cells Z 3))) := by (repeat (first | with_reducible exact Fr.refl _ | with_reducible assumption | with_reducible refine Fr.alloc ?_ _ | with_reducible refine Fr.drew ?_ | with_reducible refine Fr.drewN ?_ _ | (with_reducible refine Fr.setNew2 ?_ ?_ _; · (simp <;> omega)) | with_reducible refine Fr.trans ?_ (by assumption)))
        obtain ⟨q0, q1, _⟩ := (BT1.fr G3).pair
        go_wp2
        generalize (((w1.alloc (.cells Z 3)).alloc (.cells #[.int .i64 (rows.length : Int), .slice (some ⟨w1.heap.size + 1 + 1, 0, none⟩) W W, .slice (some ⟨w1.heap.size, 0, none⟩) W W] 28)).alloc (.cells Z 3)) = W3 at BD BN BO G3 ⊢
        obtain ⟨x2, e2⟩ : ∃ g, w1.heap.size + 1 + 1 = g := ⟨_, rfl⟩
        obtain ⟨x1, e1⟩ : ∃ g, w1.heap.size + 1 = g := ⟨_, rfl⟩
        obtain ⟨x0, e0⟩ : ∃ g, w1.heap.size = g := ⟨_, rfl⟩
        rw [e2] at BD
        rw [e0] at BN
        rw [e2, e1, e0] at BO
        rw [e2, e1, e0]
        have OR := hid (show Ord w T R x1 x2 x0 from ⟨ho.out.1, ho.out.2.1, by have := F1.size; omega, by have := F1.size; omega, by have := F1.size; omega, ⟨by omega, by omega, by omega, by omega⟩, ⟨by omega, by omega, by omega⟩, ⟨ho.out.2.2, by omega⟩⟩)
        clear e0 e1 e2 hTl hRl hmk keepQ D1 q0 q1
        rw [← HZ.out] at BD BN
        have S0 := hid (show ImS w T R x1 x2 x0 W c0 A0 rows (dsA W rows 0) (nsA W rows 0 0) W3.drew from (⟨BT1.fr G3, BR1.fr G3, BO, by rw [dsA_zero]; exact BD, by rw [nsA_zero]; exact BN, F1.trans G3⟩ : ImS w T R x1 x2 x0 W c0 A0 rows (dsA W rows 0) (nsA W rows 0 0) W3).frI (Fr.refl _).drew)
        clear BD BN BO G3 BT1 BR1 F1
        go_loopw [24] (fun t wr => ∃ k : Nat, k ≤ W ∧ t = .int .i64 k ∧ Hid (ImS w T R x1 x2 x0 W c0 A0 rows (dsA W rows k) (nsA W rows k 0) wr)) (fun t _ => W - (intOf t).toNat)
        case atStart => exact ⟨0, by omega, rfl, S0⟩
        case round =>
          clear S0
          revert wr
          intro W2 hrel
          obtain ⟨k, hk, rfl, hO⟩ := hrel
          obtain ⟨t0, t1, _⟩ := hO.out.bT.pair
          by_cases hlt : k < W
          · have el : decide ((k : Int) < (W : Int)) = true := by simp; omega
            have MB := hid (World.ownsMap_made W2 Try.prog 3 (plainElem (H := Unit) Try.prog 3))
            have FM : Fr W2 (W2.alloc (.map #[] 0)) := (Fr.refl _).alloc _
            obtain ⟨B, eB⟩ : ∃ g, W2.heap.size = g := ⟨_, rfl⟩
            have LT := hid (show (T ≠ B ∧ R ≠ B ∧ x1 ≠ B ∧ x2 ≠ B ∧ x0 ≠ B) ∧ w.heap.size ≤ B from by
              rw [← eB]
              have := hO.out.bT.lt; have := hO.out.bR.lt; have := hO.out.bO.lt; have := hO.out.bD.lt; have := hO.out.bN.lt
              exact ⟨⟨by omega, by omega, by omega, by omega, by omega⟩, hO.out.fr.size⟩)
            have I0 := hid (hO.out.frI FM)
            have EBH := hid eB
            obtain ⟨m0, m1, _⟩ := (hO.out.bT.fr FM).pair
            clear eB
            go_wp2
            generalize (W2.alloc (.map #[] 0)) = WI at MB FM I0 ⊢
            rw [EBH.out] at MB ⊢
            have I1 := hid (And.intro I0.out (And.intro MB.out KeysOf.nil))
            clear I0 MB FM t0 t1 EBH m0 m1
            go_loopw [31] (fun i wr => ∃ (j : Nat) (DD : DataW Unit), j ≤ rows.length ∧ i = .int .i64 j ∧ Hid (ImS w T R x1 x2 x0 W c0 A0 rows (dsA W rows k) (nsA W rows k j) wr ∧ wr.ownsMap Try.prog 3 (plainElem Try.prog 3) B j DD ∧ KeysOf DD (seenL k (rows.take j)))) (fun i _ => rows.length - (intOf i).toNat)
            case atStart => exact ⟨0, _, by omega, rfl, I1⟩
            case round =>
              clear I1
              revert wr
              intro Wq hrel
              obtain ⟨j, DD, hj, rfl, hI⟩ := hrel
              have hS := hI.out.1
              have HSI := hid hS
              obtain ⟨p0, p1, p2, _⟩ := hS.bO.three
              by_cases hjl : j < rows.length
              · have ej : decide ((j : Int) < (rows.length : Int)) = true := by simp; omega
                obtain ⟨b, o, X, xc, hA, r0, rr, _, _⟩ := HX.out.row hjl
                subst hA
                replace r0 := hS.fr.cell r0
                obtain ⟨hrl, hval⟩ := HR.out j hjl
                obtain ⟨b2, o2, hB2, y0, y1⟩ := rr.v (k := k) (by omega)
                subst hB2
                replace y0 := hS.fr.cell y0
                replace y1 := hS.fr.cell y1
                have ec : colAt k rows[j] = rows[j][k]'(by omega) := colAt_eq (by omega)
                have E1 := seenL_take (c := k) hjl
                have E2 := nulC_take (c := k) hjl
                have hvv := List.all_eq_true.1 hval (rows[j][k]'(by omega)) (List.getElem_mem _)
                rw [ec] at E1 E2
                obtain ⟨v, ev⟩ : ∃ v, rows[j][k]'(by omega) = v := ⟨_, rfl⟩
                rw [ev] at y0 y1 E1 E2 hvv
                rw [hrl] at r0
                have EH := hid (And.intro E1 E2)
                rcases v with ⟨vn, n⟩
                have HVV := hid hvv
                clear E1 E2 ec ev rr hrl hval hvv hS
                cases vn
                · have hb : -9999 ≤ n ∧ n ≤ 9999 := by
                    have h := HVV.out
                    simpa [V.valid] using h
                  obtain ⟨hb1, hb2⟩ := hb
                  have hkey : keyOf Try.prog 3 (.int .i64 n) = some (.int .i64 n) := keyOf_int_mk Try.underlying3 (WalkArith.wf_i64 (by omega))
                  have OWN := hid hI.out.2.1
                  have KYS := hid hI.out.2.2
                  clear hI HVV p0 p1 p2
                  go_wp2_with (first
                    | (at_lookup; refine wpList_lookup_own_int _ rfl _ _ 60 rfl 3 3 .i64 keyInt Try.underlying60 Try.underlying3 (zeroInt _) B j _ rfl OWN.out _ _ rfl hkey ?_; intro c hat hwc)
                    | (at_mapUpdate; refine wpList_mapUpdate_own _ rfl _ _ _ 60 rfl 3 3 keyInt Try.underlying60 _ B j _ rfl OWN.out (by unfold maxLen; omega) _ _ _ rfl rfl hkey _ [] (plainElem_int Try.underlying3 (wrap64_wf _)) ?_; intro w8 hown8 hgrow8)
                    | fail)
                  have NX := hid (show ImS w T R x1 x2 x0 W c0 (some ⟨b, o, none⟩) rows (dsA W rows k) (nsA W rows k (j + 1)) w8 ∧ w8.ownsMap Try.prog 3 (plainElem Try.prog 3) B (j + 1) (DD.put (.int .i64 n) (.lit (.int .i64 (wrap64 (c + 1))))) ∧ KeysOf (DD.put (.int .i64 n) (.lit (.int .i64 (wrap64 (c + 1))))) (seenL k (rows.take (j + 1))) from by
                    obtain ⟨a1, a2⟩ := EH.out
                    obtain ⟨⟨l1, l2, l3, l4, l5⟩, l6⟩ := LT.out
                    refine ⟨?_, hown8, ?_⟩
                    · rw [nsA_same (by rw [a2]; simp)]
                      exact HSI.out.grown hgrow8 l6 l1 l2 l3 l4 l5
                    · rw [a1]
                      exact KYS.out.put (v := ⟨false, n⟩) seenL_nodup rfl (.lit (.int .i64 (wrap64 (c + 1)))))
                  clear hown8 hgrow8 EH HSI OWN KYS
                  go_wp2
                  go_roundw
                  case rel => exact ⟨j + 1, _, by omega, by go_num, NX⟩
                  case measure => simp [intOf]; omega
                · obtain ⟨N0, eN0⟩ : ∃ x, nulC k (rows.take j) = x := ⟨_, rfl⟩
                  have hN0 : N0 ≤ 400 := by
                    rw [← eN0]
                    exact Nat.le_trans nulC_le (by rw [List.length_take]; omega)
                  have z0 : Wq.cell? ⟨x0, k, none⟩ = some (.int .i64 (N0 : Int)) := by
                    rw [blk_list HSI.out.bN (by rw [nsA_len]; exact hlt), nsA_at hlt, eN0]
                  have z1 := HSI.out.bN.frozen k
                  have NX := hid (show ImS w T R x1 x2 x0 W c0 (some ⟨b, o, none⟩) rows (dsA W rows k) (nsA W rows k (j + 1)) (Wq.setCell ⟨x0, k, none⟩ (.int .i64 ((N0 : Int) + 1))) ∧ (Wq.setCell ⟨x0, k, none⟩ (.int .i64 ((N0 : Int) + 1))).ownsMap Try.prog 3 (plainElem Try.prog 3) B (j + 1) DD ∧ KeysOf DD (seenL k (rows.take (j + 1))) from by
                    obtain ⟨a1, a2⟩ := EH.out
                    obtain ⟨⟨l1, l2, l3, l4, l5⟩, l6⟩ := LT.out
                    refine ⟨?_, (hI.out.2.1.setCell (a := ⟨x0, k, none⟩) (Ne.symm l5) _).mono (Nat.le_succ _), ?_⟩
                    · have e3 : ((N0 : Int) + 1) = (nulC k (rows.take (j + 1)) : Int) := by rw [a2, eN0]; simp
                      rw [e3, ← nsA_set (i := j)]
                      exact HSI.out.setN OR.out k _
                    · rw [a1]
                      have : sn (seenL k (rows.take j)) ⟨true, n⟩ = seenL k (rows.take j) := by unfold sn; simp
                      rw [this]
                      exact hI.out.2.2)
                  clear eN0 EH HSI hI HVV
                  go_wp2
                  go_roundw
                  case rel => exact ⟨j + 1, _, by omega, by go_num, NX⟩
                  case measure => simp [intOf]; omega
              · obtain rfl : j = rows.length := by omega
                have ej : decide ((rows.length : Int) < (rows.length : Int)) = false := by simp
                have hsz := hI.out.2.2.size
                rw [List.take_length] at hsz
                have HSZ := hid hsz
                have OWN := hid hI.out.2.1
                have d0 := blk_list HSI.out.bD (i := k) (by rw [dsA_len]; exact hlt)
                have d1 := HSI.out.bD.frozen k
                obtain ⟨d, ed⟩ : ∃ d, (dsA W rows k)[k]'(by rw [dsA_len]; exact hlt) = d := ⟨_, rfl⟩
                rw [ed] at d0
                obtain ⟨L, eL⟩ : ∃ L, (seenL k rows).length = L := ⟨_, rfl⟩
                rw [eL] at HSZ
                have NX := hid (show ImS w T R x1 x2 x0 W c0 A0 rows (dsA W rows (k + 1)) (nsA W rows (k + 1) 0) (Wq.setCell ⟨x2, k, none⟩ (.int .i64 (L : Int))) from by
                  rw [← dsA_set, ← nsA_next, eL]
                  exact HSI.out.setD OR.out k _)
                clear hS hsz ed eL hI HSI
                go_wp2_with (first
                  | (at_len; refine wpList_len_own _ rfl _ 60 rfl 3 3 Try.underlying60 _ B rows.length DD rfl OWN.out ?_; rw [HSZ.out])
                  | fail)
                go_roundw
                case rel => exact ⟨k + 1, by omega, by go_num, NX⟩
                case measure => simp [intOf]; omega
          · obtain rfl : k = W := by omega
            have el : decide ((k : Int) < (k : Int)) = false := by simp
            have hS := hO.out
            obtain ⟨p0, p1, p2, _⟩ := hS.bO.three
            obtain ⟨r0, r1, r2, s0, s1, s2⟩ := hS.bR.three
            have BF := hid (((hS.bR.set_ 0 (.int .i64 (rows.length : Int))).set_ 1 (.slice (some ⟨x2, 0, none⟩) k k)).set_ 2 (.slice (some ⟨x0, 0, none⟩) k k))
            have FIN := hid (show StPost w.heap.size ⟨rows.length, dstL k rows, nulL k rows⟩ (.returned (.agg #[.int .i64 (rows.length : Int), .slice (some ⟨x2, 0, none⟩) k k, .slice (some ⟨x0, 0, none⟩) k k])) (((W2.setCell ⟨R, 0, none⟩ (.int .i64 (rows.length : Int))).setCell ⟨R, 1, none⟩ (.slice (some ⟨x2, 0, none⟩) k k)).setCell ⟨R, 2, none⟩ (.slice (some ⟨x0, 0, none⟩) k k)) ∧ Fr w (((W2.setCell ⟨R, 0, none⟩ (.int .i64 (rows.length : Int))).setCell ⟨R, 1, none⟩ (.slice (some ⟨x2, 0, none⟩) k k)).setCell ⟨R, 2, none⟩ (.slice (some ⟨x0, 0, none⟩) k k)) from by
              have hr := OR.out
              have nD := Ne.symm hr.h1.2.1
              have nN := Ne.symm hr.h2.2.1
              have BD := ((hS.bD.far (p := ⟨R, 0, none⟩) nD (.int .i64 (rows.length : Int))).far (p := ⟨R, 1, none⟩) nD (.slice (some ⟨x2, 0, none⟩) k k)).far (p := ⟨R, 2, none⟩) nD (.slice (some ⟨x0, 0, none⟩) k k)
              have BN := ((hS.bN.far (p := ⟨R, 0, none⟩) nN (.int .i64 (rows.length : Int))).far (p := ⟨R, 1, none⟩) nN (.slice (some ⟨x2, 0, none⟩) k k)).far (p := ⟨R, 2, none⟩) nN (.slice (some ⟨x0, 0, none⟩) k k)
              rw [dsA_all] at BD
              rw [nsA_all] at BN
              exact ⟨stPost_mk BD BN hr.hD hr.hN (Ne.symm hr.h1.2.2.2) (dstL_len k rows) (nulL_len k rows), ((hS.fr.setNew (p := ⟨R, 0, none⟩) hr.hR _).setNew (p := ⟨R, 1, none⟩) hr.hR _).setNew (p := ⟨R, 2, none⟩) hr.hR _⟩)
            clear hS
            go_wp2
            rw [E.out]
            generalize (((W2.setCell ⟨R, 0, none⟩ (.int .i64 (rows.length : Int))).setCell ⟨R, 1, none⟩ (.slice (some ⟨x2, 0, none⟩) k k)).setCell ⟨R, 2, none⟩ (.slice (some ⟨x0, 0, none⟩) k k)) = w9 at BF FIN ⊢
            obtain ⟨u0, u1, u2, _⟩ := BF.out.three
            exact bodyPost_ret (v := .agg #[.int .i64 (rows.length : Int), .slice (some ⟨x2, 0, none⟩) k k, .slice (some ⟨x0, 0, none⟩) k k]) (by simp [results, Try.results8, go_sem, u0, u1, u2]) rfl FIN.out
    · have HS := keepQ _ (show Fr w1 (w1.alloc (.cells #[.int .i64 0, .slice none 0 0, .slice none 0 0] 28)).drew by (repeat (first | with_reducible exact Fr.refl _ | with_reducible assumption | with_reducible refine Fr.alloc ?_ _ | with_reducible refine Fr.drew ?_ | with_reducible refine Fr.drewN ?_ _ | (with_reducible refine Fr.setNew2 ?_ ?_ _; · (simp <;> omega)) | with_reducible refine Fr.trans ?_ (by assumption))))
      ((try dsimp only); refine hK.out _ _ (fun _ => HS) (fun _ => ?_); clear hK K; (try simp only [Act.put, List.setIfInBounds_toArray, List.set_cons_zero, List.set_cons_succ]))
      refine wpAnyT_two 5 8 rfl rfl (by kernel_rfl) (fun K hK => ?_) (fun K hK => ?_) <;> go_simp
      · have HS := keepQ _ (show Fr w1 ((w1.alloc (.cells #[.int .i64 0, .slice none 0 0, .slice none 0 0] 28)).alloc (.cells Z 3)).drew by (repeat (first | with_reducible exact Fr.refl _ | with_reducible assumption | with_reducible refine Fr.alloc ?_ _ | with_reducible refine Fr.drew ?_ | with_reducible refine Fr.drewN ?_ _ | (with_reducible refine Fr.setNew2 ?_ ?_ _; · (simp <;> omega)) | with_reducible refine Fr.trans ?_ (by assumption))))
        ((try dsimp only); refine hK.out _ _ (fun _ => HS) (fun _ => ?_); clear hK K; (try simp only [Act.put, List.setIfInBounds_toArray, List.set_cons_zero, List.set_cons_succ]))
        ((refine wpAnyT_one 8 rfl (by kernel_rfl) (fun K hK => ?_); go_simp))
        have HS := keepQ _ (show Fr w1 (((w1.alloc (.cells #[.int .i64 0, .slice none 0 0, .slice none 0 0] 28)).alloc (.cells Z 3)).alloc (.cells Z 3)).drew by (repeat (first | with_reducible exact Fr.refl _ | with_reducible assumption | with_reducible refine Fr.alloc ?_ _ | with_reducible refine Fr.drew ?_ | with_reducible refine Fr.drewN ?_ _ | (with_reducible refine Fr.setNew2 ?_ ?_ _; · (simp <;> omega)) | with_reducible refine Fr.trans ?_ (by assumption))))
        ((try dsimp only); refine hK.out _ _ (fun _ => HS) (fun _ => ?_); clear hK K; (try simp only [Act.put, List.setIfInBounds_toArray, List.set_cons_zero, List.set_cons_succ]))
        ((refine wpAnyT_take 9 (v := ?_) rfl (by kernel_rfl) (fun _ _ _ h => h) (Or.inl ⟨by rfl, ?_⟩) (by assumption) ?_; rotate_left; (focus (intro W hSw; (try dsimp only at hSw); go_simp; (try with_reducible rfl); done)); (try simp only [Act.put, List.setIfInBounds_toArray, List.set_cons_zero, List.set_cons_succ])))
        ((refine wpAnyT_one 11 rfl (by kernel_rfl) (fun K hK => ?_); go_simp))
        ((try dsimp only); refine hK.out _ _ (fun h => absurd rfl h) (fun _ => ?_); clear hK K; (try simp only [Act.put, List.setIfInBounds_toArray, List.set_cons_zero, List.set_cons_succ]); refine wpAnyT_done (by kernel_rfl) ?_ _)
        clear HS
        have BD : Blk ((((w1.alloc (.cells #[.int .i64 (rows.length : Int), .slice (some ⟨w1.heap.size + 1, 0, none⟩) W W, .slice (some ⟨w1.heap.size + 1 + 1, 0, none⟩) W W] 28)).alloc (.cells Z 3)).alloc (.cells Z 3))) (w1.heap.size + 1) 3 Z := by have h := ((Blk.new ((w1.alloc (.cells #[.int .i64 (rows.length : Int), .slice (some ⟨w1.heap.size + 1, 0, none⟩) W W, .slice (some ⟨w1.heap.size + 1 + 1, 0, none⟩) W W] 28))) 3 Z).alloc (.cells Z 3)); simpa using h
        have BN : Blk ((((w1.alloc (.cells #[.int .i64 (rows.length : Int), .slice (some ⟨w1.heap.size + 1, 0, none⟩) W W, .slice (some ⟨w1.heap.size + 1 + 1, 0, none⟩) W W] 28)).alloc (.cells Z 3)).alloc (.cells Z 3))) (w1.heap.size + 1 + 1) 3 Z := by have h := (Blk.new (((w1.alloc (.cells #[.int .i64 (rows.length : Int), .slice (some ⟨w1.heap.size + 1, 0, none⟩) W W, .slice (some ⟨w1.heap.size + 1 + 1, 0, none⟩) W W] 28)).alloc (.cells Z 3))) 3 Z); simpa using h
        have BO : Blk ((((w1.alloc (.cells #[.int .i64 (rows.length : Int), .slice (some ⟨w1.heap.size + 1, 0, none⟩) W W, .slice (some ⟨w1.heap.size + 1 + 1, 0, none⟩) W W] 28)).alloc (.cells Z 3)).alloc (.cells Z 3))) (w1.heap.size) 28 #[.int .i64 (rows.length : Int), .slice (some ⟨w1.heap.size + 1, 0, none⟩) W W, .slice (some ⟨w1.heap.size + 1 + 1, 0, none⟩) W W] := by have h := (((Blk.new (w1) 28 #[.int .i64 (rows.length : Int), .slice (some ⟨w1.heap.size + 1, 0, none⟩) W W, .slice (some ⟨w1.heap.size + 1 + 1, 0, none⟩) W W]).alloc (.cells Z 3)).alloc (.cells Z 3)); simpa using h
        have G3 : Fr w1 ((((w1.alloc (.cells #[.int .i64 (rows.length : Int), .slice (some ⟨w1.heap.size + 1, 0, none⟩) W W, .slice (some ⟨w1.heap.size + 1 + 1, 0, none⟩) W W] 28)).alloc (.cells Z 3)).alloc (.cells Z 3))) := by (repeat (first | with_reducible exact Fr.refl _ | with_reducible assumption | with_reducible refine Fr.alloc ?_ _ | with_reducible refine Fr.drew ?_ | with_reducible refine Fr.drewN ?_ _ | (with_reducible refine Fr.setNew2 ?_ ?_ _; · (simp <;> omega)) | with_reducible refine Fr.trans ?_ (by assumption)))
        obtain ⟨q0, q1, _⟩ := (BT1.fr G3).pair
        go_wp2
        generalize (((w1.alloc (.cells #[.int .i64 (rows.length : Int), .slice (some ⟨w1.heap.size + 1, 0, none⟩) W W, .slice (some ⟨w1.heap.size + 1 + 1, 0, none⟩) W W] 28)).alloc (.cells Z 3)).alloc (.cells Z 3)) = W3 at BD BN BO G3 ⊢
        obtain ⟨x2, e2⟩ : ∃ g, w1.heap.size + 1 + 1 = g := ⟨_, rfl⟩
        obtain ⟨x1, e1⟩ : ∃ g, w1.heap.size + 1 = g := ⟨_, rfl⟩
        obtain ⟨x0, e0⟩ : ∃ g, w1.heap.size = g := ⟨_, rfl⟩
        rw [e1] at BD
        rw [e2] at BN
        rw [e2, e1, e0] at BO
        rw [e2, e1, e0]
        have OR := hid (show Ord w T R x0 x1 x2 from ⟨ho.out.1, ho.out.2.1, by have := F1.size; omega, by have := F1.size; omega, by have := F1.size; omega, ⟨by omega, by omega, by omega, by omega⟩, ⟨by omega, by omega, by omega⟩, ⟨ho.out.2.2, by omega⟩⟩)
        clear e0 e1 e2 hTl hRl hmk keepQ D1 q0 q1
        rw [← HZ.out] at BD BN
        have S0 := hid (show ImS w T R x0 x1 x2 W c0 A0 rows (dsA W rows 0) (nsA W rows 0 0) W3.drew from (⟨BT1.fr G3, BR1.fr G3, BO, by rw [dsA_zero]; exact BD, by rw [nsA_zero]; exact BN, F1.trans G3⟩ : ImS w T R x0 x1 x2 W c0 A0 rows (dsA W rows 0) (nsA W rows 0 0) W3).frI (Fr.refl _).drew)
        clear BD BN BO G3 BT1 BR1 F1
        go_loopw [24] (fun t wr => ∃ k : Nat, k ≤ W ∧ t = .int .i64 k ∧ Hid (ImS w T R x0 x1 x2 W c0 A0 rows (dsA W rows k) (nsA W rows k 0) wr)) (fun t _ => W - (intOf t).toNat)
        case atStart => exact ⟨0, by omega, rfl, S0⟩
        case round =>
          clear S0
          revert wr
          intro W2 hrel
          obtain ⟨k, hk, rfl, hO⟩ := hrel
          obtain ⟨t0, t1, _⟩ := hO.out.bT.pair
          by_cases hlt : k < W
          · have el : decide ((k : Int) < (W : Int)) = true := by simp; omega
            have MB := hid (World.ownsMap_made W2 Try.prog 3 (plainElem (H := Unit) Try.prog 3))
            have FM : Fr W2 (W2.alloc (.map #[] 0)) := (Fr.refl _).alloc _
            obtain ⟨B, eB⟩ : ∃ g, W2.heap.size = g := ⟨_, rfl⟩
            have LT := hid (show (T ≠ B ∧ R ≠ B ∧ x0 ≠ B ∧ x1 ≠ B ∧ x2 ≠ B) ∧ w.heap.size ≤ B from by
              rw [← eB]
              have := hO.out.bT.lt; have := hO.out.bR.lt; have := hO.out.bO.lt; have := hO.out.bD.lt; have := hO.out.bN.lt
              exact ⟨⟨by omega, by omega, by omega, by omega, by omega⟩, hO.out.fr.size⟩)
            have I0 := hid (hO.out.frI FM)
            have EBH := hid eB
            obtain ⟨m0, m1, _⟩ := (hO.out.bT.fr FM).pair
            clear eB
            go_wp2
            generalize (W2.alloc (.map #[] 0)) = WI at MB FM I0 ⊢
            rw [EBH.out] at MB ⊢
            have I1 := hid (And.intro I0.out (And.intro MB.out KeysOf.nil))
            clear I0 MB FM t0 t1 EBH m0 m1
            go_loopw [31] (fun i wr => ∃ (j : Nat) (DD : DataW Unit), j ≤ rows.length ∧ i = .int .i64 j ∧ Hid (ImS w T R x0 x1 x2 W c0 A0 rows (dsA W rows k) (nsA W rows k j) wr ∧ wr.ownsMap Try.prog 3 (plainElem Try.prog 3) B j DD ∧ KeysOf DD (seenL k (rows.take j)))) (fun i _ => rows.length - (intOf i).toNat)
            case atStart => exact ⟨0, _, by omega, rfl, I1⟩
            case round =>
              clear I1
              revert wr
              intro Wq hrel
              obtain ⟨j, DD, hj, rfl, hI⟩ := hrel
              have hS := hI.out.1
              have HSI := hid hS
              obtain ⟨p0, p1, p2, _⟩ := hS.bO.three
              by_cases hjl : j < rows.length
              · have ej : decide ((j : Int) < (rows.length : Int)) = true := by simp; omega
                obtain ⟨b, o, X, xc, hA, r0, rr, _, _⟩ := HX.out.row hjl
                subst hA
                replace r0 := hS.fr.cell r0
                obtain ⟨hrl, hval⟩ := HR.out j hjl
                obtain ⟨b2, o2, hB2, y0, y1⟩ := rr.v (k := k) (by omega)
                subst hB2
                replace y0 := hS.fr.cell y0
                replace y1 := hS.fr.cell y1
                have ec : colAt k rows[j] = rows[j][k]'(by omega) := colAt_eq (by omega)
                have E1 := seenL_take (c := k) hjl
                have E2 := nulC_take (c := k) hjl
                have hvv := List.all_eq_true.1 hval (rows[j][k]'(by omega)) (List.getElem_mem _)
                rw [ec] at E1 E2
                obtain ⟨v, ev⟩ : ∃ v, rows[j][k]'(by omega) = v := ⟨_, rfl⟩
                rw [ev] at y0 y1 E1 E2 hvv
                rw [hrl] at r0
                have EH := hid (And.intro E1 E2)
                rcases v with ⟨vn, n⟩
                have HVV := hid hvv
                clear E1 E2 ec ev rr hrl hval hvv hS
                cases vn
                · have hb : -9999 ≤ n ∧ n ≤ 9999 := by
                    have h := HVV.out
                    simpa [V.valid] using h
                  obtain ⟨hb1, hb2⟩ := hb
                  have hkey : keyOf Try.prog 3 (.int .i64 n) = some (.int .i64 n) := keyOf_int_mk Try.underlying3 (WalkArith.wf_i64 (by omega))
                  have OWN := hid hI.out.2.1
                  have KYS := hid hI.out.2.2
                  clear hI HVV p0 p1 p2
                  go_wp2_with (first
                    | (at_lookup; refine wpList_lookup_own_int _ rfl _ _ 60 rfl 3 3 .i64 keyInt Try.underlying60 Try.underlying3 (zeroInt _) B j _ rfl OWN.out _ _ rfl hkey ?_; intro c hat hwc)
                    | (at_mapUpdate; refine wpList_mapUpdate_own _ rfl _ _ _ 60 rfl 3 3 keyInt Try.underlying60 _ B j _ rfl OWN.out (by unfold maxLen; omega) _ _ _ rfl rfl hkey _ [] (plainElem_int Try.underlying3 (wrap64_wf _)) ?_; intro w8 hown8 hgrow8)
                    | fail)
                  have NX := hid (show ImS w T R x0 x1 x2 W c0 (some ⟨b, o, none⟩) rows (dsA W rows k) (nsA W rows k (j + 1)) w8 ∧ w8.ownsMap Try.prog 3 (plainElem Try.prog 3) B (j + 1) (DD.put (.int .i64 n) (.lit (.int .i64 (wrap64 (c + 1))))) ∧ KeysOf (DD.put (.int .i64 n) (.lit (.int .i64 (wrap64 (c + 1))))) (seenL k (rows.take (j + 1))) from by
                    obtain ⟨a1, a2⟩ := EH.out
                    obtain ⟨⟨l1, l2, l3, l4, l5⟩, l6⟩ := LT.out
                    refine ⟨?_, hown8, ?_⟩
                    · rw [nsA_same (by rw [a2]; simp)]
                      exact HSI.out.grown hgrow8 l6 l1 l2 l3 l4 l5
                    · rw [a1]
                      exact KYS.out.put (v := ⟨false, n⟩) seenL_nodup rfl (.lit (.int .i64 (wrap64 (c + 1)))))
                  clear hown8 hgrow8 EH HSI OWN KYS
                  go_wp2
                  go_roundw
                  case rel => exact ⟨j + 1, _, by omega, by go_num, NX⟩
                  case measure => simp [intOf]; omega
                · obtain ⟨N0, eN0⟩ : ∃ x, nulC k (rows.take j) = x := ⟨_, rfl⟩
                  have hN0 : N0 ≤ 400 := by
                    rw [← eN0]
                    exact Nat.le_trans nulC_le (by rw [List.length_take]; omega)
                  have z0 : Wq.cell? ⟨x2, k, none⟩ = some (.int .i64 (N0 : Int)) := by
                    rw [blk_list HSI.out.bN (by rw [nsA_len]; exact hlt), nsA_at hlt, eN0]
                  have z1 := HSI.out.bN.frozen k
                  have NX := hid (show ImS w T R x0 x1 x2 W c0 (some ⟨b, o, none⟩) rows (dsA W rows k) (nsA W rows k (j + 1)) (Wq.setCell ⟨x2, k, none⟩ (.int .i64 ((N0 : Int) + 1))) ∧ (Wq.setCell ⟨x2, k, none⟩ (.int .i64 ((N0 : Int) + 1))).ownsMap Try.prog 3 (plainElem Try.prog 3) B (j + 1) DD ∧ KeysOf DD (seenL k (rows.take (j + 1))) from by
                    obtain ⟨a1, a2⟩ := EH.out
                    obtain ⟨⟨l1, l2, l3, l4, l5⟩, l6⟩ := LT.out
                    refine ⟨?_, (hI.out.2.1.setCell (a := ⟨x2, k, none⟩) (Ne.symm l5) _).mono (Nat.le_succ _), ?_⟩
                    · have e3 : ((N0 : Int) + 1) = (nulC k (rows.take (j + 1)) : Int) := by rw [a2, eN0]; simp
                      rw [e3, ← nsA_set (i := j)]
                      exact HSI.out.setN OR.out k _
                    · rw [a1]
                      have : sn (seenL k (rows.take j)) ⟨true, n⟩ = seenL k (rows.take j) := by unfold sn; simp
                      rw [this]
                      exact hI.out.2.2)
                  clear eN0 EH HSI hI HVV
                  go_wp2
                  go_roundw
                  case rel => exact ⟨j + 1, _, by omega, by go_num, NX⟩
                  case measure => simp [intOf]; omega
              · obtain rfl : j = rows.length := by omega
                have ej : decide ((rows.length : Int) < (rows.length : Int)) = false := by simp
                have hsz := hI.out.2.2.size
                rw [List.take_length] at hsz
                have HSZ := hid hsz
                have OWN := hid hI.out.2.1
                have d0 := blk_list HSI.out.bD (i := k) (by rw [dsA_len]; exact hlt)
                have d1 := HSI.out.bD.frozen k
                obtain ⟨d, ed⟩ : ∃ d, (dsA W rows k)[k]'(by rw [dsA_len]; exact hlt) = d := ⟨_, rfl⟩
                rw [ed] at d0
                obtain ⟨L, eL⟩ : ∃ L, (seenL k rows).length = L := ⟨_, rfl⟩
                rw [eL] at HSZ
                have NX := hid (show ImS w T R x0 x1 x2 W c0 A0 rows (dsA W rows (k + 1)) (nsA W rows (k + 1) 0) (Wq.setCell ⟨x1, k, none⟩ (.int .i64 (L : Int))) from by
                  rw [← dsA_set, ← nsA_next, eL]
                  exact HSI.out.setD OR.out k _)
                clear hS hsz ed eL hI HSI
                go_wp2_with (first
                  | (at_len; refine wpList_len_own _ rfl _ 60 rfl 3 3 Try.underlying60 _ B rows.length DD rfl OWN.out ?_; rw [HSZ.out])
                  | fail)
                go_roundw
                case rel => exact ⟨k + 1, by omega, by go_num, NX⟩
                case measure => simp [intOf]; omega
          · obtain rfl : k = W := by omega
            have el : decide ((k : Int) < (k : Int)) = false := by simp
            have hS := hO.out
            obtain ⟨p0, p1, p2, _⟩ := hS.bO.three
            obtain ⟨r0, r1, r2, s0, s1, s2⟩ := hS.bR.three
            have BF := hid (((hS.bR.set_ 0 (.int .i64 (rows.length : Int))).set_ 1 (.slice (some ⟨x1, 0, none⟩) k k)).set_ 2 (.slice (some ⟨x2, 0, none⟩) k k))
            have FIN := hid (show StPost w.heap.size ⟨rows.length, dstL k rows, nulL k rows⟩ (.returned (.agg #[.int .i64 (rows.length : Int), .slice (some ⟨x1, 0, none⟩) k k, .slice (some ⟨x2, 0, none⟩) k k])) (((W2.setCell ⟨R, 0, none⟩ (.int .i64 (rows.length : Int))).setCell ⟨R, 1, none⟩ (.slice (some ⟨x1, 0, none⟩) k k)).setCell ⟨R, 2, none⟩ (.slice (some ⟨x2, 0, none⟩) k k)) ∧ Fr w (((W2.setCell ⟨R, 0, none⟩ (.int .i64 (rows.length : Int))).setCell ⟨R, 1, none⟩ (.slice (some ⟨x1, 0, none⟩) k k)).setCell ⟨R, 2, none⟩ (.slice (some ⟨x2, 0, none⟩) k k)) from by
              have hr := OR.out
              have nD := Ne.symm hr.h1.2.1
              have nN := Ne.symm hr.h2.2.1
              have BD := ((hS.bD.far (p := ⟨R, 0, none⟩) nD (.int .i64 (rows.length : Int))).far (p := ⟨R, 1, none⟩) nD (.slice (some ⟨x1, 0, none⟩) k k)).far (p := ⟨R, 2, none⟩) nD (.slice (some ⟨x2, 0, none⟩) k k)
              have BN := ((hS.bN.far (p := ⟨R, 0, none⟩) nN (.int .i64 (rows.length : Int))).far (p := ⟨R, 1, none⟩) nN (.slice (some ⟨x1, 0, none⟩) k k)).far (p := ⟨R, 2, none⟩) nN (.slice (some ⟨x2, 0, none⟩) k k)
              rw [dsA_all] at BD
              rw [nsA_all] at BN
              exact ⟨stPost_mk BD BN hr.hD hr.hN (Ne.symm hr.h1.2.2.2) (dstL_len k rows) (nulL_len k rows), ((hS.fr.setNew (p := ⟨R, 0, none⟩) hr.hR _).setNew (p := ⟨R, 1, none⟩) hr.hR _).setNew (p := ⟨R, 2, none⟩) hr.hR _⟩)
            clear hS
            go_wp2
            rw [E.out]
            generalize (((W2.setCell ⟨R, 0, none⟩ (.int .i64 (rows.length : Int))).setCell ⟨R, 1, none⟩ (.slice (some ⟨x1, 0, none⟩) k k)).setCell ⟨R, 2, none⟩ (.slice (some ⟨x2, 0, none⟩) k k)) = w9 at BF FIN ⊢
            obtain ⟨u0, u1, u2, _⟩ := BF.out.three
            exact bodyPost_ret (v := .agg #[.int .i64 (rows.length : Int), .slice (some ⟨x1, 0, none⟩) k k, .slice (some ⟨x2, 0, none⟩) k k]) (by simp [results, Try.results8, go_sem, u0, u1, u2]) rfl FIN.out
      · have HS := keepQ _ (show Fr w1 ((w1.alloc (.cells #[.int .i64 0, .slice none 0 0, .slice none 0 0] 28)).alloc (.cells Z 3)).drew by (repeat (first | with_reducible exact Fr.refl _ | with_reducible assumption | with_reducible refine Fr.alloc ?_ _ | with_reducible refine Fr.drew ?_ | with_reducible refine Fr.drewN ?_ _ | (with_reducible refine Fr.setNew2 ?_ ?_ _; · (simp <;> omega)) | with_reducible refine Fr.trans ?_ (by assumption))))
        ((try dsimp only); refine hK.out _ _ (fun _ => HS) (fun _ => ?_); clear hK K; (try simp only [Act.put, List.setIfInBounds_toArray, List.set_cons_zero, List.set_cons_succ]))
        ((refine wpAnyT_one 5 rfl (by kernel_rfl) (fun K hK => ?_); go_simp))
        have HS := keepQ _ (show Fr w1 (((w1.alloc (.cells #[.int .i64 0, .slice none 0 0, .slice none 0 0] 28)).alloc (.cells Z 3)).alloc (.cells Z 3)).drew by (repeat (first | with_reducible exact Fr.refl _ | with_reducible assumption | with_reducible refine Fr.alloc ?_ _ | with_reducible refine Fr.drew ?_ | with_reducible refine Fr.drewN ?_ _ | (with_reducible refine Fr.setNew2 ?_ ?_ _; · (simp <;> omega)) | with_reducible refine Fr.trans ?_ (by assumption))))
        ((try dsimp only); refine hK.out _ _ (fun _ => HS) (fun _ => ?_); clear hK K; (try simp only [Act.put, List.setIfInBounds_toArray, List.set_cons_zero, List.set_cons_succ]))
        ((refine wpAnyT_take 9 (v := ?_) rfl (by kernel_rfl) (fun _ _ _ h => h) (Or.inl ⟨by rfl, ?_⟩) (by assumption) ?_; rotate_left; (focus (intro W hSw; (try dsimp only at hSw); go_simp; (try with_reducible rfl); done)); (try simp only [Act.put, List.setIfInBounds_toArray, List.set_cons_zero, List.set_cons_succ])))
        ((refine wpAnyT_one 11 rfl (by kernel_rfl) (fun K hK => ?_); go_simp))
        ((try dsimp only); refine hK.out _ _ (fun h => absurd rfl h) (fun _ => ?_); clear hK K; (try simp only [Act.put, List.setIfInBounds_toArray, List.set_cons_zero, List.set_cons_succ]); refine wpAnyT_done (by kernel_rfl) ?_ _)
        clear HS
        have BD : Blk ((((w1.alloc (.cells #[.int .i64 (rows.length : Int), .slice (some ⟨w1.heap.size + 1 + 1, 0, none⟩) W W, .slice (some ⟨w1.heap.size + 1, 0, none⟩) W W] 28)).alloc (.cells Z 3)).alloc (.cells Z 3))) (w1.heap.size + 1 + 1) 3 Z := by have h := (Blk.new (((w1.alloc (.cells #[.int .i64 (rows.length : Int), .slice (some ⟨w1.heap.size + 1 + 1, 0, none⟩) W W, .slice (some ⟨w1.heap.size + 1, 0, none⟩) W W] 28)).alloc (.cells Z 3))) 3 Z); simpa using h
        have BN : Blk ((((w1.alloc (.cells #[.int .i64 (rows.length : Int), .slice (some ⟨w1.heap.size + 1 + 1, 0, none⟩) W W, .slice (some ⟨w1.heap.size + 1, 0, none⟩) W W] 28)).alloc (.cells Z 3)).alloc (.cells Z 3))) (w1.heap.size + 1) 3 Z := by have h := ((Blk.new ((w1.alloc (.cells #[.int .i64 (rows.length : Int), .slice (some ⟨w1.heap.size + 1 + 1, 0, none⟩) W W, .slice (some ⟨w1.heap.size + 1, 0, none⟩) W W] 28))) 3 Z).alloc (.cells Z 3)); simpa using h
        have BO : Blk ((((w1.alloc (.cells #[.int .i64 (rows.length : Int), .slice (some ⟨w1.heap.size + 1 + 1, 0, none⟩) W W, .slice (some ⟨w1.heap.size + 1, 0, none⟩) W W] 28)).alloc (.cells Z 3)).alloc (.cells Z 3))) (w1.heap.size) 28 #[.int .i64 (rows.length : Int), .slice (some ⟨w1.heap.size + 1 + 1, 0, none⟩) W W, .slice (some ⟨w1.heap.size + 1, 0, none⟩) W W] := by have h := (((Blk.new (w1) 28 #[.int .i64 (rows.length : Int), .slice (some ⟨w1.heap.size + 1 + 1, 0, none⟩) W W, .slice (some ⟨w1.heap.size + 1, 0, none⟩) W W]).alloc (.cells Z 3)).alloc (.cells Z 3)); simpa using h
        have G3 : Fr w1 ((((w1.alloc (.cells #[.int .i64 (rows.length : Int), .slice (some ⟨w1.heap.size + 1 + 1, 0, none⟩) W W, .slice (some ⟨w1.heap.size + 1, 0, none⟩) W W] 28)).alloc (.cells Z 3)).alloc (.cells Z 3))) := by (repeat (first | with_reducible exact Fr.refl _ | with_reducible assumption | with_reducible refine Fr.alloc ?_ _ | with_reducible refine Fr.drew ?_ | with_reducible refine Fr.drewN ?_ _ | (with_reducible refine Fr.setNew2 ?_ ?_ _; · (simp <;> omega)) | with_reducible refine Fr.trans ?_ (by assumption)))
        obtain ⟨q0, q1, _⟩ := (BT1.fr G3).pair
        go_wp2
        generalize (((w1.alloc (.cells #[.int .i64 (rows.length : Int), .slice (some ⟨w1.heap.size + 1 + 1, 0, none⟩) W W, .slice (some ⟨w1.heap.size + 1, 0, none⟩) W W] 28)).alloc (.cells Z 3)).alloc (.cells Z 3)) = W3 at BD BN BO G3 ⊢
        obtain ⟨x2, e2⟩ : ∃ g, w1.heap.size + 1 + 1 = g := ⟨_, rfl⟩
        obtain ⟨x1, e1⟩ : ∃ g, w1.heap.size + 1 = g := ⟨_, rfl⟩
        obtain ⟨x0, e0⟩ : ∃ g, w1.heap.size = g := ⟨_, rfl⟩
        rw [e2] at BD
        rw [e1] at BN
        rw [e2, e1, e0] at BO
        rw [e2, e1, e0]
        have OR := hid (show Ord w T R x0 x2 x1 from ⟨ho.out.1, ho.out.2.1, by have := F1.size; omega, by have := F1.size; omega, by have := F1.size; omega, ⟨by omega, by omega, by omega, by omega⟩, ⟨by omega, by omega, by omega⟩, ⟨ho.out.2.2, by omega⟩⟩)
        clear e0 e1 e2 hTl hRl hmk keepQ D1 q0 q1
        rw [← HZ.out] at BD BN
        have S0 := hid (show ImS w T R x0 x2 x1 W c0 A0 rows (dsA W rows 0) (nsA W rows 0 0) W3.drew from (⟨BT1.fr G3, BR1.fr G3, BO, by rw [dsA_zero]; exact BD, by rw [nsA_zero]; exact BN, F1.trans G3⟩ : ImS w T R x0 x2 x1 W c0 A0 rows (dsA W rows 0) (nsA W rows 0 0) W3).frI (Fr.refl _).drew)
        clear BD BN BO G3 BT1 BR1 F1
        go_loopw [24] (fun t wr => ∃ k : Nat, k ≤ W ∧ t = .int .i64 k ∧ Hid (ImS w T R x0 x2 x1 W c0 A0 rows (dsA W rows k) (nsA W rows k 0) wr)) (fun t _ => W - (intOf t).toNat)
        case atStart => exact ⟨0, by omega, rfl, S0⟩
        case round =>
          clear S0
          revert wr
          intro W2 hrel
          obtain ⟨k, hk, rfl, hO⟩ := hrel
          obtain ⟨t0, t1, _⟩ := hO.out.bT.pair
          by_cases hlt : k < W
          · have el : decide ((k : Int) < (W : Int)) = true := by simp; omega
            have MB := hid (World.ownsMap_made W2 Try.prog 3 (plainElem (H := Unit) Try.prog 3))
            have FM : Fr W2 (W2.alloc (.map #[] 0)) := (Fr.refl _).alloc _
            obtain ⟨B, eB⟩ : ∃ g, W2.heap.size = g := ⟨_, rfl⟩
            have LT := hid (show (T ≠ B ∧ R ≠ B ∧ x0 ≠ B ∧ x2 ≠ B ∧ x1 ≠ B) ∧ w.heap.size ≤ B from by
              rw [← eB]
              have := hO.out.bT.lt; have := hO.out.bR.lt; have := hO.out.bO.lt; have := hO.out.bD.lt; have := hO.out.bN.lt
              exact ⟨⟨by omega, by omega, by omega, by omega, by omega⟩, hO.out.fr.size⟩)
            have I0 := hid (hO.out.frI FM)
            have EBH := hid eB
            obtain ⟨m0, m1, _⟩ := (hO.out.bT.fr FM).pair
            clear eB
            go_wp2
            generalize (W2.alloc (.map #[] 0)) = WI at MB FM I0 ⊢
            rw [EBH.out] at MB ⊢
            have I1 := hid (And.intro I0.out (And.intro MB.out KeysOf.nil))
            clear I0 MB FM t0 t1 EBH m0 m1
            go_loopw [31] (fun i wr => ∃ (j : Nat) (DD : DataW Unit), j ≤ rows.length ∧ i = .int .i64 j ∧ Hid (ImS w T R x0 x2 x1 W c0 A0 rows (dsA W rows k) (nsA W rows k j) wr ∧ wr.ownsMap Try.prog 3 (plainElem Try.prog 3) B j DD ∧ KeysOf DD (seenL k (rows.take j)))) (fun i _ => rows.length - (intOf i).toNat)
            case atStart => exact ⟨0, _, by omega, rfl, I1⟩
            case round =>
              clear I1
              revert wr
              intro Wq hrel
              obtain ⟨j, DD, hj, rfl, hI⟩ := hrel
              have hS := hI.out.1
              have HSI := hid hS
              obtain ⟨p0, p1, p2, _⟩ := hS.bO.three
              by_cases hjl : j < rows.length
              · have ej : decide ((j : Int) < (rows.length : Int)) = true := by simp; omega
                obtain ⟨b, o, X, xc, hA, r0, rr, _, _⟩ := HX.out.row hjl
                subst hA
                replace r0 := hS.fr.cell r0
                obtain ⟨hrl, hval⟩ := HR.out j hjl
                obtain ⟨b2, o2, hB2, y0, y1⟩ := rr.v (k := k) (by omega)
                subst hB2
                replace y0 := hS.fr.cell y0
                replace y1 := hS.fr.cell y1
                have ec : colAt k rows[j] = rows[j][k]'(by omega) := colAt_eq (by omega)
                have E1 := seenL_take (c := k) hjl
                have E2 := nulC_take (c := k) hjl
                have hvv := List.all_eq_true.1 hval (rows[j][k]'(by omega)) (List.getElem_mem _)
                rw [ec] at E1 E2
                obtain ⟨v, ev⟩ : ∃ v, rows[j][k]'(by omega) = v := ⟨_, rfl⟩
                rw [ev] at y0 y1 E1 E2 hvv
                rw [hrl] at r0
                have EH := hid (And.intro E1 E2)
                rcases v with ⟨vn, n⟩
                have HVV := hid hvv
                clear E1 E2 ec ev rr hrl hval hvv hS
                cases vn
                · have hb : -9999 ≤ n ∧ n ≤ 9999 := by
                    have h := HVV.out
                    simpa [V.valid] using h
                  obtain ⟨hb1, hb2⟩ := hb
                  have hkey : keyOf Try.prog 3 (.int .i64 n) = some (.int .i64 n) := keyOf_int_mk Try.underlying3 (WalkArith.wf_i64 (by omega))
                  have OWN := hid hI.out.2.1
                  have KYS := hid hI.out.2.2
                  clear hI HVV p0 p1 p2
                  go_wp2_with (first
                    | (at_lookup; refine wpList_lookup_own_int _ rfl _ _ 60 rfl 3 3 .i64 keyInt Try.underlying60 Try.underlying3 (zeroInt _) B j _ rfl OWN.out _ _ rfl hkey ?_; intro c hat hwc)
                    | (at_mapUpdate; refine wpList_mapUpdate_own _ rfl _ _ _ 60 rfl 3 3 keyInt Try.underlying60 _ B j _ rfl OWN.out (by unfold maxLen; omega) _ _ _ rfl rfl hkey _ [] (plainElem_int Try.underlying3 (wrap64_wf _)) ?_; intro w8 hown8 hgrow8)
                    | fail)
                  have NX := hid (show ImS w T R x0 x2 x1 W c0 (some ⟨b, o, none⟩) rows (dsA W rows k) (nsA W rows k (j + 1)) w8 ∧ w8.ownsMap Try.prog 3 (plainElem Try.prog 3) B (j + 1) (DD.put (.int .i64 n) (.lit (.int .i64 (wrap64 (c + 1))))) ∧ KeysOf (DD.put (.int .i64 n) (.lit (.int .i64 (wrap64 (c + 1))))) (seenL k (rows.take (j + 1))) from by
                    obtain ⟨a1, a2⟩ := EH.out
                    obtain ⟨⟨l1, l2, l3, l4, l5⟩, l6⟩ := LT.out
                    refine ⟨?_, hown8, ?_⟩
                    · rw [nsA_same (by rw [a2]; simp)]
                      exact HSI.out.grown hgrow8 l6 l1 l2 l3 l4 l5
                    · rw [a1]
                      exact KYS.out.put (v := ⟨false, n⟩) seenL_nodup rfl (.lit (.int .i64 (wrap64 (c + 1)))))
                  clear hown8 hgrow8 EH HSI OWN KYS
                  go_wp2
                  go_roundw
                  case rel => exact ⟨j + 1, _, by omega, by go_num, NX⟩
                  case measure => simp [intOf]; omega
                · obtain ⟨N0, eN0⟩ : ∃ x, nulC k (rows.take j) = x := ⟨_, rfl⟩
                  have hN0 : N0 ≤ 400 := by
                    rw [← eN0]
                    exact Nat.le_trans nulC_le (by rw [List.length_take]; omega)
                  have z0 : Wq.cell? ⟨x1, k, none⟩ = some (.int .i64 (N0 : Int)) := by
                    rw [blk_list HSI.out.bN (by rw [nsA_len]; exact hlt), nsA_at hlt, eN0]
                  have z1 := HSI.out.bN.frozen k
                  have NX := hid (show ImS w T R x0 x2 x1 W c0 (some ⟨b, o, none⟩) rows (dsA W rows k) (nsA W rows k (j + 1)) (Wq.setCell ⟨x1, k, none⟩ (.int .i64 ((N0 : Int) + 1))) ∧ (Wq.setCell ⟨x1, k, none⟩ (.int .i64 ((N0 : Int) + 1))).ownsMap Try.prog 3 (plainElem Try.prog 3) B (j + 1) DD ∧ KeysOf DD (seenL k (rows.take (j + 1))) from by
                    obtain ⟨a1, a2⟩ := EH.out
                    obtain ⟨⟨l1, l2, l3, l4, l5⟩, l6⟩ := LT.out
                    refine ⟨?_, (hI.out.2.1.setCell (a := ⟨x1, k, none⟩) (Ne.symm l5) _).mono (Nat.le_succ _), ?_⟩
                    · have e3 : ((N0 : Int) + 1) = (nulC k (rows.take (j + 1)) : Int) := by rw [a2, eN0]; simp
                      rw [e3, ← nsA_set (i := j)]
                      exact HSI.out.setN OR.out k _
                    · rw [a1]
                      have : sn (seenL k (rows.take j)) ⟨true, n⟩ = seenL k (rows.take j) := by unfold sn; simp
                      rw [this]
                      exact hI.out.2.2)
                  clear eN0 EH HSI hI HVV
                  go_wp2
                  go_roundw
                  case rel => exact ⟨j + 1, _, by omega, by go_num, NX⟩
                  case measure => simp [intOf]; omega
              · obtain rfl : j = rows.length := by omega
                have ej : decide ((rows.length : Int) < (rows.length : Int)) = false := by simp
                have hsz := hI.out.2.2.size
                rw [List.take_length] at hsz
                have HSZ := hid hsz
                have OWN := hid hI.out.2.1
                have d0 := blk_list HSI.out.bD (i := k) (by rw [dsA_len]; exact hlt)
                have d1 := HSI.out.bD.frozen k
                obtain ⟨d, ed⟩ : ∃ d, (dsA W rows k)[k]'(by rw [dsA_len]; exact hlt) = d := ⟨_, rfl⟩
                rw [ed] at d0
                obtain ⟨L, eL⟩ : ∃ L, (seenL k rows).length = L := ⟨_, rfl⟩
                rw [eL] at HSZ
                have NX := hid (show ImS w T R x0 x2 x1 W c0 A0 rows (dsA W rows (k + 1)) (nsA W rows (k + 1) 0) (Wq.setCell ⟨x2, k, none⟩ (.int .i64 (L : Int))) from by
                  rw [← dsA_set, ← nsA_next, eL]
                  exact HSI.out.setD OR.out k _)
                clear hS hsz ed eL hI HSI
                go_wp2_with (first
                  | (at_len; refine wpList_len_own _ rfl _ 60 rfl 3 3 Try.underlying60 _ B rows.length DD rfl OWN.out ?_; rw [HSZ.out])
                  | fail)
                go_roundw
                case rel => exact ⟨k + 1, by omega, by go_num, NX⟩
                case measure => simp [intOf]; omega
          · obtain rfl : k = W := by omega
            have el : decide ((k : Int) < (k : Int)) = false := by simp
            have hS := hO.out
            obtain ⟨p0, p1, p2, _⟩ := hS.bO.three
            obtain ⟨r0, r1, r2, s0, s1, s2⟩ := hS.bR.three
            have BF := hid (((hS.bR.set_ 0 (.int .i64 (rows.length : Int))).set_ 1 (.slice (some ⟨x2, 0, none⟩) k k)).set_ 2 (.slice (some ⟨x1, 0, none⟩) k k))
            have FIN := hid (show StPost w.heap.size ⟨rows.length, dstL k rows, nulL k rows⟩ (.returned (.agg #[.int .i64 (rows.length : Int), .slice (some ⟨x2, 0, none⟩) k k, .slice (some ⟨x1, 0, none⟩) k k])) (((W2.setCell ⟨R, 0, none⟩ (.int .i64 (rows.length : Int))).setCell ⟨R, 1, none⟩ (.slice (some ⟨x2, 0, none⟩) k k)).setCell ⟨R, 2, none⟩ (.slice (some ⟨x1, 0, none⟩) k k)) ∧ Fr w (((W2.setCell ⟨R, 0, none⟩ (.int .i64 (rows.length : Int))).setCell ⟨R, 1, none⟩ (.slice (some ⟨x2, 0, none⟩) k k)).setCell ⟨R, 2, none⟩ (.slice (some ⟨x1, 0, none⟩) k k)) from by
              have hr := OR.out
              have nD := Ne.symm hr.h1.2.1
              have nN := Ne.symm hr.h2.2.1
              have BD := ((hS.bD.far (p := ⟨R, 0, none⟩) nD (.int .i64 (rows.length : Int))).far (p := ⟨R, 1, none⟩) nD (.slice (some ⟨x2, 0, none⟩) k k)).far (p := ⟨R, 2, none⟩) nD (.slice (some ⟨x1, 0, none⟩) k k)
              have BN := ((hS.bN.far (p := ⟨R, 0, none⟩) nN (.int .i64 (rows.length : Int))).far (p := ⟨R, 1, none⟩) nN (.slice (some ⟨x2, 0, none⟩) k k)).far (p := ⟨R, 2, none⟩) nN (.slice (some ⟨x1, 0, none⟩) k k)
              rw [dsA_all] at BD
              rw [nsA_all] at BN
              exact ⟨stPost_mk BD BN hr.hD hr.hN (Ne.symm hr.h1.2.2.2) (dstL_len k rows) (nulL_len k rows), ((hS.fr.setNew (p := ⟨R, 0, none⟩) hr.hR _).setNew (p := ⟨R, 1, none⟩) hr.hR _).setNew (p := ⟨R, 2, none⟩) hr.hR _⟩)
            clear hS
            go_wp2
            rw [E.out]
            generalize (((W2.setCell ⟨R, 0, none⟩ (.int .i64 (rows.length : Int))).setCell ⟨R, 1, none⟩ (.slice (some ⟨x2, 0, none⟩) k k)).setCell ⟨R, 2, none⟩ (.slice (some ⟨x1, 0, none⟩) k k)) = w9 at BF FIN ⊢
            obtain ⟨u0, u1, u2, _⟩ := BF.out.three
            exact bodyPost_ret (v := .agg #[.int .i64 (rows.length : Int), .slice (some ⟨x2, 0, none⟩) k k, .slice (some ⟨x1, 0, none⟩) k k]) (by simp [results, Try.results8, go_sem, u0, u1, u2]) rfl FIN.out
end Go.Proofs.Ytlmiadeaiiehaaa
