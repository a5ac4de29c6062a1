/- Plain laws of the answers of a query. -/
import Derived.Test.YtahclhldpcboeaaGreatDoorAnsP
import Derived.Test.YtahclhldpcboeaaGreatDoorSrtP
namespace Go.Proofs.YtahclhldpcboeaaGreatDoor

/-! How many assignments there are. -/
theorem nodup_le {X : Type} [DecidableEq X] : ∀ {l m : List X}, l.Nodup → (∀ x ∈ l, x ∈ m) → l.length ≤ m.length
  | [], _, _, _ => by simp
  | x :: r, m, hn, hs => by
    obtain ⟨h1, h2⟩ := List.nodup_cons.1 hn
    have hx : x ∈ m := hs x (by simp)
    have := nodup_le (l := r) (m := m.erase x) h2 fun y hy => by
      have hne : y ≠ x := fun e => h1 (e ▸ hy)
      rw [List.mem_erase_of_ne hne]
      exact hs y (by simp [hy])
    rw [List.length_erase_of_mem hx] at this
    have hp : 0 < m.length := List.length_pos_of_mem hx
    simp only [List.length_cons]
    omega
def allL (vs : List Int) : Nat → List (List Int)
  | 0 => [[]]
  | n + 1 => vs.flatMap fun v => (allL vs n).map (v :: ·)
theorem mem_allL {vs : List Int} : ∀ {n : Nat} {m : List Int}, m.length = n → (∀ x ∈ m, x ∈ vs) → m ∈ allL vs n
  | 0, [], _, _ => by simp [allL]
  | n + 1, x :: r, h, hv => by
    unfold allL
    refine List.mem_flatMap.2 ⟨x, hv x (by simp), List.mem_map.2 ⟨r, mem_allL (by simpa using h) (fun y hy => hv y (by simp [hy])), rfl⟩⟩
theorem flat_len {X Y : Type} {f : X → List Y} {k : Nat} : ∀ {xs : List X}, (∀ x ∈ xs, (f x).length = k) → (xs.flatMap f).length = xs.length * k
  | [], _ => by simp
  | x :: r, h => by
    rw [List.flatMap_cons, List.length_append, h x (by simp), flat_len (xs := r) fun y hy => h y (by simp [hy]), List.length_cons, Nat.succ_mul, Nat.add_comm]
theorem allL_len (vs : List Int) : ∀ n : Nat, (allL vs n).length = vs.length ^ n
  | 0 => rfl
  | n + 1 => by
    unfold allL
    rw [flat_len (k := vs.length ^ n) fun v _ => by rw [List.length_map, allL_len vs n], Nat.pow_succ, Nat.mul_comm]
theorem pair_flat {X Y : Type} {f : X → List Y} : ∀ {xs : List X}, (∀ x ∈ xs, (f x).Nodup) → xs.Nodup → (∀ x ∈ xs, ∀ y ∈ xs, ∀ z, z ∈ f x → z ∈ f y → x = y) → (xs.flatMap f).Nodup
  | [], _, _, _ => by simp
  | x :: r, h1, h2, h3 => by
    obtain ⟨k1, k2⟩ := List.nodup_cons.1 h2
    rw [List.flatMap_cons]
    refine List.nodup_append.2 ⟨h1 x (by simp), pair_flat (fun y hy => h1 y (by simp [hy])) k2 (fun y hy z hz => h3 y (by simp [hy]) z (by simp [hz])), ?_⟩
    intro a ha b hb e
    subst e
    obtain ⟨y, hy, hz⟩ := List.mem_flatMap.1 hb
    have := h3 x (by simp) y (by simp [hy]) a ha hz
    subst this
    exact k1 hy
/-- Each assignment is found once. -/
theorem mts_nodup {fs : List Fact} (hn : fs.Nodup) (hf : ∀ f ∈ fs, 0 ≤ f.x ∧ 0 ≤ f.y) : ∀ {bd : List Atom} {m : List Int}, (∀ a ∈ bd, a.x.toNat < m.length ∧ a.y.toNat < m.length) → (mts bd fs m).Nodup
  | [], m, _ => by simp [mts]
  | a :: r, m, hx => by
    have ha := hx a (by simp)
    rw [mts_cons]
    refine pair_flat (fun f _ => ?_) hn (fun f hfm g hgm z hz hz' => ?_)
    · cases e : fit m a f with
      | none => rw [step_none e]; simp
      | some m' => rw [step_some e]; exact mts_nodup hn hf fun b hb => by rw [fit_len e]; exact hx b (by simp [hb])
    · have key : ∀ f ∈ fs, z ∈ step r fs m a f → (a.by z).fact = f := fun f hfm hz => by
        obtain ⟨m1, e, hz⟩ := mem_step hz
        have h0 := hf f hfm
        obtain ⟨_, e2⟩ := fit_ext e ha.1 ha.2 h0.1 h0.2
        have hl := fit_len e
        obtain ⟨e3, _⟩ := mts_ext hz (fun b hb => by rw [hl]; exact hx b (by simp [hb])) hf
        have v1 : var m1 a.x = f.x := by rw [← e2]; rfl
        have v2 : var m1 a.y = f.y := by rw [← e2]; rfl
        rw [← e2]
        unfold Atom.by Atom.fact
        rw [e3.var (by rw [hl]; exact ha.1) (by rw [v1]; exact h0.1), e3.var (by rw [hl]; exact ha.2) (by rw [v2]; exact h0.2)]
      rw [← key f hfm hz, key g hgm hz']
theorem mts_count {fs : List Fact} {bd : List Atom} {n : Nat} (hn : fs.Nodup) (hf : ∀ f ∈ fs, (0 ≤ f.x ∧ f.x < 4) ∧ 0 ≤ f.y ∧ f.y < 4) (hx : ∀ a ∈ bd, a.x.toNat < n ∧ a.y.toNat < n) (h4 : n ≤ 4) : (mts bd fs (List.replicate n (-1))).length ≤ 2000 := by
  have h1 : (mts bd fs (List.replicate n (-1))).Nodup := mts_nodup hn (fun f h => ⟨(hf f h).1.1, (hf f h).2.1⟩) (fun a ha => by simpa using hx a ha)
  have h2 := nodup_le (m := allL [-1, 0, 1, 2, 3] n) h1 fun m hm => by
    have hl := mts_len hm
    rw [List.length_replicate] at hl
    have hr := mts_rng (B := 4) hm (rng_new (by omega) n) hf
    refine mem_allL hl fun x hx => ?_
    have := hr x hx
    simp only [List.mem_cons, List.not_mem_nil, or_false]
    omega
  refine Nat.le_trans h2 ?_
  rw [allL_len]
  have : n = 0 ∨ n = 1 ∨ n = 2 ∨ n = 3 ∨ n = 4 := by omega
  rcases this with rfl | rfl | rfl | rfl | rfl <;> decide
/-! What is an answer. -/
theorem mem_mts {bd : List Atom} {fs : List Fact} {n : Nat} {hd : List Int} (hx : ∀ a ∈ bd, a.x.toNat < n ∧ a.y.toNat < n) (hf : ∀ f ∈ fs, 0 ≤ f.x ∧ 0 ≤ f.y) (hh : ∀ v ∈ hd, ∃ a ∈ bd, a.x = v ∨ a.y = v) (x : List Int) :
    x ∈ (mts bd fs (List.replicate n (-1))).map (hdV hd) ↔ ∃ M : List Int, M.length = n ∧ (∀ a ∈ bd, (a.by M).fact ∈ fs) ∧ hdV hd M = x := by
  have hx' : ∀ a ∈ bd, a.x.toNat < (List.replicate n (-1 : Int)).length ∧ a.y.toNat < (List.replicate n (-1 : Int)).length := fun a ha => by simpa using hx a ha
  constructor
  · intro h
    obtain ⟨m', h1, rfl⟩ := List.mem_map.1 h
    have hl := mts_len h1
    rw [List.length_replicate] at hl
    obtain ⟨_, h3⟩ := mts_ext h1 hx' hf
    exact ⟨m', hl, fun a ha => (h3 a ha).1, rfl⟩
  · rintro ⟨M, hM, h1, rfl⟩
    subst hM
    obtain ⟨m', h2, h3⟩ := mts_le (le_new M) fun a ha => ⟨(hx a ha).1, (hx a ha).2, h1 a ha⟩
    obtain ⟨_, h5⟩ := mts_ext h2 hx' hf
    refine List.mem_map.2 ⟨m', h2, List.map_congr_left fun v hv => ?_⟩
    obtain ⟨a, ha, hav⟩ := hh v hv
    obtain ⟨_, q2, q3⟩ := h5 a ha
    have q : 0 ≤ var m' v ∧ v.toNat < M.length := by
      rcases hav with rfl | rfl
      · exact ⟨q2, (hx a ha).1⟩
      · exact ⟨q3, (hx a ha).2⟩
    rcases h3.2 v.toNat q.2 with k | k
    · have : var m' v = m'.getD v.toNat 0 := rfl
      omega
    · exact k
theorem vfacts_parts {fs : List Fact} (h : vfacts fs = true) : fs.length ≤ 60 ∧ (∀ f ∈ fs, 0 ≤ f.rel ∧ f.rel ≤ 3 ∧ 0 ≤ f.x ∧ f.x ≤ 9999 ∧ 0 ≤ f.y ∧ f.y ≤ 9999) ∧ Asc fs := by
  unfold vfacts at h
  rw [Bool.and_eq_true] at h
  obtain ⟨h1, h2⟩ := h
  have h3 := fun i (hi : i < fs.length) => allIx_at h2 hi
  refine ⟨by simpa using h1, fun f hf => ?_, ?_⟩
  · obtain ⟨i, hi, rfl⟩ := List.getElem_of_mem hf
    have := h3 i hi
    unfold factAt at this
    rw [Bool.and_eq_true, getD_at hi] at this
    have k := this.1
    simp only [Fact.ok, Bool.and_eq_true, decide_eq_true_eq] at k
    omega
  · have nb : ∀ i, 0 < i → i < fs.length → (fat fs (i - 1)).less (fat fs i) = true := fun i h0 hi => by
      have := h3 i hi
      unfold factAt at this
      rw [Bool.and_eq_true, Bool.or_eq_true] at this
      rcases this.2 with k | k
      · rw [beq_iff_eq] at k; omega
      · exact k
    have up : ∀ d i, i + d + 1 < fs.length → (fat fs i).less (fat fs (i + d + 1)) = true := fun d => by
      induction d with
      | zero => intro i hi; exact nb (i + 1) (by omega) (by omega)
      | succ d ih => intro i hi; exact fl_trans (ih i (by omega)) (nb (i + (d + 1) + 1) (by omega) hi)
    unfold Asc
    rw [List.pairwise_iff_getElem]
    intro i j hi hj hij
    have := up (j - i - 1) i (by omega)
    rw [show i + (j - i - 1) + 1 = j by omega, fat_at hi, fat_at hj] at this
    exact this
theorem asc_nodup {fs : List Fact} (h : Asc fs) : fs.Nodup := by
  refine List.Pairwise.imp (fun {a b} hab e => ?_) h
  subst e
  rw [fl_irr] at hab; cases hab
theorem vrule_used {q : Int} {hd : List Int} {bd : List Atom} (h : vrule q hd bd = true) : ∀ v ∈ hd, ∃ a ∈ bd, a.x = v ∨ a.y = v := by
  unfold vrule at h
  simp only [Bool.and_eq_true, decide_eq_true_eq, List.all_eq_true, List.any_eq_true] at h
  intro v hv
  obtain ⟨a, ha, hav⟩ := h.2 v hv
  simp only [Atom.has, Bool.or_eq_true, beq_iff_eq] at hav
  exact ⟨a, ha, hav⟩
theorem vrule_nat {q : Int} {hd : List Int} {bd : List Atom} (h : vrule q hd bd = true) : ∀ a ∈ bd, a.x.toNat < q.toNat ∧ a.y.toNat < q.toNat := fun a ha => by
  have := (vrule_parts h).2.2.2.2.2.1 a ha
  omega
/-- What is drawn: few variables, small numbers. -/
def Small (q : Int) (fs : List Fact) : Prop := q ≤ 4 ∧ ∀ f ∈ fs, f.x < 4 ∧ f.y < 4
theorem ans_mem {q : Int} {hd : List Int} {bd : List Atom} {fs : List Fact} (hv : vrule q hd bd = true) (hn : fs.Nodup) (hf : ∀ f ∈ fs, 0 ≤ f.x ∧ 0 ≤ f.y) (hs : Small q fs) (x : List Int) :
    x ∈ ans q hd bd fs ↔ ∃ M : List Int, M.length = q.toNat ∧ (∀ a ∈ bd, (a.by M).fact ∈ fs) ∧ hdV hd M = x := by
  have hc := mts_count (bd := bd) hn (fun f h => ⟨⟨(hf f h).1, (hs.2 f h).1⟩, (hf f h).2, (hs.2 f h).2⟩) (vrule_nat hv) (show q.toNat ≤ 4 by have := hs.1; omega)
  unfold ans
  rw [mem_srtX, List.take_of_length_le hc]
  exact mem_mts (vrule_nat hv) hf (vrule_used hv) x
/-- More facts have more answers. -/
theorem ans_mono {q : Int} {hd : List Int} {bd : List Atom} {fs gs : List Fact} (hv : vrule q hd bd = true) (hn : fs.Nodup) (hf : ∀ f ∈ fs, 0 ≤ f.x ∧ 0 ≤ f.y) (hs : Small q fs) (hg : gs.Sublist fs) : ∀ x ∈ ans q hd bd gs, x ∈ ans q hd bd fs := fun x hx => by
  have hm : ∀ g ∈ gs, g ∈ fs := fun g hgm => hg.subset hgm
  rw [ans_mem hv (List.Nodup.sublist hg hn) (fun f h => hf f (hm f h)) ⟨hs.1, fun f h => hs.2 f (hm f h)⟩] at hx
  rw [ans_mem hv hn hf hs]
  obtain ⟨M, h1, h2, h3⟩ := hx
  exact ⟨M, h1, fun a ha => hm _ (h2 a ha), h3⟩
/-- Fewer atoms have more answers. -/
theorem ans_atoms {q : Int} {hd : List Int} {bd cd : List Atom} {fs : List Fact} (hv : vrule q hd bd = true) (hc : vrule q hd cd = true) (hn : fs.Nodup) (hf : ∀ f ∈ fs, 0 ≤ f.x ∧ 0 ≤ f.y) (hs : Small q fs) (hg : ∀ a ∈ cd, a ∈ bd) : ∀ x ∈ ans q hd bd fs, x ∈ ans q hd cd fs := fun x hx => by
  rw [ans_mem hv hn hf hs] at hx
  rw [ans_mem hc hn hf hs]
  obtain ⟨M, h1, h2, h3⟩ := hx
  exact ⟨M, h1, fun a ha => h2 a (hg a ha), h3⟩
/-- The order of atoms does not matter. -/
theorem ans_order {q : Int} {hd : List Int} {bd cd : List Atom} {fs : List Fact} (hv : vrule q hd bd = true) (hc : vrule q hd cd = true) (hn : fs.Nodup) (hf : ∀ f ∈ fs, 0 ≤ f.x ∧ 0 ≤ f.y) (hs : Small q fs) (hg : ∀ a, a ∈ cd ↔ a ∈ bd) : ans q hd cd fs = ans q hd bd fs :=
  ascX_eq (asc_srtX _) (asc_srtX _) fun x => ⟨ans_atoms hc hv hn hf hs (fun a ha => (hg a).2 ha) x, ans_atoms hv hc hn hf hs (fun a ha => (hg a).1 ha) x⟩
/-! Frozen atoms. -/
theorem vfacts_of {fs : List Fact} (h1 : fs.length ≤ 60) (h2 : ∀ f ∈ fs, 0 ≤ f.rel ∧ f.rel ≤ 3 ∧ 0 ≤ f.x ∧ f.x ≤ 9999 ∧ 0 ≤ f.y ∧ f.y ≤ 9999) (h3 : Asc fs) : vfacts fs = true := by
  unfold vfacts
  rw [Bool.and_eq_true]
  refine ⟨by simpa using h1, allIx_yes fun i hi => ?_⟩
  unfold factAt
  rw [Bool.and_eq_true, getD_at hi]
  constructor
  · have := h2 _ (List.getElem_mem hi)
    simp only [Fact.ok, Bool.and_eq_true, decide_eq_true_eq]
    omega
  · by_cases e : i = 0
    · subst e; rfl
    · rw [Bool.or_eq_true]
      right
      rw [getD_at (by omega : i - 1 < fs.length)]
      unfold Asc at h3
      rw [List.pairwise_iff_getElem] at h3
      exact h3 (i - 1) i (by omega) hi (by omega)
theorem vfacts_frz {q : Int} {hd : List Int} {bd : List Atom} (h : vrule q hd bd = true) : vfacts (frz bd) = true := by
  obtain ⟨k1, k2, _, _, k5, k6, _⟩ := vrule_parts h
  have := frz_len bd
  refine vfacts_of (by omega) (fun f hf => ?_) (asc_frz bd)
  obtain ⟨a, ha, rfl⟩ := mem_frz.1 hf
  have := k6 a ha
  simp only [Atom.fact]
  omega
theorem frz_nn {q : Int} {hd : List Int} {bd : List Atom} (h : vrule q hd bd = true) : ∀ f ∈ frz bd, 0 ≤ f.x ∧ 0 ≤ f.y := fun f hf => by
  obtain ⟨a, ha, rfl⟩ := mem_frz.1 hf
  have := (vrule_parts h).2.2.2.2.2.1 a ha
  simp only [Atom.fact]
  omega
theorem frz_small {q q' : Int} {hd : List Int} {bd : List Atom} (h : vrule q hd bd = true) (h4 : q ≤ 4) (h5 : q' ≤ 4) : Small q' (frz bd) := by
  refine ⟨h5, fun f hf => ?_⟩
  obtain ⟨a, ha, rfl⟩ := mem_frz.1 hf
  have := (vrule_parts h).2.2.2.2.2.1 a ha
  simp only [Atom.fact]
  omega
/-- A query answers its own frozen atoms. -/
theorem ans_frozen {q : Int} {hd : List Int} {bd : List Atom} (h : vrule q hd bd = true) (h4 : q ≤ 4) : hd ∈ ans q hd bd (frz bd) := by
  rw [ans_mem h (asc_nodup (asc_frz bd)) (frz_nn h) (frz_small h h4 h4)]
  obtain ⟨_, _, _, _, _, k6, k7⟩ := vrule_parts h
  refine ⟨idM q, idM_len q, fun a ha => by_frz.2 ?_, map_idM fun v hv => k7 v hv⟩
  have := k6 a ha
  rw [by_idM ⟨by omega, by omega, by omega, by omega⟩]
  exact ha
/-- What answers the frozen atoms of another query tells a homomorphism. -/
theorem ans_frz_hom {qa qb : Int} {ha hb x : List Int} {ba bb : List Atom} (hva : vrule qa ha ba = true) (hvb : vrule qb hb bb = true) (h4 : qa ≤ 4) (h5 : qb ≤ 4) (hx : x ∈ ans qb hb bb (frz ba)) : ∃ M : List Int, M.length = qb.toNat ∧ hb.map (var M) = x ∧ ∀ a ∈ bb, a.by M ∈ ba := by
  rw [ans_mem hvb (asc_nodup (asc_frz ba)) (frz_nn hva) (frz_small hva h4 h5)] at hx
  obtain ⟨M, h1, h2, h3⟩ := hx
  exact ⟨M, h1, h3, fun a ha => by_frz.1 (h2 a ha)⟩
theorem var_comp {m M : List Int} {v : Int} (hv : v.toNat < m.length) : var (m.map (var M)) v = var M (var m v) := by
  show (m.map (var M)).getD v.toNat 0 = _
  rw [getD_at (by simpa using hv), List.getElem_map]
  congr 1
  show m[v.toNat] = m.getD v.toNat 0
  rw [getD_at hv]
/-- Where there is a homomorphism there are more answers. -/
theorem ans_hom {qa qb : Int} {ha hb m : List Int} {ba bb : List Atom} {fs : List Fact} (hc : chkHom qb hb bb qa ha ba m = true) (hn : fs.Nodup) (hf : ∀ f ∈ fs, 0 ≤ f.x ∧ 0 ≤ f.y) (hsa : Small qa fs) (hsb : Small qb fs) : ∀ x ∈ ans qa ha ba fs, x ∈ ans qb hb bb fs := fun x hx => by
  unfold chkHom isHom at hc
  simp only [Bool.and_eq_true, decide_eq_true_eq, List.all_eq_true] at hc
  obtain ⟨⟨⟨hvb, hva⟩, hl⟩, _, h4, h5⟩ := hc
  rw [ans_mem hva hn hf hsa] at hx
  rw [ans_mem hvb hn hf hsb]
  obtain ⟨M, h1, h2, rfl⟩ := hx
  have hnat := vrule_nat hvb
  refine ⟨m.map (var M), by rw [List.length_map]; omega, fun a ha => ?_, ?_⟩
  · have k := hnat a ha
    have e : a.by (m.map (var M)) = (a.by m).by M := by
      unfold Atom.by
      rw [var_comp (by omega), var_comp (by omega)]
    rw [e]
    exact h2 _ (inA_iff.1 (h4 a ha))
  · unfold hdV
    rw [← h5, List.map_map]
    refine List.map_congr_left fun v hv => ?_
    have := (vrule_parts hvb).2.2.2.2.2.2 v hv
    exact var_comp (by omega)
/-- Two queries with homomorphisms both ways have the same answers. -/
theorem ans_same {qa qb : Int} {ha hb m m' : List Int} {ba bb : List Atom} {fs : List Fact} (hc : chkHom qb hb bb qa ha ba m = true) (hc' : chkHom qa ha ba qb hb bb m' = true) (hn : fs.Nodup) (hf : ∀ f ∈ fs, 0 ≤ f.x ∧ 0 ≤ f.y) (hsa : Small qa fs) (hsb : Small qb fs) : ans qa ha ba fs = ans qb hb bb fs :=
  ascX_eq (asc_srtX _) (asc_srtX _) fun x => ⟨ans_hom hc hn hf hsa hsb x, ans_hom hc' hn hf hsb hsa x⟩
end Go.Proofs.YtahclhldpcboeaaGreatDoor
