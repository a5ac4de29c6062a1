/- Walk of slices.SortFunc at lists of ints: by the library's contract. -/
import Derived.Test.YtahclhldpcboeaaGreatDoorMatI
import Derived.Test.YtahclhldpcboeaaGreatDoorMemQ
import Derived.Shelf.SlSortCmp.Whole1
import Derived.Shelf.SlGeneric
namespace Go.Proofs.YtahclhldpcboeaaGreatDoor
open Go Go.RowKit Go.Sort Go.Lib

set_option maxRecDepth 100000
def sortL_ren : Go.Shelf.Ren := ⟨fun | 6 => 31 | 15 => 64 | 14 => 63 | 28 => 89 | 29 => 90 | 20 => 81 | 21 => 82 | 22 => 83 | 23 => 84 | 24 => 85 | 25 => 86 | 26 => 87 | 27 => 88 | 46 => 97 | 47 => 98 | 48 => 99 | 49 => 100 | 50 => 101 | 57 => 110 | n => n, fun | 22 => 32 | 24 => 23 | 25 => 59 | 3 => 3 | 39 => 94 | 0 => 0 | 53 => 118 | 55 => 120 | 4 => 4 | 46 => 111 | 45 => 110 | 50 => 115 | 5 => 5 | 9 => 9 | 66 => 130 | 70 => 134 | 76 => 152 | 77 => 153 | n => n, fun | n => n⟩
theorem sortL : Go.Proofs.SlLaysF.n6 Tryz.prog sortL_ren := {
  mixed := by kernel_rfl
  f6 := ⟨Tryz.f31.name, by decide, Tryz.func31.trans (congrArg some (by kernel_rfl))⟩
  f14 := ⟨Tryz.f63.name, by decide, Tryz.func63.trans (congrArg some (by kernel_rfl))⟩
  f15 := Tryz.func64.trans (congrArg some (by kernel_rfl))
  f20 := ⟨Tryz.f81.name, by decide, Tryz.func81.trans (congrArg some (by kernel_rfl))⟩
  f21 := ⟨Tryz.f82.name, by decide, Tryz.func82.trans (congrArg some (by kernel_rfl))⟩
  f22 := ⟨Tryz.f83.name, by decide, Tryz.func83.trans (congrArg some (by kernel_rfl))⟩
  f23 := ⟨Tryz.f84.name, by decide, Tryz.func84.trans (congrArg some (by kernel_rfl))⟩
  f24 := ⟨Tryz.f85.name, by decide, Tryz.func85.trans (congrArg some (by kernel_rfl))⟩
  f25 := ⟨Tryz.f86.name, by decide, Tryz.func86.trans (congrArg some (by kernel_rfl))⟩
  f26 := ⟨Tryz.f87.name, by decide, Tryz.func87.trans (congrArg some (by kernel_rfl))⟩
  f27 := ⟨Tryz.f88.name, by decide, Tryz.func88.trans (congrArg some (by kernel_rfl))⟩
  f28 := Tryz.func89.trans (congrArg some (by kernel_rfl))
  f29 := Tryz.func90.trans (congrArg some (by kernel_rfl))
  f46 := ⟨Tryz.f97.name, by decide, Tryz.func97.trans (congrArg some (by kernel_rfl))⟩
  f47 := Tryz.func98.trans (congrArg some (by kernel_rfl))
  f48 := Tryz.func99.trans (congrArg some (by kernel_rfl))
  f49 := ⟨Tryz.f100.name, by decide, Tryz.func100.trans (congrArg some (by kernel_rfl))⟩
  f50 := ⟨Tryz.f101.name, by decide, Tryz.func101.trans (congrArg some (by kernel_rfl))⟩
  f57 := ⟨Tryz.f110.name, by decide, Tryz.func110.trans (congrArg some (by kernel_rfl))⟩
  t0 := Tryz.underlying0
  a0 := Tryz.isAgg0
  z0 := Tryz.sizeOf0
  v0 := Tryz.zeroValue0
  t3 := Tryz.underlying3
  a3 := Tryz.isAgg3
  z3 := Tryz.sizeOf3
  v3 := Tryz.zeroValue3
  t4 := Tryz.underlying4
  a4 := Tryz.isAgg4
  z4 := Tryz.sizeOf4
  v4 := Tryz.zeroValue4
  t5 := Tryz.underlying5
  a5 := Tryz.isAgg5
  z5 := Tryz.sizeOf5
  v5 := Tryz.zeroValue5
  t9 := Tryz.underlying9
  a9 := Tryz.isAgg9
  z9 := Tryz.sizeOf9
  v9 := Tryz.zeroValue9
  t22 := Tryz.underlying32
  a22 := Tryz.isAgg32
  z22 := Tryz.sizeOf32
  v22 := Tryz.zeroValue32
  a24 := Tryz.isAgg23
  z24 := Tryz.sizeOf23
  t25 := Tryz.underlying59
  a25 := Tryz.isAgg59
  z25 := Tryz.sizeOf59
  v25 := Tryz.zeroValue59
  t39 := Tryz.underlying94
  a39 := Tryz.isAgg94
  z39 := Tryz.sizeOf94
  v39 := Tryz.zeroValue94
  t45 := Tryz.underlying110
  a45 := Tryz.isAgg110
  z45 := Tryz.sizeOf110
  v45 := Tryz.zeroValue110
  t46 := Tryz.underlying111
  a46 := Tryz.isAgg111
  z46 := Tryz.sizeOf111
  v46 := Tryz.zeroValue111
  t50 := Tryz.underlying115
  a50 := Tryz.isAgg115
  z50 := Tryz.sizeOf115
  v50 := Tryz.zeroValue115
  t53 := Tryz.underlying118
  a53 := Tryz.isAgg118
  z53 := Tryz.sizeOf118
  v53 := Tryz.zeroValue118
  t55 := Tryz.underlying120
  a55 := Tryz.isAgg120
  z55 := Tryz.sizeOf120
  v55 := Tryz.zeroValue120
  t66 := Tryz.underlying130
  a66 := Tryz.isAgg130
  z66 := Tryz.sizeOf130
  v66 := Tryz.zeroValue130
  t70 := Tryz.underlying134
  a70 := Tryz.isAgg134
  z70 := Tryz.sizeOf134
  v70 := Tryz.zeroValue134
  t76 := Tryz.underlying152
  a76 := Tryz.isAgg152
  z76 := Tryz.sizeOf152
  v76 := Tryz.zeroValue152
  t77 := Tryz.underlying153
  a77 := Tryz.isAgg153
  z77 := Tryz.sizeOf153
  v77 := Tryz.zeroValue153 }

/-- Rows that a sort of block g finds in memory. -/
def SEl (w : World) (g : Nat) := {r : Nat × List Int // Blk w r.1 3 (r.2.map iv).toArray ∧ r.1 ≠ g ∧ r.2.length ≤ 1000}
theorem sw_heap {α : Type} [Inhabited α] (enc : α → Value) (w : World) (g m : Nat) (dk : Array α) (os : Array Obj) {k : Nat} (hk : k ≠ g) (hlt : k < w.heap.size) : (sortWorld enc w g 0 m dk os).heap[k]? = w.heap[k]? := by
  show ((w.heap.modify g (onCells (putCells enc 0 dk))) ++ os)[k]? = _
  rw [Array.getElem?_append_left (by simpa using hlt), Array.getElem?_modify, if_neg (Ne.symm hk)]
theorem sw_blk {α : Type} [Inhabited α] (enc : α → Value) (w : World) (g m : Nat) (dk : Array α) (os : Array Obj) {t : TypeId} {cs : Array Value} (hB : Blk w g t cs) : Blk (sortWorld enc w g 0 m dk os) g t (putCells enc 0 dk cs) := by
  have hlt := hB.lt
  show ((w.heap.modify g (onCells (putCells enc 0 dk))) ++ os)[g]? = _
  unfold Blk at hB
  rw [Array.getElem?_append_left (by simpa using hlt), Array.getElem?_modify, if_pos rfl, hB]
  rfl
theorem sw_ch {α : Type} [Inhabited α] (enc : α → Value) (w : World) (g m : Nat) (dk : Array α) (os : Array Obj) : Ch (· = g) w (sortWorld enc w g 0 m dk os) :=
  ⟨rfl, rfl, rfl, by show w.heap.size ≤ ((w.heap.modify g (onCells (putCells enc 0 dk))) ++ os).size; simp, fun k hk hne => sw_heap enc w g m dk os hne hk⟩
theorem swo_lx {α : Type} (f : α → List Int) : SWO (ltOf fun x y : α => lx (f x) (f y)) where
  irrefl x := by unfold ltOf; show decide (lx (f x) (f x) < 0) = false; rw [lx_self]; rfl
  trans x y z h1 h2 := by unfold ltOf at *; simp only [decide_eq_true_eq] at *; exact lx_trans h1 h2
  ntrans x y z h1 h2 := by unfold ltOf at *; simp only [decide_eq_false_iff_not] at *; exact lx_ge h2 h1
set_option maxHeartbeats 1000000 in
theorem sortA (g cap base : Nat) (R : List (Nat × List Int)) (cs : Array Value) (w : World) (hB : Blk w g 23 cs) (hF : ∀ i (h : i < R.length), cs[i]? = some (rowV R[i])) (hA : AR w base R) (hg : ∀ r ∈ R, r.1 ≠ g) (hl : R.length ≤ 2000) (hr : ∀ r ∈ R, r.2.length ≤ 1000) (h0 : R ≠ []) :
    Calls Tryz.prog 31 #[.slice (some ⟨g, 0, none⟩) R.length cap, .func (.func 32) #[] #[]] w fun e w' => e = .returned (.tuple #[]) ∧ ∃ (R' : List (Nat × List Int)) (cs' : Array Value), R'.Perm R ∧ SrtX (R'.map (·.2)) ∧ Blk w' g 23 cs' ∧ cs'.size = cs.size ∧ (∀ i (h : i < R'.length), cs'[i]? = some (rowV R'[i])) ∧ Ch (· = g) w w' := by
  have hin : ∀ r ∈ R, Blk w r.1 3 (r.2.map iv).toArray ∧ r.1 ≠ g ∧ r.2.length ≤ 1000 := fun r h => ⟨(hA.blk r h).2, hg r h, hr r h⟩
  obtain ⟨r0, hr0⟩ : ∃ r, r ∈ R := List.exists_mem_of_ne_nil R h0
  letI : Inhabited (SEl w g) := ⟨⟨r0, hin r0 hr0⟩⟩
  let D : List (SEl w g) := R.pmap (fun r h => (⟨r, h⟩ : SEl w g)) hin
  have hD : D.map (·.1) = R := by
    show (R.pmap (fun r h => (⟨r, h⟩ : SEl w g)) hin).map (·.1) = R
    rw [List.map_pmap]
    simp
  have hDl : D.length = R.length := by rw [← hD, List.length_map]
  have hDi : ∀ i (h : i < D.length), D[i].1 = R[i]'(by omega) := fun i h => by
    have : (D.map (·.1))[i]'(by rw [List.length_map]; exact h) = R[i]'(by omega) := by congr 1
    rw [List.getElem_map] at this
    exact this
  let enc : SEl w g → Value := fun x => rowV x.1
  have hgl := hB.lt
  have hcmp : CmpLays1 Tryz.prog 32 #[] enc (fun x y => lx x.1.2 y.1.2) g 0 D.toArray.size w := fun m os dk _ x y => by
    rw [Array.append_empty]
    have rd : ∀ z : SEl w g, RdSl rdInt (sortWorld enc w g 0 m dk os).cell? 1 (some ⟨z.1.1, 0, none⟩) z.1.2 := fun z _ => ⟨z.1.1, 0, rfl, fun i hi => by
      have hz : Blk (sortWorld enc w g 0 m dk os) z.1.1 3 (z.1.2.map iv).toArray := (sw_heap enc w g m dk os z.2.2.1 z.2.1.lt).trans z.2.1
      show (sortWorld enc w g 0 m dk os).cell? ⟨z.1.1, 0 + i * 1 + 0, none⟩ = _
      rw [hz.cell]
      simp [hi, iv]⟩
    refine (compareL (some ⟨x.1.1, 0, none⟩) (some ⟨y.1.1, 0, none⟩) x.1.2.length y.1.2.length x.1.2 y.1.2 (sortWorld enc w g 0 m dk os) (rd x) (rd y) x.2.2.2 y.2.2.2).mono ?_
    rintro e w' ⟨he, hw⟩
    exact ⟨he, 0, #[], by rw [hw, grow_empty]; rfl⟩
  have hH : Holds enc w g 0 D.toArray := fun j hj => by
    have hj' : j < D.length := by simpa using hj
    refine ⟨?_, hB.frozen _⟩
    rw [hB.cell, Nat.zero_add, hF j (by omega), getElem!_pos D.toArray j hj]
    show _ = some (rowV D[j].1)
    rw [hDi j hj']
  have hcon := Any.slices_SortFunc sortL enc (fun _ => rfl) (fun x y : SEl w g => lx x.1.2 y.1.2) (swo_lx fun x : SEl w g => x.1.2) 32 #[] g 0 cap D.toArray w (enters_of Tryz.func32 (by kernel_rfl) rfl) hcmp hH hgl (by simp; omega)
  change Calls Tryz.prog 31 _ _ _ at hcon
  have hsz : D.toArray.size = R.length := by simpa using hDl
  rw [hsz] at hcon
  refine hcon.mono ?_
  rintro e w' ⟨rfl, d', n, os, ⟨q1, _, q3⟩, hS, rfl⟩
  rw [hsz] at q1
  have hperm : d'.toList.Perm D := by
    rw [← q1, Array.extract_size, q1, ← hsz, Array.extract_size] at q3
    exact q3
  refine ⟨rfl, d'.toList.map (·.1), putCells enc 0 d' cs, ?_, ?_, sw_blk enc w g n d' os hB, ?_, ?_, sw_ch enc w g n d' os⟩
  · rw [← hD]; exact hperm.map _
  · intro p q hp hq hpq
    simp only [List.length_map, Array.length_toList] at hp hq
    have := hS p q (Nat.zero_le _) hpq (by omega)
    rw [getElem!_pos d' q hq, getElem!_pos d' p hp] at this
    unfold ltOf at this
    simpa using this
  · simp [putCells]
  · intro i hi
    simp only [List.length_map, Array.length_toList] at hi
    have hcs : i < cs.size := by
      rcases Nat.lt_or_ge i cs.size with h | h
      · exact h
      · have := hF i (by omega)
        rw [Array.getElem?_eq_none h] at this; cases this
    unfold putCells
    rw [Array.getElem?_mapIdx, Array.getElem?_eq_getElem hcs, Option.map_some, if_pos ⟨by omega, by omega⟩, Nat.sub_zero, getElem!_pos d' i hi]
    simp [enc]
/-! At no lists. -/
set_option maxRecDepth 100000 in
set_option maxHeartbeats 2000000 in
theorem bitsLen0 (w : World) : Calls Tryz.prog 64 #[.int .u64 0] w fun r w' => (∃ l : Int, r = .returned (.int .i64 l)) ∧ w = w' := by
  go_enter Tryz.func64, Tryz.ntmps64
  go_wp2_with fail
  go_enter Tryz.func90, Tryz.ntmps90
  go_wp2
  go_ret
  go_wp2
set_option maxRecDepth 100000 in
set_option maxHeartbeats 2000000 in
theorem insSort0 (A : Option Addr) (cap : Nat) (fv : Value) (w : World) : Calls Tryz.prog 81 #[.slice A 0 cap, .int .i64 0, .int .i64 0, fv] w fun r w' => r = .returned (.tuple #[]) ∧ w' = w := by
  go_enter Tryz.func81, Tryz.ntmps81
  go_wp2
  go_loopw [8] (fun t wr => t = .int .i64 1 ∧ wr = w) (fun _ _ => 0)
  case atStart => exact ⟨rfl, rfl⟩
  case round =>
    obtain ⟨rfl, rfl⟩ := hrel
    go_wp2
    go_end0
    exact ⟨rfl, rfl⟩
set_option maxRecDepth 100000 in
set_option maxHeartbeats 2000000 in
theorem pdqSort0 (A : Option Addr) (cap : Nat) (l : Int) (fv : Value) (w : World) : Calls Tryz.prog 63 #[.slice A 0 cap, .int .i64 0, .int .i64 0, .int .i64 l, fv] w fun r w' => r = .returned (.tuple #[]) ∧ w' = w := by
  go_enter Tryz.func63, Tryz.ntmps63
  go_wp2
  go_loopw [1, 2] (fun t u wr => t = .int .i64 0 ∧ u = .int .i64 0 ∧ wr = w) (fun _ _ _ => 0)
  case atStart => exact ⟨rfl, rfl, rfl⟩
  case round =>
    obtain ⟨rfl, rfl, rfl⟩ := hrel
    go_wp2_with fail
    refine (insSort0 A cap fv _).mono ?_
    rintro r w1 ⟨rfl, rfl⟩
    go_wp2
    refine bodyPost_ret (v := .tuple #[]) (by simp [results, Tryz.results63, go_sem]) rfl ?_
    exact ⟨rfl, rfl⟩
set_option maxRecDepth 100000 in
set_option maxHeartbeats 2000000 in
theorem sortA0 (A : Option Addr) (cap : Nat) (fv : Value) (w : World) : Calls Tryz.prog 31 #[.slice A 0 cap, fv] w fun r w' => r = .returned (.tuple #[]) ∧ w' = w := by
  go_enter Tryz.func31, Tryz.ntmps31
  go_wp2_with fail
  refine (bitsLen0 _).mono ?_
  rintro r w1 ⟨⟨l, rfl⟩, rfl⟩
  go_wp2_with fail
  refine (pdqSort0 A cap l fv _).mono ?_
  rintro r w1 ⟨rfl, rfl⟩
  go_wp2
  go_end0
  exact ⟨rfl, rfl⟩
/-! Walk of slices.CompactFunc at lists of ints. -/
end Go.Proofs.YtahclhldpcboeaaGreatDoor
namespace Go.Proofs.YtahclhldpcboeaaGreatDoor
open Go Go.RowKit

theorem run_clear1 {P : Program} (w : World) (t e : TypeId) (z : Value) (ht : P.underlying t = some (.slice e)) (hv : ∀ w, (zeroValue e).run P w = .ok z w) (hz : z.cells.size = 1) (h1 : ∀ v ∈ z.cells.toList, v.oneCell' = true) (b o n c : Nat) (hn : 0 < n) {t' : TypeId} {cs : Array Value} (hB : Blk w b t' cs) (hs : o + n ≤ cs.size) :
    ∃ w' cs', (∀ ty, (Builtin.clear_ #[t] ty #[.slice (some ⟨b, o, none⟩) n c]).run P w = .ok (.tuple #[]) w') ∧ Blk w' b t' cs' ∧ cs'.size = cs.size ∧ (∀ i, i < o → cs'[i]? = cs[i]?) ∧ Ch (· = b) w w' := by
  obtain ⟨cs', k1, k2, k3, k4⟩ := blk_setCells (Builtin.zeroCells z.cells n).toList o w cs hB
  have hl : (Builtin.zeroCells z.cells n).toList.length = n := by simp [Builtin.zeroCells, hz]
  refine ⟨_, cs', fun ty => ?_, k1, k2, k3, k4⟩
  have hst := run_storeCells_cells (P := P) b o (Builtin.zeroCells z.cells n).toList 0 w (fun j hj => by
      rw [hl] at hj
      rw [Nat.add_zero, hB.cell, Array.getElem?_eq_getElem (by omega)]; rfl) (fun j _ => hB.frozen _) (fun v hv' => by
      simp only [Builtin.zeroCells, Array.toList_map, List.mem_map, Array.toList_range, List.mem_range] at hv'
      obtain ⟨i, _, rfl⟩ := hv'
      refine h1 _ ?_
      have hlt : i % z.cells.size < z.cells.size := Nat.mod_lt _ (by omega)
      rw [getElem!_pos z.cells _ hlt]
      simp)
  simp only [Nat.add_zero] at hst
  obtain ⟨m, rfl⟩ : ∃ m, n = m + 1 := ⟨n - 1, by omega⟩
  simp [Builtin.clear_, run_underlying ht, hv, hst]
/-- Rows at the head of a block; rows from place m on. -/
def RAt (cs : Array Value) (R : List (Nat × List Int)) : Prop := ∀ i (h : i < R.length), cs[i]? = some (rowV R[i])
def RTl (cs : Array Value) (R : List (Nat × List Int)) (m : Nat) : Prop := ∀ i (h : i < R.length), m ≤ i → cs[i]? = some (rowV R[i])
def CStA (w0 : World) (g sz : Nat) (R : List (Nat × List Int)) (m : Nat) (w : World) (ds : List (Nat × List Int)) : Prop := (∃ cs, Blk w g 23 cs ∧ cs.size = sz ∧ RAt cs ds ∧ RTl cs R m) ∧ Ch (· = g) w0 w
section
variable {w0 w w' : World} {g sz m m' k : Nat} {R ds : List (Nat × List Int)} {a : Nat × List Int}
theorem CStA.fr (h : CStA w0 g sz R m w ds) (hf : Fr w w') : CStA w0 g sz R m w' ds := by
  obtain ⟨⟨cs, hB, hs, hF, hT⟩, hC⟩ := h
  exact ⟨⟨cs, hB.fr hf, hs, hF, hT⟩, hC.trans hf.ch⟩
theorem CStA.up (h : CStA w0 g sz R m w ds) (hm : m ≤ m') : CStA w0 g sz R m' w ds := by
  obtain ⟨⟨cs, hB, hs, hF, hT⟩, hC⟩ := h
  exact ⟨⟨cs, hB, hs, hF, fun i hi hm' => hT i hi (by omega)⟩, hC⟩
theorem CStA.put (h : CStA w0 g sz R m w ds) (hk : ds.length = k) (hm : k < m) (hs : k < sz) : CStA w0 g sz R m (w.setCell ⟨g, k, none⟩ (rowV a)) (ds ++ [a]) := by
  obtain ⟨⟨cs, hB, hz, hF, hT⟩, hC⟩ := h
  refine ⟨⟨_, hB.set_ k _, by simp [hz], fun i hi => ?_, fun i hi hmi => ?_⟩, hC.set (.inl rfl) _⟩
  · simp only [List.length_append, List.length_cons, List.length_nil] at hi
    rw [Array.getElem?_setIfInBounds]
    by_cases e : k = i
    · subst e
      rw [if_pos rfl, if_pos (by omega), List.getElem_append_right (by omega)]
      simp [hk]
    · rw [if_neg e, List.getElem_append_left (by omega)]
      exact hF i (by omega)
  · rw [Array.getElem?_setIfInBounds, if_neg (by omega)]
    exact hT i hi hmi
end
def CmpA (w0 : World) (g sz cap : Nat) (R : List (Nat × List Int)) (e : Ending) (w : World) : Prop := ∃ ds : List (Nat × List Int), e = .returned (.slice (some ⟨g, 0, none⟩) ds.length cap) ∧ ds.Sublist R ∧ AscX (ds.map (·.2)) ∧ (∀ x, x ∈ ds.map (·.2) ↔ x ∈ R.map (·.2)) ∧ (∃ cs, Blk w g 23 cs ∧ cs.size = sz ∧ RAt cs ds) ∧ Ch (· = g) w0 w
/-- What compaction has gathered: a part of the rows seen. -/
def CptR (R : List (Nat × List Int)) (m : Nat) (ds : List (Nat × List Int)) : Prop := ds.Sublist (R.take m) ∧ CptX (R.map (·.2)) m (ds.map (·.2))
theorem cptR_same {R ds : List (Nat × List Int)} {m : Nat} (h : CptR R m ds) (hm : 0 < m) (hl : m < R.length) (he : R[m].2 = (R[m - 1]'(by omega)).2) : CptR R (m + 1) ds := by
  refine ⟨h.1.trans (by rw [List.take_succ_eq_append_getElem hl]; exact List.sublist_append_left _ _), cptX_same h.2 hm (by simpa using hl) (by simpa using he)⟩
theorem cptR_new {R ds : List (Nat × List Int)} {m : Nat} (hs : SrtX (R.map (·.2))) (h : CptR R m ds) (hm : 0 < m) (hl : m < R.length) (he : R[m].2 ≠ (R[m - 1]'(by omega)).2) : CptR R (m + 1) (ds ++ [R[m]]) := by
  refine ⟨by rw [List.take_succ_eq_append_getElem hl]; exact List.Sublist.append h.1 (List.Sublist.refl _), ?_⟩
  have := cptX_new hs h.2 hm (by simpa using hl) (by simpa using he)
  rw [List.map_append]
  simpa using this
theorem cptR_start {R : List (Nat × List Int)} (hs : SrtX (R.map (·.2))) : ∀ K, 0 < K → K ≤ R.length → (∀ i (h : i < R.length), 0 < i → i < K → R[i].2 ≠ (R[i - 1]'(by omega)).2) → CptR R K (R.take K)
  | 0, h, _, _ => by omega
  | 1, _, hl, _ => by
    have h0 : 0 < R.length := by omega
    refine ⟨List.Sublist.refl _, ?_⟩
    have := cptX_start (ys := R.map (·.2)) (by simpa using h0)
    rw [List.take_succ_eq_append_getElem h0]
    simpa using this
  | K + 2, _, hl, hn => by
    have ih := cptR_start hs (K + 1) (by omega) (by omega) fun i h h1 h2 => hn i h h1 (by omega)
    have := cptR_new hs ih (by omega) (by omega : K + 1 < R.length) (hn (K + 1) (by omega) (by omega) (by omega))
    rw [List.take_succ_eq_append_getElem (by omega : K + 1 < R.length)]
    exact this
set_option maxRecDepth 100000 in
set_option maxHeartbeats 4000000 in
theorem compactA (g cap sz base : Nat) (R : List (Nat × List Int)) (cs : Array Value) (w : World) (hB : Blk w g 23 cs) (hz : cs.size = sz) (hF : RAt cs R) (hA : AR w base R) (hg : ∀ r ∈ R, r.1 ≠ g) (h1 : 1 ≤ R.length) (h2 : R.length ≤ 2000) (hr9 : ∀ r ∈ R, r.2.length ≤ 1000) (hs : R.length ≤ sz) (hc : R.length ≤ cap) (hS : SrtX (R.map (·.2))) :
    Calls Tryz.prog 33 #[.slice (some ⟨g, 0, none⟩) R.length cap, .func (.func 34) #[] #[]] w fun r w' => CmpA w g sz cap R r w' := by
  have HS := hid hS
  have M0 := hid (show CStA w g sz R 0 w R from ⟨⟨cs, hB, hz, hF, fun i hi _ => hF i hi⟩, Ch.refl _⟩)
  have RD := hid (show ∀ W, Ch (· = g) w W → ∀ i (h : i < R.length), RdSl rdInt W.cell? 1 (some ⟨R[i].1, 0, none⟩) R[i].2 from fun W hW i hi _ => ⟨R[i].1, 0, rfl, fun j hj => by
    have hB := (hA.blk _ (List.getElem_mem hi)).2.ch hW (hg _ (List.getElem_mem hi))
    show W.cell? ⟨R[i].1, 0 + j * 1 + 0, none⟩ = _
    rw [hB.cell]
    simp [hj, iv]⟩)
  have HR9 := hid (show ∀ i (h : i < R.length), R[i].2.length ≤ 1000 from fun i h => hr9 _ (List.getElem_mem h))
  clear hB hF hS hA hg hr9
  by_cases hone : R.length < 2
  · have d1 : decide ((R.length : Int) < 2) = true := decide_eq_true (by omega)
    go_enter Tryz.func33, Tryz.ntmps33
    go_wp2
    go_ret
    obtain ⟨⟨cs', k1, k2, k3, _⟩, k5⟩ := M0.out
    have hst := cptR_start HS.out R.length (by omega) (Nat.le_refl _) (fun i h h0 h1 => by omega)
    rw [List.take_length] at hst
    exact ⟨R, rfl, List.Sublist.refl _, hst.2.1, fun x => Iff.rfl, ⟨cs', k1, k2, k3⟩, k5⟩
  · have d1 : decide ((R.length : Int) < 2) = false := decide_eq_false (by omega)
    go_enter Tryz.func33, Tryz.ntmps33
    go_wp2
    go_loopw [5] (fun t wr => ∃ (k : Nat), 1 ≤ k ∧ k ≤ R.length ∧ t = .int .i64 k ∧ Hid (CStA w g sz R 0 wr R ∧ ∀ i (h : i < R.length), 0 < i → i < k → R[i].2 ≠ (R[i - 1]'(by omega)).2)) (fun t _ => R.length - (intOf t).toNat)
    case atStart => exact ⟨1, by omega, by omega, rfl, hid ⟨M0.out, fun i h h0 h1 => by omega⟩⟩
    case round =>
      clear d1
      revert wr
      intro W1 hrel
      obtain ⟨K, hK1, hK, rfl, hM⟩ := hrel
      by_cases hlt : K < R.length
      · obtain ⟨⟨cs', hB, hz', hF, _⟩, hCW⟩ := hM.out.1
        have c0 : W1.cell? ⟨g, K, none⟩ = some (rowV R[K]) := by rw [hB.cell]; exact hF K hlt
        have d0 : W1.cell? ⟨g, K - 1, none⟩ = some (rowV (R[K - 1]'(by omega))) := by rw [hB.cell]; exact hF (K - 1) (by omega)
        have ra := RD.out W1 hCW K hlt
        have rb := RD.out W1 hCW (K - 1) (by omega)
        have la := HR9.out K hlt
        have lb := HR9.out (K - 1) (by omega)
        unfold rowV at c0 d0
        obtain ⟨a, ea⟩ : ∃ a, R[K] = a := ⟨_, rfl⟩
        obtain ⟨b, eb⟩ : ∃ b, R[K - 1]'(by omega) = b := ⟨_, rfl⟩
        rw [ea] at c0 ra la
        rw [eb] at d0 rb lb
        have RA := hid ra
        have RB := hid rb
        clear hF hB hz' ra rb hCW
        by_cases hab : a.2 = b.2
        · have hd : decide (a.2 = b.2) = true := decide_eq_true hab
          have HCP := hid (show CptR R (K + 1) (R.take K) from cptR_same (cptR_start HS.out K (by omega) (by omega) hM.out.2) (by omega) hlt (by rw [ea, eb]; exact hab))
          have M1 := hid (show CStA w g sz R K W1 (R.take K) from by
            obtain ⟨⟨cs', k1, k2, k3, k4⟩, k5⟩ := hM.out.1
            refine ⟨⟨cs', k1, k2, fun i hi => ?_, fun i hi _ => k3 i hi⟩, k5⟩
            simp only [List.length_take] at hi
            rw [List.getElem_take]
            exact k3 i (by omega))
          clear ea eb hab hM M0
          go_wp2_with fail
          (refine wp_region_quietC (fun w' => Fr _ w') (by kernel_rfl) (by kernel_rfl) (Fr.refl _).drew ?_; (repeat go_big_quiet_step (first | exact fun _ => rfl | exact fun _ => ⟨rfl, rfl⟩ | (intro hw'; replace c0 := hw'.cell c0; replace d0 := hw'.cell d0; go_simp; first | done | exact rfl | exact ⟨rfl, rfl⟩) | (intro hw'; go_at_call 34; refine (equalL (some ⟨a.1, 0, none⟩) (some ⟨b.1, 0, none⟩) a.2.length b.2.length a.2 b.2 _ (RA.out.fr rdInt_mono hw') (RB.out.fr rdInt_mono hw') la lb).mono ?_; rintro e w1 ⟨rfl, hb⟩; rw [hd]; exact ⟨rfl, hw'.trans hb⟩))); refine wpQuiet_nil ?_; intro wq hq)
          replace M1 := hid (M1.out.fr hq)
          clear c0 d0 hq RA RB la lb
          go_wp2
          go_loopw [5, 7] (fun s t wr => ∃ (k k2 : Nat) (ds : List (Nat × List Int)), 1 ≤ k2 ∧ K + k2 ≤ R.length ∧ k < K + k2 ∧ s = .int .i64 k ∧ t = .int .i64 k2 ∧ ds.length = k ∧ Hid (CStA w g sz R (K + k2 - 1) wr ds ∧ CptR R (K + k2) ds)) (fun _ t _ => R.length - (intOf t).toNat)
          case atStart => exact ⟨K, 1, R.take K, by omega, by omega, by omega, rfl, rfl, by rw [List.length_take]; omega, hid ⟨by simpa using M1.out, HCP.out⟩⟩
          case round =>
            clear M1 HCP
            obtain ⟨k, k2, ds, h21, h2n, hk2, rfl, rfl, hdl, hM⟩ := hrel
            by_cases hlt2 : K + k2 < R.length
            · have dl : decide ((k2 : Int) < ((R.length - K : Nat) : Int)) = true := decide_eq_true (by omega)
              obtain ⟨⟨cs', hB, hz', _, hT⟩, hCW⟩ := hM.out.1
              have c0 : wr.cell? ⟨g, K + k2, none⟩ = some (rowV R[K + k2]) := by rw [hB.cell]; exact hT (K + k2) hlt2 (by omega)
              have d0 : wr.cell? ⟨g, K + (k2 - 1), none⟩ = some (rowV (R[K + k2 - 1]'(by omega))) := by rw [hB.cell, show K + (k2 - 1) = K + k2 - 1 by omega]; exact hT (K + k2 - 1) (by omega) (by omega)
              have ra := RD.out wr hCW (K + k2) hlt2
              have rb := RD.out wr hCW (K + k2 - 1) (by omega)
              have la := HR9.out (K + k2) hlt2
              have lb := HR9.out (K + k2 - 1) (by omega)
              unfold rowV at c0 d0
              obtain ⟨a, ea⟩ : ∃ a, R[K + k2] = a := ⟨_, rfl⟩
              obtain ⟨b, eb⟩ : ∃ b, R[K + k2 - 1]'(by omega) = b := ⟨_, rfl⟩
              rw [ea] at c0 ra la
              rw [eb] at d0 rb lb
              have RA := hid ra
              have RB := hid rb
              obtain ⟨u0, v0⟩ := hB.cell_some (i := k) (by omega)
              have f0 := hB.frozen k
              clear hT hB hz' ra rb hCW
              by_cases hab : a.2 = b.2
              · have hd : decide (a.2 = b.2) = true := decide_eq_true hab
                have M2 := hid (show ∀ wq, Fr wr wq → CStA w g sz R (K + (k2 + 1) - 1) wq ds ∧ CptR R (K + (k2 + 1)) ds from fun wq hq => ⟨(hM.out.1.fr hq).up (by omega), cptR_same (m := K + k2) hM.out.2 (by omega) hlt2 (by rw [ea, eb]; exact hab)⟩)
                clear ea eb hab hM f0 v0
                go_wp2_with fail
                (refine wp_region_quietC (fun w' => Fr _ w') (by kernel_rfl) (by kernel_rfl) (Fr.refl _).drew ?_; (repeat go_big_quiet_step (first | exact fun _ => rfl | exact fun _ => ⟨rfl, rfl⟩ | (intro hw'; replace c0 := hw'.cell c0; replace d0 := hw'.cell d0; go_simp; first | done | exact rfl | exact ⟨rfl, rfl⟩) | (intro hw'; go_at_call 34; refine (equalL (some ⟨a.1, 0, none⟩) (some ⟨b.1, 0, none⟩) a.2.length b.2.length a.2 b.2 _ (RA.out.fr rdInt_mono hw') (RB.out.fr rdInt_mono hw') la lb).mono ?_; rintro e w1 ⟨rfl, hb⟩; rw [hd]; exact ⟨rfl, hw'.trans hb⟩))); refine wpQuiet_nil ?_; intro wq hq)
                replace M2 := hid (M2.out _ hq)
                clear c0 d0 hq RA RB la lb
                go_wp2
                go_roundw
                case rel => exact ⟨k, k2 + 1, ds, by omega, by omega, by omega, rfl, by go_num, hdl, M2⟩
                case measure => simp [intOf]; omega
              · have hd : decide (a.2 = b.2) = false := decide_eq_false hab
                have M2 := hid (show ∀ wq, Fr wr wq → CStA w g sz R (K + (k2 + 1) - 1) (wq.setCell ⟨g, k, none⟩ (.slice (some ⟨a.1, 0, none⟩) a.2.length a.2.length)) (ds ++ [a]) ∧ CptR R (K + (k2 + 1)) (ds ++ [a]) from fun wq hq => ⟨((hM.out.1.fr hq).up (by omega)).put hdl (by omega) (by omega), by rw [← ea]; exact cptR_new (m := K + k2) HS.out hM.out.2 (by omega) hlt2 (by rw [ea, eb]; exact hab)⟩)
                clear ea eb hab hM
                go_wp2_with fail
                (refine wp_region_quietC (fun w' => Fr _ w') (by kernel_rfl) (by kernel_rfl) (Fr.refl _).drew ?_; (repeat go_big_quiet_step (first | exact fun _ => rfl | exact fun _ => ⟨rfl, rfl⟩ | (intro hw'; replace c0 := hw'.cell c0; replace d0 := hw'.cell d0; go_simp; first | done | exact rfl | exact ⟨rfl, rfl⟩) | (intro hw'; go_at_call 34; refine (equalL (some ⟨a.1, 0, none⟩) (some ⟨b.1, 0, none⟩) a.2.length b.2.length a.2 b.2 _ (RA.out.fr rdInt_mono hw') (RB.out.fr rdInt_mono hw') la lb).mono ?_; rintro e w1 ⟨rfl, hb⟩; rw [hd]; exact ⟨rfl, hw'.trans hb⟩))); refine wpQuiet_nil ?_; intro wq hq)
                replace M2 := hid (M2.out _ hq)
                replace f0 := hq.frozen v0 f0
                replace v0 := hq.cell v0
                replace c0 := hq.cell c0
                clear d0 hq RA RB la lb
                go_wp2
                go_roundw
                case rel => exact ⟨k + 1, k2 + 1, ds ++ [a], by omega, by omega, by omega, by go_num, by go_num, by simp; omega, M2⟩
                case measure => simp [intOf]; omega
            · obtain rfl : k2 = R.length - K := by omega
              obtain ⟨⟨cs', hB, hz', hF', _⟩, hC'⟩ := hM.out.1
              have hend : k < R.length := by omega
              obtain ⟨w9, cs9, hcl, hB9, hz9, hk9, hC9⟩ := run_clear1 (P := Tryz.prog) wr 32 23 (.slice none 0 0) Tryz.underlying32 (fun _ => by kernel_rfl) rfl (by decide) g k (R.length - k) (cap - k) (by omega) hB (by omega)
              have RES := hid (show CmpA w g sz cap R (.returned (.slice (some ⟨g, 0, none⟩) k cap)) w9 from by
                obtain ⟨q1, q2, q3⟩ := hM.out.2
                have el : K + (R.length - K) = R.length := by omega
                rw [el, List.take_length] at q1
                refine ⟨ds, by rw [hdl], q1, q2, fun x => ?_, ⟨cs9, hB9, by omega, fun i hi => ?_⟩, hC'.trans hC9⟩
                · rw [q3, List.take_of_length_le (by rw [List.length_map]; omega)]
                · exact (hk9 _ (by omega)).trans (hF' i hi))
              clear hM hB hF' hB9 hk9 hC9 hC' hz9 hz'
              go_wp2
              go_ret
              exact RES.out
        · have hd : decide (a.2 = b.2) = false := decide_eq_false hab
          have M2 := hid (show ∀ wq, Fr W1 wq → (CStA w g sz R 0 wq R ∧ ∀ i (h : i < R.length), 0 < i → i < K + 1 → R[i].2 ≠ (R[i - 1]'(by omega)).2) from fun wq hq => ⟨hM.out.1.fr hq, fun i h h0 h1 => by
            by_cases e : i = K
            · subst e; rw [ea, eb]; exact hab
            · exact hM.out.2 i h h0 (by omega)⟩)
          clear ea eb hab hM M0
          go_wp2_with fail
          (refine wp_region_quietC (fun w' => Fr _ w') (by kernel_rfl) (by kernel_rfl) (Fr.refl _).drew ?_; (repeat go_big_quiet_step (first | exact fun _ => rfl | exact fun _ => ⟨rfl, rfl⟩ | (intro hw'; replace c0 := hw'.cell c0; replace d0 := hw'.cell d0; go_simp; first | done | exact rfl | exact ⟨rfl, rfl⟩) | (intro hw'; go_at_call 34; refine (equalL (some ⟨a.1, 0, none⟩) (some ⟨b.1, 0, none⟩) a.2.length b.2.length a.2 b.2 _ (RA.out.fr rdInt_mono hw') (RB.out.fr rdInt_mono hw') la lb).mono ?_; rintro e w1 ⟨rfl, hb⟩; rw [hd]; exact ⟨rfl, hw'.trans hb⟩))); refine wpQuiet_nil ?_; intro wq hq)
          replace M2 := hid (M2.out _ hq)
          clear c0 d0 hq RA RB la lb
          go_wp2
          go_roundw
          case rel => exact ⟨K + 1, by omega, by omega, by go_num, M2⟩
          case measure => simp [intOf]; omega
      · obtain rfl : K = R.length := by omega
        go_wp2
        go_ret
        obtain ⟨⟨cs', k1, k2, k3, _⟩, k5⟩ := hM.out.1
        have hst := cptR_start HS.out R.length (by omega) (Nat.le_refl _) (fun i h h0 h1 => hM.out.2 i h h0 h1)
        rw [List.take_length] at hst
        exact ⟨R, rfl, List.Sublist.refl _, hst.2.1, fun x => Iff.rfl, ⟨cs', k1, k2, k3⟩, k5⟩
end Go.Proofs.YtahclhldpcboeaaGreatDoor
