/- Walks of the program's functions that map variables: copied at ints, mapTo. -/
import Derived.Test.YtahclhldpcboeaaGreatDoorHomP
import Derived.Test.YtahclhldpcboeaaGreatDoorExtW
import Derived.Test.YtahclhldpcboeaaGreatDoorFrzW
import Derived.Lib.AppendZeros
import Derived.Deep.RegionHeld3
namespace Go.Proofs.YtahclhldpcboeaaGreatDoor
open Go Go.RowKit

/-- Memory but for one block. -/
def noB (w : World) (g : Nat) : Mv := fun p => if p.block = g then none else w.cell? p
theorem noB_le (w : World) (g : Nat) : Mle (noB w g) w.cell? := fun p v h => by
  unfold noB at h; split at h
  · cases h
  · exact h
theorem noB_ch {w w' : World} {g : Nat} (h : Ch (· = g) w w') : Mle (noB w g) (noB w' g) := fun p v e => by
  unfold noB at e ⊢; split at e
  · cases e
  · rename_i hp; rw [if_neg hp]; exact h.cell hp e
theorem noB_fr {w w' : World} {g : Nat} (h : Fr w w') : Mle (noB w g) (noB w' g) := fun p v e => by
  unfold noB at e ⊢; split at e
  · cases e
  · rename_i hp; rw [if_neg hp]; exact h.cell e
theorem noB_old {w w' : World} {g : Nat} (h : Fr w w') (hg : w.heap.size ≤ g) : Mle w.cell? (noB w' g) := fun p v e => by
  unfold noB
  rw [if_neg (by have := cell_lt e; omega)]
  exact h.cell e
theorem noB_cell {w : World} {g : Nat} {p : Addr} {v : Value} (h : noB w g p = some v) : w.cell? p = some v ∧ p.block ≠ g := by
  unfold noB at h; split at h
  · cases h
  · rename_i hp; exact ⟨h, hp⟩
theorem iAt_map (m : List Int) : IAt (m.map iv).toArray m := fun i h => by simp [iv, h]
set_option maxRecDepth 100000 in
set_option maxHeartbeats 1000000 in
theorem copiedInts (A : Option Addr) (cap : Nat) (q : List Int) (w : World) (hx : RdSl rdInt w.cell? 1 A q) (hl : q.length ≤ 1048576) (hne : 0 < q.length) :
    Calls Tryz.prog 41 #[.slice A q.length cap] w fun r w' => r = .returned (.slice (some ⟨w.heap.size, 0, none⟩) q.length q.length) ∧ Blk w' w.heap.size 3 (q.map iv).toArray ∧ Fr w w' ∧ w'.heap.size = w.heap.size + 1 := by
  have hne' : q ≠ [] := by intro e; rw [e] at hne; simp at hne
  obtain ⟨b, o, hA, hc⟩ := hx hne'
  subst hA
  have HC := hid (show ∀ (j : Nat) u, (q.map iv)[j]? = some u → w.cell? ⟨b, o + j, none⟩ = some u from fun j u hu => by
    rw [List.getElem?_map] at hu
    cases hj : q[j]? with
    | none => rw [hj] at hu; simp at hu
    | some x =>
      rw [hj] at hu
      obtain ⟨hlt, rfl⟩ := List.getElem?_eq_some_iff.1 hj
      have h := hc j hlt
      simp only [rdInt, Nat.mul_one, Nat.add_zero] at h
      rw [h]; exact hu)
  clear hc hx
  have e0 : ((q.length : Int) == 0) = false := by simp; exact hne'
  have hmk := mk_row (P := Tryz.prog) 23 3 (.int .i64 0) 1 8 Tryz.underlying23 (by kernel_rfl) q.length (by omega) (by omega)
  have hone : (q.map iv).all (·.oneCell') = true := by
    rw [List.all_eq_true]
    intro x hx
    obtain ⟨y, _, rfl⟩ := List.mem_map.1 hx
    rfl
  have hlen : (q.map iv).length = q.length * 1 := by simp
  clear hne'
  go_enter Tryz.func41, Tryz.ntmps41
  go_wp2_with (refine wp_copyNew rfl _ _ 23 rfl 3 (.int .i64 0) 1 8 Tryz.underlying23 (by kernel_rfl) w.heap.size q.length rfl 3 _ (Blk.new _ _ _) (by simp [made_size]) b o cap rfl (q.map iv) hlen (fun j u hu => ((Fr.refl w).alloc _).cell (HC.out j u hu)) hone ?_; intro w5 hB5 hC5 hs5)
  go_ret
  exact ⟨rfl, hB5, hC5.fr (fun k hk => by omega) ((Fr.refl w).alloc _), by rw [hs5]; simp⟩
theorem fitV_low {B : Int} {m : List Int} {v x : Int} (h : Rng B m) (h0 : 0 ≤ v) (h1 : v < m.length) : fitV m v x = (var m v == -1 || var m v == x) := by
  have := (h.var h0 h1).1
  unfold fitV
  congr 1
  rw [Bool.eq_iff_iff]
  simp
  omega
/-- What mapTo holds at pair k. -/
def MpInv (w : World) (mb mc sz : Nat) (B : Int) (n : Nat) (vs xs m : List Int) (k : Nat) (wr : World) : Prop :=
  ∃ m' cs, Blk wr mb 3 cs ∧ IAt cs m' ∧ cs.size = sz ∧ m'.length = n ∧ Rng B m' ∧ bindH (vs.drop k) (xs.drop k) m' = bindH vs xs m ∧ Ch (· = mb) w wr
set_option maxRecDepth 100000 in
set_option maxHeartbeats 2000000 in
theorem mapToW (mb mc : Nat) (cs : Array Value) (V X : Option Addr) (vc xc : Nat) (m vs xs : List Int) (B : Int) (w : World) (hB : Blk w mb 3 cs) (hI : IAt cs m) (hs : m.length ≤ cs.size) (hm : m.length ≤ 1000)
    (hx : RdSl rdInt (noB w mb) 1 V vs) (hy : RdSl rdInt (noB w mb) 1 X xs) (hl : vs.length ≤ 1000) (hl2 : xs.length ≤ 1000000) (hv : ∀ v ∈ vs, 0 ≤ v ∧ v < m.length) (hr : Rng B m) (hxr : ∀ x ∈ xs, 0 ≤ x ∧ x < B) :
    Calls Tryz.prog 51 #[.slice (some ⟨mb, 0, none⟩) m.length mc, .slice V vs.length vc, .slice X xs.length xc] w fun r w' => r = .returned (.bool (bindH vs xs m).isSome) ∧ Ch (· = mb) w w' ∧ ∃ m' cs', Blk w' mb 3 cs' ∧ IAt cs' m' ∧ cs'.size = cs.size ∧ m'.length = m.length ∧ ∀ m1, bindH vs xs m = some m1 → m' = m1 := by
  have HX := hid hx
  have HY := hid hy
  have HV := hid hv
  have HXR := hid hxr
  by_cases hlen : vs.length = xs.length
  · have hlen2 : ((vs.length : Int) == (xs.length : Int)) = true := by simp [hlen]
    have I0 : Hid (MpInv w mb mc cs.size B m.length vs xs m 0 w) := hid ⟨m, cs, hB, hI, rfl, rfl, hr, rfl, Ch.refl w⟩
    obtain ⟨n, hn⟩ : ∃ n, m.length = n := ⟨_, rfl⟩
    obtain ⟨sz, hsz⟩ : ∃ sz, cs.size = sz := ⟨_, rfl⟩
    rw [hn, hsz] at I0
    rw [hn] at HV hm
    rw [hn, hsz] at hs
    simp only [hn, hsz]
    clear hx hy hv hxr hB hI hr hn hsz
    have HLEN := hid hlen
    clear hlen
    go_enter Tryz.func51, Tryz.ntmps51
    go_wp2_with fail
    go_loopw [16] (fun t wr => ∃ k : Nat, k ≤ vs.length ∧ t = .int .i64 k ∧ Hid (MpInv w mb mc sz B n vs xs m k wr)) (fun t _ => vs.length - (intOf t).toNat)
    case atStart => exact ⟨0, by omega, rfl, I0⟩
    case round =>
      obtain ⟨k, hk, rfl, INV⟩ := hrel
      obtain ⟨m', cs', hB', hI', hs', hn', hr', hb', hC'⟩ := INV.out
      by_cases hlt : k < vs.length
      · have hlt2 : k < xs.length := by rw [← HLEN.out]; exact hlt
        obtain ⟨ab, ao, hA, h0⟩ := (HX.out.mono rdInt_mono (noB_ch hC')).at_ hlt
        obtain ⟨yb, yo, hY, g0⟩ := (HY.out.mono rdInt_mono (noB_ch hC')).at_ hlt2
        subst hA hY
        simp only [rdInt, Nat.mul_one, Nat.add_zero] at h0 g0
        replace h0 := (noB_cell h0).1
        replace g0 := (noB_cell g0).1
        obtain ⟨v0, v1⟩ := HV.out vs[k] (List.getElem_mem hlt)
        obtain ⟨v, ev⟩ : ∃ v : Nat, vs[k] = v := ⟨vs[k].toNat, by omega⟩
        rw [ev] at h0 v0 v1
        obtain ⟨x, ex⟩ : ∃ x, xs[k] = x := ⟨_, rfl⟩
        rw [ex] at g0
        have hvn : v < n := by omega
        obtain ⟨y, ey⟩ : ∃ y, var m' v = y := ⟨_, rfl⟩
        have y0 : wr.cell? ⟨mb, v, none⟩ = some (.int .i64 y) := by
          rw [hB'.cell, hI' v (by omega), ← ey, var_at rfl (by omega)]
        have yf := hB'.frozen v
        have hfz : ∀ w1, Fr wr w1 → w1.frozen? ⟨mb, v, none⟩ = false := fun w1 h => h.frozen y0 yf
        have hfit : fitV m' v x = (y == -1 || y == x) := by rw [fitV_low hr' (by omega) (by omega), ey]
        have hx1 := HXR.out xs[k] (List.getElem_mem hlt2)
        rw [ex] at hx1
        by_cases hok : fitV m' v x = true
        · have NEXT := hid (show ∀ w1, Fr wr w1 → MpInv w mb mc sz B n vs xs m (k + 1) (w1.setCell ⟨mb, v, none⟩ (.int .i64 x)) from fun w1 hf => ⟨m'.set v x, _, (hB'.fr hf).set_ v _, hI'.set (by omega), by simp [hs'], by simp [hn'], by
            have := hr'.put (v := v) hx1.1 hx1.2
            exact this, by
            rw [← hb', bindH_step hlt hlt2 (by rw [ev, ex]; exact hok), ev, ex]; rfl, (hC'.trans hf.ch).set (.inl rfl) _⟩)
          rw [hfit] at hok
          by_cases e1 : y = -1
          · have q1 : (y != -1) = false := by simp [e1]
            clear hB' hI' hr' hb' hC' INV hfit hok ey
            go_wp2_with fail
            (refine wp_region_quietC (fun w' => Fr _ w') (by kernel_rfl) (by kernel_rfl) (Fr.refl _).drew ?_; (repeat go_big_quiet_step (first | exact fun _ => rfl | exact fun _ => ⟨rfl, rfl⟩ | (intro hw'; replace y0 := hw'.cell y0; replace g0 := hw'.cell g0; go_simp; first | done | exact rfl | exact ⟨rfl, rfl⟩) )); refine wpQuiet_nil ?_; intro wq hq)
            replace g0 := hq.cell g0
            replace y0 := hq.cell y0
            replace yf := hfz wq hq
            have NX := hid (NEXT.out wq hq)
            clear NEXT
            go_wp2
            go_roundw
            case rel => exact ⟨k + 1, by omega, by go_num, NX⟩
            case measure => simp [intOf]; omega
          · have q1 : (y == -1) = false := by simp [e1]
            have q2 : (y != x) = false := by rw [q1] at hok; simpa using hok
            replace q1 : (y != -1) = true := by simp [e1]
            clear hB' hI' hr' hb' hC' INV hfit hok ey
            go_wp2_with fail
            (refine wp_region_quietC (fun w' => Fr _ w') (by kernel_rfl) (by kernel_rfl) (Fr.refl _).drew ?_; (repeat go_big_quiet_step (first | exact fun _ => rfl | exact fun _ => ⟨rfl, rfl⟩ | (intro hw'; replace y0 := hw'.cell y0; replace g0 := hw'.cell g0; go_simp; first | done | exact rfl | exact ⟨rfl, rfl⟩) )); refine wpQuiet_nil ?_; intro wq hq)
            replace g0 := hq.cell g0
            replace y0 := hq.cell y0
            replace yf := hfz wq hq
            have NX := hid (NEXT.out wq hq)
            clear NEXT
            go_wp2
            go_roundw
            case rel => exact ⟨k + 1, by omega, by go_num, NX⟩
            case measure => simp [intOf]; omega
        · have hno : fitV m' v x = false := by simpa using hok
          have hnone : bindH vs xs m = none := by rw [← hb', bindH_stop hlt hlt2 (by rw [ev, ex]; exact hno)]
          rw [hfit] at hno
          have q1 : (y == -1) = false := by
            cases h : (y == -1)
            · rfl
            · rw [h] at hno; simp at hno
          have q2 : (y != x) = true := by rw [q1] at hno; simpa using hno
          replace q1 : (y != -1) = true := by simpa using q1
          have RES := hid (show ∀ w1, Fr wr w1 → Ending.returned (.bool false) = Ending.returned (.bool (bindH vs xs m).isSome) ∧ Ch (· = mb) w w1 ∧ ∃ m' cs', Blk w1 mb 3 cs' ∧ IAt cs' m' ∧ cs'.size = sz ∧ m'.length = n ∧ ∀ m1, bindH vs xs m = some m1 → m' = m1 from fun w1 hf => ⟨by rw [hnone]; rfl, hC'.trans hf.ch, m', cs', hB'.fr hf, hI', hs', hn', fun m1 h => by rw [hnone] at h; cases h⟩)
          clear hB' hI' hr' hb' hC' INV hfit hok ey hnone
          go_wp2_with fail
          (refine wp_region_quietC (fun w' => Fr _ w') (by kernel_rfl) (by kernel_rfl) (Fr.refl _).drew ?_; (repeat go_big_quiet_step (first | exact fun _ => rfl | exact fun _ => ⟨rfl, rfl⟩ | (intro hw'; replace y0 := hw'.cell y0; replace g0 := hw'.cell g0; go_simp; first | done | exact rfl | exact ⟨rfl, rfl⟩) )); refine wpQuiet_nil ?_; intro wq hq)
          go_wp2
          go_ret
          exact RES.out _ hq
      · obtain rfl : k = vs.length := by omega
        rw [bindH_end (Nat.le_refl _) HLEN.out.symm] at hb'
        have RES := hid (show Ending.returned (.bool true) = Ending.returned (.bool (bindH vs xs m).isSome) ∧ Ch (· = mb) w wr ∧ ∃ m' cs', Blk wr mb 3 cs' ∧ IAt cs' m' ∧ cs'.size = sz ∧ m'.length = n ∧ ∀ m1, bindH vs xs m = some m1 → m' = m1 from ⟨by rw [← hb']; rfl, hC', m', cs', hB', hI', hs', hn', fun m1 h => by rw [← hb'] at h; injection h⟩)
        clear hB' hI' hr' hb' hC' INV
        go_wp2
        go_ret
        exact RES.out
  · have hlen2 : ((vs.length : Int) == (xs.length : Int)) = false := by simp; omega
    have hnone : bindH vs xs m = none := bindH_ne hlen
    have RES := hid (show Ending.returned (.bool false) = Ending.returned (.bool (bindH vs xs m).isSome) ∧ Ch (· = mb) w w ∧ ∃ m' cs', Blk w mb 3 cs' ∧ IAt cs' m' ∧ cs'.size = cs.size ∧ m'.length = m.length ∧ ∀ m1, bindH vs xs m = some m1 → m' = m1 from ⟨by rw [hnone]; rfl, Ch.refl w, m, cs, hB, hI, rfl, rfl, fun m1 h => by rw [hnone] at h; cases h⟩)
    clear hx hy hv hxr hB hI hr hlen hnone
    go_enter Tryz.func51, Tryz.ntmps51
    go_wp2
    go_ret
    exact RES.out
/- Walks of the program's functions that take an atom out of a query: copied at atoms, Grow, Concat, without. -/

def cellsA (a : Atom) : List Value := [.int .i64 a.rel, .int .i64 a.x, .int .i64 a.y]
theorem own_A {w : World} {base e n cap : Nat} {A : Option Addr} {xs : List Atom} (h : w.ownsRow base e 3 (.slice A n cap) n (xs.flatMap cellsA)) (hn : n = xs.length) : RdSl rdAtom (fromB w base) 3 A xs :=
  own_rd h hn (fun _ => rfl) fun m c x hc => ⟨hc 0 (by simp [cellsA]), hc 1 (by simp [cellsA]), hc 2 (by simp [cellsA])⟩
theorem cellsA_len (xs : List Atom) : (xs.flatMap cellsA).length = xs.length * 3 := by
  induction xs with
  | nil => rfl
  | cons a r ih => rw [List.flatMap_cons, List.length_append, ih]; simp [cellsA]; omega
theorem cellsA_one (xs : List Atom) : (xs.flatMap cellsA).all (·.oneCell') = true := by
  rw [List.all_eq_true]
  intro u hu
  rw [List.mem_flatMap] at hu
  obtain ⟨x, _, hx⟩ := hu
  simp only [cellsA, List.mem_cons, List.not_mem_nil, or_false] at hx
  rcases hx with rfl | rfl | rfl <;> rfl
theorem rd_cellsA {m : Mv} {g p : Nat} {xs : List Atom} (h : RdSl rdAtom m 3 (some ⟨g, p, none⟩) xs) : ∀ (j : Nat) u, (xs.flatMap cellsA)[j]? = some u → m ⟨g, p + j, none⟩ = some u := by
  intro j u hu
  have hl := cellsA_len xs
  have hj : j < xs.length * 3 := by
    rw [← hl]; exact (List.getElem?_eq_some_iff.1 hu).1
  have hi : j / 3 < xs.length := by omega
  obtain ⟨b, o, hA, r0, r1, r2⟩ := h.atom hi
  injection hA with hA
  injection hA with h1 h2 _
  subst h1 h2
  have h2 := flatMap_get (f := cellsA) (sz := 3) (fun _ => rfl) xs (j / 3) hi (j % 3) (Nat.mod_lt _ (by decide)) (by simp [cellsA]; omega)
  have ej : j / 3 * 3 + j % 3 = j := by omega
  rw [ej, hu] at h2
  rcases (by omega : j % 3 = 0 ∨ j % 3 = 1 ∨ j % 3 = 2) with e | e | e
  all_goals simp only [e, cellsA] at h2
  all_goals injection h2 with h2
  all_goals rw [h2]
  all_goals first
    | (rw [show p + j = p + j / 3 * 3 by omega]; exact r0)
    | (rw [show p + j = p + j / 3 * 3 + 1 by omega]; exact r1)
    | (rw [show p + j = p + j / 3 * 3 + 2 by omega]; exact r2)
/-- A part of a list that lies in memory. -/
theorem rd_drop {X : Type} {rd : Rd X} {m : Mv} {b o sz k : Nat} {xs : List X} (h : RdSl rd m sz (some ⟨b, o, none⟩) xs) : RdSl rd m sz (some ⟨b, o + k * sz, none⟩) (xs.drop k) := fun hne => by
  have hx : xs ≠ [] := by rintro rfl; simp at hne
  obtain ⟨b', o', hA, hc⟩ := h hx
  cases hA
  refine ⟨b, _, rfl, fun i hi => ?_⟩
  simp only [List.length_drop] at hi
  have h1 := hc (k + i) (by omega)
  rw [List.getElem_drop]
  rwa [show o + (k + i) * sz = o + k * sz + i * sz by rw [Nat.add_mul]; omega] at h1
theorem rd_take {X : Type} {rd : Rd X} {m : Mv} {A : Option Addr} {sz k : Nat} {xs : List X} (h : RdSl rd m sz A xs) : RdSl rd m sz A (xs.take k) := fun hne => by
  have hx : xs ≠ [] := by rintro rfl; simp at hne
  obtain ⟨b', o', hA, hc⟩ := h hx
  refine ⟨b', o', hA, fun i hi => ?_⟩
  simp only [List.length_take] at hi
  rw [List.getElem_take]
  exact hc i (by omega)
/-- A block that holds just a list's cells is a row of it. -/
theorem own_blk {w : World} {g base sz n : Nat} {t : TypeId} {xs : List Value} (hB : Blk w g t xs.toArray) (hb : base ≤ g) (hl : xs.length = n * sz) (hn : n ≤ maxLen) : w.ownsRow base t sz (.slice (some ⟨g, 0, none⟩) n n) n xs :=
  ⟨hl, .inr ⟨g, n, xs.toArray, rfl, hb, hB, Nat.le_refl _, hn, by simp [hl], by rw [← hl]; simp⟩⟩
/-- copied at ints, as a row of its own. -/
theorem copiedIntsO (A : Option Addr) (cap : Nat) (q : List Int) (w : World) (hx : RdSl rdInt w.cell? 1 A q) (hl : q.length ≤ 1048576) :
    Calls Tryz.prog 41 #[.slice A q.length cap] w fun r w' => ∃ B c, r = .returned (.slice B q.length c) ∧ w'.ownsRow w.heap.size 3 1 (.slice B q.length c) q.length (q.map iv) ∧ Fr w w' := by
  rcases Nat.eq_zero_or_pos q.length with h0 | h0
  · have hq : q = [] := List.eq_nil_of_length_eq_zero h0
    subst hq
    simp only [List.length_nil]
    clear hx hl h0
    go_enter Tryz.func41, Tryz.ntmps41
    go_wp2
    go_ret
    exact ⟨none, 0, rfl, own_nil, Fr.refl w⟩
  · exact (copiedInts A cap q w hx hl h0).mono fun r w' ⟨h1, h2, h3, _⟩ => ⟨_, _, h1, own_blk h2 (Nat.le_refl _) (by simp) (by unfold maxLen; omega), h3⟩
set_option maxRecDepth 100000 in
set_option maxHeartbeats 1000000 in
theorem copiedAtoms (A : Option Addr) (cap : Nat) (q : List Atom) (w : World) (hx : RdSl rdAtom w.cell? 3 A q) (hl : q.length ≤ 1048576) :
    Calls Tryz.prog 42 #[.slice A q.length cap] w fun r w' => ∃ B c, r = .returned (.slice B q.length c) ∧ w'.ownsRow w.heap.size 63 3 (.slice B q.length c) q.length (q.flatMap cellsA) ∧ Fr w w' := by
  rcases Nat.eq_zero_or_pos q.length with h0 | hne
  · have hq : q = [] := List.eq_nil_of_length_eq_zero h0
    subst hq
    simp only [List.length_nil]
    clear hx hl h0
    go_enter Tryz.func42, Tryz.ntmps42
    go_wp2
    go_ret
    exact ⟨none, 0, rfl, own_nil, Fr.refl w⟩
  have hne' : q ≠ [] := by intro e; rw [e] at hne; simp at hne
  obtain ⟨b, o, hA, _⟩ := hx hne'
  subst hA
  have HC := hid (rd_cellsA hx)
  clear hx
  have e0 : ((q.length : Int) == 0) = false := by simp; exact hne'
  have hmk := mk_row (P := Tryz.prog) 24 63 (.agg #[.int .i64 0, .int .i64 0, .int .i64 0]) 3 24 Tryz.underlying24 (by kernel_rfl) q.length (by omega) (by omega)
  have hone := cellsA_one q
  have hlen := cellsA_len q
  clear hne'
  go_enter Tryz.func42, Tryz.ntmps42
  go_wp2_with (refine wp_copyNew rfl _ _ 24 rfl 63 (.agg #[.int .i64 0, .int .i64 0, .int .i64 0]) 3 24 Tryz.underlying24 (by kernel_rfl) w.heap.size q.length rfl 63 _ (Blk.new _ _ _) (by simp [made_size]) b o cap rfl (q.flatMap cellsA) hlen (fun j u hu => ((Fr.refl w).alloc _).cell (HC.out j u hu)) hone ?_; intro w5 hB5 hC5 hs5)
  go_ret
  exact ⟨_, _, rfl, own_blk hB5 (Nat.le_refl _) hlen (by unfold maxLen; omega), hC5.fr (fun k hk => by omega) ((Fr.refl w).alloc _)⟩
set_option maxRecDepth 100000 in
set_option maxHeartbeats 1000000 in
/-- Grow of nil: room for n atoms. -/
theorem growNil (n : Nat) (hn : n ≤ 1048576) (w : World) :
    Calls Tryz.prog 93 #[.slice none 0 0, .int .i64 n] w fun r w' => ∃ v, r = .returned v ∧ w'.ownsRow w.heap.size 63 3 v 0 [] ∧ Fr w w' := by
  rcases Nat.eq_zero_or_pos n with h0 | h0
  · subst h0
    go_enter Tryz.func93, Tryz.ntmps93
    go_wp2
    go_ret
    exact ⟨_, rfl, own_nil, Fr.refl w⟩
  · obtain ⟨i, hi, hz, hsi, hb⟩ := info_parts (show (Tryz.prog.info? 63).map (fun i => (i.zero, i.size, i.bytes)) = some (some (.agg #[.int .i64 0, .int .i64 0, .int .i64 0]), 3, 24) by rfl)
    have hr := Lib.run_append_nil_zeros (P := Tryz.prog) w 24 3 24 63 i _ .i64 .i64 Tryz.underlying24 Tryz.underlying3 hi hz n h0 (by omega) (by omega) (by rw [hb]; omega)
    have hge := grownCap_ge w n 0 63
    have hle := grownCap_le_maxLen w n 0 63 (by unfold maxLen; omega)
    obtain ⟨cap, ecap⟩ : ∃ cap, grownCap w n 0 63 = cap := ⟨_, rfl⟩
    rw [ecap] at hr hge hle
    obtain ⟨CS, eCS⟩ : ∃ CS, (Builtin.zeroCells (Value.agg #[.int .i64 0, .int .i64 0, .int .i64 0]).cells n ++ Builtin.zeroCells (Value.agg #[.int .i64 0, .int .i64 0, .int .i64 0]).cells (cap - n)) = CS := ⟨_, rfl⟩
    have hsz : CS.size = cap * 3 := by
      rw [← eCS, Array.size_append, size_zeroCells, size_zeroCells]
      show n * 3 + (cap - n) * 3 = cap * 3
      omega
    rw [eCS] at hr
    have hml : cap ≤ 9223372036854775807 := hle
    have FW : Fr w (w.drew.alloc (.cells CS 63)) := by (repeat (first | with_reducible exact Fr.refl _ | with_reducible assumption | with_reducible refine Fr.alloc ?_ _ | with_reducible refine Fr.drew ?_ | with_reducible refine Fr.drewN ?_ _ | (with_reducible refine Fr.setNew2 ?_ ?_ _; · (simp <;> omega)) | with_reducible refine Fr.trans ?_ (by assumption)))
    have HO := hid (show (w.drew.alloc (.cells CS 63)).ownsRow w.heap.size 63 3 (.slice (some ⟨w.heap.size, 0, none⟩) 0 cap) 0 [] from ⟨by simp, .inr ⟨w.heap.size, cap, CS, rfl, Nat.le_refl _, Blk.new w.drew _ _, Nat.zero_le _, hle, hsz, by simp⟩⟩)
    clear eCS hsz ecap hle
    go_enter Tryz.func93, Tryz.ntmps93
    go_wp2_with (at_builtin; refine Lib.wpList_append_run _ rfl _ _ _ _ rfl _ _ rfl rfl _ _ hr ?_)
    go_ret
    exact ⟨_, rfl, HO.out, FW⟩
set_option maxRecDepth 100000 in
set_option maxHeartbeats 2000000 in
/-- Concat of two parts. -/
theorem concatW (g gc b1 o1 b2 o2 c1 c2 : Nat) (xs ys : List Atom) (w : World) (hB : Blk w g 24 #[.slice (some ⟨b1, o1, none⟩) xs.length c1, .slice (some ⟨b2, o2, none⟩) ys.length c2])
    (hx : RdSl rdAtom w.cell? 3 (some ⟨b1, o1, none⟩) xs) (hy : RdSl rdAtom w.cell? 3 (some ⟨b2, o2, none⟩) ys) (hl : xs.length ≤ 1000) (hl2 : ys.length ≤ 1000) :
    Calls Tryz.prog 72 #[.slice (some ⟨g, 0, none⟩) 2 gc] w fun r w' => ∃ v, r = .returned v ∧ w'.ownsRow w.heap.size 63 3 v (xs ++ ys).length ((xs ++ ys).flatMap cellsA) ∧ Fr w w' := by
  have c0 : w.cell? ⟨g, 0, none⟩ = some (.slice (some ⟨b1, o1, none⟩) xs.length c1) := hB.cell 0
  have c1' : w.cell? ⟨g, 1, none⟩ = some (.slice (some ⟨b2, o2, none⟩) ys.length c2) := hB.cell 1
  have hgw := hB.lt
  have HX := hid (rd_cellsA hx)
  have HY := hid (rd_cellsA hy)
  have GR := hid (growNil (xs.length + ys.length) (by omega) w)
  have hlx := cellsA_len xs
  have hly := cellsA_len ys
  have h1x := cellsA_one xs
  have h1y := cellsA_one ys
  have RESF := hid (show ∀ (w' : World) (v : Value), w'.ownsRow w.heap.size 63 3 v (xs.length + ys.length) (xs.flatMap cellsA ++ ys.flatMap cellsA) → w'.ownsRow w.heap.size 63 3 v (xs ++ ys).length ((xs ++ ys).flatMap cellsA) from fun w' v h => by
    rw [List.length_append, List.flatMap_append]
    exact h)
  clear hB hx hy
  go_enter Tryz.func72, Tryz.ntmps72
  go_wp2_with fail
  refine wp_loop_rounds 3 ?_
  rw [rounds_succ]
  go_wp2_with fail
  rw [rounds_succ]
  go_wp2_with fail
  rw [rounds_succ]
  go_wp2_with fail
  rw [show ((xs.length + ys.length : Nat) : Int) = (xs.length : Int) + (ys.length : Int) by omega] at GR
  refine GR.out.mono ?_
  rintro r w2 ⟨v2, rfl, hO2, hF2⟩
  obtain ⟨A2, k2, rfl⟩ := own_form hO2
  have hw2 := hF2.size
  replace c0 := hF2.cell c0
  replace c1' := hF2.cell c1'
  clear GR
  go_wp2_with fail
  refine wp_loop_rounds 3 ?_
  rw [rounds_succ]
  go_wp2_with (first | (at_builtin; refine wp_appS rfl _ _ 24 rfl w.heap.size 63 (.agg #[.int .i64 0, .int .i64 0, .int .i64 0]) 3 24 Tryz.underlying24 (by kernel_rfl) rfl (by decide) (by decide) _ _ _ rfl hO2 (by omega) hw2 b1 o1 xs.length c1 (xs.flatMap cellsA) rfl hlx (fun j u hu => hF2.cell (HX.out j u hu)) (by omega) h1x ?_; intro v3 w3 hO3 hg3; rw [Nat.zero_add, List.nil_append] at hO3; obtain ⟨A3, k3, rfl⟩ := own_form hO3; have F3 : Fr w w3 := Fr.grown hF2 hg3 hO2; have hw3 := F3.size; have G3 : w3.cell? ⟨g, 1, none⟩ = some (.slice (some ⟨b2, o2, none⟩) ys.length c2) := hg3.cell c1' (fun hk => by have := (own_lt hO2 _ hk.symm).1; have : w.heap.size ≤ g := this; omega)) | fail)
  clear hO2 c0 c1'
  rw [rounds_succ]
  go_wp2_with (first | (at_builtin; refine wp_appS rfl _ _ 24 rfl w.heap.size 63 (.agg #[.int .i64 0, .int .i64 0, .int .i64 0]) 3 24 Tryz.underlying24 (by kernel_rfl) rfl (by decide) (by decide) _ _ _ rfl hO3 (by omega) hw3 b2 o2 ys.length c2 (ys.flatMap cellsA) rfl hly (fun j u hu => F3.cell (HY.out j u hu)) (by omega) h1y ?_; intro v4 w4 hO4 hg4; obtain ⟨A4, k4, rfl⟩ := own_form hO4; have F4 : Fr w w4 := Fr.grown F3 hg4 hO3) | fail)
  have RES := hid (RESF.out _ _ hO4)
  clear hO4 hO3 RESF
  rw [rounds_succ]
  go_wp2
  go_ret
  exact ⟨_, rfl, RES.out, F4⟩
/- Walk of the program's without. -/

/-- A query of the call's own. -/
def RulOut (base : Nat) (q : Int) (hd : List Int) (bd : List Atom) (r : Ending) (w' : World) : Prop := ∃ A c B d, r = .returned (.agg #[.int .i64 q, .slice A hd.length c, .slice B bd.length d]) ∧
  w'.ownsRow base 3 1 (.slice A hd.length c) hd.length (hd.map iv) ∧ w'.ownsRow base 63 3 (.slice B bd.length d) bd.length (bd.flatMap cellsA)
theorem Ch.setAt {g i : Nat} {a w : World} (h : Ch (· = g) a w) (u : Value) (_ : Unit) : Ch (· = g) a (w.setCell ⟨g, i, none⟩ u) := h.set (.inl rfl) u
theorem own_capM {w : World} {base e sz n cap : Nat} {A : Option Addr} {xs : List Value} (h : w.ownsRow base e sz (.slice A n cap) n xs) : n ≤ cap ∧ cap ≤ maxLen := by
  rcases h.2 with ⟨h1, h2⟩ | ⟨g, c, cur, hv, _, _, h1, h2, _⟩
  · cases h1; exact ⟨by omega, Nat.zero_le _⟩
  · cases hv; exact ⟨h1, h2⟩
set_option maxRecDepth 100000 in
set_option maxHeartbeats 4000000 in
theorem withoutW (b : Nat) (q : Int) (A0 A1 : Option Addr) (c0 c1 : Nat) (hd : List Int) (bd : List Atom) (k : Nat) (w : World) (h0 : w.cell? ⟨b, 0, none⟩ = some (.int .i64 q)) (h1 : w.cell? ⟨b, 1, none⟩ = some (.slice A0 hd.length c0)) (h2 : w.cell? ⟨b, 2, none⟩ = some (.slice A1 bd.length c1))
    (hx0 : RdSl rdInt w.cell? 1 A0 hd) (hx1 : RdSl rdAtom w.cell? 3 A1 bd) (hl0 : hd.length ≤ 1000) (hl1 : bd.length ≤ 1000) (hk : k < bd.length) (hc : bd.length ≤ c1) (hc2 : c1 ≤ maxLen) :
    Calls Tryz.prog 44 #[.pointer (some ⟨b, 0, none⟩), .int .i64 k] w fun r w' => RulOut w.heap.size q hd (lessA bd k) r w' ∧ Fr w w' := by
  have hbl := cell_lt h0
  simp only at hbl
  obtain ⟨ab, ao, hA, _⟩ := hx1 (by intro e; rw [e] at hk; simp at hk)
  subst hA
  have hml : c1 ≤ 9223372036854775807 := hc2
  have HX0 := hid hx0
  have T1 := hid (show RdSl rdAtom w.cell? 3 (some ⟨ab, ao, none⟩) (bd.take k) from rd_take hx1)
  have T2 := hid (show RdSl rdAtom w.cell? 3 (some ⟨ab, ao + (k + 1) * 3, none⟩) (bd.drop (k + 1)) from rd_drop hx1)
  have l1 : (bd.take k).length = k := by simp; omega
  have l2 : (bd.drop (k + 1)).length = bd.length - (k + 1) := by simp
  obtain ⟨P1, eP1⟩ : ∃ P, bd.take k = P := ⟨_, rfl⟩
  obtain ⟨P2, eP2⟩ : ∃ P, bd.drop (k + 1) = P := ⟨_, rfl⟩
  have HL : lessA bd k = P1 ++ P2 := by unfold lessA; rw [eP1, eP2]
  rw [HL]
  rw [eP1] at T1 l1
  rw [eP2] at T2 l2
  obtain ⟨n, hn⟩ : ∃ n, bd.length = n := ⟨_, rfl⟩
  rw [hn] at h2 hl1 hk hc l2
  clear hx0 hx1 eP1 eP2 HL hn hc2
  have BN := Blk.new w 26 #[.int .i64 0, .slice none 0 0, .slice none 0 0]
  have FN := (Fr.refl w).alloc (.cells #[.int .i64 0, .slice none 0 0, .slice none 0 0] 26)
  go_enter Tryz.func44, Tryz.ntmps44
  go_wp2_with fail
  generalize w.alloc (.cells #[.int .i64 0, .slice none 0 0, .slice none 0 0] 26) = w1 at BN FN ⊢
  replace h0 := FN.cell h0
  replace h1 := FN.cell h1
  replace h2 := FN.cell h2
  have g1 : decide ((c1 : Int) < (k : Int) + 1) = false := by simp; omega
  (refine wp_region_quiet_tail (fun w' => Fr _ w') 13 (by kernel_rfl) (by kernel_rfl) (Fr.refl _).drew ?_; simp only [List.take_succ_cons, List.take_zero, List.drop_succ_cons, List.drop_zero]; (repeat go_big_quiet_step (first | exact fun _ => rfl | exact fun _ => ⟨rfl, rfl⟩ | (intro hw'; replace h2 := hw'.cell h2; go_simp; first | done | exact rfl | exact ⟨rfl, rfl⟩) )); refine wpQuiet_nil ?_; intro wq hq)
  have FQ := FN.trans hq
  obtain ⟨o2, eo, T3⟩ : ∃ o2, (if c1 = k + 1 then some ⟨ab, ao, none⟩ else some ⟨ab, ao + (k + 1) * 3, none⟩ : Option Addr) = some ⟨ab, o2, none⟩ ∧ Hid (RdSl rdAtom w.cell? 3 (some ⟨ab, o2, none⟩) P2) := by
    by_cases h : c1 = k + 1
    · rw [if_pos h]
      refine ⟨ao, rfl, hid ?_⟩
      have : P2 = [] := List.eq_nil_of_length_eq_zero (by omega)
      rw [this]; exact RdSl.nil
    · rw [if_neg h]
      exact ⟨_, rfl, T2⟩
  rw [eo]
  replace h0 := hq.cell h0
  replace h1 := hq.cell h1
  replace BN := BN.fr hq
  have BP : Blk (wq.alloc (.cells #[.slice (some ⟨ab, ao, none⟩) P1.length c1, .slice (some ⟨ab, o2, none⟩) P2.length (c1 - (k + 1))] 24)) wq.heap.size 24 #[.slice (some ⟨ab, ao, none⟩) P1.length c1, .slice (some ⟨ab, o2, none⟩) P2.length (c1 - (k + 1))] := Blk.new _ _ _
  have FP := FQ.alloc (.cells #[.slice (some ⟨ab, ao, none⟩) P1.length c1, .slice (some ⟨ab, o2, none⟩) P2.length (c1 - (k + 1))] 24)
  have CC := concatW wq.heap.size 2 ab ao ab o2 c1 (c1 - (k + 1)) P1 P2 _ BP (T1.out.fr rdAtom_mono FP) (T3.out.fr rdAtom_mono FP) (by omega) (by omega)
  rw [l1, l2] at CC FP
  have HCC := hid CC
  clear CC BP T1 T2 T3 eo h2 g1
  go_wp2_with fail
  refine HCC.out.mono ?_
  rintro r w3 ⟨v3, rfl, hO3, hF3⟩
  obtain ⟨A3, k3, rfl⟩ := own_form hO3
  have F3 : Fr wq w3 := ((Fr.refl wq).alloc _).trans hF3
  have FW3 := FQ.trans F3
  have HO3 := hid (own_base hO3 (show w.heap.size ≤ _ from FP.size))
  replace h0 := F3.cell h0
  replace h1 := F3.cell h1
  replace BN := BN.fr F3
  have C0 := hid (fun W (h : Fr w3 W) => copiedIntsO A0 c0 hd W (HX0.out.fr rdInt_mono (FW3.trans h)) (by omega))
  obtain ⟨N0, eN0⟩ : ∃ N, (P1 ++ P2).length = N := ⟨_, rfl⟩
  rw [eN0] at HO3
  clear HCC hO3 hF3 F3 FP
  have hw3 := FW3.size
  obtain ⟨z0, z1, z2, zf0, zf1, zf2⟩ := BN.three
  go_wp2_with fail
  have hbw : ¬ (b = w.heap.size) := by omega
  have keepL : ∀ W' : World, Ch (· = w.heap.size) w3 W' → (Ch (· = w.heap.size) w3 W' ∧ W'.cell? ⟨b, 0, none⟩ = some (.int .i64 q) ∧ W'.cell? ⟨b, 1, none⟩ = some (.slice A0 hd.length c0)) := fun W' F => ⟨F, F.cell hbw h0, F.cell hbw h1⟩
  go_region_held3 (fun W' => Ch (· = w.heap.size) w3 W' ∧ W'.cell? ⟨b, 0, none⟩ = some (.int .i64 q) ∧ W'.cell? ⟨b, 1, none⟩ = some (.slice A0 hd.length c0)) ((refine keepL _ ?_; (repeat (first | with_reducible exact Ch.refl _ | with_reducible assumption | with_reducible refine Ch.alloc ?_ _ | with_reducible refine Ch.drew ?_ | with_reducible refine Ch.setAt ?_ _ () | with_reducible refine Ch.trans ?_ (by assumption))); done))
    (first
      | (go_at_call 41; (with_reducible refine (C0.out _ ?_).mono ?_); (· (repeat (first | with_reducible exact Fr.refl _ | with_reducible assumption | with_reducible refine Fr.alloc ?_ _ | with_reducible refine Fr.drew ?_ | with_reducible refine Fr.drewN ?_ _ | (with_reducible refine Fr.setNew2 ?_ ?_ _; · (simp <;> omega)) | with_reducible refine Fr.trans ?_ (by assumption)))); rintro r4 w4 ⟨B4, k4, rfl, hO4, hF4⟩; have F4 : Fr w3 w4 := Fr.trans (by (repeat (first | with_reducible exact Fr.refl _ | with_reducible assumption | with_reducible refine Fr.alloc ?_ _ | with_reducible refine Fr.drew ?_ | with_reducible refine Fr.drewN ?_ _ | (with_reducible refine Fr.setNew2 ?_ ?_ _; · (simp <;> omega)) | with_reducible refine Fr.trans ?_ (by assumption)))) hF4; have HO4 := hid (own_base hO4 (show w.heap.size ≤ _ from Nat.le_trans hw3 (Fr.size (w := w3) (by (repeat (first | with_reducible exact Fr.refl _ | with_reducible assumption | with_reducible refine Fr.alloc ?_ _ | with_reducible refine Fr.drew ?_ | with_reducible refine Fr.drewN ?_ _ | (with_reducible refine Fr.setNew2 ?_ ?_ _; · (simp <;> omega)) | with_reducible refine Fr.trans ?_ (by assumption))))))); clear hO4; have C4 : Ch (· = w.heap.size) w3 w4 := F4.ch; have B5 := BN.fr F4; obtain ⟨z0', z1', z2', zf0', zf1', zf2'⟩ := B5.three; have TT : Ch (· = w.heap.size) w3 (((w4.setCell ⟨w.heap.size, 0, none⟩ (.int .i64 q)).setCell ⟨w.heap.size, 1, none⟩ (.slice B4 hd.length k4)).setCell ⟨w.heap.size, 2, none⟩ (.slice A3 N0 k3)) := Ch.setAt (Ch.setAt (Ch.setAt C4 _ ()) _ ()) _ ())
      | fail)
  have BF := ((B5.set_ 0 (.int .i64 q)).set_ 1 (.slice B4 hd.length k4)).set_ 2 (.slice A3 N0 k3)
  have O4 := mrow_set (o := 2) (u := .slice A3 N0 k3) (mrow_set (o := 1) (u := .slice B4 hd.length k4) (mrow_set (o := 0) (u := .int .i64 q) HO4.out (mrow_ne HO4.out B5 (by decide))) (mrow_ne HO4.out B5 (by decide))) (mrow_ne HO4.out B5 (by decide))
  have HO3' := own_fr HO3.out F4
  have O3 := mrow_set (o := 2) (u := .slice A3 N0 k3) (mrow_set (o := 1) (u := .slice B4 hd.length k4) (mrow_set (o := 0) (u := .int .i64 q) HO3' (mrow_ne HO3' B5 (by decide))) (mrow_ne HO3' B5 (by decide))) (mrow_ne HO3' B5 (by decide))
  have FE : Fr w _ := TT.fr (fun j hj => by have : j = w.heap.size := hj; omega) FW3
  have RES := hid (And.intro (show RulOut w.heap.size q hd (P1 ++ P2) (.returned (.agg #[.int .i64 q, .slice B4 hd.length k4, .slice A3 N0 k3])) _ from ⟨B4, k4, A3, k3, by rw [eN0], O4, by rw [eN0]; exact O3⟩) FE)
  obtain ⟨y0, y1, y2, _⟩ := BF.three
  clear O3 O4 HO3' TT C4 BF B5 BN FE keepL C0 h0 h1
  generalize (((w4.setCell ⟨w.heap.size, 0, none⟩ (.int .i64 q)).setCell ⟨w.heap.size, 1, none⟩ (.slice B4 hd.length k4)).setCell ⟨w.heap.size, 2, none⟩ (.slice A3 N0 k3)) = w9 at RES y0 y1 y2 ⊢
  go_wp2
  refine bodyPost_ret (v := .agg #[.int .i64 q, .slice B4 hd.length k4, .slice A3 N0 k3]) (by simp [results, Tryz.results44, go_sem, y0, y1, y2]) rfl ?_
  exact RES.out
end Go.Proofs.YtahclhldpcboeaaGreatDoor
