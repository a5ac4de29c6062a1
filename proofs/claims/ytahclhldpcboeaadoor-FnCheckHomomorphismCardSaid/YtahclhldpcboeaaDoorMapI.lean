/- Walks of the program's functions that map variables: copied at ints, mapTo. -/
import Derived.Test.YtahclhldpcboeaaDoorHmP
import Derived.Test.YtahclhldpcboeaaDoorExtW
namespace Go.Proofs.YtahclhldpcboeaaDoor
open Go Go.RowKit

/-- Memory but for one block. -/
def noB (w : World) (g : Nat) : Mv := fun p => if p.block = g then none else w.cell? p
theorem noB_le (w : World) (g : Nat) : Mle (noB w g) w.cell? := fun p v h => by
  unfold noB at h; split at h
  · cases h
  · exact h
theorem noB_ch {w w' : World} {g : Nat} (h : Ch (· = g) w w') : Mle (noB w g) (noB w' g) := fun p v e => by
  unfold noB at e ⊢; split at e
  · cases e
  · rename_i hp; rw [if_neg hp]; exact h.cell hp e
theorem noB_fr {w w' : World} {g : Nat} (h : Fr w w') : Mle (noB w g) (noB w' g) := fun p v e => by
  unfold noB at e ⊢; split at e
  · cases e
  · rename_i hp; rw [if_neg hp]; exact h.cell e
theorem noB_old {w w' : World} {g : Nat} (h : Fr w w') (hg : w.heap.size ≤ g) : Mle w.cell? (noB w' g) := fun p v e => by
  unfold noB
  rw [if_neg (by have := cell_lt e; omega)]
  exact h.cell e
theorem noB_cell {w : World} {g : Nat} {p : Addr} {v : Value} (h : noB w g p = some v) : w.cell? p = some v ∧ p.block ≠ g := by
  unfold noB at h; split at h
  · cases h
  · rename_i hp; exact ⟨h, hp⟩
theorem iAt_map (m : List Int) : IAt (m.map iv).toArray m := fun i h => by simp [iv, h]
set_option maxRecDepth 100000 in
set_option maxHeartbeats 1000000 in
theorem copiedInts (A : Option Addr) (cap : Nat) (q : List Int) (w : World) (hx : RdSl rdInt w.cell? 1 A q) (hl : q.length ≤ 1048576) (hne : 0 < q.length) :
    Calls Tryd.prog 49 #[.slice A q.length cap] w fun r w' => r = .returned (.slice (some ⟨w.heap.size, 0, none⟩) q.length q.length) ∧ Blk w' w.heap.size 3 (q.map iv).toArray ∧ Fr w w' ∧ w'.heap.size = w.heap.size + 1 := by
  have hne' : q ≠ [] := by intro e; rw [e] at hne; simp at hne
  obtain ⟨b, o, hA, hc⟩ := hx hne'
  subst hA
  have HC := hid (show ∀ (j : Nat) u, (q.map iv)[j]? = some u → w.cell? ⟨b, o + j, none⟩ = some u from fun j u hu => by
    rw [List.getElem?_map] at hu
    cases hj : q[j]? with
    | none => rw [hj] at hu; simp at hu
    | some x =>
      rw [hj] at hu
      obtain ⟨hlt, rfl⟩ := List.getElem?_eq_some_iff.1 hj
      have h := hc j hlt
      simp only [rdInt, Nat.mul_one, Nat.add_zero] at h
      rw [h]; exact hu)
  clear hc hx
  have e0 : ((q.length : Int) == 0) = false := by simp; exact hne'
  have hmk := mk_row (P := Tryd.prog) 22 3 (.int .i64 0) 1 8 Tryd.underlying22 (by kernel_rfl) q.length (by omega) (by omega)
  have hone : (q.map iv).all (·.oneCell') = true := by
    rw [List.all_eq_true]
    intro x hx
    obtain ⟨y, _, rfl⟩ := List.mem_map.1 hx
    rfl
  have hlen : (q.map iv).length = q.length * 1 := by simp
  clear hne'
  go_enter Tryd.func49, Tryd.ntmps49
  go_wp2_with (refine wp_copyNew rfl _ _ 22 rfl 3 (.int .i64 0) 1 8 Tryd.underlying22 (by kernel_rfl) w.heap.size q.length rfl 3 _ (Blk.new _ _ _) (by simp [made_size]) b o cap rfl (q.map iv) hlen (fun j u hu => ((Fr.refl w).alloc _).cell (HC.out j u hu)) hone ?_; intro w5 hB5 hC5 hs5)
  go_ret
  exact ⟨rfl, hB5, hC5.fr (fun k hk => by omega) ((Fr.refl w).alloc _), by rw [hs5]; simp⟩
theorem fitV_low {B : Int} {m : List Int} {v x : Int} (h : Rng B m) (h0 : 0 ≤ v) (h1 : v < m.length) : fitV m v x = (var m v == -1 || var m v == x) := by
  have := (h.var h0 h1).1
  unfold fitV
  congr 1
  rw [Bool.eq_iff_iff]
  simp
  omega
/-- What mapTo holds at pair k. -/
def MpInv (w : World) (mb mc sz : Nat) (B : Int) (n : Nat) (vs xs m : List Int) (k : Nat) (wr : World) : Prop :=
  ∃ m' cs, Blk wr mb 3 cs ∧ IAt cs m' ∧ cs.size = sz ∧ m'.length = n ∧ Rng B m' ∧ bindH (vs.drop k) (xs.drop k) m' = bindH vs xs m ∧ Ch (· = mb) w wr
set_option maxRecDepth 100000 in
set_option maxHeartbeats 2000000 in
theorem mapToW (mb mc : Nat) (cs : Array Value) (V X : Option Addr) (vc xc : Nat) (m vs xs : List Int) (B : Int) (w : World) (hB : Blk w mb 3 cs) (hI : IAt cs m) (hs : m.length ≤ cs.size) (hm : m.length ≤ 1000)
    (hx : RdSl rdInt (noB w mb) 1 V vs) (hy : RdSl rdInt (noB w mb) 1 X xs) (hl : vs.length ≤ 1000) (hl2 : xs.length ≤ 1000000) (hv : ∀ v ∈ vs, 0 ≤ v ∧ v < m.length) (hr : Rng B m) (hxr : ∀ x ∈ xs, 0 ≤ x ∧ x < B) :
    Calls Tryd.prog 68 #[.slice (some ⟨mb, 0, none⟩) m.length mc, .slice V vs.length vc, .slice X xs.length xc] w fun r w' => r = .returned (.bool (bindH vs xs m).isSome) ∧ Ch (· = mb) w w' ∧ ∃ m' cs', Blk w' mb 3 cs' ∧ IAt cs' m' ∧ cs'.size = cs.size ∧ m'.length = m.length ∧ ∀ m1, bindH vs xs m = some m1 → m' = m1 := by
  have HX := hid hx
  have HY := hid hy
  have HV := hid hv
  have HXR := hid hxr
  by_cases hlen : vs.length = xs.length
  · have hlen2 : ((vs.length : Int) == (xs.length : Int)) = true := by simp [hlen]
    have I0 : Hid (MpInv w mb mc cs.size B m.length vs xs m 0 w) := hid ⟨m, cs, hB, hI, rfl, rfl, hr, rfl, Ch.refl w⟩
    obtain ⟨n, hn⟩ : ∃ n, m.length = n := ⟨_, rfl⟩
    obtain ⟨sz, hsz⟩ : ∃ sz, cs.size = sz := ⟨_, rfl⟩
    rw [hn, hsz] at I0
    rw [hn] at HV hm
    rw [hn, hsz] at hs
    simp only [hn, hsz]
    clear hx hy hv hxr hB hI hr hn hsz
    have HLEN := hid hlen
    clear hlen
    go_enter Tryd.func68, Tryd.ntmps68
    go_wp2_with fail
    go_loopw [16] (fun t wr => ∃ k : Nat, k ≤ vs.length ∧ t = .int .i64 k ∧ Hid (MpInv w mb mc sz B n vs xs m k wr)) (fun t _ => vs.length - (intOf t).toNat)
    case atStart => exact ⟨0, by omega, rfl, I0⟩
    case round =>
      obtain ⟨k, hk, rfl, INV⟩ := hrel
      obtain ⟨m', cs', hB', hI', hs', hn', hr', hb', hC'⟩ := INV.out
      by_cases hlt : k < vs.length
      · have hlt2 : k < xs.length := by rw [← HLEN.out]; exact hlt
        obtain ⟨ab, ao, hA, h0⟩ := (HX.out.mono rdInt_mono (noB_ch hC')).at_ hlt
        obtain ⟨yb, yo, hY, g0⟩ := (HY.out.mono rdInt_mono (noB_ch hC')).at_ hlt2
        subst hA hY
        simp only [rdInt, Nat.mul_one, Nat.add_zero] at h0 g0
        replace h0 := (noB_cell h0).1
        replace g0 := (noB_cell g0).1
        obtain ⟨v0, v1⟩ := HV.out vs[k] (List.getElem_mem hlt)
        obtain ⟨v, ev⟩ : ∃ v : Nat, vs[k] = v := ⟨vs[k].toNat, by omega⟩
        rw [ev] at h0 v0 v1
        obtain ⟨x, ex⟩ : ∃ x, xs[k] = x := ⟨_, rfl⟩
        rw [ex] at g0
        have hvn : v < n := by omega
        obtain ⟨y, ey⟩ : ∃ y, var m' v = y := ⟨_, rfl⟩
        have y0 : wr.cell? ⟨mb, v, none⟩ = some (.int .i64 y) := by
          rw [hB'.cell, hI' v (by omega), ← ey, var_at rfl (by omega)]
        have yf := hB'.frozen v
        have hfz : ∀ w1, Fr wr w1 → w1.frozen? ⟨mb, v, none⟩ = false := fun w1 h => h.frozen y0 yf
        have hfit : fitV m' v x = (y == -1 || y == x) := by rw [fitV_low hr' (by omega) (by omega), ey]
        have hx1 := HXR.out xs[k] (List.getElem_mem hlt2)
        rw [ex] at hx1
        by_cases hok : fitV m' v x = true
        · have NEXT := hid (show ∀ w1, Fr wr w1 → MpInv w mb mc sz B n vs xs m (k + 1) (w1.setCell ⟨mb, v, none⟩ (.int .i64 x)) from fun w1 hf => ⟨m'.set v x, _, (hB'.fr hf).set_ v _, hI'.set (by omega), by simp [hs'], by simp [hn'], by
            have := hr'.put (v := v) hx1.1 hx1.2
            exact this, by
            rw [← hb', bindH_step hlt hlt2 (by rw [ev, ex]; exact hok), ev, ex]; rfl, (hC'.trans hf.ch).set (.inl rfl) _⟩)
          rw [hfit] at hok
          by_cases e1 : y = -1
          · have q1 : (y != -1) = false := by simp [e1]
            clear hB' hI' hr' hb' hC' INV hfit hok ey
            go_wp2_with fail
            (refine wp_region_quietC (fun w' => Fr _ w') (by kernel_rfl) (by kernel_rfl) (Fr.refl _).drew ?_; (repeat go_big_quiet_step (first | exact fun _ => rfl | exact fun _ => ⟨rfl, rfl⟩ | (intro hw'; replace y0 := hw'.cell y0; replace g0 := hw'.cell g0; go_simp; first | done | exact rfl | exact ⟨rfl, rfl⟩) )); refine wpQuiet_nil ?_; intro wq hq)
            replace g0 := hq.cell g0
            replace y0 := hq.cell y0
            replace yf := hfz wq hq
            have NX := hid (NEXT.out wq hq)
            clear NEXT
            go_wp2
            go_roundw
            case rel => exact ⟨k + 1, by omega, by go_num, NX⟩
            case measure => simp [intOf]; omega
          · have q1 : (y == -1) = false := by simp [e1]
            have q2 : (y != x) = false := by rw [q1] at hok; simpa using hok
            replace q1 : (y != -1) = true := by simp [e1]
            clear hB' hI' hr' hb' hC' INV hfit hok ey
            go_wp2_with fail
            (refine wp_region_quietC (fun w' => Fr _ w') (by kernel_rfl) (by kernel_rfl) (Fr.refl _).drew ?_; (repeat go_big_quiet_step (first | exact fun _ => rfl | exact fun _ => ⟨rfl, rfl⟩ | (intro hw'; replace y0 := hw'.cell y0; replace g0 := hw'.cell g0; go_simp; first | done | exact rfl | exact ⟨rfl, rfl⟩) )); refine wpQuiet_nil ?_; intro wq hq)
            replace g0 := hq.cell g0
            replace y0 := hq.cell y0
            replace yf := hfz wq hq
            have NX := hid (NEXT.out wq hq)
            clear NEXT
            go_wp2
            go_roundw
            case rel => exact ⟨k + 1, by omega, by go_num, NX⟩
            case measure => simp [intOf]; omega
        · have hno : fitV m' v x = false := by simpa using hok
          have hnone : bindH vs xs m = none := by rw [← hb', bindH_stop hlt hlt2 (by rw [ev, ex]; exact hno)]
          rw [hfit] at hno
          have q1 : (y == -1) = false := by
            cases h : (y == -1)
            · rfl
            · rw [h] at hno; simp at hno
          have q2 : (y != x) = true := by rw [q1] at hno; simpa using hno
          replace q1 : (y != -1) = true := by simpa using q1
          have RES := hid (show ∀ w1, Fr wr w1 → Ending.returned (.bool false) = Ending.returned (.bool (bindH vs xs m).isSome) ∧ Ch (· = mb) w w1 ∧ ∃ m' cs', Blk w1 mb 3 cs' ∧ IAt cs' m' ∧ cs'.size = sz ∧ m'.length = n ∧ ∀ m1, bindH vs xs m = some m1 → m' = m1 from fun w1 hf => ⟨by rw [hnone]; rfl, hC'.trans hf.ch, m', cs', hB'.fr hf, hI', hs', hn', fun m1 h => by rw [hnone] at h; cases h⟩)
          clear hB' hI' hr' hb' hC' INV hfit hok ey hnone
          go_wp2_with fail
          (refine wp_region_quietC (fun w' => Fr _ w') (by kernel_rfl) (by kernel_rfl) (Fr.refl _).drew ?_; (repeat go_big_quiet_step (first | exact fun _ => rfl | exact fun _ => ⟨rfl, rfl⟩ | (intro hw'; replace y0 := hw'.cell y0; replace g0 := hw'.cell g0; go_simp; first | done | exact rfl | exact ⟨rfl, rfl⟩) )); refine wpQuiet_nil ?_; intro wq hq)
          go_wp2
          go_ret
          exact RES.out _ hq
      · obtain rfl : k = vs.length := by omega
        rw [bindH_end (Nat.le_refl _) HLEN.out.symm] at hb'
        have RES := hid (show Ending.returned (.bool true) = Ending.returned (.bool (bindH vs xs m).isSome) ∧ Ch (· = mb) w wr ∧ ∃ m' cs', Blk wr mb 3 cs' ∧ IAt cs' m' ∧ cs'.size = sz ∧ m'.length = n ∧ ∀ m1, bindH vs xs m = some m1 → m' = m1 from ⟨by rw [← hb']; rfl, hC', m', cs', hB', hI', hs', hn', fun m1 h => by rw [← hb'] at h; injection h⟩)
        clear hB' hI' hr' hb' hC' INV
        go_wp2
        go_ret
        exact RES.out
  · have hlen2 : ((vs.length : Int) == (xs.length : Int)) = false := by simp; omega
    have hnone : bindH vs xs m = none := bindH_ne hlen
    have RES := hid (show Ending.returned (.bool false) = Ending.returned (.bool (bindH vs xs m).isSome) ∧ Ch (· = mb) w w ∧ ∃ m' cs', Blk w mb 3 cs' ∧ IAt cs' m' ∧ cs'.size = cs.size ∧ m'.length = m.length ∧ ∀ m1, bindH vs xs m = some m1 → m' = m1 from ⟨by rw [hnone]; rfl, Ch.refl w, m, cs, hB, hI, rfl, rfl, fun m1 h => by rw [hnone] at h; cases h⟩)
    clear hx hy hv hxr hB hI hr hlen hnone
    go_enter Tryd.func68, Tryd.ntmps68
    go_wp2
    go_ret
    exact RES.out
end Go.Proofs.YtahclhldpcboeaaDoor
