/- Plan: a tree of expressions, ints and plans: how it lies in memory, how an argument of it opens, its size. -/
import Derived.Test.YtlmiadeaiiehaaaMkT
import Derived.Test.YtlmiadeaiiehaaaIntsB
namespace Go.Proofs.Ytlmiadeaiiehaaa
open Go Go.RowKit

inductive Pl where
  | mk (kind : Int) (table : Int) (exprs : List Ex) (cols : List Int) (kids : List Pl)
def Pl.kind : Pl → Int | .mk x _ _ _ _ => x
def Pl.table : Pl → Int | .mk _ x _ _ _ => x
def Pl.exprs : Pl → List Ex | .mk _ _ x _ _ => x
def Pl.cols : Pl → List Int | .mk _ _ _ x _ => x
def Pl.kids : Pl → List Pl | .mk _ _ _ _ ks => ks
/-- A plan of at most n levels in memory. -/
def rdPl : Nat → Rd Pl
  | 0 => fun _ _ _ => False
  | n + 1 => fun m c e => c 0 = some (.int .i64 e.kind) ∧ c 1 = some (.int .i64 e.table) ∧ rdSlice (rdEx n) 5 m (fun j => c (2 + j)) e.exprs ∧ rdSlice rdInt 1 m (fun j => c (3 + j)) e.cols ∧ rdSlice (rdPl n) 5 m (fun j => c (4 + j)) e.kids
theorem rdPl_mono : ∀ n, RdMono (rdPl n)
  | 0 => fun _ _ _ _ _ _ _ h => h
  | n + 1 => fun m m' _ _ _ hm hc h => ⟨hc _ _ h.1, hc _ _ h.2.1, rdSlice_mono (rdEx_mono n) m m' _ _ _ hm (fun _ _ hv => hc _ _ hv) h.2.2.1, rdSlice_mono rdInt_mono m m' _ _ _ hm (fun _ _ hv => hc _ _ hv) h.2.2.2.1, rdSlice_mono (rdPl_mono n) m m' _ _ _ hm (fun _ _ hv => hc _ _ hv) h.2.2.2.2⟩
theorem rdSlice_imp {X : Type} {rd rd' : Rd X} {sz : Nat} {m : Mv} {c : Nat → Option Value} {xs : List X} (h : rdSlice rd sz m c xs) (hi : ∀ m c x, rd m c x → rd' m c x) : rdSlice rd' sz m c xs := by
  obtain ⟨A, cap, h0, h1, h2⟩ := h
  exact ⟨A, cap, h0, fun hne => by obtain ⟨b, o, hA, hc⟩ := h1 hne; exact ⟨b, o, hA, fun i hi' => hi _ _ _ (hc i hi')⟩, h2⟩
theorem rdPl_up : ∀ (n : Nat) m c e, rdPl n m c e → rdPl (n + 1) m c e
  | 0, _, _, _, h => h.elim
  | n + 1, m, c, e, h => ⟨h.1, h.2.1, rdSlice_imp h.2.2.1 (rdEx_up n), h.2.2.2.1, rdSlice_imp h.2.2.2.2 (rdPl_up n)⟩
theorem rdPl_le {n n' : Nat} (h : n ≤ n') {m : Mv} {c : Nat → Option Value} {e : Pl} (hr : rdPl n m c e) : rdPl n' m c e := by
  induction h with
  | refl => exact hr
  | step _ ih => exact rdPl_up _ _ _ _ ih
theorem RdSl.pl0 {m : Mv} {A : Option Addr} {xs : List Pl} (h : RdSl (rdPl 0) m 5 A xs) : xs = [] := by
  cases xs with
  | nil => rfl
  | cons a r => obtain ⟨b, o, hA, hc⟩ := h (by simp); exact (hc 0 (by simp)).elim
/-- The three slices of a plan. -/
structure Sl3 where
  a0 : Option Addr
  c0 : Nat
  a1 : Option Addr
  c1 : Nat
  a2 : Option Addr
  c2 : Nat
/-- The cells of a plan whose slices are s. -/
def cellsP (e : Pl) (s : Sl3) : List Value := [.int .i64 e.kind, .int .i64 e.table, .slice s.a0 e.exprs.length s.c0, .slice s.a1 e.cols.length s.c1, .slice s.a2 e.kids.length s.c2]
abbrev plV (e : Pl) (s : Sl3) : Value := .agg #[.int .i64 e.kind, .int .i64 e.table, .slice s.a0 e.exprs.length s.c0, .slice s.a1 e.cols.length s.c1, .slice s.a2 e.kids.length s.c2]
/-- The slices read as the plan's lists. -/
structure PlOk (n : Nat) (m : Mv) (e : Pl) (s : Sl3) : Prop where
  r0 : RdSl (rdEx n) m 5 s.a0 e.exprs
  l0 : e.exprs.length ≤ maxLen
  k0 : e.exprs.length ≤ s.c0
  r1 : RdSl rdInt m 1 s.a1 e.cols
  l1 : e.cols.length ≤ maxLen
  k1 : e.cols.length ≤ s.c1
  r2 : RdSl (rdPl n) m 5 s.a2 e.kids
  l2 : e.kids.length ≤ maxLen
  k2 : e.kids.length ≤ s.c2
theorem PlOk.mono {n : Nat} {m m' : Mv} {e : Pl} {s : Sl3} (h : PlOk n m e s) (hm : Mle m m') : PlOk n m' e s :=
  ⟨h.r0.mono (rdEx_mono n) hm, h.l0, h.k0, h.r1.mono rdInt_mono hm, h.l1, h.k1, h.r2.mono (rdPl_mono n) hm, h.l2, h.k2⟩
theorem PlOk.fr {n : Nat} {w w' : World} {e : Pl} {s : Sl3} (h : PlOk n w.cell? e s) (hf : Fr w w') : PlOk n w'.cell? e s := h.mono hf.mle
theorem rdPl_ok {n : Nat} {m : Mv} {c : Nat → Option Value} {e : Pl} (h : rdPl (n + 1) m c e) : ∃ s : Sl3, c 0 = some (.int .i64 e.kind) ∧ c 1 = some (.int .i64 e.table) ∧ c 2 = some (.slice s.a0 e.exprs.length s.c0) ∧ c 3 = some (.slice s.a1 e.cols.length s.c1) ∧ c 4 = some (.slice s.a2 e.kids.length s.c2) ∧ PlOk n m e s := by
  obtain ⟨g0, g1, ⟨A0, c0, h0, h1, h2, h3⟩, ⟨A1, c1, i0, i1, i2, i3⟩, ⟨A2, c2, j0, j1, j2, j3⟩⟩ := h
  exact ⟨⟨A0, c0, A1, c1, A2, c2⟩, g0, g1, h0, i0, j0, h1, h2, h3, i1, i2, i3, j1, j2, j3⟩
theorem ok_rdPl {n : Nat} {m : Mv} {c : Nat → Option Value} {e : Pl} {s : Sl3} (g0 : c 0 = some (.int .i64 e.kind)) (g1 : c 1 = some (.int .i64 e.table)) (g2 : c 2 = some (.slice s.a0 e.exprs.length s.c0)) (g3 : c 3 = some (.slice s.a1 e.cols.length s.c1)) (g4 : c 4 = some (.slice s.a2 e.kids.length s.c2)) (h : PlOk n m e s) : rdPl (n + 1) m c e :=
  ⟨g0, g1, ⟨_, _, g2, h.r0, h.l0, h.k0⟩, ⟨_, _, g3, h.r1, h.l1, h.k1⟩, ⟨_, _, g4, h.r2, h.l2, h.k2⟩⟩
theorem RdSl.pl {n : Nat} {m : Mv} {A : Option Addr} {xs : List Pl} (h : RdSl (rdPl (n + 1)) m 5 A xs) {k : Nat} (hk : k < xs.length) :
    ∃ b o, ∃ s : Sl3, A = some ⟨b, o, none⟩ ∧ m ⟨b, o + k * 5, none⟩ = some (.int .i64 xs[k].kind) ∧ m ⟨b, o + k * 5 + 1, none⟩ = some (.int .i64 xs[k].table) ∧ m ⟨b, o + k * 5 + 2, none⟩ = some (.slice s.a0 xs[k].exprs.length s.c0) ∧ m ⟨b, o + k * 5 + 3, none⟩ = some (.slice s.a1 xs[k].cols.length s.c1) ∧ m ⟨b, o + k * 5 + 4, none⟩ = some (.slice s.a2 xs[k].kids.length s.c2) ∧ PlOk n m xs[k] s := by
  obtain ⟨b, o, hA, hc⟩ := h.at_ hk
  obtain ⟨s, g0, g1, g2, g3, g4, hs⟩ := rdPl_ok hc
  exact ⟨b, o, s, hA, g0, g1, g2, g3, g4, hs⟩
section
open Go.ChangeShapes Go.WideShapes
variable {H : Type} {enc : TypeId × Value → H} {W : World}
set_option maxRecDepth 100000 in
theorem op_pl (n : Nat) : Op enc Try.prog W n 42 5 (rdPl (n + 1)) := by
  induction n using Nat.strongRecOn with
  | _ n ih =>
    intro cs x h
    refine ⟨op_len Try.underlying42 (by kernel_rfl) h, ?_⟩
    obtain ⟨a0, h0⟩ := op_field (rd := rdIntB) (i := 0) (off := 0) (sz := 1) rdIntB_mono Try.underlying42 rfl rfl (by kernel_rfl) (fun k _ => op_int Try.underlying3) h
    obtain ⟨a1, h1⟩ := op_field (rd := rdIntB) (i := 1) (off := 1) (sz := 1) rdIntB_mono Try.underlying42 rfl rfl (by kernel_rfl) (fun k _ => op_int Try.underlying3) h
    obtain ⟨a2, h2⟩ := op_field (rd := rdSlice (rdEx n) 5) (i := 2) (off := 2) (sz := 1) (rdSlice_mono (rdEx_mono n)) Try.underlying42 rfl rfl (by kernel_rfl) (fun k hk => op_slice (rdEx_mono n) Try.underlying39 (by kernel_rfl) (by decide) (fun j hj cs x hh => by obtain ⟨q, a, ha⟩ := op_ex j cs x hh; exact ⟨q, a, rdEx_le (by omega) ha⟩)) h
    obtain ⟨a3, h3⟩ := op_field (rd := rdSlice rdInt 1) (i := 3) (off := 3) (sz := 1) (rdSlice_mono rdInt_mono) Try.underlying42 rfl rfl (by kernel_rfl) (fun k _ => op_slice rdInt_mono Try.underlying26 (by kernel_rfl) (by decide) (fun _ _ cs x hh => by obtain ⟨q, a, ha⟩ := op_int Try.underlying3 cs x hh; exact ⟨q, a, ha.1⟩)) h
    obtain ⟨a4, h4⟩ := op_field (rd := rdSlice (rdPl n) 5) (i := 4) (off := 4) (sz := 1) (rdSlice_mono (rdPl_mono n)) Try.underlying42 rfl rfl (by kernel_rfl) (fun k hk => op_slice (rdPl_mono n) Try.underlying40 (by kernel_rfl) (by decide) (fun j hj cs x hh => by obtain ⟨q, a, ha⟩ := ih j (by omega) cs x hh; exact ⟨q, a, rdPl_le (by omega) ha⟩)) h
    exact ⟨.mk a0 a1 a2 a3 a4, h0.1, h1.1, h2, h3, h4⟩
set_option maxRecDepth 100000 in
theorem open_pl {base : Nat} {v : Value} {d : DataW H} {p : List MemPlace} (hv : Value.okWide Try.prog W .any base 42 v) (h : DataW.Trod enc Try.prog W 0 (fun _ => true) true 42 v d p) :
    ∃ n, ∃ e : Pl, ∃ s : Sl3, v = plV e s ∧ PlOk n W.cell? e s := by
  obtain ⟨cs, rfl, hsz⟩ := okWide_struct Try.underlying42 hv
  obtain ⟨hs, e, n, hr⟩ := arg_agg (rd := fun m c e => ∃ n, rdPl n m c e) h (fun n cs x h => by obtain ⟨q, a, ha⟩ := op_pl n cs x h; exact ⟨q, a, n + 1, ha⟩)
  cases n with
  | zero => exact hr.elim
  | succ n =>
    obtain ⟨s, g0, g1, g2, g3, g4, ho⟩ := rdPl_ok hr
    exact ⟨n, e, s, by rw [arr5 hs g0 g1 g2 g3 g4], ho⟩
end
def sumP (f : Pl → Nat) : List Pl → Nat
  | [] => 0
  | x :: r => f x + sumP f r
theorem sumP_take {f : Pl → Nat} {xs : List Pl} {k : Nat} (hk : k < xs.length) : sumP f (xs.take (k + 1)) = sumP f (xs.take k) + f xs[k] := by
  induction xs generalizing k with
  | nil => simp at hk
  | cons x r ih =>
    cases k with
    | zero => simp [sumP]
    | succ k =>
      simp only [List.length_cons] at hk
      simp only [List.take_succ_cons, sumP, List.getElem_cons_succ]
      rw [ih (by omega)]; omega
theorem sumP_le {f : Pl → Nat} {xs : List Pl} (k : Nat) : sumP f (xs.take k) ≤ sumP f xs := by
  induction xs generalizing k with
  | nil => simp
  | cons x r ih =>
    cases k with
    | zero => simp [sumP]
    | succ k =>
      simp only [List.take_succ_cons, sumP]
      have := ih k
      omega
theorem sumP_at {f : Pl → Nat} {xs : List Pl} {k : Nat} (hk : k < xs.length) : f xs[k] ≤ sumP f xs := by
  have h1 := sumP_take (f := f) hk
  have h2 := sumP_le (f := f) (xs := xs) (k + 1)
  omega
theorem sumP_mul {f g : Pl → Nat} (h : ∀ x, f x ≤ 4 * g x) : ∀ xs, sumP f xs ≤ 4 * sumP g xs
  | [] => Nat.le_refl _
  | x :: r => by simp only [sumP]; have := sumP_mul h r; have := h x; omega
/-- The size of a list of plans, of a plan. -/
def szT : Nat → List Pl → Nat
  | 0, xs => xs.length
  | n + 1, xs => xs.length + sumP (fun x => tot n x.exprs + x.cols.length + szT n x.kids) xs
def ndT (n : Nat) (x : Pl) : Nat := tot n x.exprs + x.cols.length + szT n x.kids
theorem szT_succ (n : Nat) (xs : List Pl) : szT (n + 1) xs = xs.length + sumP (ndT n) xs := rfl
theorem szT_len (n : Nat) (xs : List Pl) : xs.length ≤ szT n xs := by cases n <;> simp only [szT] <;> omega
theorem szT_kid {n : Nat} {xs : List Pl} {k : Nat} (hk : k < xs.length) : ndT n xs[k] + 1 ≤ szT (n + 1) xs := by
  rw [szT_succ]
  have := sumP_at (f := ndT n) hk
  omega
theorem sumT_at {f : Ex → Nat} {xs : List Ex} {k : Nat} (hk : k < xs.length) : f xs[k] ≤ sumT f xs := by
  have h1 := sumT_take (f := f) hk
  have h2 := sumT_le (f := f) (xs := xs) (k + 1)
  omega
theorem exSm_tot : ∀ {n : Nat} {xs : List Ex}, tot n xs ≤ 1048576 → exSm n xs
  | 0, _, h => h
  | n + 1, xs, h => ⟨by have := tot_len (n + 1) xs; omega, fun i hi => exSm_tot (by
      have h1 := sumT_at (f := fun x => tot n x.kids) hi
      simp only [tot] at h
      omega)⟩
/-- What a small plan is made of. -/
theorem ndT_parts {n : Nat} {x : Pl} (h : ndT n x ≤ 1048576) : tot n x.exprs ≤ 1048576 ∧ exSm n x.exprs ∧ x.exprs.length ≤ 1048576 ∧ x.cols.length ≤ 1048576 ∧ szT n x.kids ≤ 1048576 ∧ x.kids.length ≤ 1048576 := by
  unfold ndT at h
  have h1 : tot n x.exprs ≤ 1048576 := by omega
  have h2 := szT_len n x.kids
  exact ⟨h1, exSm_tot h1, exSm_len (exSm_tot h1), by omega, by omega, by omega⟩
theorem ndT_kid {n : Nat} {x : Pl} (h : ndT (n + 1) x ≤ 1048576) {k : Nat} (hk : k < x.kids.length) : ndT n x.kids[k] ≤ 1048576 := by
  have := szT_kid (n := n) hk
  unfold ndT at h ⊢
  unfold ndT at this
  omega
def plSzS (n : Nat) : Prop := ∀ (A : Option Addr) (cap : Nat) (xs : List Pl) (left : Int) (w : World), RdSl (rdPl n) w.cell? 5 A xs → xs.length ≤ maxLen → 0 ≤ left → left ≤ 1048576 →
    Calls Try.prog 34 #[.slice A xs.length cap, .int .i64 left] w fun e w' => ∃ r : Int, e = .returned (.int .i64 r) ∧ (r = -1 ∨ (0 ≤ r ∧ r = left - szT n xs)) ∧ Fr w w'
theorem szPl {n : Nat} (hS : plSzS n) (e : Pl) (s : Sl3) (left : Int) (w : World) (hx : PlOk n w.cell? e s) (h0 : 0 ≤ left) (h1 : left ≤ 1048576) :
    Calls Try.prog 14 #[plV e s, .int .i64 left] w fun r w' => ∃ q : Int, r = .returned (.int .i64 q) ∧ (q = -1 ∨ (0 ≤ q ∧ q = left - ndT n e)) ∧ Fr w w' := by
  obtain ⟨A0, c0, A1, c1, A2, c2⟩ := s
  have HX := hid hx
  have HS := hid hS
  clear hx hS
  unfold plV
  simp only
  go_enter Try.func14, Try.ntmps14
  go_wp2_with fail
  refine absW fun V0 hV0 => ?_
  have VA : Blk V0 w.heap.size 42 #[.int .i64 e.kind, .int .i64 e.table, .slice A0 e.exprs.length c0, .slice A1 e.cols.length c1, .slice A2 e.kids.length c2] := by rw [hV0]; exact Blk.new _ _ _
  have VF : Fr w V0 := by rw [hV0]; (repeat (first | with_reducible exact Fr.refl _ | with_reducible assumption | with_reducible refine Fr.alloc ?_ _ | with_reducible refine Fr.drew ?_ | with_reducible refine Fr.drewN ?_ _ | (with_reducible refine Fr.setNew2 ?_ ?_ _; · (simp <;> omega)) | with_reducible refine Fr.trans ?_ (by assumption)))
  clear hV0
  refine (szExS n A0 c0 e.exprs left V0 (HX.out.r0.fr (rdEx_mono n) VF) HX.out.l0 h0 h1).mono ?_
  rintro r w1 ⟨rfl, b1⟩
  obtain ⟨q, hq⟩ : ∃ q, exSz n left e.exprs = q := ⟨_, rfl⟩
  rcases exSz_tot n left e.exprs h0 h1 with h | ⟨h2, h3⟩
  · rw [hq] at h
    rw [hq]
    subst h
    clear hq
    go_wp2
    go_ret
    exact ⟨-1, rfl, .inl rfl, VF.trans b1⟩
  · rw [hq] at h2 h3
    rw [hq]
    have H3 := hid h3
    clear hq h3
    have d0 : decide (q < 0) = false := by simp; omega
    have q1 : q ≤ 1048576 := by have := H3.out; omega
    have VA1 := VA.fr b1
    obtain ⟨a0, a1, a2, a3, a4, _⟩ := VA1.five
    go_wp2_with fail
    refine (szInts A1 e.cols.length c1 q w1 HX.out.l1 h2 q1).mono ?_
    rintro r w2 ⟨rfl, rfl⟩
    by_cases hl : q < (e.cols.length : Int)
    · rw [if_pos hl]
      go_wp2
      go_ret
      exact ⟨-1, rfl, .inl rfl, VF.trans b1⟩
    · rw [if_neg hl]
      obtain ⟨p, hp⟩ : ∃ p, q - (e.cols.length : Int) = p := ⟨_, rfl⟩
      have p0 : 0 ≤ p := by omega
      have p1 : p ≤ 1048576 := by omega
      have d1 : decide (p < 0) = false := by simp; omega
      rw [hp]
      have HP := hid hp
      clear hp
      go_wp2_with fail
      refine (HS.out A2 c2 e.kids p w1 (HX.out.r2.fr (rdPl_mono n) (VF.trans b1)) HX.out.l2 p0 p1).mono ?_
      rintro r w2 ⟨v, rfl, hv, b2⟩
      rcases hv with rfl | ⟨h4, h5⟩
      · go_wp2
        go_ret
        exact ⟨-1, rfl, .inl rfl, (VF.trans b1).trans b2⟩
      · have d2 : decide (v < 0) = false := by simp; omega
        have H5 := hid h5
        clear h5
        go_wp2
        go_ret
        exact ⟨v, rfl, .inr ⟨h4, by have := H3.out; have := HP.out; have := H5.out; unfold ndT; omega⟩, (VF.trans b1).trans b2⟩
set_option maxRecDepth 100000 in
set_option maxHeartbeats 1000000 in
theorem szPlS (n : Nat) : plSzS n := by
  induction n using Nat.strongRecOn with
  | _ n ih =>
    intro A cap xs left w hx hm h0 h1
    have HX := hid hx
    have IH := hid ih
    clear hx ih
    unfold maxLen at hm
    by_cases hl : left < (xs.length : Int)
    · go_enter Try.func34, Try.ntmps34
      go_wp2
      go_ret
      exact ⟨-1, rfl, .inl rfl, Fr.refl _⟩
    · have d0 : decide (left - (xs.length : Int) < 0) = false := by simp; omega
      cases n with
      | zero =>
        obtain rfl := HX.out.pl0
        go_enter Try.func34, Try.ntmps34
        go_wp2
        refine wp_loop_rounds 1 ?_
        rw [rounds_succ]
        go_wp2
        go_ret
        exact ⟨left, by simp, .inr ⟨h0, by simp [szT]⟩, Fr.refl _⟩
      | succ n =>
        go_enter Try.func34, Try.ntmps34
        go_wp2
        clear d0
        go_loopw [1, 5] (fun l t wr => ∃ (k : Nat) (N : Int), k ≤ xs.length ∧ t = .int .i64 k ∧ l = .int .i64 N ∧ 0 ≤ N ∧ N ≤ 1048576 ∧ Fr w wr ∧ Hid (N = left - xs.length - sumP (ndT n) (xs.take k))) (fun _ t _ => xs.length - (intOf t).toNat)
        case atStart => exact ⟨0, _, by omega, rfl, rfl, by omega, by omega, Fr.refl _, hid (by simp [sumP])⟩
        case round =>
          obtain ⟨k, N, hk, rfl, rfl, l0, l1, hf, hv⟩ := hrel
          by_cases hlt : k < xs.length
          · obtain ⟨b, o, s, hA, d0, d1, d2, d3, d4, ok⟩ := HX.out.pl hlt
            subst hA
            have OK := hid (ok.fr hf)
            clear ok
            replace d0 := hf.cell d0
            replace d1 := hf.cell d1
            replace d2 := hf.cell d2
            replace d3 := hf.cell d3
            replace d4 := hf.cell d4
            go_wp2_with fail
            refine (szPl (IH.out n (by omega)) xs[k] s N _ OK.out l0 l1).mono ?_
            rintro r w1 ⟨v, rfl, hv1, b1⟩
            rcases hv1 with rfl | ⟨q1, q2⟩
            · go_wp2
              go_ret
              exact ⟨-1, rfl, .inl rfl, hf.trans b1⟩
            · have d0 : decide (v < 0) = false := by simp; omega
              have Q2 := hid q2
              clear q2
              have v1 : v ≤ 1048576 := by have := Q2.out; omega
              go_wp2
              go_roundw
              case rel => exact ⟨k + 1, v, by omega, by go_num, rfl, q1, v1, hf.trans b1, hid (by rw [sumP_take hlt]; have := Q2.out; have := hv.out; omega)⟩
              case measure => simp [intOf]; omega
          · go_wp2
            go_ret
            exact ⟨N, rfl, .inr ⟨l0, by rw [szT_succ]; have h := hv.out; rw [List.take_of_length_le (by omega)] at h; omega⟩, hf⟩
end Go.Proofs.Ytlmiadeaiiehaaa
