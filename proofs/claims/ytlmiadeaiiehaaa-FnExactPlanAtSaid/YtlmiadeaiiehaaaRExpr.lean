/- Expr: a tree: how it lies in memory, how an argument of it opens, and the walks of its size, copy and comparison. -/
import Derived.Test.YtlmiadeaiiehaaaProg
import Derived.Test.YtlmiadeaiiehaaaOpen
import Derived.Test.YtlmiadeaiiehaaaMemQ
import Derived.Test.YtlmiadeaiiehaaaMem
import Derived.Test.YtlmiadeaiiehaaaTValue
import Derived.WalkKit
import Derived.WalkSpells
import Derived.WalkLawsBesides
import Derived.BigQuiet
import Derived.Deep.QuietTactic
import Derived.StillTailTactics
namespace Go.Proofs.Ytlmiadeaiiehaaa
open Go Go.RowKit

inductive Ex where
  | mk (kind : Int) (col : Int) (val : V) (kids : List Ex)
def Ex.kind : Ex → Int | .mk x _ _ _ => x
def Ex.col : Ex → Int | .mk _ x _ _ => x
def Ex.val : Ex → V | .mk _ _ x _ => x
def Ex.kids : Ex → List Ex | .mk _ _ _ ks => ks
/-- A tree of at most n levels in memory. -/
def rdEx : Nat → Rd Ex
  | 0 => fun _ _ _ => False
  | n + 1 => fun m c e => c 0 = some (.int .i64 e.kind) ∧ c 1 = some (.int .i64 e.col) ∧ c 2 = some (.bool e.val.null) ∧ c 3 = some (.int .i64 e.val.n) ∧ rdSlice (rdEx n) 5 m (fun j => c (4 + j)) e.kids
theorem rdEx_mono : ∀ n, RdMono (rdEx n)
  | 0 => fun _ _ _ _ _ _ _ h => h
  | n + 1 => fun m m' _ _ _ hm hc h => ⟨hc _ _ h.1, hc _ _ h.2.1, hc _ _ h.2.2.1, hc _ _ h.2.2.2.1, rdSlice_mono (rdEx_mono n) m m' _ _ _ hm (fun _ _ hv => hc _ _ hv) h.2.2.2.2⟩
theorem rdEx_up : ∀ (n : Nat) m c e, rdEx n m c e → rdEx (n + 1) m c e
  | 0, _, _, _, h => h.elim
  | n + 1, m, c, e, h => by
    obtain ⟨A, cap, h0, h1, h2⟩ := h.2.2.2.2
    exact ⟨h.1, h.2.1, h.2.2.1, h.2.2.2.1, A, cap, h0, fun hne => by obtain ⟨b, o, hA, hc⟩ := h1 hne; exact ⟨b, o, hA, fun i hi => rdEx_up n _ _ _ (hc i hi)⟩, h2⟩
theorem rdEx_le {n n' : Nat} (h : n ≤ n') {m : Mv} {c : Nat → Option Value} {e : Ex} (hr : rdEx n m c e) : rdEx n' m c e := by
  induction h with
  | refl => exact hr
  | step _ ih => exact rdEx_up _ _ _ _ ih
theorem RdSl.ex0 {m : Mv} {A : Option Addr} {xs : List Ex} (h : RdSl (rdEx 0) m 5 A xs) : xs = [] := by
  cases xs with
  | nil => rfl
  | cons a r => obtain ⟨b, o, hA, hc⟩ := h (by simp); exact (hc 0 (by simp)).elim
theorem RdSl.ex {n : Nat} {m : Mv} {A : Option Addr} {xs : List Ex} (h : RdSl (rdEx (n + 1)) m 5 A xs) {k : Nat} (hk : k < xs.length) :
    ∃ b o B c, A = some ⟨b, o, none⟩ ∧ m ⟨b, o + k * 5, none⟩ = some (.int .i64 xs[k].kind) ∧ m ⟨b, o + k * 5 + 1, none⟩ = some (.int .i64 xs[k].col) ∧ m ⟨b, o + k * 5 + 2, none⟩ = some (.bool xs[k].val.null) ∧ m ⟨b, o + k * 5 + 3, none⟩ = some (.int .i64 xs[k].val.n) ∧ m ⟨b, o + k * 5 + 4, none⟩ = some (.slice B xs[k].kids.length c) ∧ RdSl (rdEx n) m 5 B xs[k].kids ∧ xs[k].kids.length ≤ maxLen := by
  obtain ⟨b, o, hA, hc⟩ := h.at_ hk
  obtain ⟨g0, g1, g2, g3, B, c, h0, h1, h2, _⟩ := hc
  exact ⟨b, o, B, c, hA, g0, g1, g2, g3, h0, h1, h2⟩
section
open Go.ChangeShapes Go.WideShapes
variable {H : Type} {enc : TypeId × Value → H} {W : World}
set_option maxRecDepth 100000 in
theorem op_ex (n : Nat) : Op enc Try.prog W n 91 5 (rdEx (n + 1)) := by
  induction n using Nat.strongRecOn with
  | _ n ih =>
    intro cs x h
    refine ⟨op_len Try.underlying91 (by kernel_rfl) h, ?_⟩
    obtain ⟨a0, h0⟩ := op_field (rd := rdIntB) (i := 0) (off := 0) (sz := 1) rdIntB_mono Try.underlying91 rfl rfl (by kernel_rfl) (fun k _ => op_int Try.underlying3) h
    obtain ⟨a1, h1⟩ := op_field (rd := rdIntB) (i := 1) (off := 1) (sz := 1) rdIntB_mono Try.underlying91 rfl rfl (by kernel_rfl) (fun k _ => op_int Try.underlying3) h
    obtain ⟨a2, h2⟩ := op_field (rd := rdV) (i := 2) (off := 2) (sz := 2) rdV_mono Try.underlying91 rfl rfl (by kernel_rfl) (fun k _ => op_v _) h
    obtain ⟨a3, h3⟩ := op_field (rd := rdSlice (rdEx n) 5) (i := 3) (off := 4) (sz := 1) (rdSlice_mono (rdEx_mono n)) Try.underlying91 rfl rfl (by kernel_rfl) (fun k hk => op_slice (rdEx_mono n) Try.underlying39 (by kernel_rfl) (by decide) (fun j hj cs x hh => by obtain ⟨q, a, ha⟩ := ih j (by omega) cs x hh; exact ⟨q, a, rdEx_le (by omega) ha⟩)) h
    exact ⟨.mk a0 a1 a2 a3, h0.1, h1.1, h2.1, h2.2, h3⟩
set_option maxRecDepth 100000 in
theorem open_ex {base : Nat} {v : Value} {d : DataW H} {p : List MemPlace} (hv : Value.okWide Try.prog W .any base 91 v) (h : DataW.Trod enc Try.prog W 0 (fun _ => true) true 91 v d p) :
    ∃ n, ∃ e : Ex, ∃ A c, v = .agg #[.int .i64 e.kind, .int .i64 e.col, .bool e.val.null, .int .i64 e.val.n, .slice A e.kids.length c] ∧ RdSl (rdEx n) W.cell? 5 A e.kids ∧ e.kids.length ≤ maxLen := by
  obtain ⟨cs, rfl, hsz⟩ := okWide_struct Try.underlying91 hv
  obtain ⟨hs, e, n, hr⟩ := arg_agg (rd := fun m c e => ∃ n, rdEx n m c e) h (fun n cs x h => by obtain ⟨q, a, ha⟩ := op_ex n cs x h; exact ⟨q, a, n + 1, ha⟩)
  cases n with
  | zero => exact hr.elim
  | succ n =>
    obtain ⟨g0, g1, g2, g3, A, c, h0, h1, h2, _⟩ := hr
    refine ⟨n, e, A, c, ?_, h1, h2⟩
    rw [arr5 hs g0 g1 g2 g3 h0]
end
def exSzL (f : Int → Ex → Int) : Int → List Ex → Int
  | left, [] => left
  | left, x :: r => if f left x < 0 then -1 else exSzL f (f left x) r
def exSz : Nat → Int → List Ex → Int
  | 0, left, xs => if left < (xs.length : Int) then -1 else left - xs.length
  | n + 1, left, xs => if left < (xs.length : Int) then -1 else exSzL (fun l e => exSz n l e.kids) (left - xs.length) xs
def exSm : Nat → List Ex → Prop
  | 0, xs => xs.length ≤ 1048576
  | n + 1, xs => xs.length ≤ 1048576 ∧ ∀ i (h : i < xs.length), exSm n xs[i].kids
theorem exSm_len {n : Nat} {xs : List Ex} (h : exSm n xs) : xs.length ≤ 1048576 := by
  cases n with
  | zero => exact h
  | succ n => exact h.1
theorem exSzL_facts {f : Int → Ex → Int} {P : Ex → Prop} (hf : ∀ l e, 0 ≤ l → l ≤ 1048576 → f l e = -1 ∨ (0 ≤ f l e ∧ f l e ≤ l ∧ P e)) : ∀ (xs : List Ex) (l : Int), 0 ≤ l → l ≤ 1048576 → exSzL f l xs = -1 ∨ (0 ≤ exSzL f l xs ∧ exSzL f l xs ≤ l ∧ ∀ x ∈ xs, P x)
  | [], l, h, _ => .inr ⟨h, Int.le_refl _, fun x hx => by simp at hx⟩
  | x :: r, l, h, h' => by
    unfold exSzL
    rcases hf l x h h' with h1 | ⟨h1, h2, h3⟩
    · left; rw [if_pos (by omega)]
    · rw [if_neg (by omega)]
      rcases exSzL_facts hf r (f l x) h1 (by omega) with h4 | ⟨h4, h5, h6⟩
      · exact .inl h4
      · exact .inr ⟨h4, by omega, fun y hy => by
          rcases List.mem_cons.1 hy with rfl | hy
          · exact h3
          · exact h6 y hy⟩
theorem exSz_facts : ∀ (n : Nat) (left : Int) (xs : List Ex), 0 ≤ left → left ≤ 1048576 → exSz n left xs = -1 ∨ (0 ≤ exSz n left xs ∧ exSz n left xs ≤ left ∧ exSm n xs)
  | 0, left, xs, h, h' => by
    unfold exSz exSm
    by_cases hl : left < (xs.length : Int)
    · left; rw [if_pos hl]
    · right; rw [if_neg hl]; omega
  | n + 1, left, xs, h, h' => by
    unfold exSz exSm
    by_cases hl : left < (xs.length : Int)
    · left; rw [if_pos hl]
    · rw [if_neg hl]
      rcases exSzL_facts (P := fun e => exSm n e.kids) (fun l e h1 h2 => exSz_facts n l e.kids h1 h2) xs (left - xs.length) (by omega) (by omega) with h1 | ⟨h1, h2, h3⟩
      · exact .inl h1
      · exact .inr ⟨h1, by omega, by omega, fun i hi => h3 _ (List.getElem_mem hi)⟩
theorem exSzL_at {f : Int → Ex → Int} {xs : List Ex} {k : Nat} (hk : k < xs.length) (l : Int) : exSzL f l (xs.drop k) = if f l xs[k] < 0 then -1 else exSzL f (f l xs[k]) (xs.drop (k + 1)) := by
  rw [List.drop_eq_getElem_cons hk]; rfl
def exSzS (n : Nat) : Prop := ∀ (A : Option Addr) (cap : Nat) (xs : List Ex) (left : Int) (w : World), RdSl (rdEx n) w.cell? 5 A xs → xs.length ≤ maxLen → 0 ≤ left → left ≤ 1048576 →
    Calls Try.prog 32 #[.slice A xs.length cap, .int .i64 left] w fun e w' => e = .returned (.int .i64 (exSz n left xs)) ∧ Fr w w'
theorem szEx {n : Nat} (hS : exSzS n) (e : Ex) (A : Option Addr) (cap : Nat) (left : Int) (w : World) (hx : RdSl (rdEx n) w.cell? 5 A e.kids) (hm : e.kids.length ≤ maxLen) (h0 : 0 ≤ left) (h1 : left ≤ 1048576) :
    Calls Try.prog 58 #[.agg #[.int .i64 e.kind, .int .i64 e.col, .bool e.val.null, .int .i64 e.val.n, .slice A e.kids.length cap], .int .i64 left] w fun r w' => r = .returned (.int .i64 (exSz n left e.kids)) ∧ Fr w w' := by
  have F0 : Fr w (w.alloc (.cells #[.int .i64 e.kind, .int .i64 e.col, .bool e.val.null, .int .i64 e.val.n, .slice A e.kids.length cap] 91)) := (Fr.refl _).alloc _
  have HX := hid (hx.fr (rdEx_mono n) F0)
  have HS := hid hS
  clear hx hS
  rcases exSz_facts n left e.kids h0 h1 with h | ⟨h2, h3, _⟩
  · have RR := hid h
    go_enter Try.func58, Try.ntmps58
    go_wp2_with fail
    refine (HS.out _ _ _ _ _ HX.out hm h0 h1).mono ?_
    rintro r w1 ⟨rfl, b1⟩
    rw [RR.out]
    go_wp2
    go_ret
    exact ⟨ret_int RR.out.symm, F0.trans b1⟩
  · have d0 : decide (exSz n left e.kids < 0) = false := by simp; omega
    go_enter Try.func58, Try.ntmps58
    go_wp2_with fail
    refine (HS.out _ _ _ _ _ HX.out hm h0 h1).mono ?_
    rintro r w1 ⟨rfl, b1⟩
    go_wp2
    go_ret
    exact ⟨rfl, F0.trans b1⟩
set_option maxRecDepth 100000 in
set_option maxHeartbeats 1000000 in
theorem szExS (n : Nat) : exSzS n := by
  induction n using Nat.strongRecOn with
  | _ n ih =>
    intro A cap xs left w hx hm h0 h1
    have HX := hid hx
    have IH := hid ih
    clear hx ih
    unfold maxLen at hm
    by_cases hl : left < (xs.length : Int)
    · have RR := hid (show exSz n left xs = -1 by cases n <;> exact if_pos hl)
      go_enter Try.func32, Try.ntmps32
      go_wp2
      go_ret
      exact ⟨ret_int RR.out.symm, Fr.refl _⟩
    · have d0 : decide (left - (xs.length : Int) < 0) = false := by simp; omega
      cases n with
      | zero =>
        obtain rfl := HX.out.ex0
        have RR := hid (show exSz 0 left [] = left by simp [exSz]; omega)
        go_enter Try.func32, Try.ntmps32
        go_wp2
        refine wp_loop_rounds 1 ?_
        rw [rounds_succ]
        go_wp2
        go_ret
        exact ⟨ret_int RR.out.symm, Fr.refl _⟩
      | succ n =>
        have RR := hid (show exSz (n + 1) left xs = exSzL (fun l e => exSz n l e.kids) (left - xs.length) xs from if_neg hl)
        go_enter Try.func32, Try.ntmps32
        go_wp2
        clear d0
        go_loopw [1, 5] (fun l t wr => ∃ (k : Nat) (N : Int), k ≤ xs.length ∧ t = .int .i64 k ∧ l = .int .i64 N ∧ 0 ≤ N ∧ N ≤ 1048576 ∧ Fr w wr ∧ Hid (exSz (n + 1) left xs = exSzL (fun l e => exSz n l e.kids) N (xs.drop k))) (fun _ t _ => xs.length - (intOf t).toNat)
        case atStart => exact ⟨0, _, by omega, rfl, rfl, by omega, by omega, Fr.refl _, RR⟩
        case round =>
          obtain ⟨k, N, hk, rfl, rfl, l0, l1, hf, hv⟩ := hrel
          by_cases hlt : k < xs.length
          · obtain ⟨b, o, B, c, hA, d0, d1, d2, d3, cK, rK, mK⟩ := HX.out.ex hlt
            subst hA
            have RK := hid (rK.fr (rdEx_mono n) hf)
            clear rK
            replace d0 := hf.cell d0
            replace d1 := hf.cell d1
            replace d2 := hf.cell d2
            replace d3 := hf.cell d3
            replace cK := hf.cell cK
            have hv' := hid (hv.out.trans (exSzL_at hlt N))
            have MK := hid mK
            unfold maxLen at mK
            rcases exSz_facts n N xs[k].kids l0 l1 with hq | ⟨q1, q2, _⟩
            · have HQ := hid hq
              have R1 := hid (show exSz (n + 1) left xs = -1 by rw [hv'.out, if_pos (by rw [hq]; decide)])
              clear hq
              go_wp2_with fail
              refine (szEx (IH.out n (by omega)) _ _ _ _ _ RK.out MK.out l0 l1).mono ?_
              rintro r w1 ⟨rfl, b1⟩
              rw [HQ.out]
              go_wp2
              go_ret
              exact ⟨ret_int R1.out.symm, hf.trans b1⟩
            · have d0 : decide (exSz n N xs[k].kids < 0) = false := by simp; omega
              have R1 := hid (show exSz (n + 1) left xs = exSzL (fun l e => exSz n l e.kids) (exSz n N xs[k].kids) (xs.drop (k + 1)) by rw [hv'.out, if_neg (by omega)])
              go_wp2_with fail
              refine (szEx (IH.out n (by omega)) _ _ _ _ _ RK.out MK.out l0 l1).mono ?_
              rintro r w1 ⟨rfl, b1⟩
              go_wp2
              go_roundw
              case rel => exact ⟨k + 1, _, by omega, by go_num, rfl, by omega, by omega, hf.trans b1, R1⟩
              case measure => simp [intOf]; omega
          · have R1 := hid (show exSz (n + 1) left xs = N by rw [hv.out, List.drop_eq_nil_of_le (by omega)]; rfl)
            go_wp2
            go_ret
            exact ⟨ret_int R1.out.symm, hf⟩
def exToS (n : Nat) : Prop := ∀ (A : Option Addr) (cap : Nat) (xs : List Ex) (w : World), RdSl (rdEx n) w.cell? 5 A xs → exSm n xs →
    Calls Try.prog 37 #[.slice A xs.length cap] w fun e w' => ∃ g, e = .returned (.slice (some ⟨g, 0, none⟩) xs.length xs.length) ∧ RdSl (rdEx n) (fromB w' w.heap.size) 5 (some ⟨g, 0, none⟩) xs ∧ Fr w w'
set_option maxHeartbeats 1000000 in
theorem toEx {n : Nat} (hS : exToS n) (e : Ex) (A : Option Addr) (cap : Nat) (w : World) (hx : RdSl (rdEx n) w.cell? 5 A e.kids) (hm : exSm n e.kids) :
    Calls Try.prog 60 #[.agg #[.int .i64 e.kind, .int .i64 e.col, .bool e.val.null, .int .i64 e.val.n, .slice A e.kids.length cap]] w fun r w' => ∃ g, r = .returned (.agg #[.int .i64 e.kind, .int .i64 e.col, .bool e.val.null, .int .i64 e.val.n, .slice (some ⟨g, 0, none⟩) e.kids.length e.kids.length]) ∧ RdSl (rdEx n) (fromB w' w.heap.size) 5 (some ⟨g, 0, none⟩) e.kids ∧ Fr w w' := by
  have HX := hid hx
  have HS := hid hS
  clear hx hS
  go_enter Try.func60, Try.ntmps60
  go_wp2_with fail
  refine absW fun V0 hV0 => ?_
  have VA : Blk V0 w.heap.size 91 #[.int .i64 e.kind, .int .i64 e.col, .bool e.val.null, .int .i64 e.val.n, .slice A e.kids.length cap] := by
    rw [hV0]; exact ((Blk.new _ _ _).alloc _).alloc _
  have VR : Blk V0 (w.heap.size + 1) 93 #[.int .i64 0, .int .i64 0, .bool false, .int .i64 0, .slice none 0 0] := by
    have := Blk.new (w.alloc (.cells #[.int .i64 e.kind, .int .i64 e.col, .bool e.val.null, .int .i64 e.val.n, .slice A e.kids.length cap] 91)) 93 #[.int .i64 0, .int .i64 0, .bool false, .int .i64 0, .slice none 0 0]
    rw [World.size_alloc] at this
    rw [hV0]; exact this.alloc _
  have VL : Blk V0 (w.heap.size + 2) 93 #[.int .i64 e.kind, .int .i64 e.col, .bool false, .int .i64 0, .slice none 0 0] := by
    have := Blk.new ((w.alloc (.cells #[.int .i64 e.kind, .int .i64 e.col, .bool e.val.null, .int .i64 e.val.n, .slice A e.kids.length cap] 91)).alloc (.cells #[.int .i64 0, .int .i64 0, .bool false, .int .i64 0, .slice none 0 0] 93)) 93 #[.int .i64 e.kind, .int .i64 e.col, .bool false, .int .i64 0, .slice none 0 0]
    rw [World.size_alloc, World.size_alloc] at this
    rw [hV0]; exact this
  have VF : Fr w V0 := by rw [hV0]; (repeat (first | with_reducible exact Fr.refl _ | with_reducible assumption | with_reducible refine Fr.alloc ?_ _ | with_reducible refine Fr.drew ?_ | with_reducible refine Fr.drewN ?_ _ | (with_reducible refine Fr.setNew2 ?_ ?_ _; · (simp <;> omega)) | with_reducible refine Fr.trans ?_ (by assumption)))
  clear hV0
  have vs := VL.lt
  refine (toV _ _ _).mono ?_
  rintro r v1 ⟨rfl, vb⟩
  obtain ⟨p0, p1, p2, p3, p4, f0, f1, f2, f3, f4⟩ := (VL.fr vb).five
  obtain ⟨a0, a1, a2, a3, a4, _⟩ := (VA.fr vb).five
  go_wp2_with fail
  refine absW fun W0 hW0 => ?_
  have BA0 : Blk W0 w.heap.size 91 #[.int .i64 e.kind, .int .i64 e.col, .bool e.val.null, .int .i64 e.val.n, .slice A e.kids.length cap] := by rw [hW0]; exact ((VA.fr vb).far (by dsimp only; omega) _).far (by dsimp only; omega) _
  have BR0 : Blk W0 (w.heap.size + 1) 93 #[.int .i64 0, .int .i64 0, .bool false, .int .i64 0, .slice none 0 0] := by rw [hW0]; exact ((VR.fr vb).far (by dsimp only; omega) _).far (by dsimp only; omega) _
  have BL0 : Blk W0 (w.heap.size + 2) 93 #[.int .i64 e.kind, .int .i64 e.col, .bool e.val.null, .int .i64 e.val.n, .slice none 0 0] := by rw [hW0]; exact ((VL.fr vb).set_ 2 _).set_ 3 _
  have F0 : Fr w W0 := by rw [hW0]; exact ((VF.trans vb).setNew (by dsimp only; omega) _).setNew (by dsimp only; omega) _
  clear hW0 p0 p1 p2 p3 p4 f0 f1 f2 f3 f4 a0 a1 a2 a3 a4
  have s0 := BL0.lt
  refine (HS.out _ _ _ _ (HX.out.fr (rdEx_mono n) F0) hm).mono ?_
  rintro r w1 ⟨g, rfl, x1, b1⟩
  have X1 := hid x1
  clear x1
  obtain ⟨p0, p1, p2, p3, p4, f0, f1, f2, f3, f4⟩ := (BL0.fr b1).five
  obtain ⟨d0, d1, d2, d3, d4, e0, e1, e2, e3, e4⟩ := (BR0.fr b1).five
  go_wp2
  have RR := (((((((BR0.fr b1).far (p := ⟨w.heap.size + 1 + 1, 4, none⟩) (by simp) (.slice (some ⟨g, 0, none⟩) e.kids.length e.kids.length)).set_ 0 (.int .i64 e.kind)).set_ 1 (.int .i64 e.col)).set_ 2 (.bool e.val.null)).set_ 3 (.int .i64 e.val.n)).set_ 4 (.slice (some ⟨g, 0, none⟩) e.kids.length e.kids.length)).five
  have s1 : w.heap.size + 2 < w1.heap.size := (BL0.fr b1).lt
  have C : Ch (fun k => k = w.heap.size + 1 ∨ k = w.heap.size + 2) w1 ((((((w1.setCell ⟨w.heap.size + 1 + 1, 4, none⟩ (.slice (some ⟨g, 0, none⟩) e.kids.length e.kids.length)).setCell ⟨w.heap.size + 1, 0, none⟩ (.int .i64 e.kind)).setCell ⟨w.heap.size + 1, 1, none⟩ (.int .i64 e.col)).setCell ⟨w.heap.size + 1, 2, none⟩ (.bool e.val.null)).setCell ⟨w.heap.size + 1, 3, none⟩ (.int .i64 e.val.n)).setCell ⟨w.heap.size + 1, 4, none⟩ (.slice (some ⟨g, 0, none⟩) e.kids.length e.kids.length)) := Ch.set (Ch.set (Ch.set (Ch.set (Ch.set (Ch.set (Ch.refl _) (.inl (.inr rfl)) _) (.inl (.inl rfl)) _) (.inl (.inl rfl)) _) (.inl (.inl rfl)) _) (.inl (.inl rfl)) _) (.inl (.inl rfl)) _
  have L1 := C.mle_from (lo := W0.heap.size) (fun k hk => by omega)
  refine bodyPost_ret (v := .agg #[.int .i64 e.kind, .int .i64 e.col, .bool e.val.null, .int .i64 e.val.n, .slice (some ⟨g, 0, none⟩) e.kids.length e.kids.length]) ?_ rfl ⟨g, rfl, (X1.out.mono (rdEx_mono n) L1).mono (rdEx_mono n) (fromB_lo (by omega)), C.fr (fun k hk => by omega) (F0.trans b1)⟩
  obtain ⟨r0, r1, r2, r3, r4, _⟩ := RR
  simp [results, Try.results60, go_sem, r0, r1, r2, r3, r4]
set_option maxRecDepth 100000 in
set_option maxHeartbeats 1000000 in
theorem toExS (n : Nat) : exToS n := by
  induction n using Nat.strongRecOn with
  | _ n ih =>
    intro A cap xs w hx hm
    have HX := hid hx
    have IH := hid ih
    have hl := exSm_len hm
    have HM := hid hm
    clear hx ih hm
    have hmk := mk_row (P := Try.prog) 44 93 (.agg #[.int .i64 0, .int .i64 0, .bool false, .int .i64 0, .slice none 0 0]) 5 56 Try.underlying44 (by kernel_rfl) xs.length (by omega) (by omega)
    go_enter Try.func37, Try.ntmps37
    go_wp2
    go_loopw [4] (fun t wr => ∃ (k : Nat) (cs : Array Value), k ≤ xs.length ∧ t = .int .i64 k ∧ Fr w wr ∧ Blk wr w.heap.size 93 cs ∧ cs.size = xs.length * 5 ∧
        Hid (∀ i (h : i < xs.length), i < k → ∃ g, cs[i * 5]? = some (.int .i64 xs[i].kind) ∧ cs[i * 5 + 1]? = some (.int .i64 xs[i].col) ∧ cs[i * 5 + 2]? = some (.bool xs[i].val.null) ∧ cs[i * 5 + 3]? = some (.int .i64 xs[i].val.n) ∧ cs[i * 5 + 4]? = some (.slice (some ⟨g, 0, none⟩) xs[i].kids.length xs[i].kids.length) ∧ ∃ n', n = n' + 1 ∧ RdSl (rdEx n') (fromB wr (w.heap.size + 1)) 5 (some ⟨g, 0, none⟩) xs[i].kids)) (fun t _ => xs.length - (intOf t).toNat)
    case atStart => exact ⟨0, _, by omega, rfl, by (repeat (first | with_reducible exact Fr.refl _ | with_reducible assumption | with_reducible refine Fr.alloc ?_ _ | with_reducible refine Fr.drew ?_ | with_reducible refine Fr.drewN ?_ _ | (with_reducible refine Fr.setNew2 ?_ ?_ _; · (simp <;> omega)) | with_reducible refine Fr.trans ?_ (by assumption))), Blk.new _ _ _, by simp [made_size], hid fun i h h' => absurd h' (by omega)⟩
    case round =>
      obtain ⟨k, cs, hk, rfl, hf, hB, hz, HV⟩ := hrel
      have HZ := hid hz
      clear hz
      by_cases hlt : k < xs.length
      · cases n with
        | zero => exfalso; rw [HX.out.ex0] at hlt; simp at hlt
        | succ n =>
          obtain ⟨b, o, B, c, hA, d0, d1, d2, d3, cK, rK, _⟩ := HX.out.ex hlt
          subst hA
          have RK := hid (rK.fr (rdEx_mono n) hf)
          clear rK
          replace d0 := hf.cell d0
          replace d1 := hf.cell d1
          replace d2 := hf.cell d2
          replace d3 := hf.cell d3
          replace cK := hf.cell cK
          have hs := hB.lt
          go_wp2_with fail
          refine (toEx (IH.out n (by omega)) _ _ _ _ RK.out (HM.out.2 k hlt)).mono ?_
          rintro r w1 ⟨g, rfl, x1, b1⟩
          have X1 := hid x1
          clear x1 d0 d1 d2 d3 cK
          have hB1 := hB.fr b1
          obtain ⟨u0, d0⟩ := hB1.cell_some (i := k * 5) (by have := HZ.out; omega)
          have f0 := hB1.frozen (k * 5)
          obtain ⟨u1, d1⟩ := hB1.cell_some (i := k * 5 + 1) (by have := HZ.out; omega)
          have f1 := hB1.frozen (k * 5 + 1)
          obtain ⟨u2, d2⟩ := hB1.cell_some (i := k * 5 + 2) (by have := HZ.out; omega)
          have f2 := hB1.frozen (k * 5 + 2)
          obtain ⟨u3, d3⟩ := hB1.cell_some (i := k * 5 + 3) (by have := HZ.out; omega)
          have f3 := hB1.frozen (k * 5 + 3)
          obtain ⟨u4, d4⟩ := hB1.cell_some (i := k * 5 + 4) (by have := HZ.out; omega)
          have f4 := hB1.frozen (k * 5 + 4)
          go_wp2
          go_roundw
          case rel =>
            have C1 : Ch (· = w.heap.size) w1 (((((w1.setCell ⟨w.heap.size, k * 5, none⟩ (.int .i64 xs[k].kind)).setCell ⟨w.heap.size, k * 5 + 1, none⟩ (.int .i64 xs[k].col)).setCell ⟨w.heap.size, k * 5 + 2, none⟩ (.bool xs[k].val.null)).setCell ⟨w.heap.size, k * 5 + 3, none⟩ (.int .i64 xs[k].val.n)).setCell ⟨w.heap.size, k * 5 + 4, none⟩ (.slice (some ⟨g, 0, none⟩) xs[k].kids.length xs[k].kids.length)) := Ch.set (S := (· = w.heap.size)) (Ch.set (S := (· = w.heap.size)) (Ch.set (S := (· = w.heap.size)) (Ch.set (S := (· = w.heap.size)) (Ch.set (S := (· = w.heap.size)) (Ch.refl w1) (.inl rfl) _) (.inl rfl) _) (.inl rfl) _) (.inl rfl) _) (.inl rfl) _
            refine ⟨k + 1, _, by omega, by go_num, ((((((hf.trans b1).setNew (Nat.le_refl _) _).setNew (Nat.le_refl _) _).setNew (Nat.le_refl _) _).setNew (Nat.le_refl _) _).setNew (Nat.le_refl _) _), (((((hB1.set_ _ _).set_ _ _).set_ _ _).set_ _ _).set_ _ _), by simpa using HZ.out, hid fun i h hi => ?_⟩
            have hz := HZ.out
            by_cases e : i = k
            · subst e
              refine ⟨g, by simp only [Array.getElem?_setIfInBounds, Array.size_setIfInBounds]; simp; omega, by simp only [Array.getElem?_setIfInBounds, Array.size_setIfInBounds]; simp; omega, by simp only [Array.getElem?_setIfInBounds, Array.size_setIfInBounds]; simp; omega, by simp only [Array.getElem?_setIfInBounds, Array.size_setIfInBounds]; simp; omega, by simp only [Array.getElem?_setIfInBounds, Array.size_setIfInBounds]; simp; omega, n, rfl, X1.out.mono (rdEx_mono n) ((C1.mle_from (fun k hk => by omega)).trans (fromB_lo (by omega)))⟩
            · obtain ⟨g', q0, q1, q2, q3, hK, n', hn', h2⟩ := HV.out i h (by omega)
              refine ⟨g', by simp only [Array.getElem?_setIfInBounds, Array.size_setIfInBounds]; (repeat rw [if_neg (by omega)]); exact q0, by simp only [Array.getElem?_setIfInBounds, Array.size_setIfInBounds]; (repeat rw [if_neg (by omega)]); exact q1, by simp only [Array.getElem?_setIfInBounds, Array.size_setIfInBounds]; (repeat rw [if_neg (by omega)]); exact q2, by simp only [Array.getElem?_setIfInBounds, Array.size_setIfInBounds]; (repeat rw [if_neg (by omega)]); exact q3, by simp only [Array.getElem?_setIfInBounds, Array.size_setIfInBounds]; (repeat rw [if_neg (by omega)]); exact hK, n', by omega, h2.mono (rdEx_mono n') ((b1.mle_from _).trans (C1.mle_from (fun k hk => by omega)))⟩
          case measure => simp [intOf]; omega
      · obtain rfl : k = xs.length := by omega
        go_wp2
        go_ret
        refine ⟨_, rfl, fun hne => ⟨_, 0, rfl, fun i h => ?_⟩, hf⟩
        obtain ⟨g, q0, q1, q2, q3, hK, n', rfl, h2⟩ := HV.out i h h
        have cell : ∀ j, (fun j => fromB wr w.heap.size ⟨w.heap.size, 0 + i * 5 + j, none⟩) j = cs[i * 5 + j]? := fun j => by
          show (if w.heap.size ≤ w.heap.size then _ else none) = _
          rw [if_pos (Nat.le_refl _), hB.cell, Nat.zero_add]
        refine ⟨(cell 0).trans q0, (cell 1).trans q1, (cell 2).trans q2, (cell 3).trans q3, _, _, (cell 4).trans hK, h2.mono (rdEx_mono n') (fromB_lo (by omega)), ?_, Nat.le_refl _⟩
        have := exSm_len (HM.out.2 i h)
        unfold maxLen; omega
def exEqS (n : Nat) : Prop := ∀ (A A' : Option Addr) (cap cap' : Nat) (xs : List Ex) (w : World), RdSl (rdEx n) w.cell? 5 A xs → RdSl (rdEx n) w.cell? 5 A' xs → exSm n xs →
    Calls Try.prog 41 #[.slice A xs.length cap, .slice A' xs.length cap'] w fun e w' => e = .returned (.bool true) ∧ Fr w w'
set_option maxHeartbeats 1000000 in
theorem eqEx {n : Nat} (hS : exEqS n) (e : Ex) (A B : Option Addr) (cap cap' : Nat) (w : World) (hx : RdSl (rdEx n) w.cell? 5 A e.kids) (hy : RdSl (rdEx n) w.cell? 5 B e.kids) (hm : exSm n e.kids) :
    Calls Try.prog 65 #[.agg #[.int .i64 e.kind, .int .i64 e.col, .bool e.val.null, .int .i64 e.val.n, .slice A e.kids.length cap], .agg #[.int .i64 e.kind, .int .i64 e.col, .bool e.val.null, .int .i64 e.val.n, .slice B e.kids.length cap']] w fun r w' => r = .returned (.bool true) ∧ Fr w w' := by
  have HX := hid hx
  have HY := hid hy
  have HS := hid hS
  clear hx hy hS
  go_enter Try.func65, Try.ntmps65
  go_wp2_with fail
  refine absW fun W hW => ?_
  have BA : Blk W w.heap.size 93 #[.int .i64 e.kind, .int .i64 e.col, .bool e.val.null, .int .i64 e.val.n, .slice A e.kids.length cap] := by rw [hW]; exact (Blk.new _ _ _).alloc _
  have BB : Blk W (w.heap.size + 1) 93 #[.int .i64 e.kind, .int .i64 e.col, .bool e.val.null, .int .i64 e.val.n, .slice B e.kids.length cap'] := by
    have := Blk.new (w.alloc (.cells #[.int .i64 e.kind, .int .i64 e.col, .bool e.val.null, .int .i64 e.val.n, .slice A e.kids.length cap] 93)) 93 #[.int .i64 e.kind, .int .i64 e.col, .bool e.val.null, .int .i64 e.val.n, .slice B e.kids.length cap']
    rw [World.size_alloc] at this
    rw [hW]; exact this
  have F0 : Fr w W := by rw [hW]; (repeat (first | with_reducible exact Fr.refl _ | with_reducible assumption | with_reducible refine Fr.alloc ?_ _ | with_reducible refine Fr.drew ?_ | with_reducible refine Fr.drewN ?_ _ | (with_reducible refine Fr.setNew2 ?_ ?_ _; · (simp <;> omega)) | with_reducible refine Fr.trans ?_ (by assumption)))
  clear hW
  have ev : (decide (e.val.null = e.val.null) && decide (e.val.n = e.val.n)) = true := by simp
  refine (eqV _ _ _ _ _).mono ?_
  rintro r w0 ⟨rfl, b0⟩
  rw [ev]
  obtain ⟨a0, a1, a2, a3, a4, _⟩ := (BA.fr b0).five
  obtain ⟨c0, c1, c2, c3, c4, _⟩ := (BB.fr b0).five
  go_wp2_with fail
  refine (HS.out _ _ _ _ _ _ (HX.out.fr (rdEx_mono n) (F0.trans b0)) (HY.out.fr (rdEx_mono n) (F0.trans b0)) hm).mono ?_
  rintro r w1 ⟨rfl, b1⟩
  go_wp2
  go_ret
  exact ⟨rfl, (F0.trans b0).trans b1⟩
set_option maxRecDepth 100000 in
set_option maxHeartbeats 1000000 in
theorem eqExS (n : Nat) : exEqS n := by
  induction n using Nat.strongRecOn with
  | _ n ih =>
    intro A A' cap cap' xs w hx hy hm
    have HX := hid hx
    have HY := hid hy
    have IH := hid ih
    have hl := exSm_len hm
    have HM := hid hm
    clear hx hy ih hm
    go_enter Try.func41, Try.ntmps41
    go_wp2
    go_loopw [5] (fun t wr => ∃ (k : Nat), k ≤ xs.length ∧ t = .int .i64 k ∧ Fr w wr) (fun t _ => xs.length - (intOf t).toNat)
    case atStart => exact ⟨0, by omega, rfl, by (repeat (first | with_reducible exact Fr.refl _ | with_reducible assumption | with_reducible refine Fr.alloc ?_ _ | with_reducible refine Fr.drew ?_ | with_reducible refine Fr.drewN ?_ _ | (with_reducible refine Fr.setNew2 ?_ ?_ _; · (simp <;> omega)) | with_reducible refine Fr.trans ?_ (by assumption)))⟩
    case round =>
      obtain ⟨k, hk, rfl, hf⟩ := hrel
      by_cases hlt : k < xs.length
      · cases n with
        | zero => exfalso; rw [HX.out.ex0] at hlt; simp at hlt
        | succ n =>
          obtain ⟨b, o, B, c, hA, d0, d1, d2, d3, cK, rK, _⟩ := HX.out.ex hlt
          obtain ⟨b', o', B', c', hA', d0', d1', d2', d3', cK', rK', _⟩ := HY.out.ex hlt
          subst hA hA'
          have RK := hid (rK.fr (rdEx_mono n) hf)
          have RK' := hid (rK'.fr (rdEx_mono n) hf)
          clear rK rK'
          replace d0 := hf.cell d0
          replace d1 := hf.cell d1
          replace d2 := hf.cell d2
          replace d3 := hf.cell d3
          replace d0' := hf.cell d0'
          replace d1' := hf.cell d1'
          replace d2' := hf.cell d2'
          replace d3' := hf.cell d3'
          replace cK := hf.cell cK
          replace cK' := hf.cell cK'
          go_wp2_with fail
          (refine wp_region_quietC (fun w' => Fr _ w') (by kernel_rfl) (by kernel_rfl) (Fr.refl _).drew ?_; (repeat go_big_quiet_step (first | exact fun _ => rfl | exact fun _ => ⟨rfl, rfl⟩ | (intro hw'; replace d0 := hw'.cell d0; replace d1 := hw'.cell d1; replace d2 := hw'.cell d2; replace d3 := hw'.cell d3; replace d0' := hw'.cell d0'; replace d1' := hw'.cell d1'; replace d2' := hw'.cell d2'; replace d3' := hw'.cell d3'; replace cK := hw'.cell cK; replace cK' := hw'.cell cK'; go_simp; first | done | exact rfl | exact ⟨rfl, rfl⟩) | (intro hw'; go_at_call 65; refine (eqEx (IH.out n (by omega)) _ _ _ _ _ _ (RK.out.fr (rdEx_mono n) hw') (RK'.out.fr (rdEx_mono n) hw') (HM.out.2 k hlt)).mono ?_; rintro r w1 ⟨rfl, b1⟩; exact ⟨rfl, hw'.trans b1⟩))); refine wpQuiet_nil ?_; intro wq hq)
          go_wp2
          go_roundw
          case rel => exact ⟨k + 1, by omega, by go_num, hf.trans hq⟩
          case measure => simp [intOf]; omega
      · go_wp2
        go_ret
        exact ⟨rfl, hf⟩
end Go.Proofs.Ytlmiadeaiiehaaa
