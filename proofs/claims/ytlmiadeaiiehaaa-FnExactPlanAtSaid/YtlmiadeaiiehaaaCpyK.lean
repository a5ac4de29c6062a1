/- Copies of expressions, on the program's side: the walk (CopyK over OwnP). -/
import Derived.Test.YtlmiadeaiiehaaaCpyI
namespace Go.Proofs.Ytlmiadeaiiehaaa
open Go Go.RowKit

def ptrs (L : List It) : List Value := L.map fun x => .pointer (some ⟨x.b, x.o, none⟩)
/-- The state at the head of the loop: what is left is L. -/
structure CInv (w : World) (R n : Nat) (e : Ex) (v : Value) (wr : World) (L : List It) : Prop where
  fr : Fr w wr
  own : wr.ownsRow (w.heap.size + 1) 108 1 v L.length (ptrs L)
  it : ∀ x ∈ L, ∃ A c, ItOk w.cell? wr (w.heap.size + 1) x A c
  ne : L.Pairwise fun x y => ¬ (x.b = y.b ∧ x.o = y.o)
  prt : ∃ ρ, Prt L wr (w.heap.size + 1) ρ (n + 1) R 0 e
  bnd : mu L ≤ 1048576
  res : Blk wr w.heap.size 93 #[.int .i64 0, .int .i64 0, .bool false, .int .i64 0, .slice none 0 0]
theorem parts_pos (n : Nat) (e : Ex) : 1 ≤ parts n e := by cases n <;> simp only [parts] <;> omega
theorem mu_len : ∀ L : List It, L.length ≤ mu L
  | [] => Nat.le_refl _
  | x :: r => by simp only [List.length_cons, mu]; have := mu_len r; have := parts_pos x.d x.e; omega
def CAt (w : World) (R n : Nat) (e : Ex) (v : Value) (wr : World) (k : Nat) : Prop := ∃ L, CInv w R n e v wr L ∧ mu L = k
/-- The laid kids of a part. -/
theorem laidIt {mo : Mv} {W : World} {lo : Nat} {x : It} {A : Option Addr} {c : Nat} (h : ItOk mo W lo x A c) : ∃ q : List (Ex × Option Addr × Nat), q.map (·.1) = x.e.kids ∧ RdSl rdLaid mo 5 A q ∧ (∀ d, x.d = d + 1 → ∀ y ∈ q, KidsOk d mo y) ∧ (x.e.kids ≠ [] → 0 < x.d) := by
  have hr := h.rd
  cases hd : x.d with
  | zero =>
    rw [hd] at hr
    have h0 := hr.ex0
    exact ⟨[], by rw [h0]; rfl, RdSl.nil, fun d hd' => by omega, fun hne => absurd h0 hne⟩
  | succ d =>
    rw [hd] at hr
    obtain ⟨q, h1, h2, h3⟩ := laidOf hr
    exact ⟨q, h1, h2, fun d' hd' y hy => by obtain rfl : d = d' := by omega
                                            exact h3 y hy, fun _ => by omega⟩
theorem copiedAny (A : Option Addr) (c : Nat) (ks : List Ex) (q : List (Ex × Option Addr × Nat)) (w : World) (hq : q.map (·.1) = ks) (hx : RdSl rdLaid w.cell? 5 A q) (hl : ks.length ≤ 1048576) :
    Calls Try.prog 61 #[.slice A ks.length c] w fun r w' => ∃ A', r = .returned (.slice A' ks.length ks.length) ∧ A' = (if ks = [] then none else some ⟨w.heap.size, 0, none⟩) ∧ Fr w w' ∧ (ks ≠ [] → Blk w' w.heap.size 93 (q.flatMap cellsE).toArray) := by
  have hlen : q.length = ks.length := by rw [← hq, List.length_map]
  by_cases hk : ks = []
  · subst hk
    refine (copiedNil A c w).mono ?_
    rintro r w' ⟨rfl, rfl⟩
    exact ⟨none, rfl, by rw [if_pos rfl], Fr.refl _, fun h => absurd rfl h⟩
  · have hne : q ≠ [] := fun e => hk (by rw [← hq, e]; rfl)
    rw [← hlen]
    refine (copiedEx A c q w hx (by omega) hne).mono ?_
    rintro r w' ⟨rfl, h1, h2, _⟩
    exact ⟨_, rfl, by rw [if_neg hk], h2, fun _ => h1⟩
theorem ptrs_app (a b : List It) : ptrs (a ++ b) = ptrs a ++ ptrs b := by simp [ptrs]
/-- The step as a whole: behind the round the state stands again. -/
theorem CInv.step {w wr w4 wx : World} {R n : Nat} {e : Ex} {v s : Value} {L : List It} {x : It} {q : List (Ex × Option Addr × Nat)} {A : Option Addr} {c : Nat} (h : CInv w R n e v wr (L ++ [x])) (hx : ItOk w.cell? wr (w.heap.size + 1) x A c) (hS : Stp wr w4 x wr.heap.size q)
    (hq : q.map (·.1) = x.e.kids) (hk : ∀ d, x.d = d + 1 → ∀ y ∈ q, KidsOk d w.cell? y) (hd : x.e.kids ≠ [] → 0 < x.d) (hK : KeepT w4 wx) (hf : Fr w wx) (ho : wx.ownsRow (w.heap.size + 1) 108 1 s (L.length + x.e.kids.length) (ptrs (L ++ news x wr.heap.size))) :
    CInv w R n e s wx (L ++ news x wr.heap.size) := by
  have hlo : w.heap.size + 1 ≤ wr.heap.size := by have := h.res.lt; omega
  have hp : ∀ y ∈ L, ¬ (y.b = x.b ∧ y.o = x.o) := fun y hy => (List.pairwise_append.1 h.ne).2.2 y hy x (by simp)
  obtain ⟨ρ, hρ⟩ := h.prt
  refine ⟨hf, by rw [List.length_append, news_len]; exact ho, fun y hy => ?_, ?_, ⟨_, (Prt.step hS hx.nd hd hp (Nat.le_refl _) (by rw [← hq, List.length_map]) hρ).keep hK⟩, ?_, hK _ _ (hS.other _ _ (by have := hx.nd.1; omega) h.res)⟩
  · rcases List.mem_append.1 hy with hy | hy
    · obtain ⟨A', c', hi⟩ := h.it y (List.mem_append_left _ hy)
      exact ⟨A', c', (hS.nd hx.nd.2.1 hi.nd (fun hh => hp y hy ⟨hh.1.symm, hh.2.symm⟩)).keep hK, hi.rd, hi.sm⟩
    · obtain ⟨i, hi, rfl⟩ := mem_news hy
      have hd0 := hd (fun e => by rw [e] at hi; simp at hi)
      obtain ⟨d, hdd⟩ : ∃ d, x.d = d + 1 := ⟨x.d - 1, by omega⟩
      obtain ⟨A', c', hi'⟩ := hS.kid hdd hlo hq (hk d hdd) hx.sm _ hy
      exact ⟨A', c', hi'.nd.keep hK, hi'.rd, hi'.sm⟩
  · refine List.pairwise_append.2 ⟨(List.pairwise_append.1 h.ne).1, ?_, fun y hy z hz => ?_⟩
    · rw [List.pairwise_iff_getElem]
      intro i j hi hj hij hh
      rw [news_len] at hi hj
      rw [news_at hi, news_at hj] at hh
      have := hh.2
      simp only at this
      omega
    · obtain ⟨i, hi, rfl⟩ := mem_news hz
      obtain ⟨A', c', hi'⟩ := h.it y (List.mem_append_left _ hy)
      obtain ⟨_, _, _, _, cs, hB, _⟩ := hi'.nd
      have := hB.lt
      intro hh
      have := hh.1
      simp only at this
      omega
  · have h1 := h.bnd
    have h2 := mu_news x wr.heap.size hd
    rw [mu_app] at h1 ⊢
    simp only [mu] at h1
    omega
/-- The loop over the kids of x. -/
structure KInv (w w4 : World) (L : List It) (x : It) (B : Nat) (i : Nat) (s : Value) (wx : World) : Prop where
  fr : Fr w wx
  own : wx.ownsRow (w.heap.size + 1) 108 1 s (L.length + i) (ptrs (L ++ (news x B).take i))
  keep : KeepT w4 wx
set_option maxRecDepth 100000 in
set_option maxHeartbeats 2000000 in
theorem implCopied2 (n : Nat) (e : Ex) (b o : Nat) (w : World) (hr : rdEx (n + 1) w.cell? (fun j => w.cell? ⟨b, o + j, none⟩) e) (hs : exSm n e.kids) (hb : parts n e ≤ 1048576) :
    Calls Try.prog 62 #[.pointer (some ⟨b, o, none⟩)] w fun r w' => ∃ A' c', r = .returned (.agg #[.int .i64 e.kind, .int .i64 e.col, .bool e.val.null, .int .i64 e.val.n, .slice A' e.kids.length c']) ∧ KidsOk n (fromB w' w.heap.size) (e, A', c') ∧ Fr w w' ∧ ∃ S : Nat → Prop, ShS n w' S A' e.kids ∧ ∀ k, S k → w.heap.size < k ∧ k < w'.heap.size := by
  obtain ⟨a0, a1, a2, a3, A, c, a4, hx, hm, hc⟩ := hr
  simp only [Nat.add_zero] at a0 a4
  have HX := hid hx
  have SM := hid hs
  clear hx hs
  have F3 : Fr w (((w.alloc (.cells #[.int .i64 0, .int .i64 0, .bool false, .int .i64 0, .slice none 0 0] 93)).alloc (.cells #[.int .i64 e.kind, .int .i64 e.col, .bool e.val.null, .int .i64 e.val.n, .slice A e.kids.length c] 93)).alloc (.cells #[.pointer (some ⟨w.heap.size + 1, 0, none⟩)] 108)) := (((Fr.refl _).alloc _).alloc _).alloc _
  have F1 : Fr w (w.alloc (.cells #[.int .i64 0, .int .i64 0, .bool false, .int .i64 0, .slice none 0 0] 93)) := (Fr.refl _).alloc _
  have BO := Blk.new (w.alloc (.cells #[.int .i64 0, .int .i64 0, .bool false, .int .i64 0, .slice none 0 0] 93)) 93 #[.int .i64 e.kind, .int .i64 e.col, .bool e.val.null, .int .i64 e.val.n, .slice A e.kids.length c]
  rw [World.size_alloc] at BO
  have BO2 := BO.alloc (.cells #[.pointer (some ⟨w.heap.size + 1, 0, none⟩)] 108)
  have BR := ((Blk.new w 93 #[.int .i64 0, .int .i64 0, .bool false, .int .i64 0, .slice none 0 0]).alloc (.cells #[.int .i64 e.kind, .int .i64 e.col, .bool e.val.null, .int .i64 e.val.n, .slice A e.kids.length c] 93)).alloc (.cells #[.pointer (some ⟨w.heap.size + 1, 0, none⟩)] 108)
  have OW := own_lit (w := (w.alloc (.cells #[.int .i64 0, .int .i64 0, .bool false, .int .i64 0, .slice none 0 0] 93)).alloc (.cells #[.int .i64 e.kind, .int .i64 e.col, .bool e.val.null, .int .i64 e.val.n, .slice A e.kids.length c] 93)) (t := 108) (base := w.heap.size + 1) (sz := 1) (n := 1) (xs := [.pointer (some ⟨w.heap.size + 1, 0, none⟩)]) (by simp) (by simp) (by unfold maxLen; omega)
  rw [World.size_alloc, World.size_alloc] at OW
  replace a0 := F1.cell a0
  replace a1 := F1.cell a1
  replace a2 := F1.cell a2
  replace a3 := F1.cell a3
  replace a4 := F1.cell a4
  clear F1 BO
  go_enter Try.func62, Try.ntmps62
  go_wp2_with fail
  clear a0 a1 a2 a3 a4
  have ST : CInv w (w.heap.size + 1) n e (.slice (some ⟨w.heap.size + 1 + 1, 0, none⟩) 1 1) _ [⟨w.heap.size + 1, 0, e, n⟩] := ⟨F3, OW, fun x hx => by
    obtain rfl := List.mem_singleton.1 hx
    exact ⟨A, c, ⟨Nat.le_refl _, rfl, hm, hc, _, BO2, rfl, rfl, rfl, rfl, rfl⟩, HX.out, SM.out⟩, List.pairwise_singleton _ _, ⟨fun _ => [], .inl (by simp)⟩, by simpa [mu] using hb, BR⟩
  replace ST := hid ST
  generalize ((w.alloc (.cells #[.int .i64 0, .int .i64 0, .bool false, .int .i64 0, .slice none 0 0] 93)).alloc (.cells #[.int .i64 e.kind, .int .i64 e.col, .bool e.val.null, .int .i64 e.val.n, .slice A e.kids.length c] 93)).alloc (.cells #[.pointer (some ⟨w.heap.size + 1, 0, none⟩)] 108) = W0 at ST ⊢
  clear OW F3 BO2 HX SM BR
  go_loopw [4] (fun v wr => ∃ k, CAt w (w.heap.size + 1) n e v wr k) (fun v wr => mn (CAt w (w.heap.size + 1) n e v wr))
  case atStart => exact ⟨_, _, ST.out, rfl⟩
  case round =>
    clear ST
    revert wr
    intro W1 hrel
    obtain ⟨L, INV, hmu⟩ := mn_spec hrel
    clear hrel
    rcases List.eq_nil_or_concat L with rfl | ⟨L', x, rfl⟩
    · obtain ⟨A', cap', rfl⟩ := own_form (show W1.ownsRow (w.heap.size + 1) 108 1 u4 0 [] from INV.own)
      obtain ⟨ρ, hρ⟩ := INV.prt
      obtain ⟨A2, c2, ⟨hlo, _, hm2, hc2, cs, hB, h0, h1, h2, h3, h4⟩, hR, hSS⟩ := hρ.fin
      have d0 : W1.cell? ⟨w.heap.size + 1, 0, none⟩ = some (.int .i64 e.kind) := (hB.cell _).trans h0
      have d1 : W1.cell? ⟨w.heap.size + 1, 1, none⟩ = some (.int .i64 e.col) := (hB.cell _).trans h1
      have d2 : W1.cell? ⟨w.heap.size + 1, 2, none⟩ = some (.bool e.val.null) := (hB.cell _).trans h2
      have d3 : W1.cell? ⟨w.heap.size + 1, 3, none⟩ = some (.int .i64 e.val.n) := (hB.cell _).trans h3
      have d4 : W1.cell? ⟨w.heap.size + 1, 4, none⟩ = some (.slice A2 e.kids.length c2) := (hB.cell _).trans h4
      obtain ⟨z0, z1, z2, z3, z4, f0, f1, f2, f3, f4⟩ := INV.res.five
      have HR := hid hR
      have HSS := hid hSS
      have FF := INV.fr
      clear hSS hρ hR h0 h1 h2 h3 h4 hB INV
      go_wp2
      refine bodyPost_ret (v := .agg #[.int .i64 e.kind, .int .i64 e.col, .bool e.val.null, .int .i64 e.val.n, .slice A2 e.kids.length c2]) (by simp [results, Try.results62, go_sem, z0, z1, z2, z3, z4]) rfl ⟨A2, c2, rfl, ⟨?_, hm2, hc2⟩, by (repeat (first | with_reducible exact Fr.refl _ | with_reducible assumption | with_reducible refine Fr.alloc ?_ _ | with_reducible refine Fr.drew ?_ | with_reducible refine Fr.drewN ?_ _ | (with_reducible refine Fr.setNew2 ?_ ?_ _; · (simp <;> omega)) | with_reducible refine Fr.trans ?_ (by assumption))), _, HSS.out.keep (Ch.keepS (D := (· = w.heap.size)) (chSet (r := w.heap.size) (o := 4) (u := .slice A2 e.kids.length c2) (chSet (o := 3) (u := .int .i64 e.val.n) (chSet (o := 2) (u := .bool e.val.null) (chSet (o := 1) (u := .int .i64 e.col) (chSet (o := 0) (u := .int .i64 e.kind) (Ch.refl W1)))))) (fun k hk e => by have := hk.1; omega)), fun k hk => ⟨by have := hk.1; omega, by have := hk.2.1; simpa using this⟩⟩
      exact HR.out.mono (rdEx_mono n) ((Ch.mle_from (lo := w.heap.size + 1) (chSet (r := w.heap.size) (o := 4) (u := .slice A2 e.kids.length c2) (chSet (o := 3) (u := .int .i64 e.val.n) (chSet (o := 2) (u := .bool e.val.null) (chSet (o := 1) (u := .int .i64 e.col) (chSet (o := 0) (u := .int .i64 e.kind) (Ch.refl W1)))))) (fun k hk => by omega)).trans (fromB_lo (by omega)))
    · rw [List.concat_eq_append] at INV hmu
      obtain ⟨A0, c0, IX⟩ := INV.it x (by simp)
      obtain ⟨q, hq1, hq2, hq3, hq4⟩ := laidIt IX
      obtain ⟨m, hm'⟩ : ∃ m, L'.length = m := ⟨_, rfl⟩
      have ho := INV.own
      rw [ptrs_app, List.length_append, List.length_singleton, hm'] at ho
      obtain ⟨g, cap, _, rfl, hg, _, _⟩ := own_form2 ho (by omega)
      have hcell := own_cells ho m (.pointer (some ⟨x.b, x.o, none⟩)) (by rw [List.getElem?_append_right (by simp [ptrs, hm'])]; simp [ptrs, hm'])
      obtain ⟨_, _, hoc, hcap⟩ := own_cap ho
      cases hoc
      have hbd := INV.bnd
      have hml := mu_len (L' ++ [x])
      rw [List.length_append, List.length_singleton, hm'] at hml
      have hmN : m + x.e.kids.length ≤ 1048576 := by
        have h2 := mu_news x W1.heap.size hq4
        have h3 := mu_len L'
        have h4 := mu_len (news x W1.heap.size)
        rw [news_len] at h4
        rw [mu_app] at hbd
        simp only [mu] at hbd
        omega
      have hcm : m + 1 ≤ 9223372036854775807 := by
        rcases ho.2 with hh | ⟨_, _, _, hv, _, _, _, hh, _⟩
        · cases hh.1
        · cases hv; unfold maxLen at hh; omega
      obtain ⟨_, ho5, hxm, hxc, cs, hB, h0, h1, h2, h3, h4⟩ := IX.nd
      have xc4 : W1.cell? ⟨x.b, x.o + 4, none⟩ = some (.slice A0 x.e.kids.length c0) := (hB.cell _).trans h4
      have hlb := hB.lt
      have HO := hid (own_cut ho (m := m) (by omega))
      have HB := hid hB
      have HC := hid hcell
      have HQ2 := hid (hq2.fr (fun _ _ _ _ _ _ hc h => ⟨hc _ _ h.1, hc _ _ h.2.1, hc _ _ h.2.2.1, hc _ _ h.2.2.2.1, hc _ _ h.2.2.2.2⟩) INV.fr)
      have HSM := hid (exSm_len IX.sm)
      have HIX := hid IX
      have HINV := hid INV
      clear hq2 h0 h1 h2 h3 h4 hB ho IX INV
      obtain ⟨N, hN⟩ : ∃ N, x.e.kids.length = N := ⟨_, rfl⟩
      rw [hN] at xc4 hmN
      have CC := hid (copiedAny A0 c0 x.e.kids q W1 hq1 HQ2.out (by have := HSM.out; omega))
      rw [hN] at CC
      have HN := hid hN
      clear hN
      have F0 := HINV.out.fr
      have e0 : decide ((0 : Int) < ((m + 1 : Nat) : Int)) = true := by simp
      go_wp2_with fail
      refine CC.out.mono ?_
      rintro r w3 ⟨A4, rfl, hA4, b3, hB3⟩
      have HA4 := hid hA4
      have HB3 := hid hB3
      clear hA4 hB3
      have xc4' := b3.cell xc4
      have xf4 : w3.frozen? ⟨x.b, x.o + 4, none⟩ = false := (HB.out.fr b3).frozen _
      have F3 : Fr w (w3.setCell ⟨x.b, x.o + 4, none⟩ (.slice A4 N N)) := (F0.trans b3).setNew (by show w.heap.size ≤ x.b; omega) _
      have S3 : Stp W1 (w3.setCell ⟨x.b, x.o + 4, none⟩ (.slice A4 N N)) x W1.heap.size q := by
        refine ⟨fun k cs' hk hBk => (hBk.fr b3).far (by exact hk) _, ⟨cs, HB.out, ?_⟩, fun hne => ⟨Nat.le_refl _, (HB3.out hne).far (by show W1.heap.size ≠ x.b; omega) _⟩⟩
        rw [← HA4.out, HN.out]
        exact (HB.out.fr b3).set_ _ _
      replace S3 := hid S3
      have B4 : Blk (w3.setCell ⟨x.b, x.o + 4, none⟩ (.slice A4 N N)) x.b 93 (cs.setIfInBounds (x.o + 4) (.slice A4 N N)) := (HB.out.fr b3).set_ _ _
      have hsz : x.o + 4 < cs.size := by
        rw [HB.out.cell] at xc4
        exact (Array.getElem?_eq_some_iff.1 xc4).1
      have c44 : (cs.setIfInBounds (x.o + 4) (.slice A4 N N))[x.o + 4]? = some (.slice A4 N N) := by
        rw [Array.getElem?_setIfInBounds, if_pos rfl, if_pos hsz]
      have O3 : w3.ownsRow (w.heap.size + 1) 108 1 (.slice (some ⟨g, 0, none⟩) m cap) m (ptrs L') := by
        have h := own_fr HO.out b3
        rw [Nat.mul_one, List.take_left' (by simp [ptrs, hm'])] at h
        exact h
      have O4 : (w3.setCell ⟨x.b, x.o + 4, none⟩ (.slice A4 N N)).ownsRow (w.heap.size + 1) 108 1 (.slice (some ⟨g, 0, none⟩) m cap) m (ptrs L') := by
        refine ⟨O3.1, ?_⟩
        rcases O3.2 with hh | ⟨g', cap', cur, hv, h1, h2, h3⟩
        · exact .inl hh
        · refine .inr ⟨g', cap', cur, hv, h1, (show Blk w3 g' 108 cur from h2).far ?_ _, h3⟩
          intro hh
          have hB9 := HB.out.fr b3
          rw [show x.b = g' from hh.symm] at hB9
          rw [show w3.heap[g']? = _ from hB9] at h2
          injection h2 with h2
          injection h2 with _ h2 _
          exact absurd h2 (by decide)
      have K0 : KInv w (w3.setCell ⟨x.b, x.o + 4, none⟩ (.slice A4 N N)) L' x W1.heap.size 0 (.slice (some ⟨g, 0, none⟩) m cap) (w3.setCell ⟨x.b, x.o + 4, none⟩ (.slice A4 N N)) := ⟨F3, by rw [hm']; simpa using O4, fun k cs h => h⟩
      replace K0 := hid K0
      have HMU := hid hmu
      clear hmu O3 O4 xc4 
      go_wp2_with fail
      generalize w3.setCell ⟨x.b, x.o + 4, none⟩ (.slice A4 N N) = w4 at F3 S3 B4 K0 ⊢
      clear xc4' xf4 hcell
      go_loopw [4, 38] (fun s t wx => ∃ i, i ≤ N ∧ t = .int .i64 i ∧ Hid (KInv w w4 L' x W1.heap.size i s wx)) (fun _ t _ => N - (intOf t).toNat)
      case atStart => exact ⟨0, by omega, rfl, K0⟩
      case round =>
        obtain ⟨i, hi, rfl, KI⟩ := hrel
        have Bx := KI.out.keep _ _ B4
        have xc5 := (Bx.cell _).trans c44
        by_cases hlt : i < N
        · have hne : x.e.kids ≠ [] := fun e => by have := HN.out; rw [e] at this; simp at this; omega
          have hA4 := HA4.out
          rw [if_neg hne] at hA4
          subst hA4
          have KO := KI.out.own
          rw [hm'] at KO
          have KF := KI.out.fr
          have hlo := KF.size
          obtain ⟨SV, scap, rfl⟩ := own_form KO
          have HKO := hid KO
          clear KO
          go_wp2_with (at_builtin; refine wp_appW rfl _ _ 109 rfl (w.heap.size + 1) 108 (.pointer none) 1 8 Try.underlying109 (by kernel_rfl) rfl (by decide) (by decide) _ (m + i) _ rfl (own_fr HKO.out ((Fr.refl wr).alloc _)) (by omega) (by simp; omega) wr.heap.size 0 1 1 [.pointer (some ⟨W1.heap.size, i * 5, none⟩)] rfl rfl (fun j u hu => by rw [Nat.zero_add, (Blk.new wr _ _).cell]; simpa using hu) (by omega) rfl ?_; intro v8 w8 hO8 hg8 hw8)
          have KI' : KInv w w4 L' x W1.heap.size (i + 1) v8 w8 := by
            refine ⟨Below.grown (KF.alloc _) hg8 (KF.alloc _).size (fun k hk => by have := own_lt HKO.out k hk; omega), ?_, (KI.out.keep.trans ((Fr.refl wr).alloc _).keepT).trans (keepT_grown (own_fr HKO.out ((Fr.refl wr).alloc _)) (by decide) hg8)⟩
            have hin : i < (news x W1.heap.size).length := by rw [news_len]; have := HN.out; omega
            rw [hm', List.take_succ_eq_append_getElem hin, ← List.append_assoc, ptrs_app, news_at (by have := HN.out; omega)]
            exact hO8
          replace KI' := hid KI'
          clear hO8
          go_roundw
          case rel => exact ⟨i + 1, by omega, by go_num, KI'⟩
          case measure => simp [intOf]; omega
        · obtain rfl : i = N := by omega
          have FIN := hid (HINV.out.step HIX.out S3.out hq1 hq3 hq4 KI.out.keep KI.out.fr (by have h := KI.out.own; rw [List.take_of_length_le (by rw [news_len, HN.out]; exact Nat.le_refl _)] at h; rw [HN.out]; exact h))
          go_wp2
          go_roundw
          case rel => exact ⟨_, _, FIN.out, rfl⟩
          case measure =>
            refine Nat.lt_of_le_of_lt (mn_le ⟨_, FIN.out, rfl⟩) ?_
            rw [← HMU.out, mu_app, mu_app]
            have h2 := mu_news x W1.heap.size hq4
            simp only [mu]
            omega
theorem implCopied (n : Nat) (e : Ex) (b o : Nat) (w : World) (hr : rdEx (n + 1) w.cell? (fun j => w.cell? ⟨b, o + j, none⟩) e) (hs : exSm n e.kids) (hb : parts n e ≤ 1048576) :
    Calls Try.prog 62 #[.pointer (some ⟨b, o, none⟩)] w fun r w' => ∃ A' c', r = .returned (.agg #[.int .i64 e.kind, .int .i64 e.col, .bool e.val.null, .int .i64 e.val.n, .slice A' e.kids.length c']) ∧ KidsOk n (fromB w' w.heap.size) (e, A', c') ∧ Fr w w' :=
  (implCopied2 n e b o w hr hs hb).mono fun r w' h => by
    obtain ⟨A', c', h1, h2, h3, _⟩ := h
    exact ⟨A', c', h1, h2, h3⟩
end Go.Proofs.Ytlmiadeaiiehaaa
