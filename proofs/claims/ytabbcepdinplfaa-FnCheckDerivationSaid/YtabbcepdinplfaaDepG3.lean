/- The walk of the generator of derivations to check. -/
import Derived.Test.YtabbcepdinplfaaDepG2
import Derived.Test.YtabbcepdinplfaaMemN
import Derived.Test.YtabbcepdinplfaaDepW6
namespace Go.Proofs.Ytabbcepdinplfaa
open Go Go.RowKit

theorem Blk.grown {w w' : World} {g : Nat} {t : TypeId} {cs : Array Value} (h : Blk w g t cs) {row : Option Nat} (hg : w.grownBy w' row) (hr : row ≠ some g) : Blk w' g t cs :=
  (hg.block g h.lt (fun e => hr e.symm)).trans h
/-- Where the generator stands behind its first draws: r: the reader; at w4's end lies the dependency, behind it the steps. -/
def St (w4 : World) (r p : Nat) (x y : Int) (v : Value) (D : List Int) (w : World) : Prop :=
  Ch (· = r) w4 w ∧ Rdr w r p ∧ Blk w w4.heap.size 56 #[.int .i64 x, .int .i64 y] ∧ w.ownsRow (w4.heap.size + 1) 3 1 v D.length (D.map iv)
section
variable {w4 w w' : World} {r p p' : Nat} {x y : Int} {v : Value} {D : List Int}
theorem St.size (h : St w4 r p x y v D w) : w4.heap.size < w.heap.size := h.2.2.1.lt
theorem St.ch (h : St w4 r p x y v D w) (hc : Ch (· = r) w w') (hr : Rdr w' r p') (hlt : r < w4.heap.size) : St w4 r p' x y v D w' :=
  ⟨h.1.trans hc, hr, Blk.ch h.2.2.1 hc (by show ¬ (_ = r); omega), own_ch h.2.2.2 hc (by omega)⟩
theorem St.fr (h : St w4 r p x y v D w) (hf : Fr w w') : St w4 r p x y v D w' :=
  ⟨h.1.trans hf.ch, h.2.1.fr hf, h.2.2.1.fr hf, own_fr h.2.2.2 hf⟩
theorem St.set1 (h : St w4 r p x y v D w) (hlt : r < w4.heap.size) (z : Int) : St w4 r p x z v D (w.setCell ⟨w4.heap.size, 1, none⟩ (.int .i64 z)) := by
  have hc : Ch (· = w4.heap.size) w (w.setCell ⟨w4.heap.size, 1, none⟩ (.int .i64 z)) := Ch.set (S := (· = w4.heap.size)) (Ch.refl w) (.inl rfl) _
  exact ⟨h.1.setNew (Nat.le_refl _) _, h.2.1.set hlt _, h.2.2.1.set_ 1 _, own_ch h.2.2.2 hc (by omega)⟩
theorem St.grown (h : St w4 r p x y v D w) (hlt : r < w4.heap.size) (hg : w.grownBy w' v.ownBlock) {v' : Value} {D' : List Int} (ho : w'.ownsRow (w4.heap.size + 1) 3 1 v' D'.length (D'.map iv)) : St w4 r p x y v' D' w' := by
  have hb := own_blk h.2.2.2
  exact ⟨h.1.grown hg (fun k hk => by have := hb k hk; omega), h.2.1.grown hg (fun k hk => by have := hb k hk; omega), h.2.2.1.grown hg (fun e => by have := hb _ e; omega), ho⟩
end
theorem RdSl.drop1 {α : Type} {rd : Rd α} {m : Mv} {sz b o : Nat} {xs : List α} (h : RdSl rd m sz (some ⟨b, o, none⟩) xs) : RdSl rd m sz (some ⟨b, o + sz, none⟩) (xs.drop 1) := fun hne => by
  have hx : xs ≠ [] := by intro e; subst e; simp at hne
  obtain ⟨b', o', hA, hc⟩ := h hx
  injection hA with hA
  injection hA with h1 h2 h3
  subst h1 h2
  refine ⟨b, o + sz, rfl, fun j hj => ?_⟩
  have hj' : j + 1 < xs.length := by simp at hj; omega
  have := hc (j + 1) hj'
  have e : (xs.drop 1)[j] = xs[j + 1] := by rw [List.getElem_drop]; congr 1; omega
  rw [e]
  have e2 : o + (j + 1) * sz = o + sz + j * sz := by rw [Nat.add_mul]; omega
  rw [e2] at this
  exact this
theorem own_form1 {w : World} {base e sz n : Nat} {v : Value} {xs : List Value} (h : w.ownsRow base e sz v n xs) (hn : 0 < n) : ∃ g cap, v = .slice (some ⟨g, 0, none⟩) n cap ∧ n ≤ cap := by
  rcases h.2 with ⟨rfl, h0⟩ | ⟨g, cap, cur, rfl, _, _, h1, _⟩
  · omega
  · exact ⟨g, cap, rfl, h1⟩
def DrewSteps (w : World) (e : Ending) (w' : World) : Prop := ∃ A cap, ∃ xs : List Dep, ∃ wd x y : Int, ∃ A' c', ∃ st : List Int, e = .returned (.tuple #[.slice A xs.length cap, .int .i64 wd, .agg #[.int .i64 x, .int .i64 y], .slice A' st.length c']) ∧ xs.length ≤ 8 ∧ RdSl rdDep w'.cell? 2 A xs ∧ st.length ≤ 100 ∧ RdSl rdInt w'.cell? 1 A' st ∧ Fr w w'
theorem nvv (xs : List Nat) : xs.map nv = (xs.map fun (n : Nat) => (n : Int)).map iv := by simp [nv, iv]

set_option maxHeartbeats 1000000 in
theorem drawCheckDerivation (A : Option Addr) (cap : Nat) (xs : List Nat) (w : World) (hx : RdSl rdByte w.cell? 1 A xs) (hl : xs.length ≤ 1048576) (hc : xs.length ≤ cap) :
    Calls Try.prog 52 #[.slice A xs.length cap] w (DrewSteps w) := by
  have H := hid hx
  clear hx
  have hR0 := hid (Blk.new w 56 #[.int .i64 0, .int .i64 0])
  have F0 : Hid (Fr w (w.alloc (.cells #[.int .i64 0, .int .i64 0] 56))) := hid ((Fr.refl _).alloc _)
  go_enter Try.func52, Try.ntmps52
  go_wp2_with fail
  refine (newReader _ _ _ _ (H.out.fr rdByte_mono F0.out) hl hc).mono ?_
  rintro e w1 ⟨r, rfl, hr, hr1, b1⟩
  have hlt := hr1.lt
  have hsz : w.heap.size < r := by simp only [World.size_alloc] at hr; omega
  go_wp2_with fail
  refine (someDependencies _ _ _ hr1 (by omega)).mono ?_
  rintro e w2 ⟨A2, c2, ys, wd, rfl, hys, y2, d0, d7, p2, hp2, hr2, hc2⟩
  have Y2 := hid y2
  clear y2
  go_wp2_with fail
  refine (someSet _ _ _ _ hr2 (by omega) d0 d7).mono ?_
  rintro e w3 ⟨x, rfl, s1, s2, p3, hp3, hr3, hc3⟩
  go_wp2_with fail
  refine (someSet _ _ _ _ hr3 (by omega) d0 d7).mono ?_
  rintro e w4 ⟨y, rfl, t1, t2, p4, hp4, hr4, hc4⟩
  have hC := (hc2.trans hc3).trans hc4
  have Y4 := hid (Y2.out.mono rdDep_mono ((hc3.trans hc4).mle_from (fun k hk => by have : k = r := hk; omega)))
  have R4 := hid (Blk.ch (S := (· = r)) (hR0.out.fr b1) hC (by show ¬ (_ = r); omega))
  have hs4 := (R4.out).lt
  have hs14 : w1.heap.size ≤ w4.heap.size := hC.size
  have hs1 : w.heap.size < w1.heap.size := by omega
  have F4 := hid (hC.fr (fun k hk => by have : k = r := hk; omega) (F0.out.trans b1))
  clear hR0 F0 b1 hc2 hc3 hc4 hC H
  obtain ⟨D, hD⟩ : ∃ D : List Int, D = (drvD ys wd x).map fun (n : Nat) => (n : Int) := ⟨_, rfl⟩
  have hDl : D.length = (drvD ys wd x).length := by rw [hD]; simp
  have hDv : (drvD ys wd x).map nv = D.map iv := by rw [hD]; exact nvv _
  have hD64 : D.length ≤ 64 := by
    rw [hDl]; unfold drvD; split
    · rename_i h
      rw [Bool.and_eq_true] at h
      obtain ⟨h1, h2⟩ := wd_of (vwd_of h.1)
      obtain ⟨n, rfl, hn⟩ := nat_of_vset h1 h2 h.2
      exact drv_len (vdeps_ok h.1) hn
    · simp
  have hE := own_empty (w := w4.alloc (.cells #[.int .i64 x, .int .i64 y] 56)) (base := w4.heap.size + 1) (e := 3) (sz := 1) (by simp)
  rw [World.size_alloc] at hE
  have S5 : St w4 r p4 x y (.slice (some ⟨w4.heap.size + 1, 0, none⟩) 0 0) [] ((w4.alloc (.cells #[.int .i64 x, .int .i64 y] 56)).alloc (.cells #[] 3)) :=
    ⟨((Ch.refl _).alloc _).alloc _, (hr4.alloc _).alloc _, (Blk.new w4 _ _).alloc _, hE⟩
  clear hE
  have Y5 := hid ((Y4.out.mono rdDep_mono (S5.1.mle_from (fun k hk => by have : k = r := hk; omega))).mono rdDep_mono (fromB_le _ _))
  have HS5 := hid S5
  clear S5
  go_wp2_with fail
  refine (specDerivation _ _ _ _ _ _ Y5.out (by omega)).mono ?_
  rintro e w5 ⟨v5, rfl, o5, b5⟩
  rw [hDv, ← hDl] at o5
  have S5 := HS5.out.fr b5
  have hz5 := S5.size
  clear hD hDl hDv Y5
  go_wp2_with (at_builtin; refine wp_appN rfl _ _ 38 rfl (w4.heap.size + 1) 3 (.int .i64 0) 1 8 Try.underlying38 (by kernel_rfl) rfl (by decide) (by decide) _ _ _ rfl S5.2.2.2 (by simp) (by omega) _ _ _ _ _ rfl o5 (by omega) (by simp [iv, Value.oneCell']) ?_; intro v6 w6 o6 g6)
  have S6 : St w4 r p4 x y v6 D w6 := S5.grown (by omega) g6 (by simpa using o6)
  have hlt4 : r < w4.heap.size := by omega
  clear S5 HS5 o5 o6 g6 b5 hz5
  have Q6 := S6.2.1
  have HS6 := hid S6
  clear S6
  go_wp2_with fail
  refine (pick _ _ _ _ Q6 (by omega) (by omega)).mono ?_
  rintro e w7 ⟨i, rfl, hi, hr7, hc7⟩
  have S7 := HS6.out.ch hc7 hr7 hlt4
  have HS7 := hid S7
  clear hi Q6 HS6 hr7 hc7
  cases e0 : ((i : Int) == 0)
  · have Q8 := HS7.out.2.1
    go_wp2_with fail
    refine (pick _ _ _ _ Q8 (by omega) (by omega)).mono ?_
    rintro e w9 ⟨j, rfl, hj, hr9, hc9⟩
    have HS9 := hid (HS7.out.ch hc9 hr9 hlt4)
    clear hj Q8 hr9 hc9
    cases e1 : ((j : Int) == 0)
    · by_cases hne : (D).length = 0
      · obtain rfl := List.eq_nil_of_length_eq_zero hne
        obtain ⟨AE, cE, rfl⟩ := own_form HS9.out.2.2.2
        have R4' := hid (Blk.ch (S := (· = r)) R4.out HS9.out.1 (by show ¬ (_ = r); omega))
        have FE := hid (HS9.out.1.fr (fun k hk => by have : k = r := hk; omega) F4.out)
        have RE : Hid (RdSl rdInt (fromB w9 (w4.heap.size + 1)) 1 AE ([])) := hid RdSl.nil
        have YE := hid (Y4.out.mono rdDep_mono (HS9.out.1.mle_from (fun k hk => by have : k = r := hk; omega)))
        obtain ⟨u0, u1, -, -⟩ := HS9.out.2.2.1.two
        obtain ⟨z0, z1, y0, y1⟩ := R4'.out.two
        have hsE := HS9.out.size
        go_wp2_with fail
        go_region
        go_wp2
        have RR := (((R4'.out.set_ 0 (.int .i64 x)).set_ 1 (.int .i64 (y))).drew).two
        have CC : Ch (· = w.heap.size) w9 ((w9.setCell ⟨w.heap.size, 0, none⟩ (.int .i64 x)).setCell ⟨w.heap.size, 1, none⟩ (.int .i64 y)).drew := by
          have C1 : Ch (· = w.heap.size) w9 (w9.setCell ⟨w.heap.size, 0, none⟩ (.int .i64 x)) := Ch.set (S := (· = w.heap.size)) (Ch.refl _) (.inl rfl) _
          have C2 : Ch (· = w.heap.size) w9 ((w9.setCell ⟨w.heap.size, 0, none⟩ (.int .i64 x)).setCell ⟨w.heap.size, 1, none⟩ (.int .i64 (y))) := Ch.set (S := (· = w.heap.size)) C1 (.inl rfl) _
          exact C2.drew
        refine bodyPost_ret (v := .tuple #[.slice A2 ys.length c2, .int .i64 wd, .agg #[.int .i64 x, .int .i64 (y)], .slice AE ([]).length cE]) ?_ rfl ⟨A2, c2, ys, wd, x, y, AE, cE, [], rfl, hys, (YE.out.mono rdDep_mono (CC.mle_from (fun k hk => by have : k = w.heap.size := hk; omega))).mono rdDep_mono (fromB_le _ _), (by first | omega | (simp; omega) | (simp; done)), (RE.out.mono rdInt_mono (CC.mle_from (fun k hk => by have : k = w.heap.size := hk; omega))).mono rdInt_mono (fromB_le _ _), CC.fr (fun k hk => by have : k = w.heap.size := hk; omega) FE.out⟩
        obtain ⟨v0, v1, -, -⟩ := RR
        simp only [results, Try.results52, go_sem]
        simp [v0, v1, go_sem]
      · obtain ⟨gE, cE, rfl, hcap⟩ := own_form1 HS9.out.2.2.2 (by omega)
        have g0 : decide ((0 : Int) < ((D).length : Int)) = true := decide_eq_true (by omega)
        have QR := HS9.out.2.1
        go_wp2_with fail
        refine (pick _ _ _ _ QR (by omega) (by omega)).mono ?_
        rintro e w13 ⟨j2, rfl, hj2, hr13, hc13⟩
        have HS13 := hid (HS9.out.ch hc13 hr13 hlt4)
        clear hj2 QR hr13 hc13 g0
        cases e2 : ((j2 : Int) == 0)
        · have R4' := hid (Blk.ch (S := (· = r)) R4.out HS13.out.1 (by show ¬ (_ = r); omega))
          have FE := hid (HS13.out.1.fr (fun k hk => by have : k = r := hk; omega) F4.out)
          have RE : Hid (RdSl rdInt (fromB w13 (w4.heap.size + 1)) 1 (some ⟨gE, 0, none⟩) (D)) := hid (own_int HS13.out.2.2.2 rfl)
          have YE := hid (Y4.out.mono rdDep_mono (HS13.out.1.mle_from (fun k hk => by have : k = r := hk; omega)))
          obtain ⟨u0, u1, -, -⟩ := HS13.out.2.2.1.two
          obtain ⟨z0, z1, y0, y1⟩ := R4'.out.two
          have hsE := HS13.out.size
          go_wp2_with fail
          go_region
          go_wp2
          have RR := (((R4'.out.set_ 0 (.int .i64 x)).set_ 1 (.int .i64 (y))).drew).two
          have CC : Ch (· = w.heap.size) w13 ((w13.setCell ⟨w.heap.size, 0, none⟩ (.int .i64 x)).setCell ⟨w.heap.size, 1, none⟩ (.int .i64 y)).drew := by
            have C1 : Ch (· = w.heap.size) w13 (w13.setCell ⟨w.heap.size, 0, none⟩ (.int .i64 x)) := Ch.set (S := (· = w.heap.size)) (Ch.refl _) (.inl rfl) _
            have C2 : Ch (· = w.heap.size) w13 ((w13.setCell ⟨w.heap.size, 0, none⟩ (.int .i64 x)).setCell ⟨w.heap.size, 1, none⟩ (.int .i64 (y))) := Ch.set (S := (· = w.heap.size)) C1 (.inl rfl) _
            exact C2.drew
          refine bodyPost_ret (v := .tuple #[.slice A2 ys.length c2, .int .i64 wd, .agg #[.int .i64 x, .int .i64 (y)], .slice (some ⟨gE, 0, none⟩) (D).length cE]) ?_ rfl ⟨A2, c2, ys, wd, x, y, (some ⟨gE, 0, none⟩), cE, D, rfl, hys, (YE.out.mono rdDep_mono (CC.mle_from (fun k hk => by have : k = w.heap.size := hk; omega))).mono rdDep_mono (fromB_le _ _), (by first | omega | (simp; omega) | (simp; done)), (RE.out.mono rdInt_mono (CC.mle_from (fun k hk => by have : k = w.heap.size := hk; omega))).mono rdInt_mono (fromB_le _ _), CC.fr (fun k hk => by have : k = w.heap.size := hk; omega) FE.out⟩
          obtain ⟨v0, v1, -, -⟩ := RR
          simp only [results, Try.results52, go_sem]
          simp [v0, v1, go_sem]
        · go_wp2_with fail
          · have R4' := hid (Blk.ch (S := (· = r)) R4.out HS13.out.1 (by show ¬ (_ = r); omega))
            have FE := hid (HS13.out.1.fr (fun k hk => by have : k = r := hk; omega) F4.out)
            have RE : Hid (RdSl rdInt (fromB w13 (w4.heap.size + 1)) 1 (some ⟨gE, 0, none⟩) ((D.drop 1))) := hid (by have h : D.drop 1 = [] := List.drop_eq_nil_of_le (by omega); rw [h]; exact RdSl.nil)
            have YE := hid (Y4.out.mono rdDep_mono (HS13.out.1.mle_from (fun k hk => by have : k = r := hk; omega)))
            obtain ⟨u0, u1, -, -⟩ := HS13.out.2.2.1.two
            obtain ⟨z0, z1, y0, y1⟩ := R4'.out.two
            have hsE := HS13.out.size
            go_wp2_with fail
            go_region
            go_wp2
            have RR := (((R4'.out.set_ 0 (.int .i64 x)).set_ 1 (.int .i64 (y))).drew).two
            have CC : Ch (· = w.heap.size) w13 ((w13.setCell ⟨w.heap.size, 0, none⟩ (.int .i64 x)).setCell ⟨w.heap.size, 1, none⟩ (.int .i64 y)).drew := by
              have C1 : Ch (· = w.heap.size) w13 (w13.setCell ⟨w.heap.size, 0, none⟩ (.int .i64 x)) := Ch.set (S := (· = w.heap.size)) (Ch.refl _) (.inl rfl) _
              have C2 : Ch (· = w.heap.size) w13 ((w13.setCell ⟨w.heap.size, 0, none⟩ (.int .i64 x)).setCell ⟨w.heap.size, 1, none⟩ (.int .i64 (y))) := Ch.set (S := (· = w.heap.size)) C1 (.inl rfl) _
              exact C2.drew
            refine bodyPost_ret (v := .tuple #[.slice A2 ys.length c2, .int .i64 wd, .agg #[.int .i64 x, .int .i64 (y)], .slice (some ⟨gE, 0, none⟩) ((D.drop 1)).length 0]) ?_ rfl ⟨A2, c2, ys, wd, x, y, (some ⟨gE, 0, none⟩), 0, (D.drop 1), rfl, hys, (YE.out.mono rdDep_mono (CC.mle_from (fun k hk => by have : k = w.heap.size := hk; omega))).mono rdDep_mono (fromB_le _ _), (by first | omega | (simp; omega) | (simp; done)), (RE.out.mono rdInt_mono (CC.mle_from (fun k hk => by have : k = w.heap.size := hk; omega))).mono rdInt_mono (fromB_le _ _), CC.fr (fun k hk => by have : k = w.heap.size := hk; omega) FE.out⟩
            obtain ⟨v0, v1, -, -⟩ := RR
            simp only [results, Try.results52, go_sem]
            simp [v0, v1, go_sem]
          · have R4' := hid (Blk.ch (S := (· = r)) R4.out HS13.out.1 (by show ¬ (_ = r); omega))
            have FE := hid (HS13.out.1.fr (fun k hk => by have : k = r := hk; omega) F4.out)
            have RE : Hid (RdSl rdInt (fromB w13 (w4.heap.size + 1)) 1 (some ⟨gE, 1, none⟩) ((D.drop 1))) := hid (RdSl.drop1 (own_int HS13.out.2.2.2 rfl))
            have YE := hid (Y4.out.mono rdDep_mono (HS13.out.1.mle_from (fun k hk => by have : k = r := hk; omega)))
            obtain ⟨u0, u1, -, -⟩ := HS13.out.2.2.1.two
            obtain ⟨z0, z1, y0, y1⟩ := R4'.out.two
            have hsE := HS13.out.size
            go_wp2_with fail
            go_region
            go_wp2
            have RR := (((R4'.out.set_ 0 (.int .i64 x)).set_ 1 (.int .i64 (y))).drew).two
            have CC : Ch (· = w.heap.size) w13 ((w13.setCell ⟨w.heap.size, 0, none⟩ (.int .i64 x)).setCell ⟨w.heap.size, 1, none⟩ (.int .i64 y)).drew := by
              have C1 : Ch (· = w.heap.size) w13 (w13.setCell ⟨w.heap.size, 0, none⟩ (.int .i64 x)) := Ch.set (S := (· = w.heap.size)) (Ch.refl _) (.inl rfl) _
              have C2 : Ch (· = w.heap.size) w13 ((w13.setCell ⟨w.heap.size, 0, none⟩ (.int .i64 x)).setCell ⟨w.heap.size, 1, none⟩ (.int .i64 (y))) := Ch.set (S := (· = w.heap.size)) C1 (.inl rfl) _
              exact C2.drew
            refine bodyPost_ret (v := .tuple #[.slice A2 ys.length c2, .int .i64 wd, .agg #[.int .i64 x, .int .i64 (y)], .slice (some ⟨gE, 1, none⟩) ((D.drop 1)).length (cE - 1)]) ?_ rfl ⟨A2, c2, ys, wd, x, y, (some ⟨gE, 1, none⟩), (cE - 1), (D.drop 1), rfl, hys, (YE.out.mono rdDep_mono (CC.mle_from (fun k hk => by have : k = w.heap.size := hk; omega))).mono rdDep_mono (fromB_le _ _), (by first | omega | (simp; omega) | (simp; done)), (RE.out.mono rdInt_mono (CC.mle_from (fun k hk => by have : k = w.heap.size := hk; omega))).mono rdInt_mono (fromB_le _ _), CC.fr (fun k hk => by have : k = w.heap.size := hk; omega) FE.out⟩
            obtain ⟨v0, v1, -, -⟩ := RR
            simp only [results, Try.results52, go_sem]
            simp [v0, v1, go_sem]
    · have QO := HS9.out.2.1.alloc (.cells #[.int .i64 0, .int .i64 1, .int .i64 (-1), .int .i64 9] 3)
      have hz9 := HS9.out.size
      go_wp2_with fail
      refine (one _ _ [0, 1, -1, 9] r _ _ QO (by omega) (lit_ints (by omega)) (by decide) (by decide)).mono ?_
      rintro e w10 ⟨z, hz, rfl, hr10, hc10⟩
      have S10 := (St.fr HS9.out ((Fr.refl _).alloc _)).ch hc10 hr10 hlt4
      have S11 := S10.fr ((Fr.refl w10).alloc (.cells #[.int .i64 z] 3))
      have hz10 := S10.size
      clear hz QO hr10 hc10
      go_wp2_with (at_builtin; refine wp_app1 rfl _ _ 38 rfl (w4.heap.size + 1) 3 (.int .i64 0) 1 8 Try.underlying38 (by kernel_rfl) rfl (by decide) (by decide) _ _ _ rfl S11.2.2.2 (by omega) (by simp; omega) w10.heap.size [.int .i64 z] rfl (blk_new (by simp)) rfl rfl ?_; intro v12 w12 o12 g12; obtain ⟨gE, cE, rfl, hcap⟩ := own_form1 o12 (by omega))
      have HS12' := hid (St.grown (D' := D ++ [z]) S11 hlt4 g12 (by simpa [iv] using o12))
      clear S10 S11 o12 g12
      have hl12 : (D ++ [z]).length ≤ 65 := by simp; omega
      have hlenD : (D ++ [z]).length = D.length + 1 := by simp
      generalize D ++ [z] = D' at HS12' hl12 hlenD
      have HS12 := HS12'
      clear HS12'
      have g0 : decide ((0 : Int) < (D.length + 1 : Int)) = true := decide_eq_true (by omega)
      have QR := HS12.out.2.1
      go_wp2_with fail
      refine (pick _ _ _ _ QR (by omega) (by omega)).mono ?_
      rintro e w13 ⟨j2, rfl, hj2, hr13, hc13⟩
      have HS13 := hid (HS12.out.ch hc13 hr13 hlt4)
      clear hj2 QR hr13 hc13 g0
      cases e2 : ((j2 : Int) == 0)
      · have R4' := hid (Blk.ch (S := (· = r)) R4.out HS13.out.1 (by show ¬ (_ = r); omega))
        have FE := hid (HS13.out.1.fr (fun k hk => by have : k = r := hk; omega) F4.out)
        have RE : Hid (RdSl rdInt (fromB w13 (w4.heap.size + 1)) 1 (some ⟨gE, 0, none⟩) (D')) := hid (own_int (by have h := HS13.out.2.2.2; rw [← hlenD] at h; exact h) rfl)
        have YE := hid (Y4.out.mono rdDep_mono (HS13.out.1.mle_from (fun k hk => by have : k = r := hk; omega)))
        obtain ⟨u0, u1, -, -⟩ := HS13.out.2.2.1.two
        obtain ⟨z0, z1, y0, y1⟩ := R4'.out.two
        have hsE := HS13.out.size
        go_wp2_with fail
        go_region
        go_wp2
        have RR := (((R4'.out.set_ 0 (.int .i64 x)).set_ 1 (.int .i64 (y))).drew).two
        have CC : Ch (· = w.heap.size) w13 ((w13.setCell ⟨w.heap.size, 0, none⟩ (.int .i64 x)).setCell ⟨w.heap.size, 1, none⟩ (.int .i64 y)).drew := by
          have C1 : Ch (· = w.heap.size) w13 (w13.setCell ⟨w.heap.size, 0, none⟩ (.int .i64 x)) := Ch.set (S := (· = w.heap.size)) (Ch.refl _) (.inl rfl) _
          have C2 : Ch (· = w.heap.size) w13 ((w13.setCell ⟨w.heap.size, 0, none⟩ (.int .i64 x)).setCell ⟨w.heap.size, 1, none⟩ (.int .i64 (y))) := Ch.set (S := (· = w.heap.size)) C1 (.inl rfl) _
          exact C2.drew
        refine bodyPost_ret (v := .tuple #[.slice A2 ys.length c2, .int .i64 wd, .agg #[.int .i64 x, .int .i64 (y)], .slice (some ⟨gE, 0, none⟩) (D').length cE]) ?_ rfl ⟨A2, c2, ys, wd, x, y, (some ⟨gE, 0, none⟩), cE, D', rfl, hys, (YE.out.mono rdDep_mono (CC.mle_from (fun k hk => by have : k = w.heap.size := hk; omega))).mono rdDep_mono (fromB_le _ _), (by first | omega | (simp; omega) | (simp; done)), (RE.out.mono rdInt_mono (CC.mle_from (fun k hk => by have : k = w.heap.size := hk; omega))).mono rdInt_mono (fromB_le _ _), CC.fr (fun k hk => by have : k = w.heap.size := hk; omega) FE.out⟩
        obtain ⟨v0, v1, -, -⟩ := RR
        simp only [results, Try.results52, go_sem]
        simp [v0, v1, go_sem, hlenD]
      · go_wp2_with fail
        · have R4' := hid (Blk.ch (S := (· = r)) R4.out HS13.out.1 (by show ¬ (_ = r); omega))
          have FE := hid (HS13.out.1.fr (fun k hk => by have : k = r := hk; omega) F4.out)
          have RE : Hid (RdSl rdInt (fromB w13 (w4.heap.size + 1)) 1 (some ⟨gE, 0, none⟩) ((D'.drop 1))) := hid (by have h : D'.drop 1 = [] := List.drop_eq_nil_of_le (by omega); rw [h]; exact RdSl.nil)
          have YE := hid (Y4.out.mono rdDep_mono (HS13.out.1.mle_from (fun k hk => by have : k = r := hk; omega)))
          obtain ⟨u0, u1, -, -⟩ := HS13.out.2.2.1.two
          obtain ⟨z0, z1, y0, y1⟩ := R4'.out.two
          have hsE := HS13.out.size
          go_wp2_with fail
          go_region
          go_wp2
          have RR := (((R4'.out.set_ 0 (.int .i64 x)).set_ 1 (.int .i64 (y))).drew).two
          have CC : Ch (· = w.heap.size) w13 ((w13.setCell ⟨w.heap.size, 0, none⟩ (.int .i64 x)).setCell ⟨w.heap.size, 1, none⟩ (.int .i64 y)).drew := by
            have C1 : Ch (· = w.heap.size) w13 (w13.setCell ⟨w.heap.size, 0, none⟩ (.int .i64 x)) := Ch.set (S := (· = w.heap.size)) (Ch.refl _) (.inl rfl) _
            have C2 : Ch (· = w.heap.size) w13 ((w13.setCell ⟨w.heap.size, 0, none⟩ (.int .i64 x)).setCell ⟨w.heap.size, 1, none⟩ (.int .i64 (y))) := Ch.set (S := (· = w.heap.size)) C1 (.inl rfl) _
            exact C2.drew
          refine bodyPost_ret (v := .tuple #[.slice A2 ys.length c2, .int .i64 wd, .agg #[.int .i64 x, .int .i64 (y)], .slice (some ⟨gE, 0, none⟩) ((D'.drop 1)).length 0]) ?_ rfl ⟨A2, c2, ys, wd, x, y, (some ⟨gE, 0, none⟩), 0, (D'.drop 1), rfl, hys, (YE.out.mono rdDep_mono (CC.mle_from (fun k hk => by have : k = w.heap.size := hk; omega))).mono rdDep_mono (fromB_le _ _), (by first | omega | (simp; omega) | (simp; done)), (RE.out.mono rdInt_mono (CC.mle_from (fun k hk => by have : k = w.heap.size := hk; omega))).mono rdInt_mono (fromB_le _ _), CC.fr (fun k hk => by have : k = w.heap.size := hk; omega) FE.out⟩
          obtain ⟨v0, v1, -, -⟩ := RR
          simp only [results, Try.results52, go_sem]
          simp [v0, v1, go_sem, hlenD]
        · have R4' := hid (Blk.ch (S := (· = r)) R4.out HS13.out.1 (by show ¬ (_ = r); omega))
          have FE := hid (HS13.out.1.fr (fun k hk => by have : k = r := hk; omega) F4.out)
          have RE : Hid (RdSl rdInt (fromB w13 (w4.heap.size + 1)) 1 (some ⟨gE, 1, none⟩) ((D'.drop 1))) := hid (RdSl.drop1 (own_int (by have h := HS13.out.2.2.2; rw [← hlenD] at h; exact h) rfl))
          have YE := hid (Y4.out.mono rdDep_mono (HS13.out.1.mle_from (fun k hk => by have : k = r := hk; omega)))
          obtain ⟨u0, u1, -, -⟩ := HS13.out.2.2.1.two
          obtain ⟨z0, z1, y0, y1⟩ := R4'.out.two
          have hsE := HS13.out.size
          go_wp2_with fail
          go_region
          go_wp2
          have RR := (((R4'.out.set_ 0 (.int .i64 x)).set_ 1 (.int .i64 (y))).drew).two
          have CC : Ch (· = w.heap.size) w13 ((w13.setCell ⟨w.heap.size, 0, none⟩ (.int .i64 x)).setCell ⟨w.heap.size, 1, none⟩ (.int .i64 y)).drew := by
            have C1 : Ch (· = w.heap.size) w13 (w13.setCell ⟨w.heap.size, 0, none⟩ (.int .i64 x)) := Ch.set (S := (· = w.heap.size)) (Ch.refl _) (.inl rfl) _
            have C2 : Ch (· = w.heap.size) w13 ((w13.setCell ⟨w.heap.size, 0, none⟩ (.int .i64 x)).setCell ⟨w.heap.size, 1, none⟩ (.int .i64 (y))) := Ch.set (S := (· = w.heap.size)) C1 (.inl rfl) _
            exact C2.drew
          refine bodyPost_ret (v := .tuple #[.slice A2 ys.length c2, .int .i64 wd, .agg #[.int .i64 x, .int .i64 (y)], .slice (some ⟨gE, 1, none⟩) ((D'.drop 1)).length (cE - 1)]) ?_ rfl ⟨A2, c2, ys, wd, x, y, (some ⟨gE, 1, none⟩), (cE - 1), (D'.drop 1), rfl, hys, (YE.out.mono rdDep_mono (CC.mle_from (fun k hk => by have : k = w.heap.size := hk; omega))).mono rdDep_mono (fromB_le _ _), (by first | omega | (simp; omega) | (simp; done)), (RE.out.mono rdInt_mono (CC.mle_from (fun k hk => by have : k = w.heap.size := hk; omega))).mono rdInt_mono (fromB_le _ _), CC.fr (fun k hk => by have : k = w.heap.size := hk; omega) FE.out⟩
          obtain ⟨v0, v1, -, -⟩ := RR
          simp only [results, Try.results52, go_sem]
          simp [v0, v1, go_sem, hlenD]
  · obtain ⟨q0, q1, f0, f1⟩ := S7.2.2.1.two
    have Y7 := hid ((Y4.out.mono rdDep_mono (S7.1.mle_from (fun k hk => by have : k = r := hk; omega))).mono rdDep_mono (fromB_le _ _))
    clear S7
    go_wp2_with fail
    refine (specClosureOf _ _ _ _ _ _ Y7.out (by omega)).mono ?_
    rintro e w8 ⟨rfl, b8⟩
    have S8 := HS7.out.fr b8
    obtain ⟨m0, m1, n0, n1⟩ := S8.2.2.1.two
    clear q0 q1 f0 f1
    go_wp2_with fail
    · have HS8 := hid (S8.set1 hlt4 0)
      clear S8 m0 m1 n0 n1
      have Q8 := HS8.out.2.1
      go_wp2_with fail
      refine (pick _ _ _ _ Q8 (by omega) (by omega)).mono ?_
      rintro e w9 ⟨j, rfl, hj, hr9, hc9⟩
      have HS9 := hid (HS8.out.ch hc9 hr9 hlt4)
      clear hj Q8 hr9 hc9
      cases e1 : ((j : Int) == 0)
      · by_cases hne : (D).length = 0
        · obtain rfl := List.eq_nil_of_length_eq_zero hne
          obtain ⟨AE, cE, rfl⟩ := own_form HS9.out.2.2.2
          have R4' := hid (Blk.ch (S := (· = r)) R4.out HS9.out.1 (by show ¬ (_ = r); omega))
          have FE := hid (HS9.out.1.fr (fun k hk => by have : k = r := hk; omega) F4.out)
          have RE : Hid (RdSl rdInt (fromB w9 (w4.heap.size + 1)) 1 AE ([])) := hid RdSl.nil
          have YE := hid (Y4.out.mono rdDep_mono (HS9.out.1.mle_from (fun k hk => by have : k = r := hk; omega)))
          obtain ⟨u0, u1, -, -⟩ := HS9.out.2.2.1.two
          obtain ⟨z0, z1, y0, y1⟩ := R4'.out.two
          have hsE := HS9.out.size
          go_wp2_with fail
          go_region
          go_wp2
          have RR := (((R4'.out.set_ 0 (.int .i64 x)).set_ 1 (.int .i64 (0))).drew).two
          have CC : Ch (· = w.heap.size) w9 ((w9.setCell ⟨w.heap.size, 0, none⟩ (.int .i64 x)).setCell ⟨w.heap.size, 1, none⟩ (.int .i64 0)).drew := by
            have C1 : Ch (· = w.heap.size) w9 (w9.setCell ⟨w.heap.size, 0, none⟩ (.int .i64 x)) := Ch.set (S := (· = w.heap.size)) (Ch.refl _) (.inl rfl) _
            have C2 : Ch (· = w.heap.size) w9 ((w9.setCell ⟨w.heap.size, 0, none⟩ (.int .i64 x)).setCell ⟨w.heap.size, 1, none⟩ (.int .i64 (0))) := Ch.set (S := (· = w.heap.size)) C1 (.inl rfl) _
            exact C2.drew
          refine bodyPost_ret (v := .tuple #[.slice A2 ys.length c2, .int .i64 wd, .agg #[.int .i64 x, .int .i64 (0)], .slice AE ([]).length cE]) ?_ rfl ⟨A2, c2, ys, wd, x, 0, AE, cE, [], rfl, hys, (YE.out.mono rdDep_mono (CC.mle_from (fun k hk => by have : k = w.heap.size := hk; omega))).mono rdDep_mono (fromB_le _ _), (by first | omega | (simp; omega) | (simp; done)), (RE.out.mono rdInt_mono (CC.mle_from (fun k hk => by have : k = w.heap.size := hk; omega))).mono rdInt_mono (fromB_le _ _), CC.fr (fun k hk => by have : k = w.heap.size := hk; omega) FE.out⟩
          obtain ⟨v0, v1, -, -⟩ := RR
          simp only [results, Try.results52, go_sem]
          simp [v0, v1, go_sem]
        · obtain ⟨gE, cE, rfl, hcap⟩ := own_form1 HS9.out.2.2.2 (by omega)
          have g0 : decide ((0 : Int) < ((D).length : Int)) = true := decide_eq_true (by omega)
          have QR := HS9.out.2.1
          go_wp2_with fail
          refine (pick _ _ _ _ QR (by omega) (by omega)).mono ?_
          rintro e w13 ⟨j2, rfl, hj2, hr13, hc13⟩
          have HS13 := hid (HS9.out.ch hc13 hr13 hlt4)
          clear hj2 QR hr13 hc13 g0
          cases e2 : ((j2 : Int) == 0)
          · have R4' := hid (Blk.ch (S := (· = r)) R4.out HS13.out.1 (by show ¬ (_ = r); omega))
            have FE := hid (HS13.out.1.fr (fun k hk => by have : k = r := hk; omega) F4.out)
            have RE : Hid (RdSl rdInt (fromB w13 (w4.heap.size + 1)) 1 (some ⟨gE, 0, none⟩) (D)) := hid (own_int HS13.out.2.2.2 rfl)
            have YE := hid (Y4.out.mono rdDep_mono (HS13.out.1.mle_from (fun k hk => by have : k = r := hk; omega)))
            obtain ⟨u0, u1, -, -⟩ := HS13.out.2.2.1.two
            obtain ⟨z0, z1, y0, y1⟩ := R4'.out.two
            have hsE := HS13.out.size
            go_wp2_with fail
            go_region
            go_wp2
            have RR := (((R4'.out.set_ 0 (.int .i64 x)).set_ 1 (.int .i64 (0))).drew).two
            have CC : Ch (· = w.heap.size) w13 ((w13.setCell ⟨w.heap.size, 0, none⟩ (.int .i64 x)).setCell ⟨w.heap.size, 1, none⟩ (.int .i64 0)).drew := by
              have C1 : Ch (· = w.heap.size) w13 (w13.setCell ⟨w.heap.size, 0, none⟩ (.int .i64 x)) := Ch.set (S := (· = w.heap.size)) (Ch.refl _) (.inl rfl) _
              have C2 : Ch (· = w.heap.size) w13 ((w13.setCell ⟨w.heap.size, 0, none⟩ (.int .i64 x)).setCell ⟨w.heap.size, 1, none⟩ (.int .i64 (0))) := Ch.set (S := (· = w.heap.size)) C1 (.inl rfl) _
              exact C2.drew
            refine bodyPost_ret (v := .tuple #[.slice A2 ys.length c2, .int .i64 wd, .agg #[.int .i64 x, .int .i64 (0)], .slice (some ⟨gE, 0, none⟩) (D).length cE]) ?_ rfl ⟨A2, c2, ys, wd, x, 0, (some ⟨gE, 0, none⟩), cE, D, rfl, hys, (YE.out.mono rdDep_mono (CC.mle_from (fun k hk => by have : k = w.heap.size := hk; omega))).mono rdDep_mono (fromB_le _ _), (by first | omega | (simp; omega) | (simp; done)), (RE.out.mono rdInt_mono (CC.mle_from (fun k hk => by have : k = w.heap.size := hk; omega))).mono rdInt_mono (fromB_le _ _), CC.fr (fun k hk => by have : k = w.heap.size := hk; omega) FE.out⟩
            obtain ⟨v0, v1, -, -⟩ := RR
            simp only [results, Try.results52, go_sem]
            simp [v0, v1, go_sem]
          · go_wp2_with fail
            · have R4' := hid (Blk.ch (S := (· = r)) R4.out HS13.out.1 (by show ¬ (_ = r); omega))
              have FE := hid (HS13.out.1.fr (fun k hk => by have : k = r := hk; omega) F4.out)
              have RE : Hid (RdSl rdInt (fromB w13 (w4.heap.size + 1)) 1 (some ⟨gE, 0, none⟩) ((D.drop 1))) := hid (by have h : D.drop 1 = [] := List.drop_eq_nil_of_le (by omega); rw [h]; exact RdSl.nil)
              have YE := hid (Y4.out.mono rdDep_mono (HS13.out.1.mle_from (fun k hk => by have : k = r := hk; omega)))
              obtain ⟨u0, u1, -, -⟩ := HS13.out.2.2.1.two
              obtain ⟨z0, z1, y0, y1⟩ := R4'.out.two
              have hsE := HS13.out.size
              go_wp2_with fail
              go_region
              go_wp2
              have RR := (((R4'.out.set_ 0 (.int .i64 x)).set_ 1 (.int .i64 (0))).drew).two
              have CC : Ch (· = w.heap.size) w13 ((w13.setCell ⟨w.heap.size, 0, none⟩ (.int .i64 x)).setCell ⟨w.heap.size, 1, none⟩ (.int .i64 0)).drew := by
                have C1 : Ch (· = w.heap.size) w13 (w13.setCell ⟨w.heap.size, 0, none⟩ (.int .i64 x)) := Ch.set (S := (· = w.heap.size)) (Ch.refl _) (.inl rfl) _
                have C2 : Ch (· = w.heap.size) w13 ((w13.setCell ⟨w.heap.size, 0, none⟩ (.int .i64 x)).setCell ⟨w.heap.size, 1, none⟩ (.int .i64 (0))) := Ch.set (S := (· = w.heap.size)) C1 (.inl rfl) _
                exact C2.drew
              refine bodyPost_ret (v := .tuple #[.slice A2 ys.length c2, .int .i64 wd, .agg #[.int .i64 x, .int .i64 (0)], .slice (some ⟨gE, 0, none⟩) ((D.drop 1)).length 0]) ?_ rfl ⟨A2, c2, ys, wd, x, 0, (some ⟨gE, 0, none⟩), 0, (D.drop 1), rfl, hys, (YE.out.mono rdDep_mono (CC.mle_from (fun k hk => by have : k = w.heap.size := hk; omega))).mono rdDep_mono (fromB_le _ _), (by first | omega | (simp; omega) | (simp; done)), (RE.out.mono rdInt_mono (CC.mle_from (fun k hk => by have : k = w.heap.size := hk; omega))).mono rdInt_mono (fromB_le _ _), CC.fr (fun k hk => by have : k = w.heap.size := hk; omega) FE.out⟩
              obtain ⟨v0, v1, -, -⟩ := RR
              simp only [results, Try.results52, go_sem]
              simp [v0, v1, go_sem]
            · have R4' := hid (Blk.ch (S := (· = r)) R4.out HS13.out.1 (by show ¬ (_ = r); omega))
              have FE := hid (HS13.out.1.fr (fun k hk => by have : k = r := hk; omega) F4.out)
              have RE : Hid (RdSl rdInt (fromB w13 (w4.heap.size + 1)) 1 (some ⟨gE, 1, none⟩) ((D.drop 1))) := hid (RdSl.drop1 (own_int HS13.out.2.2.2 rfl))
              have YE := hid (Y4.out.mono rdDep_mono (HS13.out.1.mle_from (fun k hk => by have : k = r := hk; omega)))
              obtain ⟨u0, u1, -, -⟩ := HS13.out.2.2.1.two
              obtain ⟨z0, z1, y0, y1⟩ := R4'.out.two
              have hsE := HS13.out.size
              go_wp2_with fail
              go_region
              go_wp2
              have RR := (((R4'.out.set_ 0 (.int .i64 x)).set_ 1 (.int .i64 (0))).drew).two
              have CC : Ch (· = w.heap.size) w13 ((w13.setCell ⟨w.heap.size, 0, none⟩ (.int .i64 x)).setCell ⟨w.heap.size, 1, none⟩ (.int .i64 0)).drew := by
                have C1 : Ch (· = w.heap.size) w13 (w13.setCell ⟨w.heap.size, 0, none⟩ (.int .i64 x)) := Ch.set (S := (· = w.heap.size)) (Ch.refl _) (.inl rfl) _
                have C2 : Ch (· = w.heap.size) w13 ((w13.setCell ⟨w.heap.size, 0, none⟩ (.int .i64 x)).setCell ⟨w.heap.size, 1, none⟩ (.int .i64 (0))) := Ch.set (S := (· = w.heap.size)) C1 (.inl rfl) _
                exact C2.drew
              refine bodyPost_ret (v := .tuple #[.slice A2 ys.length c2, .int .i64 wd, .agg #[.int .i64 x, .int .i64 (0)], .slice (some ⟨gE, 1, none⟩) ((D.drop 1)).length (cE - 1)]) ?_ rfl ⟨A2, c2, ys, wd, x, 0, (some ⟨gE, 1, none⟩), (cE - 1), (D.drop 1), rfl, hys, (YE.out.mono rdDep_mono (CC.mle_from (fun k hk => by have : k = w.heap.size := hk; omega))).mono rdDep_mono (fromB_le _ _), (by first | omega | (simp; omega) | (simp; done)), (RE.out.mono rdInt_mono (CC.mle_from (fun k hk => by have : k = w.heap.size := hk; omega))).mono rdInt_mono (fromB_le _ _), CC.fr (fun k hk => by have : k = w.heap.size := hk; omega) FE.out⟩
              obtain ⟨v0, v1, -, -⟩ := RR
              simp only [results, Try.results52, go_sem]
              simp [v0, v1, go_sem]
      · have QO := HS9.out.2.1.alloc (.cells #[.int .i64 0, .int .i64 1, .int .i64 (-1), .int .i64 9] 3)
        have hz9 := HS9.out.size
        go_wp2_with fail
        refine (one _ _ [0, 1, -1, 9] r _ _ QO (by omega) (lit_ints (by omega)) (by decide) (by decide)).mono ?_
        rintro e w10 ⟨z, hz, rfl, hr10, hc10⟩
        have S10 := (St.fr HS9.out ((Fr.refl _).alloc _)).ch hc10 hr10 hlt4
        have S11 := S10.fr ((Fr.refl w10).alloc (.cells #[.int .i64 z] 3))
        have hz10 := S10.size
        clear hz QO hr10 hc10
        go_wp2_with (at_builtin; refine wp_app1 rfl _ _ 38 rfl (w4.heap.size + 1) 3 (.int .i64 0) 1 8 Try.underlying38 (by kernel_rfl) rfl (by decide) (by decide) _ _ _ rfl S11.2.2.2 (by omega) (by simp; omega) w10.heap.size [.int .i64 z] rfl (blk_new (by simp)) rfl rfl ?_; intro v12 w12 o12 g12; obtain ⟨gE, cE, rfl, hcap⟩ := own_form1 o12 (by omega))
        have HS12' := hid (St.grown (D' := D ++ [z]) S11 hlt4 g12 (by simpa [iv] using o12))
        clear S10 S11 o12 g12
        have hl12 : (D ++ [z]).length ≤ 65 := by simp; omega
        have hlenD : (D ++ [z]).length = D.length + 1 := by simp
        generalize D ++ [z] = D' at HS12' hl12 hlenD
        have HS12 := HS12'
        clear HS12'
        have g0 : decide ((0 : Int) < (D.length + 1 : Int)) = true := decide_eq_true (by omega)
        have QR := HS12.out.2.1
        go_wp2_with fail
        refine (pick _ _ _ _ QR (by omega) (by omega)).mono ?_
        rintro e w13 ⟨j2, rfl, hj2, hr13, hc13⟩
        have HS13 := hid (HS12.out.ch hc13 hr13 hlt4)
        clear hj2 QR hr13 hc13 g0
        cases e2 : ((j2 : Int) == 0)
        · have R4' := hid (Blk.ch (S := (· = r)) R4.out HS13.out.1 (by show ¬ (_ = r); omega))
          have FE := hid (HS13.out.1.fr (fun k hk => by have : k = r := hk; omega) F4.out)
          have RE : Hid (RdSl rdInt (fromB w13 (w4.heap.size + 1)) 1 (some ⟨gE, 0, none⟩) (D')) := hid (own_int (by have h := HS13.out.2.2.2; rw [← hlenD] at h; exact h) rfl)
          have YE := hid (Y4.out.mono rdDep_mono (HS13.out.1.mle_from (fun k hk => by have : k = r := hk; omega)))
          obtain ⟨u0, u1, -, -⟩ := HS13.out.2.2.1.two
          obtain ⟨z0, z1, y0, y1⟩ := R4'.out.two
          have hsE := HS13.out.size
          go_wp2_with fail
          go_region
          go_wp2
          have RR := (((R4'.out.set_ 0 (.int .i64 x)).set_ 1 (.int .i64 (0))).drew).two
          have CC : Ch (· = w.heap.size) w13 ((w13.setCell ⟨w.heap.size, 0, none⟩ (.int .i64 x)).setCell ⟨w.heap.size, 1, none⟩ (.int .i64 0)).drew := by
            have C1 : Ch (· = w.heap.size) w13 (w13.setCell ⟨w.heap.size, 0, none⟩ (.int .i64 x)) := Ch.set (S := (· = w.heap.size)) (Ch.refl _) (.inl rfl) _
            have C2 : Ch (· = w.heap.size) w13 ((w13.setCell ⟨w.heap.size, 0, none⟩ (.int .i64 x)).setCell ⟨w.heap.size, 1, none⟩ (.int .i64 (0))) := Ch.set (S := (· = w.heap.size)) C1 (.inl rfl) _
            exact C2.drew
          refine bodyPost_ret (v := .tuple #[.slice A2 ys.length c2, .int .i64 wd, .agg #[.int .i64 x, .int .i64 (0)], .slice (some ⟨gE, 0, none⟩) (D').length cE]) ?_ rfl ⟨A2, c2, ys, wd, x, 0, (some ⟨gE, 0, none⟩), cE, D', rfl, hys, (YE.out.mono rdDep_mono (CC.mle_from (fun k hk => by have : k = w.heap.size := hk; omega))).mono rdDep_mono (fromB_le _ _), (by first | omega | (simp; omega) | (simp; done)), (RE.out.mono rdInt_mono (CC.mle_from (fun k hk => by have : k = w.heap.size := hk; omega))).mono rdInt_mono (fromB_le _ _), CC.fr (fun k hk => by have : k = w.heap.size := hk; omega) FE.out⟩
          obtain ⟨v0, v1, -, -⟩ := RR
          simp only [results, Try.results52, go_sem]
          simp [v0, v1, go_sem, hlenD]
        · go_wp2_with fail
          · have R4' := hid (Blk.ch (S := (· = r)) R4.out HS13.out.1 (by show ¬ (_ = r); omega))
            have FE := hid (HS13.out.1.fr (fun k hk => by have : k = r := hk; omega) F4.out)
            have RE : Hid (RdSl rdInt (fromB w13 (w4.heap.size + 1)) 1 (some ⟨gE, 0, none⟩) ((D'.drop 1))) := hid (by have h : D'.drop 1 = [] := List.drop_eq_nil_of_le (by omega); rw [h]; exact RdSl.nil)
            have YE := hid (Y4.out.mono rdDep_mono (HS13.out.1.mle_from (fun k hk => by have : k = r := hk; omega)))
            obtain ⟨u0, u1, -, -⟩ := HS13.out.2.2.1.two
            obtain ⟨z0, z1, y0, y1⟩ := R4'.out.two
            have hsE := HS13.out.size
            go_wp2_with fail
            go_region
            go_wp2
            have RR := (((R4'.out.set_ 0 (.int .i64 x)).set_ 1 (.int .i64 (0))).drew).two
            have CC : Ch (· = w.heap.size) w13 ((w13.setCell ⟨w.heap.size, 0, none⟩ (.int .i64 x)).setCell ⟨w.heap.size, 1, none⟩ (.int .i64 0)).drew := by
              have C1 : Ch (· = w.heap.size) w13 (w13.setCell ⟨w.heap.size, 0, none⟩ (.int .i64 x)) := Ch.set (S := (· = w.heap.size)) (Ch.refl _) (.inl rfl) _
              have C2 : Ch (· = w.heap.size) w13 ((w13.setCell ⟨w.heap.size, 0, none⟩ (.int .i64 x)).setCell ⟨w.heap.size, 1, none⟩ (.int .i64 (0))) := Ch.set (S := (· = w.heap.size)) C1 (.inl rfl) _
              exact C2.drew
            refine bodyPost_ret (v := .tuple #[.slice A2 ys.length c2, .int .i64 wd, .agg #[.int .i64 x, .int .i64 (0)], .slice (some ⟨gE, 0, none⟩) ((D'.drop 1)).length 0]) ?_ rfl ⟨A2, c2, ys, wd, x, 0, (some ⟨gE, 0, none⟩), 0, (D'.drop 1), rfl, hys, (YE.out.mono rdDep_mono (CC.mle_from (fun k hk => by have : k = w.heap.size := hk; omega))).mono rdDep_mono (fromB_le _ _), (by first | omega | (simp; omega) | (simp; done)), (RE.out.mono rdInt_mono (CC.mle_from (fun k hk => by have : k = w.heap.size := hk; omega))).mono rdInt_mono (fromB_le _ _), CC.fr (fun k hk => by have : k = w.heap.size := hk; omega) FE.out⟩
            obtain ⟨v0, v1, -, -⟩ := RR
            simp only [results, Try.results52, go_sem]
            simp [v0, v1, go_sem, hlenD]
          · have R4' := hid (Blk.ch (S := (· = r)) R4.out HS13.out.1 (by show ¬ (_ = r); omega))
            have FE := hid (HS13.out.1.fr (fun k hk => by have : k = r := hk; omega) F4.out)
            have RE : Hid (RdSl rdInt (fromB w13 (w4.heap.size + 1)) 1 (some ⟨gE, 1, none⟩) ((D'.drop 1))) := hid (RdSl.drop1 (own_int (by have h := HS13.out.2.2.2; rw [← hlenD] at h; exact h) rfl))
            have YE := hid (Y4.out.mono rdDep_mono (HS13.out.1.mle_from (fun k hk => by have : k = r := hk; omega)))
            obtain ⟨u0, u1, -, -⟩ := HS13.out.2.2.1.two
            obtain ⟨z0, z1, y0, y1⟩ := R4'.out.two
            have hsE := HS13.out.size
            go_wp2_with fail
            go_region
            go_wp2
            have RR := (((R4'.out.set_ 0 (.int .i64 x)).set_ 1 (.int .i64 (0))).drew).two
            have CC : Ch (· = w.heap.size) w13 ((w13.setCell ⟨w.heap.size, 0, none⟩ (.int .i64 x)).setCell ⟨w.heap.size, 1, none⟩ (.int .i64 0)).drew := by
              have C1 : Ch (· = w.heap.size) w13 (w13.setCell ⟨w.heap.size, 0, none⟩ (.int .i64 x)) := Ch.set (S := (· = w.heap.size)) (Ch.refl _) (.inl rfl) _
              have C2 : Ch (· = w.heap.size) w13 ((w13.setCell ⟨w.heap.size, 0, none⟩ (.int .i64 x)).setCell ⟨w.heap.size, 1, none⟩ (.int .i64 (0))) := Ch.set (S := (· = w.heap.size)) C1 (.inl rfl) _
              exact C2.drew
            refine bodyPost_ret (v := .tuple #[.slice A2 ys.length c2, .int .i64 wd, .agg #[.int .i64 x, .int .i64 (0)], .slice (some ⟨gE, 1, none⟩) ((D'.drop 1)).length (cE - 1)]) ?_ rfl ⟨A2, c2, ys, wd, x, 0, (some ⟨gE, 1, none⟩), (cE - 1), (D'.drop 1), rfl, hys, (YE.out.mono rdDep_mono (CC.mle_from (fun k hk => by have : k = w.heap.size := hk; omega))).mono rdDep_mono (fromB_le _ _), (by first | omega | (simp; omega) | (simp; done)), (RE.out.mono rdInt_mono (CC.mle_from (fun k hk => by have : k = w.heap.size := hk; omega))).mono rdInt_mono (fromB_le _ _), CC.fr (fun k hk => by have : k = w.heap.size := hk; omega) FE.out⟩
            obtain ⟨v0, v1, -, -⟩ := RR
            simp only [results, Try.results52, go_sem]
            simp [v0, v1, go_sem, hlenD]
    · have HS8 := hid (S8.set1 hlt4 (cloD ys wd x))
      clear S8 m0 m1 n0 n1
      have Q8 := HS8.out.2.1
      go_wp2_with fail
      refine (pick _ _ _ _ Q8 (by omega) (by omega)).mono ?_
      rintro e w9 ⟨j, rfl, hj, hr9, hc9⟩
      have HS9 := hid (HS8.out.ch hc9 hr9 hlt4)
      clear hj Q8 hr9 hc9
      cases e1 : ((j : Int) == 0)
      · by_cases hne : (D).length = 0
        · obtain rfl := List.eq_nil_of_length_eq_zero hne
          obtain ⟨AE, cE, rfl⟩ := own_form HS9.out.2.2.2
          have R4' := hid (Blk.ch (S := (· = r)) R4.out HS9.out.1 (by show ¬ (_ = r); omega))
          have FE := hid (HS9.out.1.fr (fun k hk => by have : k = r := hk; omega) F4.out)
          have RE : Hid (RdSl rdInt (fromB w9 (w4.heap.size + 1)) 1 AE ([])) := hid RdSl.nil
          have YE := hid (Y4.out.mono rdDep_mono (HS9.out.1.mle_from (fun k hk => by have : k = r := hk; omega)))
          obtain ⟨u0, u1, -, -⟩ := HS9.out.2.2.1.two
          obtain ⟨z0, z1, y0, y1⟩ := R4'.out.two
          have hsE := HS9.out.size
          go_wp2_with fail
          go_region
          go_wp2
          have RR := (((R4'.out.set_ 0 (.int .i64 x)).set_ 1 (.int .i64 ((cloD ys wd x)))).drew).two
          have CC : Ch (· = w.heap.size) w9 ((w9.setCell ⟨w.heap.size, 0, none⟩ (.int .i64 x)).setCell ⟨w.heap.size, 1, none⟩ (.int .i64 (cloD ys wd x))).drew := by
            have C1 : Ch (· = w.heap.size) w9 (w9.setCell ⟨w.heap.size, 0, none⟩ (.int .i64 x)) := Ch.set (S := (· = w.heap.size)) (Ch.refl _) (.inl rfl) _
            have C2 : Ch (· = w.heap.size) w9 ((w9.setCell ⟨w.heap.size, 0, none⟩ (.int .i64 x)).setCell ⟨w.heap.size, 1, none⟩ (.int .i64 ((cloD ys wd x)))) := Ch.set (S := (· = w.heap.size)) C1 (.inl rfl) _
            exact C2.drew
          refine bodyPost_ret (v := .tuple #[.slice A2 ys.length c2, .int .i64 wd, .agg #[.int .i64 x, .int .i64 ((cloD ys wd x))], .slice AE ([]).length cE]) ?_ rfl ⟨A2, c2, ys, wd, x, (cloD ys wd x), AE, cE, [], rfl, hys, (YE.out.mono rdDep_mono (CC.mle_from (fun k hk => by have : k = w.heap.size := hk; omega))).mono rdDep_mono (fromB_le _ _), (by first | omega | (simp; omega) | (simp; done)), (RE.out.mono rdInt_mono (CC.mle_from (fun k hk => by have : k = w.heap.size := hk; omega))).mono rdInt_mono (fromB_le _ _), CC.fr (fun k hk => by have : k = w.heap.size := hk; omega) FE.out⟩
          obtain ⟨v0, v1, -, -⟩ := RR
          simp only [results, Try.results52, go_sem]
          simp [v0, v1, go_sem]
        · obtain ⟨gE, cE, rfl, hcap⟩ := own_form1 HS9.out.2.2.2 (by omega)
          have g0 : decide ((0 : Int) < ((D).length : Int)) = true := decide_eq_true (by omega)
          have QR := HS9.out.2.1
          go_wp2_with fail
          refine (pick _ _ _ _ QR (by omega) (by omega)).mono ?_
          rintro e w13 ⟨j2, rfl, hj2, hr13, hc13⟩
          have HS13 := hid (HS9.out.ch hc13 hr13 hlt4)
          clear hj2 QR hr13 hc13 g0
          cases e2 : ((j2 : Int) == 0)
          · have R4' := hid (Blk.ch (S := (· = r)) R4.out HS13.out.1 (by show ¬ (_ = r); omega))
            have FE := hid (HS13.out.1.fr (fun k hk => by have : k = r := hk; omega) F4.out)
            have RE : Hid (RdSl rdInt (fromB w13 (w4.heap.size + 1)) 1 (some ⟨gE, 0, none⟩) (D)) := hid (own_int HS13.out.2.2.2 rfl)
            have YE := hid (Y4.out.mono rdDep_mono (HS13.out.1.mle_from (fun k hk => by have : k = r := hk; omega)))
            obtain ⟨u0, u1, -, -⟩ := HS13.out.2.2.1.two
            obtain ⟨z0, z1, y0, y1⟩ := R4'.out.two
            have hsE := HS13.out.size
            go_wp2_with fail
            go_region
            go_wp2
            have RR := (((R4'.out.set_ 0 (.int .i64 x)).set_ 1 (.int .i64 ((cloD ys wd x)))).drew).two
            have CC : Ch (· = w.heap.size) w13 ((w13.setCell ⟨w.heap.size, 0, none⟩ (.int .i64 x)).setCell ⟨w.heap.size, 1, none⟩ (.int .i64 (cloD ys wd x))).drew := by
              have C1 : Ch (· = w.heap.size) w13 (w13.setCell ⟨w.heap.size, 0, none⟩ (.int .i64 x)) := Ch.set (S := (· = w.heap.size)) (Ch.refl _) (.inl rfl) _
              have C2 : Ch (· = w.heap.size) w13 ((w13.setCell ⟨w.heap.size, 0, none⟩ (.int .i64 x)).setCell ⟨w.heap.size, 1, none⟩ (.int .i64 ((cloD ys wd x)))) := Ch.set (S := (· = w.heap.size)) C1 (.inl rfl) _
              exact C2.drew
            refine bodyPost_ret (v := .tuple #[.slice A2 ys.length c2, .int .i64 wd, .agg #[.int .i64 x, .int .i64 ((cloD ys wd x))], .slice (some ⟨gE, 0, none⟩) (D).length cE]) ?_ rfl ⟨A2, c2, ys, wd, x, (cloD ys wd x), (some ⟨gE, 0, none⟩), cE, D, rfl, hys, (YE.out.mono rdDep_mono (CC.mle_from (fun k hk => by have : k = w.heap.size := hk; omega))).mono rdDep_mono (fromB_le _ _), (by first | omega | (simp; omega) | (simp; done)), (RE.out.mono rdInt_mono (CC.mle_from (fun k hk => by have : k = w.heap.size := hk; omega))).mono rdInt_mono (fromB_le _ _), CC.fr (fun k hk => by have : k = w.heap.size := hk; omega) FE.out⟩
            obtain ⟨v0, v1, -, -⟩ := RR
            simp only [results, Try.results52, go_sem]
            simp [v0, v1, go_sem]
          · go_wp2_with fail
            · have R4' := hid (Blk.ch (S := (· = r)) R4.out HS13.out.1 (by show ¬ (_ = r); omega))
              have FE := hid (HS13.out.1.fr (fun k hk => by have : k = r := hk; omega) F4.out)
              have RE : Hid (RdSl rdInt (fromB w13 (w4.heap.size + 1)) 1 (some ⟨gE, 0, none⟩) ((D.drop 1))) := hid (by have h : D.drop 1 = [] := List.drop_eq_nil_of_le (by omega); rw [h]; exact RdSl.nil)
              have YE := hid (Y4.out.mono rdDep_mono (HS13.out.1.mle_from (fun k hk => by have : k = r := hk; omega)))
              obtain ⟨u0, u1, -, -⟩ := HS13.out.2.2.1.two
              obtain ⟨z0, z1, y0, y1⟩ := R4'.out.two
              have hsE := HS13.out.size
              go_wp2_with fail
              go_region
              go_wp2
              have RR := (((R4'.out.set_ 0 (.int .i64 x)).set_ 1 (.int .i64 ((cloD ys wd x)))).drew).two
              have CC : Ch (· = w.heap.size) w13 ((w13.setCell ⟨w.heap.size, 0, none⟩ (.int .i64 x)).setCell ⟨w.heap.size, 1, none⟩ (.int .i64 (cloD ys wd x))).drew := by
                have C1 : Ch (· = w.heap.size) w13 (w13.setCell ⟨w.heap.size, 0, none⟩ (.int .i64 x)) := Ch.set (S := (· = w.heap.size)) (Ch.refl _) (.inl rfl) _
                have C2 : Ch (· = w.heap.size) w13 ((w13.setCell ⟨w.heap.size, 0, none⟩ (.int .i64 x)).setCell ⟨w.heap.size, 1, none⟩ (.int .i64 ((cloD ys wd x)))) := Ch.set (S := (· = w.heap.size)) C1 (.inl rfl) _
                exact C2.drew
              refine bodyPost_ret (v := .tuple #[.slice A2 ys.length c2, .int .i64 wd, .agg #[.int .i64 x, .int .i64 ((cloD ys wd x))], .slice (some ⟨gE, 0, none⟩) ((D.drop 1)).length 0]) ?_ rfl ⟨A2, c2, ys, wd, x, (cloD ys wd x), (some ⟨gE, 0, none⟩), 0, (D.drop 1), rfl, hys, (YE.out.mono rdDep_mono (CC.mle_from (fun k hk => by have : k = w.heap.size := hk; omega))).mono rdDep_mono (fromB_le _ _), (by first | omega | (simp; omega) | (simp; done)), (RE.out.mono rdInt_mono (CC.mle_from (fun k hk => by have : k = w.heap.size := hk; omega))).mono rdInt_mono (fromB_le _ _), CC.fr (fun k hk => by have : k = w.heap.size := hk; omega) FE.out⟩
              obtain ⟨v0, v1, -, -⟩ := RR
              simp only [results, Try.results52, go_sem]
              simp [v0, v1, go_sem]
            · have R4' := hid (Blk.ch (S := (· = r)) R4.out HS13.out.1 (by show ¬ (_ = r); omega))
              have FE := hid (HS13.out.1.fr (fun k hk => by have : k = r := hk; omega) F4.out)
              have RE : Hid (RdSl rdInt (fromB w13 (w4.heap.size + 1)) 1 (some ⟨gE, 1, none⟩) ((D.drop 1))) := hid (RdSl.drop1 (own_int HS13.out.2.2.2 rfl))
              have YE := hid (Y4.out.mono rdDep_mono (HS13.out.1.mle_from (fun k hk => by have : k = r := hk; omega)))
              obtain ⟨u0, u1, -, -⟩ := HS13.out.2.2.1.two
              obtain ⟨z0, z1, y0, y1⟩ := R4'.out.two
              have hsE := HS13.out.size
              go_wp2_with fail
              go_region
              go_wp2
              have RR := (((R4'.out.set_ 0 (.int .i64 x)).set_ 1 (.int .i64 ((cloD ys wd x)))).drew).two
              have CC : Ch (· = w.heap.size) w13 ((w13.setCell ⟨w.heap.size, 0, none⟩ (.int .i64 x)).setCell ⟨w.heap.size, 1, none⟩ (.int .i64 (cloD ys wd x))).drew := by
                have C1 : Ch (· = w.heap.size) w13 (w13.setCell ⟨w.heap.size, 0, none⟩ (.int .i64 x)) := Ch.set (S := (· = w.heap.size)) (Ch.refl _) (.inl rfl) _
                have C2 : Ch (· = w.heap.size) w13 ((w13.setCell ⟨w.heap.size, 0, none⟩ (.int .i64 x)).setCell ⟨w.heap.size, 1, none⟩ (.int .i64 ((cloD ys wd x)))) := Ch.set (S := (· = w.heap.size)) C1 (.inl rfl) _
                exact C2.drew
              refine bodyPost_ret (v := .tuple #[.slice A2 ys.length c2, .int .i64 wd, .agg #[.int .i64 x, .int .i64 ((cloD ys wd x))], .slice (some ⟨gE, 1, none⟩) ((D.drop 1)).length (cE - 1)]) ?_ rfl ⟨A2, c2, ys, wd, x, (cloD ys wd x), (some ⟨gE, 1, none⟩), (cE - 1), (D.drop 1), rfl, hys, (YE.out.mono rdDep_mono (CC.mle_from (fun k hk => by have : k = w.heap.size := hk; omega))).mono rdDep_mono (fromB_le _ _), (by first | omega | (simp; omega) | (simp; done)), (RE.out.mono rdInt_mono (CC.mle_from (fun k hk => by have : k = w.heap.size := hk; omega))).mono rdInt_mono (fromB_le _ _), CC.fr (fun k hk => by have : k = w.heap.size := hk; omega) FE.out⟩
              obtain ⟨v0, v1, -, -⟩ := RR
              simp only [results, Try.results52, go_sem]
              simp [v0, v1, go_sem]
      · have QO := HS9.out.2.1.alloc (.cells #[.int .i64 0, .int .i64 1, .int .i64 (-1), .int .i64 9] 3)
        have hz9 := HS9.out.size
        go_wp2_with fail
        refine (one _ _ [0, 1, -1, 9] r _ _ QO (by omega) (lit_ints (by omega)) (by decide) (by decide)).mono ?_
        rintro e w10 ⟨z, hz, rfl, hr10, hc10⟩
        have S10 := (St.fr HS9.out ((Fr.refl _).alloc _)).ch hc10 hr10 hlt4
        have S11 := S10.fr ((Fr.refl w10).alloc (.cells #[.int .i64 z] 3))
        have hz10 := S10.size
        clear hz QO hr10 hc10
        go_wp2_with (at_builtin; refine wp_app1 rfl _ _ 38 rfl (w4.heap.size + 1) 3 (.int .i64 0) 1 8 Try.underlying38 (by kernel_rfl) rfl (by decide) (by decide) _ _ _ rfl S11.2.2.2 (by omega) (by simp; omega) w10.heap.size [.int .i64 z] rfl (blk_new (by simp)) rfl rfl ?_; intro v12 w12 o12 g12; obtain ⟨gE, cE, rfl, hcap⟩ := own_form1 o12 (by omega))
        have HS12' := hid (St.grown (D' := D ++ [z]) S11 hlt4 g12 (by simpa [iv] using o12))
        clear S10 S11 o12 g12
        have hl12 : (D ++ [z]).length ≤ 65 := by simp; omega
        have hlenD : (D ++ [z]).length = D.length + 1 := by simp
        generalize D ++ [z] = D' at HS12' hl12 hlenD
        have HS12 := HS12'
        clear HS12'
        have g0 : decide ((0 : Int) < (D.length + 1 : Int)) = true := decide_eq_true (by omega)
        have QR := HS12.out.2.1
        go_wp2_with fail
        refine (pick _ _ _ _ QR (by omega) (by omega)).mono ?_
        rintro e w13 ⟨j2, rfl, hj2, hr13, hc13⟩
        have HS13 := hid (HS12.out.ch hc13 hr13 hlt4)
        clear hj2 QR hr13 hc13 g0
        cases e2 : ((j2 : Int) == 0)
        · have R4' := hid (Blk.ch (S := (· = r)) R4.out HS13.out.1 (by show ¬ (_ = r); omega))
          have FE := hid (HS13.out.1.fr (fun k hk => by have : k = r := hk; omega) F4.out)
          have RE : Hid (RdSl rdInt (fromB w13 (w4.heap.size + 1)) 1 (some ⟨gE, 0, none⟩) (D')) := hid (own_int (by have h := HS13.out.2.2.2; rw [← hlenD] at h; exact h) rfl)
          have YE := hid (Y4.out.mono rdDep_mono (HS13.out.1.mle_from (fun k hk => by have : k = r := hk; omega)))
          obtain ⟨u0, u1, -, -⟩ := HS13.out.2.2.1.two
          obtain ⟨z0, z1, y0, y1⟩ := R4'.out.two
          have hsE := HS13.out.size
          go_wp2_with fail
          go_region
          go_wp2
          have RR := (((R4'.out.set_ 0 (.int .i64 x)).set_ 1 (.int .i64 ((cloD ys wd x)))).drew).two
          have CC : Ch (· = w.heap.size) w13 ((w13.setCell ⟨w.heap.size, 0, none⟩ (.int .i64 x)).setCell ⟨w.heap.size, 1, none⟩ (.int .i64 (cloD ys wd x))).drew := by
            have C1 : Ch (· = w.heap.size) w13 (w13.setCell ⟨w.heap.size, 0, none⟩ (.int .i64 x)) := Ch.set (S := (· = w.heap.size)) (Ch.refl _) (.inl rfl) _
            have C2 : Ch (· = w.heap.size) w13 ((w13.setCell ⟨w.heap.size, 0, none⟩ (.int .i64 x)).setCell ⟨w.heap.size, 1, none⟩ (.int .i64 ((cloD ys wd x)))) := Ch.set (S := (· = w.heap.size)) C1 (.inl rfl) _
            exact C2.drew
          refine bodyPost_ret (v := .tuple #[.slice A2 ys.length c2, .int .i64 wd, .agg #[.int .i64 x, .int .i64 ((cloD ys wd x))], .slice (some ⟨gE, 0, none⟩) (D').length cE]) ?_ rfl ⟨A2, c2, ys, wd, x, (cloD ys wd x), (some ⟨gE, 0, none⟩), cE, D', rfl, hys, (YE.out.mono rdDep_mono (CC.mle_from (fun k hk => by have : k = w.heap.size := hk; omega))).mono rdDep_mono (fromB_le _ _), (by first | omega | (simp; omega) | (simp; done)), (RE.out.mono rdInt_mono (CC.mle_from (fun k hk => by have : k = w.heap.size := hk; omega))).mono rdInt_mono (fromB_le _ _), CC.fr (fun k hk => by have : k = w.heap.size := hk; omega) FE.out⟩
          obtain ⟨v0, v1, -, -⟩ := RR
          simp only [results, Try.results52, go_sem]
          simp [v0, v1, go_sem, hlenD]
        · go_wp2_with fail
          · have R4' := hid (Blk.ch (S := (· = r)) R4.out HS13.out.1 (by show ¬ (_ = r); omega))
            have FE := hid (HS13.out.1.fr (fun k hk => by have : k = r := hk; omega) F4.out)
            have RE : Hid (RdSl rdInt (fromB w13 (w4.heap.size + 1)) 1 (some ⟨gE, 0, none⟩) ((D'.drop 1))) := hid (by have h : D'.drop 1 = [] := List.drop_eq_nil_of_le (by omega); rw [h]; exact RdSl.nil)
            have YE := hid (Y4.out.mono rdDep_mono (HS13.out.1.mle_from (fun k hk => by have : k = r := hk; omega)))
            obtain ⟨u0, u1, -, -⟩ := HS13.out.2.2.1.two
            obtain ⟨z0, z1, y0, y1⟩ := R4'.out.two
            have hsE := HS13.out.size
            go_wp2_with fail
            go_region
            go_wp2
            have RR := (((R4'.out.set_ 0 (.int .i64 x)).set_ 1 (.int .i64 ((cloD ys wd x)))).drew).two
            have CC : Ch (· = w.heap.size) w13 ((w13.setCell ⟨w.heap.size, 0, none⟩ (.int .i64 x)).setCell ⟨w.heap.size, 1, none⟩ (.int .i64 (cloD ys wd x))).drew := by
              have C1 : Ch (· = w.heap.size) w13 (w13.setCell ⟨w.heap.size, 0, none⟩ (.int .i64 x)) := Ch.set (S := (· = w.heap.size)) (Ch.refl _) (.inl rfl) _
              have C2 : Ch (· = w.heap.size) w13 ((w13.setCell ⟨w.heap.size, 0, none⟩ (.int .i64 x)).setCell ⟨w.heap.size, 1, none⟩ (.int .i64 ((cloD ys wd x)))) := Ch.set (S := (· = w.heap.size)) C1 (.inl rfl) _
              exact C2.drew
            refine bodyPost_ret (v := .tuple #[.slice A2 ys.length c2, .int .i64 wd, .agg #[.int .i64 x, .int .i64 ((cloD ys wd x))], .slice (some ⟨gE, 0, none⟩) ((D'.drop 1)).length 0]) ?_ rfl ⟨A2, c2, ys, wd, x, (cloD ys wd x), (some ⟨gE, 0, none⟩), 0, (D'.drop 1), rfl, hys, (YE.out.mono rdDep_mono (CC.mle_from (fun k hk => by have : k = w.heap.size := hk; omega))).mono rdDep_mono (fromB_le _ _), (by first | omega | (simp; omega) | (simp; done)), (RE.out.mono rdInt_mono (CC.mle_from (fun k hk => by have : k = w.heap.size := hk; omega))).mono rdInt_mono (fromB_le _ _), CC.fr (fun k hk => by have : k = w.heap.size := hk; omega) FE.out⟩
            obtain ⟨v0, v1, -, -⟩ := RR
            simp only [results, Try.results52, go_sem]
            simp [v0, v1, go_sem, hlenD]
          · have R4' := hid (Blk.ch (S := (· = r)) R4.out HS13.out.1 (by show ¬ (_ = r); omega))
            have FE := hid (HS13.out.1.fr (fun k hk => by have : k = r := hk; omega) F4.out)
            have RE : Hid (RdSl rdInt (fromB w13 (w4.heap.size + 1)) 1 (some ⟨gE, 1, none⟩) ((D'.drop 1))) := hid (RdSl.drop1 (own_int (by have h := HS13.out.2.2.2; rw [← hlenD] at h; exact h) rfl))
            have YE := hid (Y4.out.mono rdDep_mono (HS13.out.1.mle_from (fun k hk => by have : k = r := hk; omega)))
            obtain ⟨u0, u1, -, -⟩ := HS13.out.2.2.1.two
            obtain ⟨z0, z1, y0, y1⟩ := R4'.out.two
            have hsE := HS13.out.size
            go_wp2_with fail
            go_region
            go_wp2
            have RR := (((R4'.out.set_ 0 (.int .i64 x)).set_ 1 (.int .i64 ((cloD ys wd x)))).drew).two
            have CC : Ch (· = w.heap.size) w13 ((w13.setCell ⟨w.heap.size, 0, none⟩ (.int .i64 x)).setCell ⟨w.heap.size, 1, none⟩ (.int .i64 (cloD ys wd x))).drew := by
              have C1 : Ch (· = w.heap.size) w13 (w13.setCell ⟨w.heap.size, 0, none⟩ (.int .i64 x)) := Ch.set (S := (· = w.heap.size)) (Ch.refl _) (.inl rfl) _
              have C2 : Ch (· = w.heap.size) w13 ((w13.setCell ⟨w.heap.size, 0, none⟩ (.int .i64 x)).setCell ⟨w.heap.size, 1, none⟩ (.int .i64 ((cloD ys wd x)))) := Ch.set (S := (· = w.heap.size)) C1 (.inl rfl) _
              exact C2.drew
            refine bodyPost_ret (v := .tuple #[.slice A2 ys.length c2, .int .i64 wd, .agg #[.int .i64 x, .int .i64 ((cloD ys wd x))], .slice (some ⟨gE, 1, none⟩) ((D'.drop 1)).length (cE - 1)]) ?_ rfl ⟨A2, c2, ys, wd, x, (cloD ys wd x), (some ⟨gE, 1, none⟩), (cE - 1), (D'.drop 1), rfl, hys, (YE.out.mono rdDep_mono (CC.mle_from (fun k hk => by have : k = w.heap.size := hk; omega))).mono rdDep_mono (fromB_le _ _), (by first | omega | (simp; omega) | (simp; done)), (RE.out.mono rdInt_mono (CC.mle_from (fun k hk => by have : k = w.heap.size := hk; omega))).mono rdInt_mono (fromB_le _ _), CC.fr (fun k hk => by have : k = w.heap.size := hk; omega) FE.out⟩
            obtain ⟨v0, v1, -, -⟩ := RR
            simp only [results, Try.results52, go_sem]
            simp [v0, v1, go_sem, hlenD]
end Go.Proofs.Ytabbcepdinplfaa
