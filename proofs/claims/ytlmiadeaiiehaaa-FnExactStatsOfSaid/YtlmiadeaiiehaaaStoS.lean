/- Walk of the reference's StatsOf. -/
import Derived.Test.YtlmiadeaiiehaaaStM
import Derived.Test.YtlmiadeaiiehaaaCountW
import Derived.Test.YtlmiadeaiiehaaaOwnN
import Derived.Deep.QuietTactic
namespace Go.Proofs.Ytlmiadeaiiehaaa
open Go Go.RowKit

/-- The rows of one number each that have been seen: each in a block of its own. -/
def SeenV (w : World) (vs : List Value) (S : List Int) : Prop := vs.length = S.length ∧ ∀ j (h : j < S.length) (h' : j < vs.length), ∃ d, vs[j] = .slice (some ⟨d, 0, none⟩) 1 1 ∧ Blk w d 63 #[.bool false, .int .i64 S[j]]
section
variable {w w' : World} {vs : List Value} {S : List Int}
theorem SeenV.nil : SeenV w [] [] := ⟨rfl, fun _ h => by simp at h⟩
theorem SeenV.fr (h : SeenV w vs S) (hf : Fr w w') : SeenV w' vs S := ⟨h.1, fun j a b => by obtain ⟨d, k1, k2⟩ := h.2 j a b; exact ⟨d, k1, k2.fr hf⟩⟩
theorem SeenV.grown {base n : Nat} {v : Value} {xs : List Value} (h : SeenV w vs S) (hO : w.ownsRow base 61 1 v n xs) (hg : w.grownBy w' v.ownBlock) : SeenV w' vs S := ⟨h.1, fun j a b => by
  obtain ⟨d, k1, k2⟩ := h.2 j a b
  exact ⟨d, k1, blk_grown k2 hg (own_ne hO k2 (by decide))⟩⟩
theorem SeenV.snoc {d : Nat} {n : Int} (h : SeenV w vs S) (hB : Blk w d 63 #[.bool false, .int .i64 n]) : SeenV w (vs ++ [.slice (some ⟨d, 0, none⟩) 1 1]) (S ++ [n]) := by
  refine ⟨by simp [h.1], fun j a b => ?_⟩
  by_cases hj : j < S.length
  · obtain ⟨d', k1, k2⟩ := h.2 j hj (by rw [h.1]; exact hj)
    refine ⟨d', ?_, ?_⟩
    · rw [List.getElem_append_left (by rw [h.1]; exact hj)]; exact k1
    · rw [List.getElem_append_left hj]; exact k2
  · have e : j = S.length := by simp at a; omega
    subst e
    refine ⟨d, ?_, ?_⟩
    · rw [List.getElem_append_right (by rw [h.1]; omega)]; simp [h.1]
    · rw [List.getElem_append_right (by omega)]; simpa using hB
theorem SeenV.rd {base n c : Nat} {A : Option Addr} (h : SeenV w vs S) (hO : w.ownsRow base 61 1 (.slice A n c) n vs) (hn : n = S.length) : RdSl rdRow w.cell? 1 A (S.map rowI) := fun hne => by
  rcases hO.2 with ⟨hv, hxs⟩ | ⟨g, cap, cur, hv, _, hh, hnc, hm, hs, hcells⟩
  · have : S = [] := List.eq_nil_of_length_eq_zero (by omega)
    subst this
    exact absurd rfl hne
  · cases hv
    refine ⟨g, 0, rfl, fun i hi => ?_⟩
    have hi' : i < S.length := by simpa using hi
    obtain ⟨d, k1, k2⟩ := h.2 i hi' (by rw [h.1]; exact hi')
    have e : (S.map rowI)[i] = rowI S[i] := by simp
    rw [e]
    refine ⟨some ⟨d, 0, none⟩, 1, ?_, fun _ => ⟨d, 0, rfl, fun j hj => ?_⟩, by show 1 ≤ maxLen; decide, Nat.le_refl _⟩
    · have hc : w.cell? ⟨g, i, none⟩ = some (vs[i]'(by rw [h.1]; exact hi')) := own_cells hO i _ (List.getElem?_eq_getElem _)
      rw [k1] at hc
      show w.cell? ⟨g, 0 + i * 1 + 0, none⟩ = some (.slice (some ⟨d, 0, none⟩) 1 1)
      rw [show 0 + i * 1 + 0 = i by omega]
      exact hc
    · obtain rfl : j = 0 := by simp [rowI] at hj; exact hj
      obtain ⟨q0, q1, _⟩ := k2.pair
      show w.cell? ⟨d, 0 + 0 * 2 + 0, none⟩ = some (.bool false) ∧ w.cell? ⟨d, 0 + 0 * 2 + 1, none⟩ = some (.int .i64 S[i])
      exact ⟨q0, q1⟩
end
/-- The two rows lie in different blocks. -/
def Apart (v u : Value) : Prop := ∀ k, v.ownBlock = some k → u.ownBlock = some k → False
theorem rd_rowI {w : World} {g : Nat} {n : Int} (h : Blk w g 63 #[.bool false, .int .i64 n]) : RdSl rdV w.cell? 2 (some ⟨g, 0, none⟩) (rowI n) := fun _ => ⟨g, 0, rfl, fun j hj => by
  obtain rfl : j = 0 := by simp [rowI] at hj; exact hj
  obtain ⟨q0, q1, _⟩ := h.pair
  show w.cell? ⟨g, 0 + 0 * 2 + 0, none⟩ = some (.bool false) ∧ w.cell? ⟨g, 0 + 0 * 2 + 1, none⟩ = some (.int .i64 n)
  exact ⟨q0, q1⟩⟩
theorem smallR_rowI (S : List Int) (h : S.length ≤ 1048576) : SmallR (S.map rowI) := ⟨by simpa using h, fun i hi => by simp [rowI]⟩
structure OutS (w0 : World) (T R O : Nat) (W : Nat) (A : Option Addr) (c : Nat) (rows : List (List V)) (k : Nat) (wr : World) : Prop where
  bT : Blk wr T 32 #[.int .i64 (W : Int), .slice A rows.length c]
  bR : Blk wr R 28 #[.int .i64 0, .slice none 0 0, .slice none 0 0]
  bO : ∃ VD VN, Blk wr O 28 #[.int .i64 (rows.length : Int), VD, VN] ∧ wr.ownsRow w0.heap.size 3 1 VD k ((dstL k rows).map iv) ∧ wr.ownsRow w0.heap.size 3 1 VN k ((nulL k rows).map iv) ∧ Apart VD VN
  fr : Fr w0 wr
theorem Apart.kept {v u : Value} (h : Apart v u) : u.ownBlock = none ∨ u.ownBlock ≠ v.ownBlock := by
  cases hu : u.ownBlock with
  | none => exact .inl rfl
  | some g => exact .inr fun e => h g e.symm hu
theorem Apart.symm {v u : Value} (h : Apart v u) : Apart u v := fun k a b => h k b a
theorem Apart.wh {w : World} {base e sz n : Nat} {v u v' : Value} {xs : List Value} (h : Apart v u) (hw : Wh w v v') (hu : w.ownsRow base e sz u n xs) : Apart v' u := fun k a b => by
  rcases hw k a with h1 | h1
  · exact h k h1 b
  · have := (own_lt hu k b).2; omega
/-- What stands behind the first append of a round. -/
theorem OutS.mid {w0 Wq w7 : World} {T R O W c k : Nat} {A : Option Addr} {rows : List (List V)} {VD VN v7 : Value} {o1 : Obj} {xs ys zs : List Value} {n m : Nat} {cs cs' ds : Array Value} (hT : Blk Wq T 32 cs) (hR : Blk Wq R 28 cs') (hO : Blk Wq O 28 ds) (oD : Wq.ownsRow w0.heap.size 3 1 VD n xs) (oN : Wq.ownsRow w0.heap.size 3 1 VN m ys) (hA : Apart VD VN) (hF : Fr w0 Wq)
    (hg : (Wq.alloc o1).grownBy w7 VD.ownBlock) (hw : Wh (Wq.alloc o1) VD v7) :
    Blk w7 T 32 cs ∧ Blk w7 R 28 cs' ∧ Blk w7 O 28 ds ∧ w7.ownsRow w0.heap.size 3 1 VN m ys ∧ Apart v7 VN ∧ Fr w0 w7 := by
  have oDa := own_fr oD ((Fr.refl Wq).alloc o1)
  have oNa := own_fr oN ((Fr.refl Wq).alloc o1)
  exact ⟨blk_grown (hT.alloc o1) hg (own_ne oD hT (by decide)), blk_grown (hR.alloc o1) hg (own_ne oD hR (by decide)), blk_grown (hO.alloc o1) hg (own_ne oD hO (by decide)), oNa.kept hg hA.kept, hA.wh hw oNa, Fr.grown (hF.alloc o1) hg oDa⟩
theorem cell_new_set {w : World} {p : Addr} {v u : Value} {t : TypeId} {cs : Array Value} {j : Nat} (hu : cs[j]? = some u) : ((w.setCell p v).alloc (.cells cs t)).cell? ⟨w.heap.size, j, none⟩ = some u := by
  rw [← World.size_setCell w p v, (Blk.new _ _ _).cell]
  exact hu
theorem dstL_succ (k : Nat) (rows : List (List V)) : dstL (k + 1) rows = dstL k rows ++ [((seenL k rows).length : Int)] := by
  unfold dstL
  rw [List.range_succ, List.map_append]
  rfl
theorem nulL_succ (k : Nat) (rows : List (List V)) : nulL (k + 1) rows = nulL k rows ++ [(nulC k rows : Int)] := by
  unfold nulL
  rw [List.range_succ, List.map_append]
  rfl
/-- Statistics in blocks from base on. -/
def StB (base : Nat) (L : St) (r : Ending) (w' : World) : Prop := ∃ A c B d, r = .returned (.agg #[.int .i64 L.r, .slice A L.ds.length c, .slice B L.ns.length d]) ∧ StRd (fromB w' base) A B L
set_option maxRecDepth 100000 in
set_option maxHeartbeats 4000000 in
theorem specStatW (W : Nat) (A0 : Option Addr) (c0 : Nat) (rows : List (List V)) (w : World) (hx : RdSl rdRow w.cell? 1 A0 rows) (hl : rows.length ≤ 400) (hr : ∀ i (h : i < rows.length), rows[i].length = W) (hW : W ≤ 6) :
    Calls Try.prog 26 #[.agg #[.int .i64 (W : Int), .slice A0 rows.length c0]] w fun r w' => StB w.heap.size ⟨rows.length, dstL W rows, nulL W rows⟩ r w' ∧ Fr w w' := by
  have HX := hid hx
  have HR := hid hr
  clear hx hr
  have BT := ((Blk.new w 32 #[.int .i64 (W : Int), .slice A0 rows.length c0]).alloc (.cells #[.int .i64 0, .slice none 0 0, .slice none 0 0] 28)).alloc (.cells #[.int .i64 (rows.length : Int), .slice none 0 0, .slice none 0 0] 28)
  have BR := (Blk.new (w.alloc (.cells #[.int .i64 (W : Int), .slice A0 rows.length c0] 32)) 28 #[.int .i64 0, .slice none 0 0, .slice none 0 0]).alloc (.cells #[.int .i64 (rows.length : Int), .slice none 0 0, .slice none 0 0] 28)
  have BO := Blk.new ((w.alloc (.cells #[.int .i64 (W : Int), .slice A0 rows.length c0] 32)).alloc (.cells #[.int .i64 0, .slice none 0 0, .slice none 0 0] 28)) 28 #[.int .i64 (rows.length : Int), .slice none 0 0, .slice none 0 0]
  have F1 : Fr w (((w.alloc (.cells #[.int .i64 (W : Int), .slice A0 rows.length c0] 32)).alloc (.cells #[.int .i64 0, .slice none 0 0, .slice none 0 0] 28)).alloc (.cells #[.int .i64 (rows.length : Int), .slice none 0 0, .slice none 0 0] 28)) := by (repeat (first | with_reducible exact Fr.refl _ | with_reducible assumption | with_reducible refine Fr.alloc ?_ _ | with_reducible refine Fr.drew ?_ | with_reducible refine Fr.drewN ?_ _ | (with_reducible refine Fr.setNew2 ?_ ?_ _; · (simp <;> omega)) | with_reducible refine Fr.trans ?_ (by assumption)))
  rw [World.size_alloc] at BR BO
  rw [World.size_alloc] at BO
  go_enter Try.func26, Try.ntmps26
  go_wp2
  generalize (((w.alloc (.cells #[.int .i64 (W : Int), .slice A0 rows.length c0] 32)).alloc (.cells #[.int .i64 0, .slice none 0 0, .slice none 0 0] 28)).alloc (.cells #[.int .i64 (rows.length : Int), .slice none 0 0, .slice none 0 0] 28)) = W1 at BT BR BO F1 ⊢
  obtain ⟨T, eT⟩ : ∃ g, w.heap.size = g := ⟨_, rfl⟩
  obtain ⟨R, eR⟩ : ∃ g, T + 1 = g := ⟨_, rfl⟩
  obtain ⟨O, eO⟩ : ∃ g, R + 1 = g := ⟨_, rfl⟩
  rw [eT, eR] at BR
  rw [eT, eR, eO] at BO
  rw [eT] at BT
  have ORD := hid (show w.heap.size ≤ T ∧ w.heap.size ≤ R ∧ w.heap.size ≤ O ∧ T ≠ O ∧ R ≠ O from ⟨by omega, by omega, by omega, by omega, by omega⟩)
  have S0 := hid (show OutS w T R O W A0 c0 rows 0 W1 from ⟨BT, BR, ⟨_, _, BO, own_nil, own_nil, fun k h => by cases h⟩, F1⟩)
  simp only [eT, eR, eO]
  clear BT BR BO F1 eT eR eO
  go_loopw [4] (fun t wr => ∃ k : Nat, k ≤ W ∧ t = .int .i64 k ∧ Hid (OutS w T R O W A0 c0 rows k wr)) (fun t _ => W - (intOf t).toNat)
  case atStart => exact ⟨0, by omega, rfl, S0⟩
  case round =>
    clear S0
    revert wr
    intro W2 hrel
    obtain ⟨k, hk, rfl, hO⟩ := hrel
    obtain ⟨t0, t1, _⟩ := hO.out.bT.pair
    by_cases hlt : k < W
    · have el : decide ((k : Int) < (W : Int)) = true := by simp; omega
      have EM := hid (own_empty (w := W2) (base := W2.heap.size) (e := 61) (sz := 1) (Nat.le_refl _))
      have FW : Fr W2 (W2.alloc (.cells #[] 61)) := (Fr.refl _).alloc _
      obtain ⟨WI, eWI⟩ : ∃ X, W2.alloc (.cells #[] 61) = X := ⟨_, rfl⟩
      go_wp2
      rw [eWI] at EM FW
      clear eWI t0 t1
      obtain ⟨sb, esb⟩ : ∃ g, W2.heap.size = g := ⟨_, rfl⟩
      have SB := hid esb
      rw [esb] at EM ⊢
      clear esb
      have I0 := hid (And.intro EM.out (And.intro (SeenV.nil (w := WI)) FW))
      go_loopw [5, 6, 7] (fun s n i wr => ∃ (j N cap : Nat) (A : Option Addr) (S : List Int) (vs : List Value), j ≤ rows.length ∧ i = .int .i64 j ∧ n = .int .i64 N ∧ s = .slice A S.length cap ∧ N ≤ j ∧ S.length ≤ j ∧ Hid (N = nulC k (rows.take j) ∧ S = seenL k (rows.take j)) ∧ Hid (wr.ownsRow sb 61 1 (.slice A S.length cap) S.length vs ∧ SeenV wr vs S ∧ Fr W2 wr)) (fun _ _ i _ => rows.length - (intOf i).toNat)
      case atStart => exact ⟨0, 0, 0, _, [], [], by omega, rfl, rfl, rfl, by omega, by simp, hid ⟨rfl, rfl⟩, I0⟩
      case round =>
        clear I0
        revert wr
        intro Wq hrel
        obtain ⟨j, N, cap, A, S, vs, hj, rfl, rfl, rfl, hN, hS, hE, hI⟩ := hrel
        have hF := hI.out.2.2
        obtain ⟨t0, t1, _⟩ := (hO.out.bT.fr hF).pair
        by_cases hjl : j < rows.length
        · obtain ⟨b, o, B, bc, hA, r0, rr, _, _⟩ := HX.out.row hjl
          subst hA
          have hFw := hO.out.fr.trans hF
          replace r0 := hFw.cell r0
          have hrl := HR.out j hjl
          obtain ⟨b2, o2, hB, v0, v1⟩ := rr.v (k := k) (by omega)
          subst hB
          replace v0 := hFw.cell v0
          replace v1 := hFw.cell v1
          have ec : colAt k rows[j] = rows[j][k]'(by omega) := colAt_eq (by omega)
          have E1 := seenL_take (c := k) hjl
          have E2 := nulC_take (c := k) hjl
          rw [ec] at E1 E2
          obtain ⟨v, ev⟩ : ∃ v, rows[j][k]'(by omega) = v := ⟨_, rfl⟩
          rw [ev] at v0 v1 E1 E2
          rw [hrl] at r0
          have EH := hid (And.intro E1 E2)
          have hbw := hFw.size
          clear E1 E2 ec ev rr hrl hFw
          have ej : decide ((j : Int) < (rows.length : Int)) = true := by simp; omega
          rcases v with ⟨vn, n⟩
          cases vn
          · have CT := hid (fun W' (h : Fr Wq W') (g : Nat) (hb : Blk W' g 63 #[.bool false, .int .i64 n]) => specCount A (some ⟨g, 0, none⟩) cap 1 (S.map rowI) (rowI n) W' ((hI.out.2.1.fr h).rd (own_fr hI.out.1 h) rfl) (smallR_rowI S (by omega)) (rd_rowI hb) (by simp [rowI]))
            rw [List.length_map] at CT
            obtain ⟨Z, eZ⟩ : ∃ Z, cntR (S.map rowI) (rowI n) = Z := ⟨_, rfl⟩
            have HZ := hid (cntR_seen (s := S) (n := n))
            rw [eZ] at CT HZ
            have F5 : Fr Wq ((Wq.alloc (.cells #[.bool false, .int .i64 n] 63)).alloc (.cells #[.bool false, .int .i64 n] 63)) := by (repeat (first | with_reducible exact Fr.refl _ | with_reducible assumption | with_reducible refine Fr.alloc ?_ _ | with_reducible refine Fr.drew ?_ | with_reducible refine Fr.drewN ?_ _ | (with_reducible refine Fr.setNew2 ?_ ?_ _; · (simp <;> omega)) | with_reducible refine Fr.trans ?_ (by assumption)))
            have B5 := blk_new1 Wq (.cells #[.bool false, .int .i64 n] 63) 63 #[.bool false, .int .i64 n]
            have B4 := (Blk.new Wq 63 #[.bool false, .int .i64 n]).alloc (.cells #[.bool false, .int .i64 n] 63)
            clear eZ
            go_wp2_with fail
            refine absW fun W5 hW5 => ?_
            rw [← hW5] at F5 B5 B4
            obtain ⟨g5, eg5⟩ : ∃ g, Wq.heap.size = g := ⟨_, rfl⟩
            rw [eg5] at B5 B4 ⊢
            clear hW5 eg5
            refine (CT.out _ F5 _ B5).mono ?_
            rintro e W6 ⟨rfl, b6⟩
            have F6 := F5.trans b6
            have B6 := B4.fr b6
            clear CT b6 F5 B5 B4 v0 v1 r0 t0 t1
            obtain ⟨u0, u1, _⟩ := B6.pair
            by_cases hm : n ∈ S
            · have ez : ((Z : Int) == 0) = false := by
                have := (not_congr HZ.out).2 (fun h => h hm)
                rw [beq_eq_false_iff_ne]; omega
              have NX := hid (show N = nulC k (rows.take (j + 1)) ∧ S = seenL k (rows.take (j + 1)) from by
                obtain ⟨a1, a2⟩ := EH.out
                obtain ⟨b1, b2⟩ := hE.out
                rw [a1, a2, ← b1, ← b2]
                exact ⟨by simp, by unfold sn; simp [hm]⟩)
              have NI := hid (And.intro (own_fr hI.out.1 F6) (And.intro (hI.out.2.1.fr F6) (hF.trans F6)))
              clear EH hE hI hF F6 HZ hm B6
              go_wp2
              go_roundw
              case rel => exact ⟨j + 1, N, cap, A, S, vs, by omega, by go_num, rfl, rfl, by omega, by omega, NX, NI⟩
              case measure => simp [intOf]; omega
            · have ez : ((Z : Int) == 0) = true := by
                have := HZ.out.2 hm
                rw [beq_iff_eq]; omega
              have NX := hid (show N = nulC k (rows.take (j + 1)) ∧ S ++ [n] = seenL k (rows.take (j + 1)) from by
                obtain ⟨a1, a2⟩ := EH.out
                obtain ⟨b1, b2⟩ := hE.out
                rw [a1, a2, ← b1, ← b2]
                exact ⟨by simp, by unfold sn; simp [hm]⟩)
              have OW := hid (own_fr hI.out.1 F6)
              have SW := hid (hI.out.2.1.fr F6)
              have F26 := hid (hF.trans F6)
              have hsz : sb ≤ W6.heap.size := by rw [← SB.out]; exact (hF.trans F6).size
              clear EH hE hI hF F6 HZ hm B6
              go_wp2_with (first
                | (at_builtin; refine wp_app1 rfl _ _ 30 rfl sb 61 (.slice none 0 0) 1 24 Try.underlying30 (by kernel_rfl) rfl (by decide) (by decide) _ _ vs rfl (own_fr (own_fr OW.out ((Fr.refl _).alloc _)) ((Fr.refl _).alloc _)) (by omega) (by simp; omega) _ [.slice (some ⟨W6.heap.size, 0, none⟩) 1 1] rfl (blk_new (by simp)) rfl rfl ?_; intro v7 w7 hO7 hg7)
                | fail)
              obtain ⟨A7, cap7, rfl⟩ := own_form hO7
              have NI := hid (show w7.ownsRow sb 61 1 (.slice A7 (S ++ [n]).length cap7) (S ++ [n]).length (vs ++ [.slice (some ⟨W6.heap.size, 0, none⟩) 1 1]) ∧ SeenV w7 (vs ++ [.slice (some ⟨W6.heap.size, 0, none⟩) 1 1]) (S ++ [n]) ∧ Fr W2 w7 from by
                have hl : (S ++ [n]).length = S.length + 1 := by simp
                rw [hl]
                have FA : Fr W6 ((W6.alloc (.cells #[.bool false, .int .i64 n] 63)).alloc (.cells #[.slice (some ⟨W6.heap.size, 0, none⟩) 1 1] 61)) := by (repeat (first | with_reducible exact Fr.refl _ | with_reducible assumption | with_reducible refine Fr.alloc ?_ _ | with_reducible refine Fr.drew ?_ | with_reducible refine Fr.drewN ?_ _ | (with_reducible refine Fr.setNew2 ?_ ?_ _; · (simp <;> omega)) | with_reducible refine Fr.trans ?_ (by assumption)))
                have hb := own_fr OW.out FA
                refine ⟨hO7, ((SW.out.fr FA).snoc ((Blk.new W6 _ _).alloc _)).grown hb hg7, ?_⟩
                rw [← SB.out] at hb
                exact Fr.grown (F26.out.trans FA) hg7 hb)
              clear hO7 hg7 OW SW F26
              go_wp2
              go_roundw
              case rel => exact ⟨j + 1, N, cap7, A7, S ++ [n], _, by omega, by go_num, rfl, by rw [List.length_append]; rfl, by omega, by simp; omega, NX, NI⟩
              case measure => simp [intOf]; omega
          · have NX := hid (show N + 1 = nulC k (rows.take (j + 1)) ∧ S = seenL k (rows.take (j + 1)) from by
              obtain ⟨a1, a2⟩ := EH.out
              obtain ⟨b1, b2⟩ := hE.out
              rw [a1, a2, ← b1, ← b2]
              exact ⟨by simp, by unfold sn; simp⟩)
            have F5 : Fr Wq (Wq.alloc (.cells #[.bool true, .int .i64 n] 63)) := (Fr.refl _).alloc _
            have NI := hid (And.intro (own_fr hI.out.1 F5) (And.intro (hI.out.2.1.fr F5) (hF.trans F5)))
            clear EH hE hI hF F5
            go_wp2
            go_roundw
            case rel => exact ⟨j + 1, N + 1, cap, A, S, vs, by omega, by go_num, by go_num, rfl, by omega, by omega, NX, NI⟩
            case measure => simp [intOf]; omega
        · obtain rfl : j = rows.length := by omega
          have ej : decide ((rows.length : Int) < (rows.length : Int)) = false := by simp
          obtain ⟨hN1, hS1⟩ := hE.out
          rw [List.take_length] at hN1 hS1
          obtain ⟨VD, VN, bO, oD, oN, hAp⟩ := hO.out.bO
          have BT := hid (hO.out.bT.fr hF)
          have BR := hid (hO.out.bR.fr hF)
          have BO := hid (bO.fr hF)
          have OD := hid (own_fr oD hF)
          have ON := hid (own_fr oN hF)
          have FW2 := hid (hO.out.fr.trans hF)
          obtain ⟨p0, p1, p2, f0, f1, f2⟩ := (bO.fr hF).three
          have hsz : w.heap.size ≤ Wq.heap.size := FW2.out.size
          have HAp := hid hAp
          have HNS := hid (And.intro hN1 hS1)
          clear hN1 hS1 bO oD oN hAp hE hI
          go_wp2_with (first
            | (at_builtin; refine wp_appW rfl _ _ 26 rfl w.heap.size 3 (.int .i64 0) 1 8 Try.underlying26 (by kernel_rfl) rfl (by decide) (by decide) VD k ((dstL k rows).map iv) rfl (own_fr OD.out ((Fr.refl _).alloc _)) (by omega) (by simp; omega) _ 0 1 1 [iv (S.length : Int)] rfl rfl (fun j u hu => by rw [Nat.zero_add, (Blk.new _ _ _).cell]; simpa using hu) (by omega) rfl ?_; intro v7 w7 hO7 hg7 hw7; obtain ⟨BT7, BR7, BO7, ON7, HA7, F7⟩ := OutS.mid BT.out BR.out BO.out OD.out ON.out HAp.out FW2.out hg7 hw7 (W := 0) (k := 0) (c := 0) (A := none) (rows := []) (zs := []); obtain ⟨A7, cap7, rfl⟩ := own_form hO7; obtain ⟨q0, q1, q2, h0, h1, h2⟩ := BO7.three; have HS7 := hid (And.intro hO7 (And.intro BT7 (And.intro BR7 (And.intro BO7 (And.intro ON7 (And.intro HA7 F7)))))); have hs7 := F7.size; clear hO7 hg7 hw7 BT7 BR7 BO7 ON7 HA7 F7 p0 p1 p2 f0 f1 f2)
            | (at_builtin; refine wp_appW rfl _ _ 26 rfl w.heap.size 3 (.int .i64 0) 1 8 Try.underlying26 (by kernel_rfl) rfl (by decide) (by decide) VN k ((nulL k rows).map iv) rfl (own_fr (own_set HS7.out.2.2.2.2.1 (own_ne HS7.out.2.2.2.2.1 HS7.out.2.2.2.1 (by decide))) ((Fr.refl _).alloc _)) (by omega) (by simp; omega) _ 0 1 1 [iv (N : Int)] rfl rfl (fun j u hu => by rw [Nat.zero_add]; exact cell_new_set (by simpa using hu)) (by omega) rfl ?_; intro v8 w8 hO8 hg8 hw8; obtain ⟨BT8, BR8, BO8, OD8, HA8, F8⟩ := OutS.mid (HS7.out.2.1.far (p := ⟨O, 1, none⟩) ORD.out.2.2.2.1 (.slice A7 (k + 1) cap7)) (HS7.out.2.2.1.far (p := ⟨O, 1, none⟩) ORD.out.2.2.2.2 (.slice A7 (k + 1) cap7)) (HS7.out.2.2.2.1.set_ 1 (.slice A7 (k + 1) cap7)) (own_set HS7.out.2.2.2.2.1 (own_ne HS7.out.2.2.2.2.1 HS7.out.2.2.2.1 (by decide))) (own_set HS7.out.1 (own_ne HS7.out.1 HS7.out.2.2.2.1 (by decide))) HS7.out.2.2.2.2.2.1.symm (HS7.out.2.2.2.2.2.2.setNew ORD.out.2.2.1 _) hg8 hw8 (W := 0) (k := 0) (c := 0) (A := none) (rows := []) (zs := []); obtain ⟨A8, cap8, rfl⟩ := own_form hO8; obtain ⟨m0, m1, m2, n0, n1, n2⟩ := BO8.three; have HS8 := hid (And.intro hO8 (And.intro BT8 (And.intro BR8 (And.intro BO8 (And.intro OD8 (And.intro HA8 F8)))))); clear hO8 hg8 hw8 BT8 BR8 BO8 OD8 HA8 F8 q0 q1 q2 h0 h1 h2)
            | fail)
          have NX := hid (show OutS w T R O W A0 c0 rows (k + 1) (w8.setCell ⟨O, 2, none⟩ (.slice A8 (k + 1) cap8)) from by
            obtain ⟨z1, z2, z3, z4, z5, z6, z7⟩ := HS8.out
            obtain ⟨e1, e2⟩ := HNS.out
            refine ⟨z2.far (p := ⟨O, 2, none⟩) ORD.out.2.2.2.1 _, z3.far (p := ⟨O, 2, none⟩) ORD.out.2.2.2.2 _, ⟨.slice A7 (k + 1) cap7, .slice A8 (k + 1) cap8, z4.set_ 2 _, ?_, ?_, z6.symm⟩, z7.setNew ORD.out.2.2.1 _⟩
            · rw [dstL_succ, ← e2, List.map_append]
              exact own_set z5 (own_ne z5 z4 (by decide))
            · rw [nulL_succ, ← e1, List.map_append]
              exact own_set z1 (own_ne z1 z4 (by decide)))
          clear HS7 HS8 HNS
          go_wp2
          go_roundw
          case rel => exact ⟨k + 1, by omega, by go_num, NX⟩
          case measure => simp [intOf]; omega
    · obtain rfl : k = W := by omega
      have el : decide ((k : Int) < (k : Int)) = false := by simp
      obtain ⟨VD, VN, bO, oD, oN, _⟩ := hO.out.bO
      obtain ⟨AD, cD, rfl⟩ := own_form oD
      obtain ⟨AN, cN, rfl⟩ := own_form oN
      obtain ⟨p0, p1, p2, _⟩ := bO.three
      obtain ⟨r0, r1, r2, s0, s1, s2⟩ := hO.out.bR.three
      have bR := hO.out.bR
      have BF := hid (((bR.set_ 0 (.int .i64 (rows.length : Int))).set_ 1 (.slice AD k cD)).set_ 2 (.slice AN k cN))
      have ho := ORD.out
      have FIN := hid (show StB w.heap.size ⟨rows.length, dstL k rows, nulL k rows⟩ (.returned (.agg #[.int .i64 (rows.length : Int), .slice AD k cD, .slice AN k cN])) (((W2.setCell ⟨R, 0, none⟩ (.int .i64 (rows.length : Int))).setCell ⟨R, 1, none⟩ (.slice AD k cD)).setCell ⟨R, 2, none⟩ (.slice AN k cN)) ∧ Fr w (((W2.setCell ⟨R, 0, none⟩ (.int .i64 (rows.length : Int))).setCell ⟨R, 1, none⟩ (.slice AD k cD)).setCell ⟨R, 2, none⟩ (.slice AN k cN)) from by
        have n1 := own_ne oD bR (by decide)
        have n2 := own_ne oN bR (by decide)
        refine ⟨⟨AD, cD, AN, cN, by rw [dstL_len, nulL_len], ⟨?_, ?_⟩⟩, ((hO.out.fr.setNew ho.2.1 _).setNew ho.2.1 _).setNew ho.2.1 _⟩
        · exact (own_int (own_set (own_set (own_set oD n1) n1) n1) (dstL_len k rows).symm)
        · exact (own_int (own_set (own_set (own_set oN n2) n2) n2) (nulL_len k rows).symm))
      clear bO oD oN bR ho
      go_wp2
      generalize (((W2.setCell ⟨R, 0, none⟩ (.int .i64 (rows.length : Int))).setCell ⟨R, 1, none⟩ (.slice AD k cD)).setCell ⟨R, 2, none⟩ (.slice AN k cN)) = w9 at BF FIN ⊢
      obtain ⟨u0, u1, u2, _⟩ := BF.out.three
      exact bodyPost_ret (v := .agg #[.int .i64 (rows.length : Int), .slice AD k cD, .slice AN k cN]) (by simp [results, Try.results26, go_sem, u0, u1, u2]) rfl FIN.out
/-- The reference's StatsOf. -/
theorem specStatsOf (wd : Int) (A0 : Option Addr) (c0 : Nat) (rows : List (List V)) (w : World) (hx : RdSl rdRow w.cell? 1 A0 rows) (hl : SmallR rows) :
    Calls Try.prog 6 #[.agg #[.int .i64 wd, .slice A0 rows.length c0]] w fun r w' => StS (statOf wd rows) r w' ∧ Fr w w' := by
  have HX := hid hx
  clear hx
  have BT := (Blk.new w 32 #[.int .i64 wd, .slice A0 rows.length c0]).alloc (.cells #[.int .i64 0, .slice none 0 0, .slice none 0 0] 28)
  have BR := blk_new1 w (.cells #[.int .i64 wd, .slice A0 rows.length c0] 32) 28 #[.int .i64 0, .slice none 0 0, .slice none 0 0]
  have F0 : Fr w ((w.alloc (.cells #[.int .i64 wd, .slice A0 rows.length c0] 32)).alloc (.cells #[.int .i64 0, .slice none 0 0, .slice none 0 0] 28)) := by (repeat (first | with_reducible exact Fr.refl _ | with_reducible assumption | with_reducible refine Fr.alloc ?_ _ | with_reducible refine Fr.drew ?_ | with_reducible refine Fr.drewN ?_ _ | (with_reducible refine Fr.setNew2 ?_ ?_ _; · (simp <;> omega)) | with_reducible refine Fr.trans ?_ (by assumption)))
  go_enter Try.func6, Try.ntmps6
  go_wp2_with fail
  refine absW fun W0 hW0 => ?_
  rw [← hW0] at BT BR F0
  obtain ⟨T, eT⟩ : ∃ g, w.heap.size = g := ⟨_, rfl⟩
  obtain ⟨R, eR⟩ : ∃ g, T + 1 = g := ⟨_, rfl⟩
  rw [eT] at BT
  rw [eT, eR] at BR
  simp only [eT, eR]
  have ho := hid (show w.heap.size ≤ R by omega)
  clear hW0 eT eR
  refine (specVTable wd A0 c0 rows _ (HX.out.fr rdRow_mono F0) hl).mono ?_
  rintro e w1 ⟨rfl, b1⟩
  have F1 := F0.trans b1
  have BR1 := BR.fr b1
  have BT1 := BT.fr b1
  clear BR BT b1 F0
  cases hv : vtab wd rows
  · have E := hid (show statOf wd rows = ⟨0, [], []⟩ by unfold statOf; rw [hv]; rfl)
    obtain ⟨r0, r1, r2, s0, s1, s2⟩ := BR1.three
    have BF := hid (((BR1.set_ 0 (.int .i64 0)).set_ 1 (.slice none 0 0)).set_ 2 (.slice none 0 0))
    have FF := hid (((F1.setNew (p := ⟨R, 0, none⟩) ho.out (.int .i64 0)).setNew (p := ⟨R, 1, none⟩) ho.out (.slice none 0 0)).setNew (p := ⟨R, 2, none⟩) ho.out (.slice none 0 0))
    clear hv
    go_wp2
    rw [E.out]
    obtain ⟨u0, u1, u2, _⟩ := BF.out.three
    exact bodyPost_ret (v := .agg #[.int .i64 0, .slice none 0 0, .slice none 0 0]) (by simp [results, Try.results6, go_sem, u0, u1, u2]) rfl ⟨⟨none, 0, none, 0, rfl, ⟨RdSl.nil, RdSl.nil⟩⟩, FF.out⟩
  · obtain ⟨v1, v2, v3⟩ := vtab_parts hv
    obtain ⟨W, eW⟩ : ∃ W : Nat, wd = (W : Int) := ⟨wd.toNat, by omega⟩
    subst eW
    have E := hid (show statOf (W : Int) rows = ⟨rows.length, dstL W rows, nulL W rows⟩ by unfold statOf; rw [hv]; rfl)
    have HR := hid (fun i (h : i < rows.length) => show rows[i].length = W by have := (vtab_row hv h).2; omega)
    clear hv
    obtain ⟨t0, t1, _⟩ := BT1.pair
    go_wp2_with fail
    refine (specStatW W A0 c0 rows _ (HX.out.fr rdRow_mono F1) (by omega) HR.out (by omega)).mono ?_
    rintro e w2 ⟨⟨A, c, B, d, rfl, hrd⟩, b2⟩
    dsimp only at hrd ⊢
    have hRs := BR1.lt
    have C9 : Ch (· = R) w2 (((w2.setCell ⟨R, 0, none⟩ (.int .i64 (rows.length : Int))).setCell ⟨R, 1, none⟩ (.slice A (dstL W rows).length c)).setCell ⟨R, 2, none⟩ (.slice B (nulL W rows).length d)) := ((Ch.set (S := (· = R)) (Ch.refl w2) (p := ⟨R, 0, none⟩) (.inl rfl) _).set (p := ⟨R, 1, none⟩) (.inl rfl) _).set (p := ⟨R, 2, none⟩) (.inl rfl) _
    have HRD := hid ((hrd.mono rdInt_mono (C9.mle_from (fun k hk => by omega))).mono rdInt_mono (fromB_lo (Nat.zero_le _)))
    have BR2 := BR1.fr b2
    have F2 := F1.trans b2
    obtain ⟨r0, r1, r2, s0, s1, s2⟩ := BR2.three
    have BF := hid (((BR2.set_ 0 (.int .i64 (rows.length : Int))).set_ 1 (.slice A (dstL W rows).length c)).set_ 2 (.slice B (nulL W rows).length d))
    have FF := hid (((F2.setNew (p := ⟨R, 0, none⟩) ho.out (.int .i64 (rows.length : Int))).setNew (p := ⟨R, 1, none⟩) ho.out (.slice A (dstL W rows).length c)).setNew (p := ⟨R, 2, none⟩) ho.out (.slice B (nulL W rows).length d))
    clear hrd C9
    go_wp2
    rw [E.out]
    generalize (((w2.setCell ⟨R, 0, none⟩ (.int .i64 (rows.length : Int))).setCell ⟨R, 1, none⟩ (.slice A (dstL W rows).length c)).setCell ⟨R, 2, none⟩ (.slice B (nulL W rows).length d)) = w9 at BF FF HRD ⊢
    obtain ⟨u0, u1, u2, _⟩ := BF.out.three
    exact bodyPost_ret (v := .agg #[.int .i64 (rows.length : Int), .slice A (dstL W rows).length c, .slice B (nulL W rows).length d]) (by simp [results, Try.results6, go_sem, u0, u1, u2]) rfl ⟨⟨A, c, B, d, rfl, HRD.out⟩, FF.out⟩
end Go.Proofs.Ytlmiadeaiiehaaa
