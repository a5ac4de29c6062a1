/- Walks of extend: the end of a body. -/
import Derived.Test.YtahclhldpcboeaaExtV
namespace Go.Proofs.Ytahclhldpcboeaa
open Go Go.RowKit

/-- What a call of extend leaves of the callers' own. -/
def Kp (w w' : World) : Prop := w.heap.size ≤ w'.heap.size ∧ ∀ g cs, (Blk w g 60 cs → Blk w' g 60 cs) ∧ (Blk w g 53 cs → Blk w' g 53 cs)
theorem Kp.refl (w : World) : Kp w w := ⟨Nat.le_refl _, fun _ _ => ⟨id, id⟩⟩
theorem Kp.trans {w w' w'' : World} (h : Kp w w') (k : Kp w' w'') : Kp w w'' := ⟨Nat.le_trans h.1 k.1, fun g cs => ⟨fun x => (k.2 g cs).1 ((h.2 g cs).1 x), fun x => (k.2 g cs).2 ((h.2 g cs).2 x)⟩⟩
theorem Kp.fr {w w' : World} (h : Fr w w') : Kp w w' := ⟨h.size, fun _ _ => ⟨fun x => x.fr h, fun x => x.fr h⟩⟩
theorem Kp.set {w : World} {g o : Nat} {t : TypeId} {cs : Array Value} {u : Value} (h : Blk w g t cs) (h1 : t ≠ 60) (h2 : t ≠ 53) : Kp w (w.setCell ⟨g, o, none⟩ u) :=
  ⟨by simp, fun g' cs' => ⟨fun x => x.far (blk_type x h (Ne.symm h1)) u, fun x => x.far (blk_type x h (Ne.symm h2)) u⟩⟩
theorem Kp.grown {w w' : World} {base n : Nat} {v : Value} {xs : List Value} (hg : w.grownBy w' v.ownBlock) (ho : w.ownsRow base 22 1 v n xs) : Kp w w' :=
  ⟨hg.size, fun g' cs' => ⟨fun x => mst_grown x hg (mrow_ne ho x (by decide)), fun x => mst_grown x hg (mrow_ne ho x (by decide))⟩⟩
attribute [-go_sem] Builtin.append_
set_option maxRecDepth 100000 in
set_option maxHeartbeats 2000000 in
theorem extendEnd {W0 : World} {C : MC} {mb vb n : Nat} {w : World} {m : List Int} {fd : List (List Int)} (h : MSt W0 C mb vb n w m fd) (mo : Nat) (hC : C.most = mo) (hmo : mo ≤ 5000) (hn : 0 < n) (hn2 : n ≤ 5000) (hf : fd.length < mo) :
    Calls Try.prog 91 #[.pointer (some ⟨mb, 0, none⟩), .int .i64 C.bl] w fun r w' => r = .returned (.tuple #[]) ∧ MSt W0 C mb vb n w' m (fd ++ [m]) ∧ Kp w w' := by
  have c0 : w.cell? ⟨mb, 0, none⟩ = some (.slice C.B C.bl C.bc) := by obtain ⟨_, _, _, c0, _⟩ := h.cells; exact c0
  have c4 : w.cell? ⟨mb, 4, none⟩ = some (.int .i64 C.most) := by obtain ⟨_, _, _, _, _, _, _, c4, _⟩ := h.cells; exact c4
  have hmb : mb < w.heap.size := by obtain ⟨_, _, _, _, _, _, _, _, _, _, hm, _⟩ := h.cells; exact hm
  obtain ⟨FA, fcap, vc, R, c3, c2, hO, hV, hs0, hml, ADD⟩ := h.add hn
  rw [hC] at c4
  have hne : ((fd.length : Int) == (mo : Int)) = false := by simp; omega
  have HO := hid hO
  have HA := hid ADD
  have HV := hid hV
  have HH := hid h
  clear h ADD hO hV
  go_enter Try.func91, Try.ntmps91
  go_wp2_with fail
  go_quiet (fail)
  go_wp2_with fail
  have k2 : ((w.drewN (nq + 1)).alloc (.cells #[] 3)).cell? ⟨mb, 2, none⟩ = some (.slice (some ⟨vb, 0, none⟩) n vc) := (show Fr w _ by (repeat (first | with_reducible exact Fr.refl _ | with_reducible assumption | with_reducible refine Fr.alloc ?_ _ | with_reducible refine Fr.drew ?_ | with_reducible refine Fr.drewN ?_ _ | (with_reducible refine Fr.setNew2 ?_ ?_ _; · (simp <;> omega)) | with_reducible refine Fr.trans ?_ (by assumption)))).cell c2
  have k3 : ((w.drewN (nq + 1)).alloc (.cells #[] 3)).cell? ⟨mb, 3, none⟩ = some (.slice FA fd.length fcap) := (show Fr w _ by (repeat (first | with_reducible exact Fr.refl _ | with_reducible assumption | with_reducible refine Fr.alloc ?_ _ | with_reducible refine Fr.drew ?_ | with_reducible refine Fr.drewN ?_ _ | (with_reducible refine Fr.setNew2 ?_ ?_ _; · (simp <;> omega)) | with_reducible refine Fr.trans ?_ (by assumption)))).cell c3
  have OL : ((w.drewN (nq + 1)).alloc (.cells #[] 3)).ownsRow w.heap.size 3 1 (.slice (some ⟨w.heap.size, 0, none⟩) 0 0) 0 [] := own_lit (w := w.drewN (nq + 1)) (n := 0) (xs := []) (sz := 1) (by simp) rfl (by decide)
  have F1 : Fr w ((w.drewN (nq + 1)).alloc (.cells #[] 3)) := by (repeat (first | with_reducible exact Fr.refl _ | with_reducible assumption | with_reducible refine Fr.alloc ?_ _ | with_reducible refine Fr.drew ?_ | with_reducible refine Fr.drewN ?_ _ | (with_reducible refine Fr.setNew2 ?_ ?_ _; · (simp <;> omega)) | with_reducible refine Fr.trans ?_ (by assumption)))
  have ARM : ∀ (o : Oper) (a : Act) (K : Act → World → Prop) (Q : Exit → Act → World → Prop), (∀ v' w', w'.ownsRow w.heap.size 3 1 v' n (m.map iv) → Fr w w' → K (a.put o.dst v') w') →
      Oper.upon Try.prog o a K Q ((Sem.run Try.prog (Builtin.append_ #[22, 22] 22 #[.slice (some ⟨w.heap.size, 0, none⟩) 0 0, .slice (some ⟨vb, 0, none⟩) n vc]) ((w.drewN (nq + 1)).alloc (.cells #[] 3))).andThen fun a w' => .ok (.value a) w') := by
    intro o a K Q H
    refine upon_appC 22 3 (.int .i64 0) 1 8 Try.underlying22 (by kernel_rfl) rfl (by decide) (by decide) w.heap.size _ 0 [] OL (by omega) F1.size vb n vc (m.map iv) (by rw [hml, Nat.mul_one]) (by omega) (fun j u hu => F1.cell (HV.out j u hu)) (all_iv m) ?_
    intro v2 w2 hO2 hg2
    rw [Nat.zero_add, List.nil_append] at hO2
    exact H v2 w2 hO2 (Fr.grown F1 hg2 OL)
  have HARM := hid ARM
  clear ARM
  go_region_with (first
    | (refine HARM.out _ _ _ _ ?_; intro v2 w2 hO2 F2; obtain ⟨A2, cap2, rfl⟩ := own_form hO2; have d3 := F2.cell c3; have d2 := F2.cell c2; have j3 : (w2.alloc (.cells #[.slice A2 n cap2] 22)).cell? ⟨mb, 3, none⟩ = some (.slice FA fd.length fcap) := (F2.alloc _).cell c3)
    | (refine upon_appC 44 22 (.slice none 0 0) 1 24 Try.underlying44 (by kernel_rfl) rfl (by decide) (by decide) W0.heap.size (.slice FA fd.length fcap) fd.length R (own_fr HO.out (F2.alloc (.cells #[.slice A2 n cap2] 22))) (by omega) (Nat.le_trans hs0 (F2.alloc (.cells #[.slice A2 n cap2] 22)).size) w2.heap.size 1 1 [.slice A2 n cap2] rfl (by omega) (one_cell rfl) rfl ?_; intro v4 w4 hO4 hg4; obtain ⟨A4, cap4, rfl⟩ := own_form hO4; obtain ⟨e3, ⟨u3, e4⟩, ⟨ecs, EB⟩, FIN⟩ := HA.out _ _ _ _ F2 hO2 hO4 hg4; have KP := ((Kp.fr (F2.alloc (.cells #[.slice A2 n cap2] 22))).trans (Kp.grown hg4 (own_fr HO.out (F2.alloc (.cells #[.slice A2 n cap2] 22))))); clear hO4)
    | fail)
  all_goals have KP' := KP.trans (Kp.set (o := 3) (u := .slice A4 (fd.length + 1) cap4) EB (by decide) (by decide))
  all_goals have RES := hid (And.intro FIN KP')
  all_goals clear KP KP' EB FIN
  all_goals go_wp2
  all_goals (refine bodyPost_ret (results_none rfl _ _ _) rfl ?_)
  all_goals exact ⟨rfl, RES.out⟩
end Go.Proofs.Ytahclhldpcboeaa
