/- Rows and blocks of different types lie apart (as in GrfG, without the generators: import one of the two). -/
import Derived.Test.YtlmiadeaiiehaaaMem2
namespace Go.Proofs.Ytlmiadeaiiehaaa
open Go Go.RowKit

theorem own_ne {w : World} {base e sz n g : Nat} {t : TypeId} {v : Value} {xs : List Value} {cs : Array Value} (h : w.ownsRow base e sz v n xs) (hB : Blk w g t cs) (ht : e ≠ t) : some g ≠ v.ownBlock := fun he => by
  rcases h.2 with ⟨rfl, _⟩ | ⟨g', cap, cur, rfl, _, hh, _⟩
  · cases he
  · simp only [Value.ownBlock, Option.some.injEq] at he
    subst he
    unfold Blk at hB
    rw [hB] at hh
    injection hh with hh
    injection hh with _ hh _
    exact ht hh.symm
theorem own_ne2 {w : World} {base e e' sz sz' n n' : Nat} {v v' : Value} {xs xs' : List Value} (h : w.ownsRow base e sz v n xs) (h' : w.ownsRow base e' sz' v' n' xs') (ht : e ≠ e') : v'.ownBlock = none ∨ v'.ownBlock ≠ v.ownBlock := by
  rcases h'.2 with ⟨rfl, _⟩ | ⟨g', cap, cur, rfl, _, hh, _⟩
  · exact .inl rfl
  · exact .inr (own_ne h (show Blk w g' e' cur from hh) ht)
theorem blk_grown {w w' : World} {g : Nat} {t : TypeId} {cs : Array Value} {r : Option Nat} (h : Blk w g t cs) (hg : w.grownBy w' r) (hn : some g ≠ r) : Blk w' g t cs := (hg.block g h.lt hn).trans h
theorem own_set {w : World} {base e sz n g o : Nat} {v u : Value} {xs : List Value} (h : w.ownsRow base e sz v n xs) (hn : some g ≠ v.ownBlock) : (w.setCell ⟨g, o, none⟩ u).ownsRow base e sz v n xs := by
  refine ⟨h.1, ?_⟩
  rcases h.2 with h | ⟨g', cap, cur, rfl, hg, hh, hrest⟩
  · exact .inl h
  · refine .inr ⟨g', cap, cur, rfl, hg, ?_, hrest⟩
    exact Blk.far (show Blk w g' e cur from hh) (fun e => hn (by simp [Value.ownBlock, e])) u
theorem blk_new1 (w : World) (o : Obj) (t : TypeId) (cs : Array Value) : Blk ((w.alloc o).alloc (.cells cs t)) (w.heap.size + 1) t cs := by
  have h := Blk.new (w.alloc o) t cs
  rwa [World.size_alloc] at h
end Go.Proofs.Ytlmiadeaiiehaaa
