/- Boxes of arguments; what sizes leave; blocks apart from marks. -/
import Derived.Test.YtlmiadeaiiehaaaFromU
namespace Go.Proofs.Ytlmiadeaiiehaaa
open Go Go.RowKit

theorem bx_one {w W : World} {t : TypeId} {cs : Array Value} (hW : W = w.alloc (.cells cs t)) : Blk W w.heap.size t cs ∧ Fr w W := by
  subst hW
  exact ⟨Blk.new _ _ _, (Fr.refl _).alloc _⟩
theorem bx_two {w W : World} {t t' : TypeId} {cs ds : Array Value} (hW : W = (w.alloc (.cells cs t)).alloc (.cells ds t')) : Blk W w.heap.size t cs ∧ Blk W (w.heap.size + 1) t' ds ∧ Fr w W := by
  subst hW
  refine ⟨(Blk.new _ _ _).alloc _, ?_, ((Fr.refl _).alloc _).alloc _⟩
  have := Blk.new (w.alloc (.cells cs t)) t' ds
  rwa [World.size_alloc] at this
theorem Blk.chI {w w' : World} {g lo hi : Nat} {t : TypeId} {cs : Array Value} (h : Blk w g t cs) (hc : Ch (Inn lo hi) w w') (hg : hi ≤ g ∨ g < lo) : Blk w' g t cs := (hc.block g h.lt (fun hh => by have := hh.1; have := hh.2; omega)).trans h
theorem Blk.chS {S : Nat → Prop} {w w' : World} {g : Nat} {t : TypeId} {cs : Array Value} (h : Blk w g t cs) (hc : Ch S w w') (hg : ¬ S g) : Blk w' g t cs := (hc.block g h.lt hg).trans h
theorem Ch.mle_in {lo hi lo' hi' : Nat} {w w' : World} (hc : Ch (Inn lo' hi') w w') (hd : hi' ≤ lo ∨ hi ≤ lo') : Mle (inU w lo hi) (inU w' lo hi) := fun p v e => by
  obtain ⟨q1, q2, q3, q4⟩ := inU_some e
  have hb := hc.block p.block (cell_lt q4) (fun hh => by have := hh.1; have := hh.2; omega)
  exact inU_of q1 q2 ((World.frozen?_of_block hb).trans q3) ((World.cell?_of_block hb).trans q4)
end Go.Proofs.Ytlmiadeaiiehaaa
