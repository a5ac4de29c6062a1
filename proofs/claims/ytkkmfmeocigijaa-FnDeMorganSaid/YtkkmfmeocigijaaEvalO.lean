/- Levels of expressions in memory. -/
import Derived.Test.YtkkmfmeocigijaaEvalN
namespace Go.Proofs.Ytkkmfmeocigijaa
open Go

theorem exSm_up : ∀ (n : Nat) {m : Mv} {A : Option Addr} {ks : List Ex}, RdSl (rdEx n) m 5 A ks → exSm n ks → exSm (n + 1) ks
  | 0, _, _, _, h, _ => by rw [h.ex0]; exact exSm_nil 1
  | n + 1, _, _, ks, h, hs => ⟨hs.1, fun i hi => by
    obtain ⟨b, o, B, c, _, _, _, _, _, _, hK, _⟩ := h.ex hi
    exact exSm_up n hK (hs.2 i hi)⟩
theorem blk_eq {w W : World} {g : Nat} {t : TypeId} {cs : Array Value} (h : W = w) (hb : Blk w g t cs) : Blk W g t cs := by rw [h]; exact hb
theorem KidsOk.up {n : Nat} {m : Mv} {x : Ex × Option Addr × Nat} (h : KidsOk n m x) : KidsOk (n + 1) m x := by
  refine ⟨fun hne => ?_, h.2⟩
  obtain ⟨b, o, hA, hc⟩ := h.1 hne
  exact ⟨b, o, hA, fun i hi => rdEx_up n _ _ _ (hc i hi)⟩
end Go.Proofs.Ytkkmfmeocigijaa
