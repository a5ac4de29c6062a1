/- Walks of the generators of graphs. -/
import Derived.Test.YtahclhldpcboeaaGreatDoorGen
import Derived.Test.YtahclhldpcboeaaGreatDoorMem2
import Derived.Deep.RegionWith
import Derived.Deep.RegionHeld3
namespace Go.Proofs.YtahclhldpcboeaaGreatDoor
open Go Go.RowKit

theorem gown_drew {w : World} {base e sz n : Nat} {v : Value} {xs : List Value} (h : w.ownsRow base e sz v n xs) : w.drew.ownsRow base e sz v n xs := own_fr h (Fr.refl w).drew
theorem gown_ch {w w' : World} {r base e sz n : Nat} {v : Value} {xs : List Value} (h : w.ownsRow base e sz v n xs) (hc : Ch (· = r) w w') (hr : r < base) : w'.ownsRow base e sz v n xs := by
  refine ⟨h.1, ?_⟩
  rcases h.2 with h | ⟨g, cap, cur, hv, hg, hh, hrest⟩
  · exact .inl h
  · exact .inr ⟨g, cap, cur, hv, hg, (Blk.ch (S := (· = r)) (show Blk w g e cur from hh) hc (by omega)), hrest⟩
/-- A row's block is not a block of another type. -/
theorem own_ne {w : World} {base e sz n g : Nat} {t : TypeId} {v : Value} {xs : List Value} {cs : Array Value} (h : w.ownsRow base e sz v n xs) (hB : Blk w g t cs) (ht : e ≠ t) : some g ≠ v.ownBlock := fun he => by
  rcases h.2 with ⟨rfl, _⟩ | ⟨g', cap, cur, rfl, _, hh, _⟩
  · cases he
  · simp only [Value.ownBlock, Option.some.injEq] at he
    subst he
    unfold Blk at hB
    rw [hB] at hh
    injection hh with hh
    injection hh with _ hh _
    exact ht hh.symm
theorem own_ne2 {w : World} {base e e' sz sz' n n' : Nat} {v v' : Value} {xs xs' : List Value} (h : w.ownsRow base e sz v n xs) (h' : w.ownsRow base e' sz' v' n' xs') (ht : e ≠ e') : v'.ownBlock = none ∨ v'.ownBlock ≠ v.ownBlock := by
  rcases h'.2 with ⟨rfl, _⟩ | ⟨g', cap, cur, rfl, _, hh, _⟩
  · exact .inl rfl
  · exact .inr (own_ne h (show Blk w g' e' cur from hh) ht)
theorem blk_grown {w w' : World} {g : Nat} {t : TypeId} {cs : Array Value} {r : Option Nat} (h : Blk w g t cs) (hg : w.grownBy w' r) (hn : some g ≠ r) : Blk w' g t cs := (hg.block g h.lt hn).trans h
theorem own_set {w : World} {base e sz n g o : Nat} {v u : Value} {xs : List Value} (h : w.ownsRow base e sz v n xs) (hn : some g ≠ v.ownBlock) : (w.setCell ⟨g, o, none⟩ u).ownsRow base e sz v n xs := by
  refine ⟨h.1, ?_⟩
  rcases h.2 with h | ⟨g', cap, cur, rfl, hg, hh, hrest⟩
  · exact .inl h
  · refine .inr ⟨g', cap, cur, rfl, hg, ?_, hrest⟩
    exact Blk.far (show Blk w g' e cur from hh) (fun e => hn (by simp [Value.ownBlock, e])) u
set_option maxRecDepth 100000 in
theorem upon_appG {P : Program} {o : Oper} {a : Act} {K : Act → World → Prop} {Q : Exit → Act → World → Prop} {w : World} (t e : TypeId) (z : Value) (size bytes : Nat) (ht : P.underlying t = some (.slice e)) (hinfo : (P.info? e).map (fun i => (i.zero, i.size, i.bytes)) = some (some z, size, bytes))
    (hzs : z.cells.size = size) (hsz : 0 < size) (hby : bytes ≤ 64) (base : Nat) (v : Value) (n : Nat) (xs : List Value) (hown : w.ownsRow base e size v n xs) (hn : n ≤ 1000) (hbase : base ≤ w.heap.size)
    (g m cap : Nat) (news : List Value) (hl : news.length = m * size) (hm2 : m ≤ 1000) (hB : ∃ e', Blk w g e' news.toArray) (h1 : news.all (·.oneCell') = true)
    (h : ∀ v' w', w'.ownsRow base e size v' (n + m) (xs ++ news) → w.grownBy w' v.ownBlock → Wh w v v' → K (a.put o.dst v') w') :
    Oper.upon P o a K Q ((Sem.run P (Builtin.append_ #[t, t] t #[v, .slice (some ⟨g, 0, none⟩) m cap]) w).andThen fun a w' => .ok (.value a) w') := by
  obtain ⟨i, hi, hz, hsi, hb⟩ := info_parts hinfo
  have hmm : (n + m) * bytes ≤ (n + m) * 64 := Nat.mul_le_mul_left _ hby
  obtain ⟨e', hB⟩ := hB
  obtain ⟨v', w', hr, h2, h3, h4⟩ := app_where (P := P) w base t t e i z size bytes ht hi hz hsi hb hzs hsz v n xs hown ⟨g, 0, none⟩ m cap news hl (cells_add (fun j u hu => by rw [Nat.zero_add, hB.cell]; simpa using hu)) (by simpa [List.all_eq_true] using h1) (by unfold maxLen; omega) (by omega) hbase
  rw [hr]
  exact h v' w' h2 h3 h4
end Go.Proofs.YtahclhldpcboeaaGreatDoor
