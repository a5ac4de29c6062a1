/- Walks of the generators of graphs. -/
import Derived.Test.YtgjbmigplomekaaGen
import Derived.Test.YtgjbmigplomekaaMem2
import Derived.Test.YtgjbmigplomekaaOwnW
import Derived.Test.YtgjbmigplomekaaTEdge
import Derived.Deep.RegionWith
import Derived.Deep.RegionHeld3
namespace Go.Proofs.Ytgjbmigplomekaa
open Go Go.RowKit

def cellsEd (d : Edge) : List Value := [iv d.a, iv d.b, iv d.den]
theorem own_edge {w : World} {base e n cap : Nat} {A : Option Addr} {xs : List Edge} (h : w.ownsRow base e 3 (.slice A n cap) n (xs.flatMap cellsEd)) (hn : n = xs.length) : RdSl rdEdge (fromB w base) 3 A xs :=
  own_rd h hn (fun _ => rfl) fun m c x hc => ⟨hc 0 (by simp [cellsEd]), hc 1 (by simp [cellsEd]), hc 2 (by simp [cellsEd])⟩
theorem gown_drew {w : World} {base e sz n : Nat} {v : Value} {xs : List Value} (h : w.ownsRow base e sz v n xs) : w.drew.ownsRow base e sz v n xs := own_fr h (Fr.refl w).drew
theorem gown_ch {w w' : World} {r base e sz n : Nat} {v : Value} {xs : List Value} (h : w.ownsRow base e sz v n xs) (hc : Ch (· = r) w w') (hr : r < base) : w'.ownsRow base e sz v n xs := by
  refine ⟨h.1, ?_⟩
  rcases h.2 with h | ⟨g, cap, cur, hv, hg, hh, hrest⟩
  · exact .inl h
  · exact .inr ⟨g, cap, cur, hv, hg, (Blk.ch (S := (· = r)) (show Blk w g e cur from hh) hc (by omega)), hrest⟩
/-- A row's block is not a block of another type. -/
theorem own_ne {w : World} {base e sz n g : Nat} {t : TypeId} {v : Value} {xs : List Value} {cs : Array Value} (h : w.ownsRow base e sz v n xs) (hB : Blk w g t cs) (ht : e ≠ t) : some g ≠ v.ownBlock := fun he => by
  rcases h.2 with ⟨rfl, _⟩ | ⟨g', cap, cur, rfl, _, hh, _⟩
  · cases he
  · simp only [Value.ownBlock, Option.some.injEq] at he
    subst he
    unfold Blk at hB
    rw [hB] at hh
    injection hh with hh
    injection hh with _ hh _
    exact ht hh.symm
theorem own_ne2 {w : World} {base e e' sz sz' n n' : Nat} {v v' : Value} {xs xs' : List Value} (h : w.ownsRow base e sz v n xs) (h' : w.ownsRow base e' sz' v' n' xs') (ht : e ≠ e') : v'.ownBlock = none ∨ v'.ownBlock ≠ v.ownBlock := by
  rcases h'.2 with ⟨rfl, _⟩ | ⟨g', cap, cur, rfl, _, hh, _⟩
  · exact .inl rfl
  · exact .inr (own_ne h (show Blk w g' e' cur from hh) ht)
theorem blk_grown {w w' : World} {g : Nat} {t : TypeId} {cs : Array Value} {r : Option Nat} (h : Blk w g t cs) (hg : w.grownBy w' r) (hn : some g ≠ r) : Blk w' g t cs := (hg.block g h.lt hn).trans h
theorem own_set {w : World} {base e sz n g o : Nat} {v u : Value} {xs : List Value} (h : w.ownsRow base e sz v n xs) (hn : some g ≠ v.ownBlock) : (w.setCell ⟨g, o, none⟩ u).ownsRow base e sz v n xs := by
  refine ⟨h.1, ?_⟩
  rcases h.2 with h | ⟨g', cap, cur, rfl, hg, hh, hrest⟩
  · exact .inl h
  · refine .inr ⟨g', cap, cur, rfl, hg, ?_, hrest⟩
    exact Blk.far (show Blk w g' e cur from hh) (fun e => hn (by simp [Value.ownBlock, e])) u
set_option maxRecDepth 100000 in
theorem upon_appG {P : Program} {o : Oper} {a : Act} {K : Act → World → Prop} {Q : Exit → Act → World → Prop} {w : World} (t e : TypeId) (z : Value) (size bytes : Nat) (ht : P.underlying t = some (.slice e)) (hinfo : (P.info? e).map (fun i => (i.zero, i.size, i.bytes)) = some (some z, size, bytes))
    (hzs : z.cells.size = size) (hsz : 0 < size) (hby : bytes ≤ 64) (base : Nat) (v : Value) (n : Nat) (xs : List Value) (hown : w.ownsRow base e size v n xs) (hn : n ≤ 1000) (hbase : base ≤ w.heap.size)
    (g m cap : Nat) (news : List Value) (hl : news.length = m * size) (hm2 : m ≤ 1000) (hB : ∃ e', Blk w g e' news.toArray) (h1 : news.all (·.oneCell') = true)
    (h : ∀ v' w', w'.ownsRow base e size v' (n + m) (xs ++ news) → w.grownBy w' v.ownBlock → Wh w v v' → K (a.put o.dst v') w') :
    Oper.upon P o a K Q ((Sem.run P (Builtin.append_ #[t, t] t #[v, .slice (some ⟨g, 0, none⟩) m cap]) w).andThen fun a w' => .ok (.value a) w') := by
  obtain ⟨i, hi, hz, hsi, hb⟩ := info_parts hinfo
  have hmm : (n + m) * bytes ≤ (n + m) * 64 := Nat.mul_le_mul_left _ hby
  obtain ⟨e', hB⟩ := hB
  obtain ⟨v', w', hr, h2, h3, h4⟩ := app_where (P := P) w base t t e i z size bytes ht hi hz hsi hb hzs hsz v n xs hown ⟨g, 0, none⟩ m cap news hl (cells_add (fun j u hu => by rw [Nat.zero_add, hB.cell]; simpa using hu)) (by simpa [List.all_eq_true] using h1) (by unfold maxLen; omega) (by omega) hbase
  rw [hr]
  exact h v' w' h2 h3 h4
/-- A graph while it is drawn: its block, its rows. -/
def GSt (w0 : World) (r gb p : Nat) (w : World) (rs : List Int) (es : List Edge) : Prop :=
  ∃ VR VE, Blk w gb 26 #[VR, VE] ∧ w.ownsRow w0.heap.size 3 1 VR rs.length (rs.map iv) ∧ w.ownsRow w0.heap.size 99 3 VE es.length (es.flatMap cellsEd) ∧ Rdr w r p ∧ Ch (· = r) w0 w ∧ Blk w w0.heap.size 26 #[.slice none 0 0, .slice none 0 0]
theorem GSt.rdr {w0 w : World} {r gb p : Nat} {rs : List Int} {es : List Edge} (h : GSt w0 r gb p w rs es) : Rdr w r p := by
  obtain ⟨_, _, _, _, _, h4, _⟩ := h; exact h4
theorem GSt.fr {w0 w w' : World} {r gb p : Nat} {rs : List Int} {es : List Edge} (h : GSt w0 r gb p w rs es) (hf : Fr w w') : GSt w0 r gb p w' rs es := by
  obtain ⟨VR, VE, h1, h2, h3, h4, h5, h6⟩ := h
  exact ⟨VR, VE, h1.fr hf, own_fr h2 hf, own_fr h3 hf, h4.fr hf, h5.trans hf.ch, h6.fr hf⟩
theorem GSt.ch {w0 w w' : World} {r gb p p' : Nat} {rs : List Int} {es : List Edge} (h : GSt w0 r gb p w rs es) (hc : Ch (· = r) w w') (hr : Rdr w' r p') (hlt : r < w0.heap.size) (hgb : w0.heap.size ≤ gb) : GSt w0 r gb p' w' rs es := by
  obtain ⟨VR, VE, h1, h2, h3, h4, h5, h6⟩ := h
  exact ⟨VR, VE, h1.ch hc (by omega), gown_ch h2 hc hlt, gown_ch h3 hc hlt, hr, h5.trans hc, h6.ch hc (by omega)⟩
theorem GSt.row {w0 w4 w5 : World} {r gb p : Nat} {o : Obj} {VR VE : Value} {rs rs' : List Int} {es : List Edge} {vA : Option Addr} {vc : Nat} (hB : Blk w4 gb 26 #[VR, VE]) (hR : w4.ownsRow w0.heap.size 3 1 VR rs.length (rs.map iv)) (hE : w4.ownsRow w0.heap.size 99 3 VE es.length (es.flatMap cellsEd))
    (hr : Rdr w4 r p) (hC : Ch (· = r) w0 w4) (hQ : Blk w4 w0.heap.size 26 #[.slice none 0 0, .slice none 0 0]) (hlt : r < w0.heap.size) (hgb : w0.heap.size < gb) (hO : w5.ownsRow w0.heap.size 3 1 (.slice vA rs'.length vc) rs'.length (rs'.map iv)) (hg : (w4.alloc o).grownBy w5 VR.ownBlock) :
    GSt w0 r gb p (w5.setCell ⟨gb, 0, none⟩ (.slice vA rs'.length vc)) rs' es := by
  have B5 := blk_grown (hB.alloc o) hg (own_ne hR hB (by decide))
  have hRa := own_fr hR ((Fr.refl w4).alloc o)
  have hEa := own_fr hE ((Fr.refl w4).alloc o)
  have E5 := hEa.kept hg (own_ne2 hRa hEa (by decide))
  exact ⟨_, VE, B5.set_ 0 _, own_set hO (own_ne hO B5 (by decide)), own_set E5 (own_ne E5 B5 (by decide)), ((hr.alloc o).grown hg (fun k hk => by have := (hRa.lt k hk).1; omega)).set (by show r < gb; omega) _, ((hC.alloc o).grown hg (fun k hk => (hRa.lt k hk).1)).setNew (Nat.le_of_lt hgb) _, (blk_grown (hQ.alloc o) hg (own_ne hR hQ (by decide))).far (by show w0.heap.size ≠ gb; omega) _⟩
theorem GSt.edge {w0 w4 w5 : World} {r gb p : Nat} {o : Obj} {VR VE : Value} {rs : List Int} {es es' : List Edge} {vA : Option Addr} {vc : Nat} (hB : Blk w4 gb 26 #[VR, VE]) (hR : w4.ownsRow w0.heap.size 3 1 VR rs.length (rs.map iv)) (hE : w4.ownsRow w0.heap.size 99 3 VE es.length (es.flatMap cellsEd))
    (hr : Rdr w4 r p) (hC : Ch (· = r) w0 w4) (hQ : Blk w4 w0.heap.size 26 #[.slice none 0 0, .slice none 0 0]) (hlt : r < w0.heap.size) (hgb : w0.heap.size < gb) (hO : w5.ownsRow w0.heap.size 99 3 (.slice vA es'.length vc) es'.length (es'.flatMap cellsEd)) (hg : (w4.alloc o).grownBy w5 VE.ownBlock) :
    GSt w0 r gb p (w5.setCell ⟨gb, 1, none⟩ (.slice vA es'.length vc)) rs es' := by
  have B5 := blk_grown (hB.alloc o) hg (own_ne hE hB (by decide))
  have hRa := own_fr hR ((Fr.refl w4).alloc o)
  have hEa := own_fr hE ((Fr.refl w4).alloc o)
  have R5 := hRa.kept hg (own_ne2 hEa hRa (by decide))
  exact ⟨VR, _, B5.set_ 1 _, own_set R5 (own_ne R5 B5 (by decide)), own_set hO (own_ne hO B5 (by decide)), ((hr.alloc o).grown hg (fun k hk => by have := (hEa.lt k hk).1; omega)).set (by show r < gb; omega) _, ((hC.alloc o).grown hg (fun k hk => (hEa.lt k hk).1)).setNew (Nat.le_of_lt hgb) _, (blk_grown (hQ.alloc o) hg (own_ne hE hQ (by decide))).far (by show w0.heap.size ≠ gb; omega) _⟩
/-- A graph that has been drawn. -/
def GOut (w0 : World) (r p K : Nat) (e : Ending) (w : World) : Prop :=
  ∃ VR VE, ∃ rs : List Int, ∃ es : List Edge, e = .returned (.agg #[VR, VE]) ∧ 1 ≤ rs.length ∧ rs.length ≤ 5 ∧ es.length ≤ 5 ∧ w.ownsRow w0.heap.size 3 1 VR rs.length (rs.map iv) ∧ w.ownsRow w0.heap.size 99 3 VE es.length (es.flatMap cellsEd) ∧ Drawn K r p w0 w
end Go.Proofs.Ytgjbmigplomekaa
