/- Arguments of the value laws, opened. -/
import Derived.Test.YtlmiadeaiiehaaaDoorOpen
import Derived.Test.YtlmiadeaiiehaaaDoorValW
import Derived.Test.YtlmiadeaiiehaaaDoorLaw
namespace Go.Proofs.YtlmiadeaiiehaaaDoor
open Go Go.RowKit Go.ChangeShapes Go.WideShapes
def rdV : Rd V := fun _ c v => c 0 = some (.bool v.null) ∧ c 1 = some (.int .i64 v.n)
theorem rdV_mono : RdMono rdV := fun _ _ _ _ _ _ hc h => ⟨hc _ _ h.1, hc _ _ h.2⟩
def rdVB : Rd V := fun m c v => rdV m c v ∧ I64 v.n
theorem rdVB_mono : RdMono rdVB := fun _ _ _ _ _ hm hc h => ⟨rdV_mono _ _ _ _ _ hm hc h.1, h.2⟩
section
variable {H : Type} {enc : TypeId × Value → H} {W : World}
theorem op_val (n : Nat) : Op enc Tryd.prog W n 23 2 rdVB := fun cs x h => by
  refine ⟨op_len Tryd.underlying23 (by kernel_rfl) h, ?_⟩
  obtain ⟨a, ha⟩ := op_field (rd := rdBool) (i := 0) (off := 0) (sz := 1) rdBool_mono Tryd.underlying23 rfl rfl (by kernel_rfl) (fun k _ => op_bool Tryd.underlying4) h
  obtain ⟨b, hb⟩ := op_field (rd := rdIntB) (i := 1) (off := 1) (sz := 1) rdIntB_mono Tryd.underlying23 rfl rfl (by kernel_rfl) (fun k _ => op_int Tryd.underlying3) h
  exact ⟨⟨a, b⟩, ⟨ha, hb.1⟩, hb.2⟩
theorem open_val {base : Nat} {v : Value} {d : DataW H} {p : List MemPlace} (hv : Value.okWide Tryd.prog W .any base 23 v) (h : DataW.Trod enc Tryd.prog W 0 (fun _ => true) true 23 v d p) :
    ∃ b n, v = .agg #[.bool b, .int .i64 n] ∧ I64 n := by
  obtain ⟨cs, rfl, hsz⟩ := okWide_struct Tryd.underlying23 hv
  obtain ⟨hs, a, ⟨h0, h1⟩, h2⟩ := arg_agg h op_val
  exact ⟨a.null, a.n, by rw [arr2 hs h0 h1], h2⟩
end
end Go.Proofs.YtlmiadeaiiehaaaDoor
