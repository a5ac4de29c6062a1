/- Plain laws of answers: minimal queries keep their answers. -/
import Derived.Test.YtahclhldpcboeaaGreatDoorFctG
import Derived.Test.YtahclhldpcboeaaGreatDoorHmgS
import Derived.Test.YtahclhldpcboeaaGreatDoorRedK
namespace Go.Proofs.YtahclhldpcboeaaGreatDoor
open Go Go.RowKit

theorem mini_ans {q : Int} {hd : List Int} {fs : List Fact} (hn : fs.Nodup) (hf : ∀ f ∈ fs, 0 ≤ f.x ∧ 0 ≤ f.y) (hs : Small q fs) : ∀ (n : Nat) (bd : List Atom), vrule q hd bd = true → vrule q hd (mini q hd n bd) = true ∧ (∀ a ∈ mini q hd n bd, a ∈ bd) ∧ ans q hd (mini q hd n bd) fs = ans q hd bd fs
  | 0, bd, hv => ⟨hv, fun _ h => h, rfl⟩
  | n + 1, bd, hv => by
    rcases red_out (q := q) (hd := hd) (bd := bd) with h | ⟨j, h, hj, hr⟩
    · rw [mini_stop (by omega)]
      exact ⟨hv, fun _ h => h, rfl⟩
    · rw [mini_step h]
      unfold redAt at hr
      rw [Bool.and_eq_true] at hr
      obtain ⟨h1, h2, h3⟩ := mini_ans hn hf hs n (lessA bd j) hr.1
      have hsub : ∀ a ∈ lessA bd j, a ∈ bd := fun a ha => by
        unfold lessA at ha
        rcases List.mem_append.1 ha with k | k
        · exact List.mem_of_mem_take k
        · exact List.mem_of_mem_drop k
      refine ⟨h1, fun a ha => hsub a (h2 a ha), h3.trans ?_⟩
      obtain ⟨M, hM⟩ := Option.isSome_iff_exists.1 hr.2
      have c1 : chkHom q hd bd q hd (lessA bd j) M = true := chk_fnd (by unfold fndO; rw [hv, hr.1]; exact hM)
      obtain ⟨N, hN⟩ := Option.isSome_iff_exists.1 (fndO_sub hr.1 hv hsub)
      exact ans_same c1 (chk_fnd hN) hn hf hs hs
/-- There is a homomorphism from a query to the minimal one, and back. -/
theorem min_homs {q : Int} {hd : List Int} {bd : List Atom} (h4 : q ≤ 4) (hv : vrule q hd bd = true) : vrule q hd (minB q hd bd) = true ∧ (fndO q hd bd q hd (minB q hd bd)).isSome = true ∧ (fndO q hd (minB q hd bd) q hd bd).isSome = true := by
  obtain ⟨L, eL⟩ : ∃ L, minB q hd bd = L := ⟨_, rfl⟩
  have hva : vrule q hd L = true := by
    have h := (mini_ans (q := q) (hd := hd) (fs := frz bd) (asc_nodup (asc_frz bd)) (frz_nn hv) (frz_small hv h4 h4) bd.length bd hv).1
    rw [← eL]; exact h
  obtain ⟨_, h2, h3⟩ := mini_ans (q := q) (hd := hd) (fs := frz L) (asc_nodup (asc_frz L)) (frz_nn hva) (frz_small hva h4 h4) bd.length bd hv
  have e : mini q hd bd.length bd = L := eL
  rw [e] at h2 h3
  rw [eL]
  have hm := ans_frozen hva h4
  rw [h3] at hm
  obtain ⟨M, m1, m2, m3⟩ := ans_frz_hom hva hv h4 h4 hm
  exact ⟨hva, fndO_some hv hva m1 m2 m3, fndO_sub hva hv h2⟩
theorem min_ans {q : Int} {hd : List Int} {bd : List Atom} {fs : List Fact} (hv : vrule q hd bd = true) (hs : fs.Nodup ∧ (∀ f ∈ fs, 0 ≤ f.x ∧ 0 ≤ f.y) ∧ Small q fs) : ans q hd (minB q hd bd) fs = ans q hd bd fs := (mini_ans hs.1 hs.2.1 hs.2.2 bd.length bd hv).2.2
end Go.Proofs.YtahclhldpcboeaaGreatDoor
