/- Walks of slices.SortFunc at facts. -/
import Derived.Test.YtahclhldpcboeaaGreatDoorSrtI
namespace Go.Proofs.YtahclhldpcboeaaGreatDoor
open Go Go.RowKit

set_option maxRecDepth 100000 in
set_option maxHeartbeats 2000000 in
theorem pdqSort (g cap sz : Nat) (l : Int) (xs : List Fact) (cs : Array Value) (w : World) (hB : Blk w g 54 cs) (hz : cs.size = sz) (hF : FAt cs xs) (h1 : 1 ≤ xs.length) (h2 : xs.length ≤ 12) (hs : xs.length * 3 ≤ sz) :
    Calls Tryz.prog 91 #[.slice (some ⟨g, 0, none⟩) xs.length cap, .int .i64 0, .int .i64 xs.length, .int .i64 l, .func (.func 28) #[] #[]] w fun r w' => r = .returned (.tuple #[]) ∧ ∃ ys, SSt w g sz xs w' ys ∧ Srt (fat ys) ys.length := by
  have HB := hid hB
  have HF := hid hF
  clear hB hF
  go_enter Tryz.func91, Tryz.ntmps91
  go_wp2
  go_loopw [1, 2] (fun t u wr => t = .int .i64 0 ∧ u = .int .i64 xs.length ∧ wr = w) (fun _ _ _ => 0)
  case atStart => exact ⟨rfl, rfl, rfl⟩
  case round =>
    obtain ⟨rfl, rfl, rfl⟩ := hrel
    go_wp2_with fail
    refine (insSort g cap sz xs cs _ HB.out hz HF.out h1 h2 hs).mono ?_
    rintro r w1 ⟨rfl, hS⟩
    replace hS := hid hS
    go_wp2
    refine bodyPost_ret (v := .tuple #[]) (by simp [results, Tryz.results91, go_sem]) rfl ?_
    exact ⟨rfl, hS.out⟩
set_option maxRecDepth 100000 in
set_option maxHeartbeats 2000000 in
theorem bitsLen (n : Nat) (h1 : 1 ≤ n) (h : n ≤ 12) (w : World) : Calls Tryz.prog 64 #[.int .u64 (n : Int)] w fun r w' => ∃ l : Int, r = .returned (.int .i64 l) ∧ w = w' := by
  rcases (by omega : n = 1 ∨ n = 2 ∨ n = 3 ∨ n = 4 ∨ n = 5 ∨ n = 6 ∨ n = 7 ∨ n = 8 ∨ n = 9 ∨ n = 10 ∨ n = 11 ∨ n = 12) with rfl | rfl | rfl | rfl | rfl | rfl | rfl | rfl | rfl | rfl | rfl | rfl
  all_goals go_enter Tryz.func64, Tryz.ntmps64
  all_goals go_wp2_with fail
  all_goals go_enter Tryz.func90, Tryz.ntmps90
  all_goals go_wp2
  all_goals go_ret
  all_goals go_wp2
  all_goals go_ret
  all_goals exact ⟨_, rfl, rfl⟩
set_option maxRecDepth 100000 in
set_option maxHeartbeats 2000000 in
theorem sortFacts (g cap sz : Nat) (xs : List Fact) (cs : Array Value) (w : World) (hB : Blk w g 54 cs) (hz : cs.size = sz) (hF : FAt cs xs) (h1 : 1 ≤ xs.length) (h2 : xs.length ≤ 12) (hs : xs.length * 3 ≤ sz) :
    Calls Tryz.prog 66 #[.slice (some ⟨g, 0, none⟩) xs.length cap, .func (.func 28) #[] #[]] w fun r w' => r = .returned (.tuple #[]) ∧ ∃ ys, SSt w g sz xs w' ys ∧ Srt (fat ys) ys.length := by
  have HB := hid hB
  have HF := hid hF
  clear hB hF
  go_enter Tryz.func66, Tryz.ntmps66
  go_wp2_with fail
  refine (bitsLen _ h1 h2 _).mono ?_
  rintro r w1 ⟨l, rfl, rfl⟩
  go_wp2_with fail
  refine (pdqSort g cap sz l xs cs _ HB.out hz HF.out h1 h2 hs).mono ?_
  rintro r w1 ⟨rfl, hS⟩
  replace hS := hid hS
  go_wp2
  go_end0
  exact ⟨rfl, hS.out⟩
end Go.Proofs.YtahclhldpcboeaaGreatDoor
