/- Votes: ranges, copies, comparisons; sizes: each function by its contract. -/
import Derived.Test.YtmfbhddnlgbcmaaRcpt
import Derived.Test.YtmfbhddnlgbcmaaSz
import Derived.Laws.ResultCell
namespace Go.Proofs.Ytmfbhddnlgbcmaa
open Go.RowKit
set_option linter.unusedVariables false

set_option maxHeartbeats 1000000 in
theorem i_isRound (v : Int) (w : World) : Calls Try.prog 57 #[.int .i64 v] w fun e w' => e = .returned (.bool (inB v 0 30)) ∧ w = w' := by
  by_cases h0 : 0 ≤ v
  · by_cases h1 : v ≤ 30
    · go_enter Try.func57, Try.ntmps57
      go_wp2
      go_ret
      exact ⟨ret_bool (by rw [inB_iff.2 (by omega)]; try (simp; omega)), rfl⟩
    · go_enter Try.func57, Try.ntmps57
      go_wp2
      go_ret
      exact ⟨ret_bool (by rw [inB_no.2 (by omega)]; try (simp; omega)), rfl⟩
  · go_enter Try.func57, Try.ntmps57
    go_wp2
    go_ret
    exact ⟨ret_bool (by rw [inB_no.2 (by omega)]), rfl⟩
set_option maxHeartbeats 1000000 in
theorem i_isFloor (v : Int) (w : World) : Calls Try.prog 50 #[.int .i64 v] w fun e w' => e = .returned (.bool (inB v 0 31)) ∧ w = w' := by
  by_cases h0 : 0 ≤ v
  · by_cases h1 : v ≤ 31
    · go_enter Try.func50, Try.ntmps50
      go_wp2
      go_ret
      exact ⟨ret_bool (by rw [inB_iff.2 (by omega)]; try (simp; omega)), rfl⟩
    · go_enter Try.func50, Try.ntmps50
      go_wp2
      go_ret
      exact ⟨ret_bool (by rw [inB_no.2 (by omega)]; try (simp; omega)), rfl⟩
  · go_enter Try.func50, Try.ntmps50
    go_wp2
    go_ret
    exact ⟨ret_bool (by rw [inB_no.2 (by omega)]), rfl⟩
set_option maxHeartbeats 1000000 in
theorem i_isAuthor (v : Int) (w : World) : Calls Try.prog 46 #[.int .i64 v] w fun e w' => e = .returned (.bool (inB v 0 6)) ∧ w = w' := by
  by_cases h0 : 0 ≤ v
  · by_cases h1 : v ≤ 6
    · go_enter Try.func46, Try.ntmps46
      go_wp2
      go_ret
      exact ⟨ret_bool (by rw [inB_iff.2 (by omega)]; try (simp; omega)), rfl⟩
    · go_enter Try.func46, Try.ntmps46
      go_wp2
      go_ret
      exact ⟨ret_bool (by rw [inB_no.2 (by omega)]; try (simp; omega)), rfl⟩
  · go_enter Try.func46, Try.ntmps46
    go_wp2
    go_ret
    exact ⟨ret_bool (by rw [inB_no.2 (by omega)]), rfl⟩
def voteB (r a d : Int) : Bool := inB r 0 30 && inB a 0 6 && digB d
end Go.Proofs.Ytmfbhddnlgbcmaa
