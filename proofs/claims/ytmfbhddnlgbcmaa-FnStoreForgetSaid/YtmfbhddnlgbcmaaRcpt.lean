/- Receipts and digests: each function by its contract. -/
import Derived.Test.YtmfbhddnlgbcmaaBase
import Derived.Laws.ResultCell
namespace Go.Proofs.Ytmfbhddnlgbcmaa
open Go.RowKit
set_option linter.unusedVariables false

def digB (d : Int) : Bool := inB d 0 990
def pairZ (a b : Int) : Int := (31 * a + 17 * b + 5) % 991
def rcptB (i d : Int) : Bool := inB i 0 15 && digB d
def outcome (i : Int) (b : Bool) : Int := if b = true then 2 * i + 1 else 2 * i
def rcptD (i : Int) (b : Bool) (d : Int) : Int := if rcptB i d = true then pairZ (outcome i b) d else -1
theorem rcptB_iff {i d : Int} : rcptB i d = true ↔ (0 ≤ i ∧ i ≤ 15) ∧ 0 ≤ d ∧ d ≤ 990 := by simp [rcptB, digB, inB_iff]

set_option maxHeartbeats 1000000 in
theorem s_l2Digest (d : Int) (w : World) : Calls Try.prog 58 #[.int .i64 d] w fun e w' => e = .returned (.bool (digB d)) ∧ w = w' := by
  go_enter Try.func58, Try.ntmps58
  go_wp2_with (go_at_call 48; refine (l6In_any _ _ _ _).mono ?_; rintro e w' ⟨rfl, rfl⟩)
  go_ret
  exact ⟨rfl, rfl⟩
set_option maxHeartbeats 1000000 in
theorem i_isDigest (d : Int) (w : World) : Calls Try.prog 56 #[.int .i64 d] w fun e w' => e = .returned (.bool (digB d)) ∧ w = w' := by
  by_cases h0 : 0 ≤ d
  · by_cases h1 : d < 991
    · go_enter Try.func56, Try.ntmps56
      go_wp2
      go_ret
      exact ⟨ret_bool (by unfold digB; rw [inB_iff.2 (by omega)]), rfl⟩
    · go_enter Try.func56, Try.ntmps56
      go_wp2
      go_ret
      exact ⟨ret_bool (by unfold digB; rw [inB_no.2 (by omega)]), rfl⟩
  · go_enter Try.func56, Try.ntmps56
    go_wp2
    go_ret
    exact ⟨ret_bool (by unfold digB; rw [inB_no.2 (by omega)]), rfl⟩
end Go.Proofs.Ytmfbhddnlgbcmaa
