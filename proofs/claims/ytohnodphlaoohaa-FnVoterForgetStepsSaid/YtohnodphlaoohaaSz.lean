/- What is left of a budget of sizes. No program. -/
import Derived.Test.YtohnodphlaoohaaMem
namespace Go.Proofs.Ytohnodphlaoohaa
/-- What is left of a budget behind a list of n: -1 if it is too long. -/
def szL (left : Int) (n : Nat) : Int := if left < (n : Int) then -1 else left - n
theorem szL_neg {left : Int} {n : Nat} (h : left < (n : Int)) : szL left n = -1 := by rw [szL, if_pos h]
theorem szL_pos {left : Int} {n : Nat} (h : ¬ left < (n : Int)) : szL left n = left - n := by rw [szL, if_neg h]
end Go.Proofs.Ytohnodphlaoohaa
