/- Voters that the reference draws. -/
import Derived.Test.YtohnodphlaoohaaVoSame
import Derived.Test.YtohnodphlaoohaaDrawV
import Derived.Test.YtohnodphlaoohaaDraw6
namespace Go.Proofs.Ytohnodphlaoohaa
open Go.RowKit
set_option linter.unusedVariables false

/-- A drawn voter and a floor. -/
def DrawnVF (w : World) (e : Ending) (w' : World) : Prop :=
  ∃ (f : Int) (A : Option Addr) (c : Nat) (bs : List VVote) (n : Int), e = .returned (.tuple #[.agg #[.int .i64 f, .slice A bs.length c], .int .i64 n]) ∧ bs.length ≤ 60 ∧ LstVote w' w'.heap.size A bs ∧ Below w.heap.size w w'
end Go.Proofs.Ytohnodphlaoohaa
