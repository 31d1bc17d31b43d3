/- How the arguments of a law that are structs by value are read. -/
import Derived.Test.YtohnodphlaoohaaArgs
import Derived.Lib.SmallJoins
namespace Go.Proofs.Ytohnodphlaoohaa
open Go.ChangeShapes Go.WideShapes Go.ChangeAt Go.RowKit Go.Joins
set_option linter.unusedVariables false

end Go.Proofs.Ytohnodphlaoohaa
