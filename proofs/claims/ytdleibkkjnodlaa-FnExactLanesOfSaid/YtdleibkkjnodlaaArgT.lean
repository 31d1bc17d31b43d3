/- How the arguments of a law that are structs with a list of numbers are read. -/
import Derived.Test.YtdleibkkjnodlaaArgs
import Derived.Lib.SmallJoins
namespace Go.Proofs.Ytdleibkkjnodlaa
open Go.ChangeShapes Go.WideShapes Go.ChangeAt Go.RowKit Go.Joins
set_option linter.unusedVariables false

theorem slice_of {H : Type} {enc : TypeId × Value → H} {W : World} {n : Nat} {v : Value} {y : DataW H × List MemPlace} (h : DataW.trod enc Try.prog W 0 (fun _ => true) true n 24 [v] = some y) :
    ∃ (A : Option Addr) (len cap : Nat), v = .slice A len cap ∧ ∃ zs : List Int, len = zs.length ∧ Ints W W.heap.size A zs ∧ zs.length ≤ 9223372036854775807 := by
  rcases open_ints Try.underlying24 Try.underlying3 (by kernel_rfl) h with ⟨hcs, _⟩ | ⟨x, l, c, zs, hcs, _, hl, hm, _⟩
  · have e : v = .slice none 0 0 := by simpa using hcs
    exact ⟨none, 0, 0, e, [], rfl, Ints.nil _ _ _, by simp⟩
  · have e : v = .slice (some x) l c := by simpa using hcs
    subst e
    have ht : DataW.Trod enc Try.prog W 0 (fun _ => true) true 24 (.slice (some x) l c) y.1 y.2 := ⟨n, by simpa [Value.cells] using h⟩
    obtain ⟨zs', h1, h2⟩ := ints_of_trod ht
    exact ⟨some x, l, c, rfl, zs', h1, h2, by unfold maxLen at hm; omega⟩
end Go.Proofs.Ytdleibkkjnodlaa
