/-
  No cell of these rows narrows 'for every input' (looked for: loops, veiled, ifaces, maps, wideKeys, modest, calm, conditions, laid).
  DERIVED. THE GIVEN ROWS OF THIS SEAT. 9 by the template 'for every input the law returns true; each argument reads behind the call as it read before'; 0 by the template 'total and deterministic' (their statements: YtdleibkkjnodlaaTotals.lean).
  GIVEN WITH THE SEED: the statements are not yours to turn. If you find one false, say at which input.
  Laid BY PROGRAM, IN A SANDBOX (cutbox-rows.mjs): the forced cells as the released guide's own fill.sh prints them over the translation dff0872497418014… (all of the seat's roots in one cut). By AI agents, Wed Nov 11 2026. No macro, syntax, notation, axiom, sorry.
-/
import Derived.Test.YtdleibkkjnodlaaChecked
import GoSem.Claim
import GoSem.ClaimJoined
import GoSem.ClaimMapViews
import Derived.JoinedTies
import Derived.KernelRfl
namespace Go.Proofs.Ytdleibkkjnodlaa
/- THE CELL 'sum', in the pinned program and in every row, IS THE sha256 OF THE DUMP (.gsa) THAT YtdleibkkjnodlaaProg.lean LOADS. Nothing in Lean hashes anything: it is a label: what it is worth is what the hold of that sum in a sandbox is worth. -/
noncomputable def Try.pinned : Pinned := { name := "ytdleibkkjnodlaa", sum := "dff08724974180142abed565c1d0ab6fc34f32d71fa0c3772b642bf789e488a2", checked := Try.checked }
namespace Rows
def none {H : Type} : Left H := { results := [], args := [] }

/-- 'laws.FnExactReceiptCheck': WHATEVER THE INPUT: true; the input reads as it did. -/
def fnExactReceiptCheckSpec : ChangeSpec := { name := "fnExactReceiptCheck", fn := fun _ => fun
  | [d1, d2, d3, d4] => { results := [.lit (.bool true)], args := [d1, d2, d3, d4] }
  | _ => none }
def fnExactReceiptCheckRow : OpenClaim := { program := "ytdleibkkjnodlaa", sum := "dff08724974180142abed565c1d0ab6fc34f32d71fa0c3772b642bf789e488a2", func := "loop.example/dagconsensus/laws.FnExactReceiptCheck", spec := "fnExactReceiptCheck", unfollowed := true, recurses := true, apart := false }
def FnExactReceiptCheckSaid : Prop := fnExactReceiptCheckRow.holds Try.pinned (OpenSpec.ofChange fnExactReceiptCheckSpec)

/-- ITS FALSE NEIGHBOUR: 'it returns false'. Refute it at one input. -/
def fnExactReceiptCheckWrong : ChangeSpec := { name := "fnExactReceiptCheck", fn := fun _ => fun
  | [d1, d2, d3, d4] => { results := [.lit (.bool false)], args := [d1, d2, d3, d4] }
  | _ => none }
def FnExactReceiptCheckWrongFalsely : Prop := fnExactReceiptCheckRow.holds Try.pinned (OpenSpec.ofChange fnExactReceiptCheckWrong)

/-- 'laws.FnExactLanesDepth': WHATEVER THE INPUT: true; the input reads as it did. -/
def fnExactLanesDepthSpec : ChangeSpec := { name := "fnExactLanesDepth", fn := fun _ => fun
  | [d] => { results := [.lit (.bool true)], args := [d] }
  | _ => none }
def fnExactLanesDepthRow : OpenClaim := { program := "ytdleibkkjnodlaa", sum := "dff08724974180142abed565c1d0ab6fc34f32d71fa0c3772b642bf789e488a2", func := "loop.example/dagconsensus/laws.FnExactLanesDepth", spec := "fnExactLanesDepth", apart := false }
def FnExactLanesDepthSaid : Prop := fnExactLanesDepthRow.holds Try.pinned (OpenSpec.ofChange fnExactLanesDepthSpec)

/-- ITS FALSE NEIGHBOUR: 'it returns false'. Refute it at one input. -/
def fnExactLanesDepthWrong : ChangeSpec := { name := "fnExactLanesDepth", fn := fun _ => fun
  | [d] => { results := [.lit (.bool false)], args := [d] }
  | _ => none }
def FnExactLanesDepthWrongFalsely : Prop := fnExactLanesDepthRow.holds Try.pinned (OpenSpec.ofChange fnExactLanesDepthWrong)

/-- 'laws.FnLanesDepth': WHATEVER THE INPUT: true; the input reads as it did. -/
def fnLanesDepthSpec : ChangeSpec := { name := "fnLanesDepth", fn := fun _ => fun
  | [d] => { results := [.lit (.bool true)], args := [d] }
  | _ => none }
def fnLanesDepthRow : OpenClaim := { program := "ytdleibkkjnodlaa", sum := "dff08724974180142abed565c1d0ab6fc34f32d71fa0c3772b642bf789e488a2", func := "loop.example/dagconsensus/laws.FnLanesDepth", spec := "fnLanesDepth", apart := false }
def FnLanesDepthSaid : Prop := fnLanesDepthRow.holds Try.pinned (OpenSpec.ofChange fnLanesDepthSpec)

/-- ITS FALSE NEIGHBOUR: 'it returns false'. Refute it at one input. -/
def fnLanesDepthWrong : ChangeSpec := { name := "fnLanesDepth", fn := fun _ => fun
  | [d] => { results := [.lit (.bool false)], args := [d] }
  | _ => none }
def FnLanesDepthWrongFalsely : Prop := fnLanesDepthRow.holds Try.pinned (OpenSpec.ofChange fnLanesDepthWrong)

/-- 'laws.FnLanesApart': WHATEVER THE INPUT: true; the input reads as it did. -/
def fnLanesApartSpec : ChangeSpec := { name := "fnLanesApart", fn := fun _ => fun
  | [d] => { results := [.lit (.bool true)], args := [d] }
  | _ => none }
def fnLanesApartRow : OpenClaim := { program := "ytdleibkkjnodlaa", sum := "dff08724974180142abed565c1d0ab6fc34f32d71fa0c3772b642bf789e488a2", func := "loop.example/dagconsensus/laws.FnLanesApart", spec := "fnLanesApart", apart := false }
def FnLanesApartSaid : Prop := fnLanesApartRow.holds Try.pinned (OpenSpec.ofChange fnLanesApartSpec)

/-- ITS FALSE NEIGHBOUR: 'it returns false'. Refute it at one input. -/
def fnLanesApartWrong : ChangeSpec := { name := "fnLanesApart", fn := fun _ => fun
  | [d] => { results := [.lit (.bool false)], args := [d] }
  | _ => none }
def FnLanesApartWrongFalsely : Prop := fnLanesApartRow.holds Try.pinned (OpenSpec.ofChange fnLanesApartWrong)

/-- 'laws.FnLanesConnected': WHATEVER THE INPUT: true; the input reads as it did. -/
def fnLanesConnectedSpec : ChangeSpec := { name := "fnLanesConnected", fn := fun _ => fun
  | [d] => { results := [.lit (.bool true)], args := [d] }
  | _ => none }
def fnLanesConnectedRow : OpenClaim := { program := "ytdleibkkjnodlaa", sum := "dff08724974180142abed565c1d0ab6fc34f32d71fa0c3772b642bf789e488a2", func := "loop.example/dagconsensus/laws.FnLanesConnected", spec := "fnLanesConnected", apart := false }
def FnLanesConnectedSaid : Prop := fnLanesConnectedRow.holds Try.pinned (OpenSpec.ofChange fnLanesConnectedSpec)

/-- ITS FALSE NEIGHBOUR: 'it returns false'. Refute it at one input. -/
def fnLanesConnectedWrong : ChangeSpec := { name := "fnLanesConnected", fn := fun _ => fun
  | [d] => { results := [.lit (.bool false)], args := [d] }
  | _ => none }
def FnLanesConnectedWrongFalsely : Prop := fnLanesConnectedRow.holds Try.pinned (OpenSpec.ofChange fnLanesConnectedWrong)

/-- 'laws.FnLanesPartition': WHATEVER THE INPUT: true; the input reads as it did. -/
def fnLanesPartitionSpec : ChangeSpec := { name := "fnLanesPartition", fn := fun _ => fun
  | [d] => { results := [.lit (.bool true)], args := [d] }
  | _ => none }
def fnLanesPartitionRow : OpenClaim := { program := "ytdleibkkjnodlaa", sum := "dff08724974180142abed565c1d0ab6fc34f32d71fa0c3772b642bf789e488a2", func := "loop.example/dagconsensus/laws.FnLanesPartition", spec := "fnLanesPartition", apart := false }
def FnLanesPartitionSaid : Prop := fnLanesPartitionRow.holds Try.pinned (OpenSpec.ofChange fnLanesPartitionSpec)

/-- ITS FALSE NEIGHBOUR: 'it returns false'. Refute it at one input. -/
def fnLanesPartitionWrong : ChangeSpec := { name := "fnLanesPartition", fn := fun _ => fun
  | [d] => { results := [.lit (.bool false)], args := [d] }
  | _ => none }
def FnLanesPartitionWrongFalsely : Prop := fnLanesPartitionRow.holds Try.pinned (OpenSpec.ofChange fnLanesPartitionWrong)

/-- 'laws.FnExactReceiptsRoot': WHATEVER THE INPUT: true; the input reads as it did. -/
def fnExactReceiptsRootSpec : ChangeSpec := { name := "fnExactReceiptsRoot", fn := fun _ => fun
  | [d] => { results := [.lit (.bool true)], args := [d] }
  | _ => none }
def fnExactReceiptsRootRow : OpenClaim := { program := "ytdleibkkjnodlaa", sum := "dff08724974180142abed565c1d0ab6fc34f32d71fa0c3772b642bf789e488a2", func := "loop.example/dagconsensus/laws.FnExactReceiptsRoot", spec := "fnExactReceiptsRoot", unfollowed := true, recurses := true, apart := false }
def FnExactReceiptsRootSaid : Prop := fnExactReceiptsRootRow.holds Try.pinned (OpenSpec.ofChange fnExactReceiptsRootSpec)

/-- ITS FALSE NEIGHBOUR: 'it returns false'. Refute it at one input. -/
def fnExactReceiptsRootWrong : ChangeSpec := { name := "fnExactReceiptsRoot", fn := fun _ => fun
  | [d] => { results := [.lit (.bool false)], args := [d] }
  | _ => none }
def FnExactReceiptsRootWrongFalsely : Prop := fnExactReceiptsRootRow.holds Try.pinned (OpenSpec.ofChange fnExactReceiptsRootWrong)

/-- 'laws.FnReceiptsRoot': WHATEVER THE INPUT: true; the input reads as it did. -/
def fnReceiptsRootSpec : ChangeSpec := { name := "fnReceiptsRoot", fn := fun _ => fun
  | [d1, d2] => { results := [.lit (.bool true)], args := [d1, d2] }
  | _ => none }
def fnReceiptsRootRow : OpenClaim := { program := "ytdleibkkjnodlaa", sum := "dff08724974180142abed565c1d0ab6fc34f32d71fa0c3772b642bf789e488a2", func := "loop.example/dagconsensus/laws.FnReceiptsRoot", spec := "fnReceiptsRoot", unfollowed := true, recurses := true, apart := false }
def FnReceiptsRootSaid : Prop := fnReceiptsRootRow.holds Try.pinned (OpenSpec.ofChange fnReceiptsRootSpec)

/-- ITS FALSE NEIGHBOUR: 'it returns false'. Refute it at one input. -/
def fnReceiptsRootWrong : ChangeSpec := { name := "fnReceiptsRoot", fn := fun _ => fun
  | [d1, d2] => { results := [.lit (.bool false)], args := [d1, d2] }
  | _ => none }
def FnReceiptsRootWrongFalsely : Prop := fnReceiptsRootRow.holds Try.pinned (OpenSpec.ofChange fnReceiptsRootWrong)

/-- 'laws.FnExactLanesOf': WHATEVER THE INPUT: true; the input reads as it did. -/
def fnExactLanesOfSpec : ChangeSpec := { name := "fnExactLanesOf", fn := fun _ => fun
  | [d] => { results := [.lit (.bool true)], args := [d] }
  | _ => none }
def fnExactLanesOfRow : OpenClaim := { program := "ytdleibkkjnodlaa", sum := "dff08724974180142abed565c1d0ab6fc34f32d71fa0c3772b642bf789e488a2", func := "loop.example/dagconsensus/laws.FnExactLanesOf", spec := "fnExactLanesOf", apart := false }
def FnExactLanesOfSaid : Prop := fnExactLanesOfRow.holds Try.pinned (OpenSpec.ofChange fnExactLanesOfSpec)

/-- ITS FALSE NEIGHBOUR: 'it returns false'. Refute it at one input. -/
def fnExactLanesOfWrong : ChangeSpec := { name := "fnExactLanesOf", fn := fun _ => fun
  | [d] => { results := [.lit (.bool false)], args := [d] }
  | _ => none }
def FnExactLanesOfWrongFalsely : Prop := fnExactLanesOfRow.holds Try.pinned (OpenSpec.ofChange fnExactLanesOfWrong)

/- THE SECOND FORM. 'bulk': how many values and letters a reading holds, each counted each time it is reached (what is shared counts as often as it is met; a slice's spare places count too). A statement '..UptoSaid' is the law's where the arguments, and the package variables that the reading takes, are together of bulk at most 1048576: NARROWER than '..Said'. Prove '..Said' where nothing that the law and all that it calls make is longer than what came in: it says more and counts as full. Else prove '..UptoSaid'. A law counts once. -/
mutual
def uptoBulk {H : Type} : DataW H → Nat
  | .lit (.string bytes) => bytes.length + 1
  | .lit _ => 1
  | .nil => 1
  | .ptr d => uptoBulk d + 1
  | .slice elems spare => uptoBulkAll elems + uptoBulkAll spare + 1
  | .agg parts => uptoBulkAll parts + 1
  | .iface _ d => uptoBulk d + 1
  | .map entries => uptoBulkEntries entries + 1
  | .held _ => 1
def uptoBulkAll {H : Type} : List (DataW H) → Nat
  | [] => 0
  | d :: r => uptoBulk d + uptoBulkAll r
def uptoBulkEntries {H : Type} : List (Lit × DataW H) → Nat
  | [] => 0
  | x :: r => uptoBulkEntry x + uptoBulkEntries r
def uptoBulkEntry {H : Type} : Lit × DataW H → Nat
  | (.string bytes, d) => bytes.length + uptoBulk d + 1
  | (_, d) => uptoBulk d + 1
 end
def uptoSmall : (H : Type) → List (DataW H) → Bool := fun _ ds => decide (uptoBulkAll ds ≤ 1048576)
def OpenSpec.upto (s : _root_.Go.ChangeSpec) : _root_.Go.OpenSpec := { _root_.Go.OpenSpec.ofChange s with cond := some uptoSmall }

/-- 'laws.FnExactReceiptCheck', WHERE WHAT IT READS IS OF BULK AT MOST 1048576: true; the input reads as it did. -/
def fnExactReceiptCheckUptoRow : OpenClaim := { program := "ytdleibkkjnodlaa", sum := "dff08724974180142abed565c1d0ab6fc34f32d71fa0c3772b642bf789e488a2", func := "loop.example/dagconsensus/laws.FnExactReceiptCheck", spec := "fnExactReceiptCheck", unfollowed := true, recurses := true, apart := false, narrowed := true }
def FnExactReceiptCheckUptoSaid : Prop := fnExactReceiptCheckUptoRow.holds Try.pinned (OpenSpec.upto fnExactReceiptCheckSpec)

/-- 'laws.FnExactLanesDepth', WHERE WHAT IT READS IS OF BULK AT MOST 1048576: true; the input reads as it did. -/
def fnExactLanesDepthUptoRow : OpenClaim := { program := "ytdleibkkjnodlaa", sum := "dff08724974180142abed565c1d0ab6fc34f32d71fa0c3772b642bf789e488a2", func := "loop.example/dagconsensus/laws.FnExactLanesDepth", spec := "fnExactLanesDepth", apart := false, narrowed := true }
def FnExactLanesDepthUptoSaid : Prop := fnExactLanesDepthUptoRow.holds Try.pinned (OpenSpec.upto fnExactLanesDepthSpec)

/-- 'laws.FnLanesDepth', WHERE WHAT IT READS IS OF BULK AT MOST 1048576: true; the input reads as it did. -/
def fnLanesDepthUptoRow : OpenClaim := { program := "ytdleibkkjnodlaa", sum := "dff08724974180142abed565c1d0ab6fc34f32d71fa0c3772b642bf789e488a2", func := "loop.example/dagconsensus/laws.FnLanesDepth", spec := "fnLanesDepth", apart := false, narrowed := true }
def FnLanesDepthUptoSaid : Prop := fnLanesDepthUptoRow.holds Try.pinned (OpenSpec.upto fnLanesDepthSpec)

/-- 'laws.FnLanesApart', WHERE WHAT IT READS IS OF BULK AT MOST 1048576: true; the input reads as it did. -/
def fnLanesApartUptoRow : OpenClaim := { program := "ytdleibkkjnodlaa", sum := "dff08724974180142abed565c1d0ab6fc34f32d71fa0c3772b642bf789e488a2", func := "loop.example/dagconsensus/laws.FnLanesApart", spec := "fnLanesApart", apart := false, narrowed := true }
def FnLanesApartUptoSaid : Prop := fnLanesApartUptoRow.holds Try.pinned (OpenSpec.upto fnLanesApartSpec)

/-- 'laws.FnLanesConnected', WHERE WHAT IT READS IS OF BULK AT MOST 1048576: true; the input reads as it did. -/
def fnLanesConnectedUptoRow : OpenClaim := { program := "ytdleibkkjnodlaa", sum := "dff08724974180142abed565c1d0ab6fc34f32d71fa0c3772b642bf789e488a2", func := "loop.example/dagconsensus/laws.FnLanesConnected", spec := "fnLanesConnected", apart := false, narrowed := true }
def FnLanesConnectedUptoSaid : Prop := fnLanesConnectedUptoRow.holds Try.pinned (OpenSpec.upto fnLanesConnectedSpec)

/-- 'laws.FnLanesPartition', WHERE WHAT IT READS IS OF BULK AT MOST 1048576: true; the input reads as it did. -/
def fnLanesPartitionUptoRow : OpenClaim := { program := "ytdleibkkjnodlaa", sum := "dff08724974180142abed565c1d0ab6fc34f32d71fa0c3772b642bf789e488a2", func := "loop.example/dagconsensus/laws.FnLanesPartition", spec := "fnLanesPartition", apart := false, narrowed := true }
def FnLanesPartitionUptoSaid : Prop := fnLanesPartitionUptoRow.holds Try.pinned (OpenSpec.upto fnLanesPartitionSpec)

/-- 'laws.FnExactReceiptsRoot', WHERE WHAT IT READS IS OF BULK AT MOST 1048576: true; the input reads as it did. -/
def fnExactReceiptsRootUptoRow : OpenClaim := { program := "ytdleibkkjnodlaa", sum := "dff08724974180142abed565c1d0ab6fc34f32d71fa0c3772b642bf789e488a2", func := "loop.example/dagconsensus/laws.FnExactReceiptsRoot", spec := "fnExactReceiptsRoot", unfollowed := true, recurses := true, apart := false, narrowed := true }
def FnExactReceiptsRootUptoSaid : Prop := fnExactReceiptsRootUptoRow.holds Try.pinned (OpenSpec.upto fnExactReceiptsRootSpec)

/-- 'laws.FnReceiptsRoot', WHERE WHAT IT READS IS OF BULK AT MOST 1048576: true; the input reads as it did. -/
def fnReceiptsRootUptoRow : OpenClaim := { program := "ytdleibkkjnodlaa", sum := "dff08724974180142abed565c1d0ab6fc34f32d71fa0c3772b642bf789e488a2", func := "loop.example/dagconsensus/laws.FnReceiptsRoot", spec := "fnReceiptsRoot", unfollowed := true, recurses := true, apart := false, narrowed := true }
def FnReceiptsRootUptoSaid : Prop := fnReceiptsRootUptoRow.holds Try.pinned (OpenSpec.upto fnReceiptsRootSpec)

/-- 'laws.FnExactLanesOf', WHERE WHAT IT READS IS OF BULK AT MOST 1048576: true; the input reads as it did. -/
def fnExactLanesOfUptoRow : OpenClaim := { program := "ytdleibkkjnodlaa", sum := "dff08724974180142abed565c1d0ab6fc34f32d71fa0c3772b642bf789e488a2", func := "loop.example/dagconsensus/laws.FnExactLanesOf", spec := "fnExactLanesOf", apart := false, narrowed := true }
def FnExactLanesOfUptoSaid : Prop := fnExactLanesOfUptoRow.holds Try.pinned (OpenSpec.upto fnExactLanesOfSpec)

end Rows
end Go.Proofs.Ytdleibkkjnodlaa
