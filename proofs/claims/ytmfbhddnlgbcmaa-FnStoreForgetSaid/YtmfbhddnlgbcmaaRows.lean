/-
  No cell of these rows narrows 'for every input' (looked for: loops, veiled, ifaces, maps, wideKeys, modest, calm, conditions, laid).
  DERIVED. THE GIVEN ROWS OF THIS SEAT. 11 by the template 'for every input the law returns true; each argument reads behind the call as it read before'; 0 by the template 'total and deterministic' (their statements: YtmfbhddnlgbcmaaTotals.lean).
  GIVEN WITH THE SEED: the statements are not yours to turn. If you find one false, say at which input.
  Laid BY PROGRAM, IN A SANDBOX (cutbox-rows.mjs): the forced cells as the released guide's own fill.sh prints them over the translation 917534d614887acc… (all of the seat's roots in one cut). By AI agents, Wed Nov 11 2026. No macro, syntax, notation, axiom, sorry.
-/
import Derived.Test.YtmfbhddnlgbcmaaChecked
import GoSem.Claim
import GoSem.ClaimJoined
import GoSem.ClaimMapViews
import Derived.JoinedTies
import Derived.KernelRfl
namespace Go.Proofs.Ytmfbhddnlgbcmaa
/- THE CELL 'sum', in the pinned program and in every row, IS THE sha256 OF THE DUMP (.gsa) THAT YtmfbhddnlgbcmaaProg.lean LOADS. Nothing in Lean hashes anything: it is a label: what it is worth is what the hold of that sum in a sandbox is worth. -/
noncomputable def Try.pinned : Pinned := { name := "ytmfbhddnlgbcmaa", sum := "917534d614887acce8e02449131b31a0975693a589a7382a9ed8ad16b1a5df53", checked := Try.checked }
namespace Rows
def none {H : Type} : Left H := { results := [], args := [] }

/-- 'laws.FnStoreOthers': WHATEVER THE INPUT: true; the input reads as it did. -/
def fnStoreOthersSpec : ChangeSpec := { name := "fnStoreOthers", fn := fun _ => fun
  | [d1, d2] => { results := [.lit (.bool true)], args := [d1, d2] }
  | _ => none }
def fnStoreOthersRow : OpenClaim := { program := "ytmfbhddnlgbcmaa", sum := "917534d614887acce8e02449131b31a0975693a589a7382a9ed8ad16b1a5df53", func := "loop.example/dagconsensus/laws.FnStoreOthers", spec := "fnStoreOthers", apart := false }
def FnStoreOthersSaid : Prop := fnStoreOthersRow.holds Try.pinned (OpenSpec.ofChange fnStoreOthersSpec)

/-- ITS FALSE NEIGHBOUR: 'it returns false'. Refute it at one input. -/
def fnStoreOthersWrong : ChangeSpec := { name := "fnStoreOthers", fn := fun _ => fun
  | [d1, d2] => { results := [.lit (.bool false)], args := [d1, d2] }
  | _ => none }
def FnStoreOthersWrongFalsely : Prop := fnStoreOthersRow.holds Try.pinned (OpenSpec.ofChange fnStoreOthersWrong)

/-- 'laws.FnExactStoreValid': WHATEVER THE INPUT: true; the input reads as it did. -/
def fnExactStoreValidSpec : ChangeSpec := { name := "fnExactStoreValid", fn := fun _ => fun
  | [d] => { results := [.lit (.bool true)], args := [d] }
  | _ => none }
def fnExactStoreValidRow : OpenClaim := { program := "ytmfbhddnlgbcmaa", sum := "917534d614887acce8e02449131b31a0975693a589a7382a9ed8ad16b1a5df53", func := "loop.example/dagconsensus/laws.FnExactStoreValid", spec := "fnExactStoreValid", apart := false }
def FnExactStoreValidSaid : Prop := fnExactStoreValidRow.holds Try.pinned (OpenSpec.ofChange fnExactStoreValidSpec)

/-- ITS FALSE NEIGHBOUR: 'it returns false'. Refute it at one input. -/
def fnExactStoreValidWrong : ChangeSpec := { name := "fnExactStoreValid", fn := fun _ => fun
  | [d] => { results := [.lit (.bool false)], args := [d] }
  | _ => none }
def FnExactStoreValidWrongFalsely : Prop := fnExactStoreValidRow.holds Try.pinned (OpenSpec.ofChange fnExactStoreValidWrong)

/-- 'laws.FnExactStoreUsed': WHATEVER THE INPUT: true; the input reads as it did. -/
def fnExactStoreUsedSpec : ChangeSpec := { name := "fnExactStoreUsed", fn := fun _ => fun
  | [d1, d2] => { results := [.lit (.bool true)], args := [d1, d2] }
  | _ => none }
def fnExactStoreUsedRow : OpenClaim := { program := "ytmfbhddnlgbcmaa", sum := "917534d614887acce8e02449131b31a0975693a589a7382a9ed8ad16b1a5df53", func := "loop.example/dagconsensus/laws.FnExactStoreUsed", spec := "fnExactStoreUsed", apart := false }
def FnExactStoreUsedSaid : Prop := fnExactStoreUsedRow.holds Try.pinned (OpenSpec.ofChange fnExactStoreUsedSpec)

/-- ITS FALSE NEIGHBOUR: 'it returns false'. Refute it at one input. -/
def fnExactStoreUsedWrong : ChangeSpec := { name := "fnExactStoreUsed", fn := fun _ => fun
  | [d1, d2] => { results := [.lit (.bool false)], args := [d1, d2] }
  | _ => none }
def FnExactStoreUsedWrongFalsely : Prop := fnExactStoreUsedRow.holds Try.pinned (OpenSpec.ofChange fnExactStoreUsedWrong)

/-- 'laws.FnExactStoreGet': WHATEVER THE INPUT: true; the input reads as it did. -/
def fnExactStoreGetSpec : ChangeSpec := { name := "fnExactStoreGet", fn := fun _ => fun
  | [d1, d2] => { results := [.lit (.bool true)], args := [d1, d2] }
  | _ => none }
def fnExactStoreGetRow : OpenClaim := { program := "ytmfbhddnlgbcmaa", sum := "917534d614887acce8e02449131b31a0975693a589a7382a9ed8ad16b1a5df53", func := "loop.example/dagconsensus/laws.FnExactStoreGet", spec := "fnExactStoreGet", apart := false }
def FnExactStoreGetSaid : Prop := fnExactStoreGetRow.holds Try.pinned (OpenSpec.ofChange fnExactStoreGetSpec)

/-- ITS FALSE NEIGHBOUR: 'it returns false'. Refute it at one input. -/
def fnExactStoreGetWrong : ChangeSpec := { name := "fnExactStoreGet", fn := fun _ => fun
  | [d1, d2] => { results := [.lit (.bool false)], args := [d1, d2] }
  | _ => none }
def FnExactStoreGetWrongFalsely : Prop := fnExactStoreGetRow.holds Try.pinned (OpenSpec.ofChange fnExactStoreGetWrong)

/-- 'laws.FnStoreQuota': WHATEVER THE INPUT: true; the input reads as it did. -/
def fnStoreQuotaSpec : ChangeSpec := { name := "fnStoreQuota", fn := fun _ => fun
  | [d] => { results := [.lit (.bool true)], args := [d] }
  | _ => none }
def fnStoreQuotaRow : OpenClaim := { program := "ytmfbhddnlgbcmaa", sum := "917534d614887acce8e02449131b31a0975693a589a7382a9ed8ad16b1a5df53", func := "loop.example/dagconsensus/laws.FnStoreQuota", spec := "fnStoreQuota", apart := false }
def FnStoreQuotaSaid : Prop := fnStoreQuotaRow.holds Try.pinned (OpenSpec.ofChange fnStoreQuotaSpec)

/-- ITS FALSE NEIGHBOUR: 'it returns false'. Refute it at one input. -/
def fnStoreQuotaWrong : ChangeSpec := { name := "fnStoreQuota", fn := fun _ => fun
  | [d] => { results := [.lit (.bool false)], args := [d] }
  | _ => none }
def FnStoreQuotaWrongFalsely : Prop := fnStoreQuotaRow.holds Try.pinned (OpenSpec.ofChange fnStoreQuotaWrong)

/-- 'laws.FnStoreGet': WHATEVER THE INPUT: true; the input reads as it did. -/
def fnStoreGetSpec : ChangeSpec := { name := "fnStoreGet", fn := fun _ => fun
  | [d] => { results := [.lit (.bool true)], args := [d] }
  | _ => none }
def fnStoreGetRow : OpenClaim := { program := "ytmfbhddnlgbcmaa", sum := "917534d614887acce8e02449131b31a0975693a589a7382a9ed8ad16b1a5df53", func := "loop.example/dagconsensus/laws.FnStoreGet", spec := "fnStoreGet", apart := false }
def FnStoreGetSaid : Prop := fnStoreGetRow.holds Try.pinned (OpenSpec.ofChange fnStoreGetSpec)

/-- ITS FALSE NEIGHBOUR: 'it returns false'. Refute it at one input. -/
def fnStoreGetWrong : ChangeSpec := { name := "fnStoreGet", fn := fun _ => fun
  | [d] => { results := [.lit (.bool false)], args := [d] }
  | _ => none }
def FnStoreGetWrongFalsely : Prop := fnStoreGetRow.holds Try.pinned (OpenSpec.ofChange fnStoreGetWrong)

/-- 'laws.FnStoreForgetSteps': WHATEVER THE INPUT: true; the input reads as it did. -/
def fnStoreForgetStepsSpec : ChangeSpec := { name := "fnStoreForgetSteps", fn := fun _ => fun
  | [d1, d2] => { results := [.lit (.bool true)], args := [d1, d2] }
  | _ => none }
def fnStoreForgetStepsRow : OpenClaim := { program := "ytmfbhddnlgbcmaa", sum := "917534d614887acce8e02449131b31a0975693a589a7382a9ed8ad16b1a5df53", func := "loop.example/dagconsensus/laws.FnStoreForgetSteps", spec := "fnStoreForgetSteps", apart := false }
def FnStoreForgetStepsSaid : Prop := fnStoreForgetStepsRow.holds Try.pinned (OpenSpec.ofChange fnStoreForgetStepsSpec)

/-- ITS FALSE NEIGHBOUR: 'it returns false'. Refute it at one input. -/
def fnStoreForgetStepsWrong : ChangeSpec := { name := "fnStoreForgetSteps", fn := fun _ => fun
  | [d1, d2] => { results := [.lit (.bool false)], args := [d1, d2] }
  | _ => none }
def FnStoreForgetStepsWrongFalsely : Prop := fnStoreForgetStepsRow.holds Try.pinned (OpenSpec.ofChange fnStoreForgetStepsWrong)

/-- 'laws.FnExactStoreForget': WHATEVER THE INPUT: true; the input reads as it did. -/
def fnExactStoreForgetSpec : ChangeSpec := { name := "fnExactStoreForget", fn := fun _ => fun
  | [d1, d2] => { results := [.lit (.bool true)], args := [d1, d2] }
  | _ => none }
def fnExactStoreForgetRow : OpenClaim := { program := "ytmfbhddnlgbcmaa", sum := "917534d614887acce8e02449131b31a0975693a589a7382a9ed8ad16b1a5df53", func := "loop.example/dagconsensus/laws.FnExactStoreForget", spec := "fnExactStoreForget", apart := false }
def FnExactStoreForgetSaid : Prop := fnExactStoreForgetRow.holds Try.pinned (OpenSpec.ofChange fnExactStoreForgetSpec)

/-- ITS FALSE NEIGHBOUR: 'it returns false'. Refute it at one input. -/
def fnExactStoreForgetWrong : ChangeSpec := { name := "fnExactStoreForget", fn := fun _ => fun
  | [d1, d2] => { results := [.lit (.bool false)], args := [d1, d2] }
  | _ => none }
def FnExactStoreForgetWrongFalsely : Prop := fnExactStoreForgetRow.holds Try.pinned (OpenSpec.ofChange fnExactStoreForgetWrong)

/-- 'laws.FnStoreForget': WHATEVER THE INPUT: true; the input reads as it did. -/
def fnStoreForgetSpec : ChangeSpec := { name := "fnStoreForget", fn := fun _ => fun
  | [d] => { results := [.lit (.bool true)], args := [d] }
  | _ => none }
def fnStoreForgetRow : OpenClaim := { program := "ytmfbhddnlgbcmaa", sum := "917534d614887acce8e02449131b31a0975693a589a7382a9ed8ad16b1a5df53", func := "loop.example/dagconsensus/laws.FnStoreForget", spec := "fnStoreForget", apart := false }
def FnStoreForgetSaid : Prop := fnStoreForgetRow.holds Try.pinned (OpenSpec.ofChange fnStoreForgetSpec)

/-- ITS FALSE NEIGHBOUR: 'it returns false'. Refute it at one input. -/
def fnStoreForgetWrong : ChangeSpec := { name := "fnStoreForget", fn := fun _ => fun
  | [d] => { results := [.lit (.bool false)], args := [d] }
  | _ => none }
def FnStoreForgetWrongFalsely : Prop := fnStoreForgetRow.holds Try.pinned (OpenSpec.ofChange fnStoreForgetWrong)

/-- 'laws.FnStoreOrder': WHATEVER THE INPUT: true; the input reads as it did. -/
def fnStoreOrderSpec : ChangeSpec := { name := "fnStoreOrder", fn := fun _ => fun
  | [d1, d2] => { results := [.lit (.bool true)], args := [d1, d2] }
  | _ => none }
def fnStoreOrderRow : OpenClaim := { program := "ytmfbhddnlgbcmaa", sum := "917534d614887acce8e02449131b31a0975693a589a7382a9ed8ad16b1a5df53", func := "loop.example/dagconsensus/laws.FnStoreOrder", spec := "fnStoreOrder", apart := false }
def FnStoreOrderSaid : Prop := fnStoreOrderRow.holds Try.pinned (OpenSpec.ofChange fnStoreOrderSpec)

/-- ITS FALSE NEIGHBOUR: 'it returns false'. Refute it at one input. -/
def fnStoreOrderWrong : ChangeSpec := { name := "fnStoreOrder", fn := fun _ => fun
  | [d1, d2] => { results := [.lit (.bool false)], args := [d1, d2] }
  | _ => none }
def FnStoreOrderWrongFalsely : Prop := fnStoreOrderRow.holds Try.pinned (OpenSpec.ofChange fnStoreOrderWrong)

/-- 'laws.FnStorePutTwice': WHATEVER THE INPUT: true; the input reads as it did. -/
def fnStorePutTwiceSpec : ChangeSpec := { name := "fnStorePutTwice", fn := fun _ => fun
  | [d] => { results := [.lit (.bool true)], args := [d] }
  | _ => none }
def fnStorePutTwiceRow : OpenClaim := { program := "ytmfbhddnlgbcmaa", sum := "917534d614887acce8e02449131b31a0975693a589a7382a9ed8ad16b1a5df53", func := "loop.example/dagconsensus/laws.FnStorePutTwice", spec := "fnStorePutTwice", apart := false }
def FnStorePutTwiceSaid : Prop := fnStorePutTwiceRow.holds Try.pinned (OpenSpec.ofChange fnStorePutTwiceSpec)

/-- ITS FALSE NEIGHBOUR: 'it returns false'. Refute it at one input. -/
def fnStorePutTwiceWrong : ChangeSpec := { name := "fnStorePutTwice", fn := fun _ => fun
  | [d] => { results := [.lit (.bool false)], args := [d] }
  | _ => none }
def FnStorePutTwiceWrongFalsely : Prop := fnStorePutTwiceRow.holds Try.pinned (OpenSpec.ofChange fnStorePutTwiceWrong)

/- THE SECOND FORM. 'bulk': how many values and letters a reading holds, each counted each time it is reached (what is shared counts as often as it is met; a slice's spare places count too). A statement '..UptoSaid' is the law's where the arguments, and the package variables that the reading takes, are together of bulk at most 1048576: NARROWER than '..Said'. Prove '..Said' where nothing that the law and all that it calls make is longer than what came in: it says more and counts as full. Else prove '..UptoSaid'. A law counts once. -/
mutual
def uptoBulk {H : Type} : DataW H → Nat
  | .lit (.string bytes) => bytes.length + 1
  | .lit _ => 1
  | .nil => 1
  | .ptr d => uptoBulk d + 1
  | .slice elems spare => uptoBulkAll elems + uptoBulkAll spare + 1
  | .agg parts => uptoBulkAll parts + 1
  | .iface _ d => uptoBulk d + 1
  | .map entries => uptoBulkEntries entries + 1
  | .held _ => 1
def uptoBulkAll {H : Type} : List (DataW H) → Nat
  | [] => 0
  | d :: r => uptoBulk d + uptoBulkAll r
def uptoBulkEntries {H : Type} : List (Lit × DataW H) → Nat
  | [] => 0
  | x :: r => uptoBulkEntry x + uptoBulkEntries r
def uptoBulkEntry {H : Type} : Lit × DataW H → Nat
  | (.string bytes, d) => bytes.length + uptoBulk d + 1
  | (_, d) => uptoBulk d + 1
 end
def uptoSmall : (H : Type) → List (DataW H) → Bool := fun _ ds => decide (uptoBulkAll ds ≤ 1048576)
def OpenSpec.upto (s : _root_.Go.ChangeSpec) : _root_.Go.OpenSpec := { _root_.Go.OpenSpec.ofChange s with cond := some uptoSmall }

/-- 'laws.FnStoreOthers', WHERE WHAT IT READS IS OF BULK AT MOST 1048576: true; the input reads as it did. -/
def fnStoreOthersUptoRow : OpenClaim := { program := "ytmfbhddnlgbcmaa", sum := "917534d614887acce8e02449131b31a0975693a589a7382a9ed8ad16b1a5df53", func := "loop.example/dagconsensus/laws.FnStoreOthers", spec := "fnStoreOthers", apart := false, narrowed := true }
def FnStoreOthersUptoSaid : Prop := fnStoreOthersUptoRow.holds Try.pinned (OpenSpec.upto fnStoreOthersSpec)

/-- 'laws.FnExactStoreValid', WHERE WHAT IT READS IS OF BULK AT MOST 1048576: true; the input reads as it did. -/
def fnExactStoreValidUptoRow : OpenClaim := { program := "ytmfbhddnlgbcmaa", sum := "917534d614887acce8e02449131b31a0975693a589a7382a9ed8ad16b1a5df53", func := "loop.example/dagconsensus/laws.FnExactStoreValid", spec := "fnExactStoreValid", apart := false, narrowed := true }
def FnExactStoreValidUptoSaid : Prop := fnExactStoreValidUptoRow.holds Try.pinned (OpenSpec.upto fnExactStoreValidSpec)

/-- 'laws.FnExactStoreUsed', WHERE WHAT IT READS IS OF BULK AT MOST 1048576: true; the input reads as it did. -/
def fnExactStoreUsedUptoRow : OpenClaim := { program := "ytmfbhddnlgbcmaa", sum := "917534d614887acce8e02449131b31a0975693a589a7382a9ed8ad16b1a5df53", func := "loop.example/dagconsensus/laws.FnExactStoreUsed", spec := "fnExactStoreUsed", apart := false, narrowed := true }
def FnExactStoreUsedUptoSaid : Prop := fnExactStoreUsedUptoRow.holds Try.pinned (OpenSpec.upto fnExactStoreUsedSpec)

/-- 'laws.FnExactStoreGet', WHERE WHAT IT READS IS OF BULK AT MOST 1048576: true; the input reads as it did. -/
def fnExactStoreGetUptoRow : OpenClaim := { program := "ytmfbhddnlgbcmaa", sum := "917534d614887acce8e02449131b31a0975693a589a7382a9ed8ad16b1a5df53", func := "loop.example/dagconsensus/laws.FnExactStoreGet", spec := "fnExactStoreGet", apart := false, narrowed := true }
def FnExactStoreGetUptoSaid : Prop := fnExactStoreGetUptoRow.holds Try.pinned (OpenSpec.upto fnExactStoreGetSpec)

/-- 'laws.FnStoreQuota', WHERE WHAT IT READS IS OF BULK AT MOST 1048576: true; the input reads as it did. -/
def fnStoreQuotaUptoRow : OpenClaim := { program := "ytmfbhddnlgbcmaa", sum := "917534d614887acce8e02449131b31a0975693a589a7382a9ed8ad16b1a5df53", func := "loop.example/dagconsensus/laws.FnStoreQuota", spec := "fnStoreQuota", apart := false, narrowed := true }
def FnStoreQuotaUptoSaid : Prop := fnStoreQuotaUptoRow.holds Try.pinned (OpenSpec.upto fnStoreQuotaSpec)

/-- 'laws.FnStoreGet', WHERE WHAT IT READS IS OF BULK AT MOST 1048576: true; the input reads as it did. -/
def fnStoreGetUptoRow : OpenClaim := { program := "ytmfbhddnlgbcmaa", sum := "917534d614887acce8e02449131b31a0975693a589a7382a9ed8ad16b1a5df53", func := "loop.example/dagconsensus/laws.FnStoreGet", spec := "fnStoreGet", apart := false, narrowed := true }
def FnStoreGetUptoSaid : Prop := fnStoreGetUptoRow.holds Try.pinned (OpenSpec.upto fnStoreGetSpec)

/-- 'laws.FnStoreForgetSteps', WHERE WHAT IT READS IS OF BULK AT MOST 1048576: true; the input reads as it did. -/
def fnStoreForgetStepsUptoRow : OpenClaim := { program := "ytmfbhddnlgbcmaa", sum := "917534d614887acce8e02449131b31a0975693a589a7382a9ed8ad16b1a5df53", func := "loop.example/dagconsensus/laws.FnStoreForgetSteps", spec := "fnStoreForgetSteps", apart := false, narrowed := true }
def FnStoreForgetStepsUptoSaid : Prop := fnStoreForgetStepsUptoRow.holds Try.pinned (OpenSpec.upto fnStoreForgetStepsSpec)

/-- 'laws.FnExactStoreForget', WHERE WHAT IT READS IS OF BULK AT MOST 1048576: true; the input reads as it did. -/
def fnExactStoreForgetUptoRow : OpenClaim := { program := "ytmfbhddnlgbcmaa", sum := "917534d614887acce8e02449131b31a0975693a589a7382a9ed8ad16b1a5df53", func := "loop.example/dagconsensus/laws.FnExactStoreForget", spec := "fnExactStoreForget", apart := false, narrowed := true }
def FnExactStoreForgetUptoSaid : Prop := fnExactStoreForgetUptoRow.holds Try.pinned (OpenSpec.upto fnExactStoreForgetSpec)

/-- 'laws.FnStoreForget', WHERE WHAT IT READS IS OF BULK AT MOST 1048576: true; the input reads as it did. -/
def fnStoreForgetUptoRow : OpenClaim := { program := "ytmfbhddnlgbcmaa", sum := "917534d614887acce8e02449131b31a0975693a589a7382a9ed8ad16b1a5df53", func := "loop.example/dagconsensus/laws.FnStoreForget", spec := "fnStoreForget", apart := false, narrowed := true }
def FnStoreForgetUptoSaid : Prop := fnStoreForgetUptoRow.holds Try.pinned (OpenSpec.upto fnStoreForgetSpec)

/-- 'laws.FnStoreOrder', WHERE WHAT IT READS IS OF BULK AT MOST 1048576: true; the input reads as it did. -/
def fnStoreOrderUptoRow : OpenClaim := { program := "ytmfbhddnlgbcmaa", sum := "917534d614887acce8e02449131b31a0975693a589a7382a9ed8ad16b1a5df53", func := "loop.example/dagconsensus/laws.FnStoreOrder", spec := "fnStoreOrder", apart := false, narrowed := true }
def FnStoreOrderUptoSaid : Prop := fnStoreOrderUptoRow.holds Try.pinned (OpenSpec.upto fnStoreOrderSpec)

/-- 'laws.FnStorePutTwice', WHERE WHAT IT READS IS OF BULK AT MOST 1048576: true; the input reads as it did. -/
def fnStorePutTwiceUptoRow : OpenClaim := { program := "ytmfbhddnlgbcmaa", sum := "917534d614887acce8e02449131b31a0975693a589a7382a9ed8ad16b1a5df53", func := "loop.example/dagconsensus/laws.FnStorePutTwice", spec := "fnStorePutTwice", apart := false, narrowed := true }
def FnStorePutTwiceUptoSaid : Prop := fnStorePutTwiceUptoRow.holds Try.pinned (OpenSpec.upto fnStorePutTwiceSpec)

end Rows
end Go.Proofs.Ytmfbhddnlgbcmaa
