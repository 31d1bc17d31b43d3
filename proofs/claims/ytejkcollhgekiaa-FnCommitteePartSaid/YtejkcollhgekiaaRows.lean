/-
  No cell of these rows narrows 'for every input' (looked for: loops, veiled, ifaces, maps, wideKeys, modest, calm, conditions, laid).
  DERIVED. THE GIVEN ROWS OF THIS SEAT. 12 by the template 'for every input the law returns true; each argument reads behind the call as it read before'; 0 by the template 'total and deterministic' (their statements: YtejkcollhgekiaaTotals.lean).
  GIVEN WITH THE SEED: the statements are not yours to turn. If you find one false, say at which input.
  Laid BY PROGRAM, IN A SANDBOX (cutbox-rows.mjs): the forced cells as the released guide's own fill.sh prints them over the translation b962f30c98e33f5d… (all of the seat's roots in one cut). By AI agents, Wed Nov 11 2026. No macro, syntax, notation, axiom, sorry.
-/
import Derived.Test.YtejkcollhgekiaaChecked
import GoSem.Claim
import GoSem.ClaimJoined
import GoSem.ClaimMapViews
import Derived.JoinedTies
import Derived.KernelRfl
namespace Go.Proofs.Ytejkcollhgekiaa
/- THE CELL 'sum', in the pinned program and in every row, IS THE sha256 OF THE DUMP (.gsa) THAT YtejkcollhgekiaaProg.lean LOADS. Nothing in Lean hashes anything: it is a label: what it is worth is what the hold of that sum in a sandbox is worth. -/
noncomputable def Try.pinned : Pinned := { name := "ytejkcollhgekiaa", sum := "b962f30c98e33f5d1ea5c07ea4f3d6cd2d29c6650ad044ad679ec5a6e62e3827", checked := Try.checked }
namespace Rows
def none {H : Type} : Left H := { results := [], args := [] }

/-- 'laws.FnExactTxnsConflict': WHATEVER THE INPUT: true; the input reads as it did. -/
def fnExactTxnsConflictSpec : ChangeSpec := { name := "fnExactTxnsConflict", fn := fun _ => fun
  | [d1, d2] => { results := [.lit (.bool true)], args := [d1, d2] }
  | _ => none }
def fnExactTxnsConflictRow : OpenClaim := { program := "ytejkcollhgekiaa", sum := "b962f30c98e33f5d1ea5c07ea4f3d6cd2d29c6650ad044ad679ec5a6e62e3827", func := "loop.example/dagconsensus/laws.FnExactTxnsConflict", spec := "fnExactTxnsConflict", apart := false }
def FnExactTxnsConflictSaid : Prop := fnExactTxnsConflictRow.holds Try.pinned (OpenSpec.ofChange fnExactTxnsConflictSpec)

/-- ITS FALSE NEIGHBOUR: 'it returns false'. Refute it at one input. -/
def fnExactTxnsConflictWrong : ChangeSpec := { name := "fnExactTxnsConflict", fn := fun _ => fun
  | [d1, d2] => { results := [.lit (.bool false)], args := [d1, d2] }
  | _ => none }
def FnExactTxnsConflictWrongFalsely : Prop := fnExactTxnsConflictRow.holds Try.pinned (OpenSpec.ofChange fnExactTxnsConflictWrong)

/-- 'laws.FnExactCommitteeValid': WHATEVER THE INPUT: true; the input reads as it did. -/
def fnExactCommitteeValidSpec : ChangeSpec := { name := "fnExactCommitteeValid", fn := fun _ => fun
  | [d] => { results := [.lit (.bool true)], args := [d] }
  | _ => none }
def fnExactCommitteeValidRow : OpenClaim := { program := "ytejkcollhgekiaa", sum := "b962f30c98e33f5d1ea5c07ea4f3d6cd2d29c6650ad044ad679ec5a6e62e3827", func := "loop.example/dagconsensus/laws.FnExactCommitteeValid", spec := "fnExactCommitteeValid", apart := false }
def FnExactCommitteeValidSaid : Prop := fnExactCommitteeValidRow.holds Try.pinned (OpenSpec.ofChange fnExactCommitteeValidSpec)

/-- ITS FALSE NEIGHBOUR: 'it returns false'. Refute it at one input. -/
def fnExactCommitteeValidWrong : ChangeSpec := { name := "fnExactCommitteeValid", fn := fun _ => fun
  | [d] => { results := [.lit (.bool false)], args := [d] }
  | _ => none }
def FnExactCommitteeValidWrongFalsely : Prop := fnExactCommitteeValidRow.holds Try.pinned (OpenSpec.ofChange fnExactCommitteeValidWrong)

/-- 'laws.FnExactReceiptDigest': WHATEVER THE INPUT: true; the input reads as it did. -/
def fnExactReceiptDigestSpec : ChangeSpec := { name := "fnExactReceiptDigest", fn := fun _ => fun
  | [d] => { results := [.lit (.bool true)], args := [d] }
  | _ => none }
def fnExactReceiptDigestRow : OpenClaim := { program := "ytejkcollhgekiaa", sum := "b962f30c98e33f5d1ea5c07ea4f3d6cd2d29c6650ad044ad679ec5a6e62e3827", func := "loop.example/dagconsensus/laws.FnExactReceiptDigest", spec := "fnExactReceiptDigest", apart := false }
def FnExactReceiptDigestSaid : Prop := fnExactReceiptDigestRow.holds Try.pinned (OpenSpec.ofChange fnExactReceiptDigestSpec)

/-- ITS FALSE NEIGHBOUR: 'it returns false'. Refute it at one input. -/
def fnExactReceiptDigestWrong : ChangeSpec := { name := "fnExactReceiptDigest", fn := fun _ => fun
  | [d] => { results := [.lit (.bool false)], args := [d] }
  | _ => none }
def FnExactReceiptDigestWrongFalsely : Prop := fnExactReceiptDigestRow.holds Try.pinned (OpenSpec.ofChange fnExactReceiptDigestWrong)

/-- 'laws.FnCommitteePart': WHATEVER THE INPUT: true; the input reads as it did. -/
def fnCommitteePartSpec : ChangeSpec := { name := "fnCommitteePart", fn := fun _ => fun
  | [d1, d2] => { results := [.lit (.bool true)], args := [d1, d2] }
  | _ => none }
def fnCommitteePartRow : OpenClaim := { program := "ytejkcollhgekiaa", sum := "b962f30c98e33f5d1ea5c07ea4f3d6cd2d29c6650ad044ad679ec5a6e62e3827", func := "loop.example/dagconsensus/laws.FnCommitteePart", spec := "fnCommitteePart", apart := false }
def FnCommitteePartSaid : Prop := fnCommitteePartRow.holds Try.pinned (OpenSpec.ofChange fnCommitteePartSpec)

/-- ITS FALSE NEIGHBOUR: 'it returns false'. Refute it at one input. -/
def fnCommitteePartWrong : ChangeSpec := { name := "fnCommitteePart", fn := fun _ => fun
  | [d1, d2] => { results := [.lit (.bool false)], args := [d1, d2] }
  | _ => none }
def FnCommitteePartWrongFalsely : Prop := fnCommitteePartRow.holds Try.pinned (OpenSpec.ofChange fnCommitteePartWrong)

/-- 'laws.FnExactMembersValid': WHATEVER THE INPUT: true; the input reads as it did. -/
def fnExactMembersValidSpec : ChangeSpec := { name := "fnExactMembersValid", fn := fun _ => fun
  | [d1, d2] => { results := [.lit (.bool true)], args := [d1, d2] }
  | _ => none }
def fnExactMembersValidRow : OpenClaim := { program := "ytejkcollhgekiaa", sum := "b962f30c98e33f5d1ea5c07ea4f3d6cd2d29c6650ad044ad679ec5a6e62e3827", func := "loop.example/dagconsensus/laws.FnExactMembersValid", spec := "fnExactMembersValid", apart := false }
def FnExactMembersValidSaid : Prop := fnExactMembersValidRow.holds Try.pinned (OpenSpec.ofChange fnExactMembersValidSpec)

/-- ITS FALSE NEIGHBOUR: 'it returns false'. Refute it at one input. -/
def fnExactMembersValidWrong : ChangeSpec := { name := "fnExactMembersValid", fn := fun _ => fun
  | [d1, d2] => { results := [.lit (.bool false)], args := [d1, d2] }
  | _ => none }
def FnExactMembersValidWrongFalsely : Prop := fnExactMembersValidRow.holds Try.pinned (OpenSpec.ofChange fnExactMembersValidWrong)

/-- 'laws.FnExactCommitteeTotal': WHATEVER THE INPUT: true; the input reads as it did. -/
def fnExactCommitteeTotalSpec : ChangeSpec := { name := "fnExactCommitteeTotal", fn := fun _ => fun
  | [d] => { results := [.lit (.bool true)], args := [d] }
  | _ => none }
def fnExactCommitteeTotalRow : OpenClaim := { program := "ytejkcollhgekiaa", sum := "b962f30c98e33f5d1ea5c07ea4f3d6cd2d29c6650ad044ad679ec5a6e62e3827", func := "loop.example/dagconsensus/laws.FnExactCommitteeTotal", spec := "fnExactCommitteeTotal", apart := false }
def FnExactCommitteeTotalSaid : Prop := fnExactCommitteeTotalRow.holds Try.pinned (OpenSpec.ofChange fnExactCommitteeTotalSpec)

/-- ITS FALSE NEIGHBOUR: 'it returns false'. Refute it at one input. -/
def fnExactCommitteeTotalWrong : ChangeSpec := { name := "fnExactCommitteeTotal", fn := fun _ => fun
  | [d] => { results := [.lit (.bool false)], args := [d] }
  | _ => none }
def FnExactCommitteeTotalWrongFalsely : Prop := fnExactCommitteeTotalRow.holds Try.pinned (OpenSpec.ofChange fnExactCommitteeTotalWrong)

/-- 'laws.FnExactLeadersValid': WHATEVER THE INPUT: true; the input reads as it did. -/
def fnExactLeadersValidSpec : ChangeSpec := { name := "fnExactLeadersValid", fn := fun _ => fun
  | [d1, d2] => { results := [.lit (.bool true)], args := [d1, d2] }
  | _ => none }
def fnExactLeadersValidRow : OpenClaim := { program := "ytejkcollhgekiaa", sum := "b962f30c98e33f5d1ea5c07ea4f3d6cd2d29c6650ad044ad679ec5a6e62e3827", func := "loop.example/dagconsensus/laws.FnExactLeadersValid", spec := "fnExactLeadersValid", apart := false }
def FnExactLeadersValidSaid : Prop := fnExactLeadersValidRow.holds Try.pinned (OpenSpec.ofChange fnExactLeadersValidSpec)

/-- ITS FALSE NEIGHBOUR: 'it returns false'. Refute it at one input. -/
def fnExactLeadersValidWrong : ChangeSpec := { name := "fnExactLeadersValid", fn := fun _ => fun
  | [d1, d2] => { results := [.lit (.bool false)], args := [d1, d2] }
  | _ => none }
def FnExactLeadersValidWrongFalsely : Prop := fnExactLeadersValidRow.holds Try.pinned (OpenSpec.ofChange fnExactLeadersValidWrong)

/-- 'laws.FnExactCommitteeFaults': WHATEVER THE INPUT: true; the input reads as it did. -/
def fnExactCommitteeFaultsSpec : ChangeSpec := { name := "fnExactCommitteeFaults", fn := fun _ => fun
  | [d] => { results := [.lit (.bool true)], args := [d] }
  | _ => none }
def fnExactCommitteeFaultsRow : OpenClaim := { program := "ytejkcollhgekiaa", sum := "b962f30c98e33f5d1ea5c07ea4f3d6cd2d29c6650ad044ad679ec5a6e62e3827", func := "loop.example/dagconsensus/laws.FnExactCommitteeFaults", spec := "fnExactCommitteeFaults", apart := false }
def FnExactCommitteeFaultsSaid : Prop := fnExactCommitteeFaultsRow.holds Try.pinned (OpenSpec.ofChange fnExactCommitteeFaultsSpec)

/-- ITS FALSE NEIGHBOUR: 'it returns false'. Refute it at one input. -/
def fnExactCommitteeFaultsWrong : ChangeSpec := { name := "fnExactCommitteeFaults", fn := fun _ => fun
  | [d] => { results := [.lit (.bool false)], args := [d] }
  | _ => none }
def FnExactCommitteeFaultsWrongFalsely : Prop := fnExactCommitteeFaultsRow.holds Try.pinned (OpenSpec.ofChange fnExactCommitteeFaultsWrong)

/-- 'laws.FnExactCommitteeQuorum': WHATEVER THE INPUT: true; the input reads as it did. -/
def fnExactCommitteeQuorumSpec : ChangeSpec := { name := "fnExactCommitteeQuorum", fn := fun _ => fun
  | [d] => { results := [.lit (.bool true)], args := [d] }
  | _ => none }
def fnExactCommitteeQuorumRow : OpenClaim := { program := "ytejkcollhgekiaa", sum := "b962f30c98e33f5d1ea5c07ea4f3d6cd2d29c6650ad044ad679ec5a6e62e3827", func := "loop.example/dagconsensus/laws.FnExactCommitteeQuorum", spec := "fnExactCommitteeQuorum", apart := false }
def FnExactCommitteeQuorumSaid : Prop := fnExactCommitteeQuorumRow.holds Try.pinned (OpenSpec.ofChange fnExactCommitteeQuorumSpec)

/-- ITS FALSE NEIGHBOUR: 'it returns false'. Refute it at one input. -/
def fnExactCommitteeQuorumWrong : ChangeSpec := { name := "fnExactCommitteeQuorum", fn := fun _ => fun
  | [d] => { results := [.lit (.bool false)], args := [d] }
  | _ => none }
def FnExactCommitteeQuorumWrongFalsely : Prop := fnExactCommitteeQuorumRow.holds Try.pinned (OpenSpec.ofChange fnExactCommitteeQuorumWrong)

/-- 'laws.FnExactCommitteeSupport': WHATEVER THE INPUT: true; the input reads as it did. -/
def fnExactCommitteeSupportSpec : ChangeSpec := { name := "fnExactCommitteeSupport", fn := fun _ => fun
  | [d] => { results := [.lit (.bool true)], args := [d] }
  | _ => none }
def fnExactCommitteeSupportRow : OpenClaim := { program := "ytejkcollhgekiaa", sum := "b962f30c98e33f5d1ea5c07ea4f3d6cd2d29c6650ad044ad679ec5a6e62e3827", func := "loop.example/dagconsensus/laws.FnExactCommitteeSupport", spec := "fnExactCommitteeSupport", apart := false }
def FnExactCommitteeSupportSaid : Prop := fnExactCommitteeSupportRow.holds Try.pinned (OpenSpec.ofChange fnExactCommitteeSupportSpec)

/-- ITS FALSE NEIGHBOUR: 'it returns false'. Refute it at one input. -/
def fnExactCommitteeSupportWrong : ChangeSpec := { name := "fnExactCommitteeSupport", fn := fun _ => fun
  | [d] => { results := [.lit (.bool false)], args := [d] }
  | _ => none }
def FnExactCommitteeSupportWrongFalsely : Prop := fnExactCommitteeSupportRow.holds Try.pinned (OpenSpec.ofChange fnExactCommitteeSupportWrong)

/-- 'laws.FnExactMembersWeight': WHATEVER THE INPUT: true; the input reads as it did. -/
def fnExactMembersWeightSpec : ChangeSpec := { name := "fnExactMembersWeight", fn := fun _ => fun
  | [d1, d2] => { results := [.lit (.bool true)], args := [d1, d2] }
  | _ => none }
def fnExactMembersWeightRow : OpenClaim := { program := "ytejkcollhgekiaa", sum := "b962f30c98e33f5d1ea5c07ea4f3d6cd2d29c6650ad044ad679ec5a6e62e3827", func := "loop.example/dagconsensus/laws.FnExactMembersWeight", spec := "fnExactMembersWeight", apart := false }
def FnExactMembersWeightSaid : Prop := fnExactMembersWeightRow.holds Try.pinned (OpenSpec.ofChange fnExactMembersWeightSpec)

/-- ITS FALSE NEIGHBOUR: 'it returns false'. Refute it at one input. -/
def fnExactMembersWeightWrong : ChangeSpec := { name := "fnExactMembersWeight", fn := fun _ => fun
  | [d1, d2] => { results := [.lit (.bool false)], args := [d1, d2] }
  | _ => none }
def FnExactMembersWeightWrongFalsely : Prop := fnExactMembersWeightRow.holds Try.pinned (OpenSpec.ofChange fnExactMembersWeightWrong)

/-- 'laws.FnExactCoinLeader': WHATEVER THE INPUT: true; the input reads as it did. -/
def fnExactCoinLeaderSpec : ChangeSpec := { name := "fnExactCoinLeader", fn := fun _ => fun
  | [d1, d2] => { results := [.lit (.bool true)], args := [d1, d2] }
  | _ => none }
def fnExactCoinLeaderRow : OpenClaim := { program := "ytejkcollhgekiaa", sum := "b962f30c98e33f5d1ea5c07ea4f3d6cd2d29c6650ad044ad679ec5a6e62e3827", func := "loop.example/dagconsensus/laws.FnExactCoinLeader", spec := "fnExactCoinLeader", apart := false }
def FnExactCoinLeaderSaid : Prop := fnExactCoinLeaderRow.holds Try.pinned (OpenSpec.ofChange fnExactCoinLeaderSpec)

/-- ITS FALSE NEIGHBOUR: 'it returns false'. Refute it at one input. -/
def fnExactCoinLeaderWrong : ChangeSpec := { name := "fnExactCoinLeader", fn := fun _ => fun
  | [d1, d2] => { results := [.lit (.bool false)], args := [d1, d2] }
  | _ => none }
def FnExactCoinLeaderWrongFalsely : Prop := fnExactCoinLeaderRow.holds Try.pinned (OpenSpec.ofChange fnExactCoinLeaderWrong)

/- THE SECOND FORM. 'bulk': how many values and letters a reading holds, each counted each time it is reached (what is shared counts as often as it is met; a slice's spare places count too). A statement '..UptoSaid' is the law's where the arguments, and the package variables that the reading takes, are together of bulk at most 1048576: NARROWER than '..Said'. Prove '..Said' where nothing that the law and all that it calls make is longer than what came in: it says more and counts as full. Else prove '..UptoSaid'. A law counts once. -/
mutual
def uptoBulk {H : Type} : DataW H → Nat
  | .lit (.string bytes) => bytes.length + 1
  | .lit _ => 1
  | .nil => 1
  | .ptr d => uptoBulk d + 1
  | .slice elems spare => uptoBulkAll elems + uptoBulkAll spare + 1
  | .agg parts => uptoBulkAll parts + 1
  | .iface _ d => uptoBulk d + 1
  | .map entries => uptoBulkEntries entries + 1
  | .held _ => 1
def uptoBulkAll {H : Type} : List (DataW H) → Nat
  | [] => 0
  | d :: r => uptoBulk d + uptoBulkAll r
def uptoBulkEntries {H : Type} : List (Lit × DataW H) → Nat
  | [] => 0
  | x :: r => uptoBulkEntry x + uptoBulkEntries r
def uptoBulkEntry {H : Type} : Lit × DataW H → Nat
  | (.string bytes, d) => bytes.length + uptoBulk d + 1
  | (_, d) => uptoBulk d + 1
 end
def uptoSmall : (H : Type) → List (DataW H) → Bool := fun _ ds => decide (uptoBulkAll ds ≤ 1048576)
def OpenSpec.upto (s : _root_.Go.ChangeSpec) : _root_.Go.OpenSpec := { _root_.Go.OpenSpec.ofChange s with cond := some uptoSmall }

/-- 'laws.FnExactTxnsConflict', WHERE WHAT IT READS IS OF BULK AT MOST 1048576: true; the input reads as it did. -/
def fnExactTxnsConflictUptoRow : OpenClaim := { program := "ytejkcollhgekiaa", sum := "b962f30c98e33f5d1ea5c07ea4f3d6cd2d29c6650ad044ad679ec5a6e62e3827", func := "loop.example/dagconsensus/laws.FnExactTxnsConflict", spec := "fnExactTxnsConflict", apart := false, narrowed := true }
def FnExactTxnsConflictUptoSaid : Prop := fnExactTxnsConflictUptoRow.holds Try.pinned (OpenSpec.upto fnExactTxnsConflictSpec)

/-- 'laws.FnExactCommitteeValid', WHERE WHAT IT READS IS OF BULK AT MOST 1048576: true; the input reads as it did. -/
def fnExactCommitteeValidUptoRow : OpenClaim := { program := "ytejkcollhgekiaa", sum := "b962f30c98e33f5d1ea5c07ea4f3d6cd2d29c6650ad044ad679ec5a6e62e3827", func := "loop.example/dagconsensus/laws.FnExactCommitteeValid", spec := "fnExactCommitteeValid", apart := false, narrowed := true }
def FnExactCommitteeValidUptoSaid : Prop := fnExactCommitteeValidUptoRow.holds Try.pinned (OpenSpec.upto fnExactCommitteeValidSpec)

/-- 'laws.FnExactReceiptDigest', WHERE WHAT IT READS IS OF BULK AT MOST 1048576: true; the input reads as it did. -/
def fnExactReceiptDigestUptoRow : OpenClaim := { program := "ytejkcollhgekiaa", sum := "b962f30c98e33f5d1ea5c07ea4f3d6cd2d29c6650ad044ad679ec5a6e62e3827", func := "loop.example/dagconsensus/laws.FnExactReceiptDigest", spec := "fnExactReceiptDigest", apart := false, narrowed := true }
def FnExactReceiptDigestUptoSaid : Prop := fnExactReceiptDigestUptoRow.holds Try.pinned (OpenSpec.upto fnExactReceiptDigestSpec)

/-- 'laws.FnCommitteePart', WHERE WHAT IT READS IS OF BULK AT MOST 1048576: true; the input reads as it did. -/
def fnCommitteePartUptoRow : OpenClaim := { program := "ytejkcollhgekiaa", sum := "b962f30c98e33f5d1ea5c07ea4f3d6cd2d29c6650ad044ad679ec5a6e62e3827", func := "loop.example/dagconsensus/laws.FnCommitteePart", spec := "fnCommitteePart", apart := false, narrowed := true }
def FnCommitteePartUptoSaid : Prop := fnCommitteePartUptoRow.holds Try.pinned (OpenSpec.upto fnCommitteePartSpec)

/-- 'laws.FnExactMembersValid', WHERE WHAT IT READS IS OF BULK AT MOST 1048576: true; the input reads as it did. -/
def fnExactMembersValidUptoRow : OpenClaim := { program := "ytejkcollhgekiaa", sum := "b962f30c98e33f5d1ea5c07ea4f3d6cd2d29c6650ad044ad679ec5a6e62e3827", func := "loop.example/dagconsensus/laws.FnExactMembersValid", spec := "fnExactMembersValid", apart := false, narrowed := true }
def FnExactMembersValidUptoSaid : Prop := fnExactMembersValidUptoRow.holds Try.pinned (OpenSpec.upto fnExactMembersValidSpec)

/-- 'laws.FnExactCommitteeTotal', WHERE WHAT IT READS IS OF BULK AT MOST 1048576: true; the input reads as it did. -/
def fnExactCommitteeTotalUptoRow : OpenClaim := { program := "ytejkcollhgekiaa", sum := "b962f30c98e33f5d1ea5c07ea4f3d6cd2d29c6650ad044ad679ec5a6e62e3827", func := "loop.example/dagconsensus/laws.FnExactCommitteeTotal", spec := "fnExactCommitteeTotal", apart := false, narrowed := true }
def FnExactCommitteeTotalUptoSaid : Prop := fnExactCommitteeTotalUptoRow.holds Try.pinned (OpenSpec.upto fnExactCommitteeTotalSpec)

/-- 'laws.FnExactLeadersValid', WHERE WHAT IT READS IS OF BULK AT MOST 1048576: true; the input reads as it did. -/
def fnExactLeadersValidUptoRow : OpenClaim := { program := "ytejkcollhgekiaa", sum := "b962f30c98e33f5d1ea5c07ea4f3d6cd2d29c6650ad044ad679ec5a6e62e3827", func := "loop.example/dagconsensus/laws.FnExactLeadersValid", spec := "fnExactLeadersValid", apart := false, narrowed := true }
def FnExactLeadersValidUptoSaid : Prop := fnExactLeadersValidUptoRow.holds Try.pinned (OpenSpec.upto fnExactLeadersValidSpec)

/-- 'laws.FnExactCommitteeFaults', WHERE WHAT IT READS IS OF BULK AT MOST 1048576: true; the input reads as it did. -/
def fnExactCommitteeFaultsUptoRow : OpenClaim := { program := "ytejkcollhgekiaa", sum := "b962f30c98e33f5d1ea5c07ea4f3d6cd2d29c6650ad044ad679ec5a6e62e3827", func := "loop.example/dagconsensus/laws.FnExactCommitteeFaults", spec := "fnExactCommitteeFaults", apart := false, narrowed := true }
def FnExactCommitteeFaultsUptoSaid : Prop := fnExactCommitteeFaultsUptoRow.holds Try.pinned (OpenSpec.upto fnExactCommitteeFaultsSpec)

/-- 'laws.FnExactCommitteeQuorum', WHERE WHAT IT READS IS OF BULK AT MOST 1048576: true; the input reads as it did. -/
def fnExactCommitteeQuorumUptoRow : OpenClaim := { program := "ytejkcollhgekiaa", sum := "b962f30c98e33f5d1ea5c07ea4f3d6cd2d29c6650ad044ad679ec5a6e62e3827", func := "loop.example/dagconsensus/laws.FnExactCommitteeQuorum", spec := "fnExactCommitteeQuorum", apart := false, narrowed := true }
def FnExactCommitteeQuorumUptoSaid : Prop := fnExactCommitteeQuorumUptoRow.holds Try.pinned (OpenSpec.upto fnExactCommitteeQuorumSpec)

/-- 'laws.FnExactCommitteeSupport', WHERE WHAT IT READS IS OF BULK AT MOST 1048576: true; the input reads as it did. -/
def fnExactCommitteeSupportUptoRow : OpenClaim := { program := "ytejkcollhgekiaa", sum := "b962f30c98e33f5d1ea5c07ea4f3d6cd2d29c6650ad044ad679ec5a6e62e3827", func := "loop.example/dagconsensus/laws.FnExactCommitteeSupport", spec := "fnExactCommitteeSupport", apart := false, narrowed := true }
def FnExactCommitteeSupportUptoSaid : Prop := fnExactCommitteeSupportUptoRow.holds Try.pinned (OpenSpec.upto fnExactCommitteeSupportSpec)

/-- 'laws.FnExactMembersWeight', WHERE WHAT IT READS IS OF BULK AT MOST 1048576: true; the input reads as it did. -/
def fnExactMembersWeightUptoRow : OpenClaim := { program := "ytejkcollhgekiaa", sum := "b962f30c98e33f5d1ea5c07ea4f3d6cd2d29c6650ad044ad679ec5a6e62e3827", func := "loop.example/dagconsensus/laws.FnExactMembersWeight", spec := "fnExactMembersWeight", apart := false, narrowed := true }
def FnExactMembersWeightUptoSaid : Prop := fnExactMembersWeightUptoRow.holds Try.pinned (OpenSpec.upto fnExactMembersWeightSpec)

/-- 'laws.FnExactCoinLeader', WHERE WHAT IT READS IS OF BULK AT MOST 1048576: true; the input reads as it did. -/
def fnExactCoinLeaderUptoRow : OpenClaim := { program := "ytejkcollhgekiaa", sum := "b962f30c98e33f5d1ea5c07ea4f3d6cd2d29c6650ad044ad679ec5a6e62e3827", func := "loop.example/dagconsensus/laws.FnExactCoinLeader", spec := "fnExactCoinLeader", apart := false, narrowed := true }
def FnExactCoinLeaderUptoSaid : Prop := fnExactCoinLeaderUptoRow.holds Try.pinned (OpenSpec.upto fnExactCoinLeaderSpec)

end Rows
end Go.Proofs.Ytejkcollhgekiaa
