/-
  No cell of these rows narrows 'for every input' (looked for: loops, veiled, ifaces, maps, wideKeys, modest, calm, conditions, laid).
  DERIVED. THE GIVEN ROWS OF THIS SEAT. 12 by the template 'for every input the law returns true; each argument reads behind the call as it read before'; 0 by the template 'total and deterministic' (their statements: YtcaephelagjodaaTotals.lean).
  GIVEN WITH THE SEED: the statements are not yours to turn. If you find one false, say at which input.
  Laid BY PROGRAM, IN A SANDBOX (cutbox-rows.mjs): the forced cells as the released guide's own fill.sh prints them over the translation 5503f2d7620760da… (all of the seat's roots in one cut). By AI agents, Wed Nov 11 2026. No macro, syntax, notation, axiom, sorry.
-/
import Derived.Test.YtcaephelagjodaaChecked
import GoSem.Claim
import GoSem.ClaimJoined
import GoSem.ClaimMapViews
import Derived.JoinedTies
import Derived.KernelRfl
namespace Go.Proofs.Ytcaephelagjodaa
/- THE CELL 'sum', in the pinned program and in every row, IS THE sha256 OF THE DUMP (.gsa) THAT YtcaephelagjodaaProg.lean LOADS. Nothing in Lean hashes anything: it is a label: what it is worth is what the hold of that sum in a sandbox is worth. -/
noncomputable def Try.pinned : Pinned := { name := "ytcaephelagjodaa", sum := "5503f2d7620760da0aa100acdd6bbcc762d1df4c498c993d7033f5b6a115fdce", checked := Try.checked }
namespace Rows
def none {H : Type} : Left H := { results := [], args := [] }

/-- 'laws.FnConflict': WHATEVER THE INPUT: true; the input reads as it did. -/
def fnConflictSpec : ChangeSpec := { name := "fnConflict", fn := fun _ => fun
  | [d] => { results := [.lit (.bool true)], args := [d] }
  | _ => none }
def fnConflictRow : OpenClaim := { program := "ytcaephelagjodaa", sum := "5503f2d7620760da0aa100acdd6bbcc762d1df4c498c993d7033f5b6a115fdce", func := "loop.example/dagconsensus/laws.FnConflict", spec := "fnConflict", apart := false }
def FnConflictSaid : Prop := fnConflictRow.holds Try.pinned (OpenSpec.ofChange fnConflictSpec)

/-- ITS FALSE NEIGHBOUR: 'it returns false'. Refute it at one input. -/
def fnConflictWrong : ChangeSpec := { name := "fnConflict", fn := fun _ => fun
  | [d] => { results := [.lit (.bool false)], args := [d] }
  | _ => none }
def FnConflictWrongFalsely : Prop := fnConflictRow.holds Try.pinned (OpenSpec.ofChange fnConflictWrong)

/-- 'laws.FnReceiptDigest': WHATEVER THE INPUT: true; the input reads as it did. -/
def fnReceiptDigestSpec : ChangeSpec := { name := "fnReceiptDigest", fn := fun _ => fun
  | [d1, d2] => { results := [.lit (.bool true)], args := [d1, d2] }
  | _ => none }
def fnReceiptDigestRow : OpenClaim := { program := "ytcaephelagjodaa", sum := "5503f2d7620760da0aa100acdd6bbcc762d1df4c498c993d7033f5b6a115fdce", func := "loop.example/dagconsensus/laws.FnReceiptDigest", spec := "fnReceiptDigest", apart := false }
def FnReceiptDigestSaid : Prop := fnReceiptDigestRow.holds Try.pinned (OpenSpec.ofChange fnReceiptDigestSpec)

/-- ITS FALSE NEIGHBOUR: 'it returns false'. Refute it at one input. -/
def fnReceiptDigestWrong : ChangeSpec := { name := "fnReceiptDigest", fn := fun _ => fun
  | [d1, d2] => { results := [.lit (.bool false)], args := [d1, d2] }
  | _ => none }
def FnReceiptDigestWrongFalsely : Prop := fnReceiptDigestRow.holds Try.pinned (OpenSpec.ofChange fnReceiptDigestWrong)

/-- 'laws.FnFaults': WHATEVER THE INPUT: true; the input reads as it did. -/
def fnFaultsSpec : ChangeSpec := { name := "fnFaults", fn := fun _ => fun
  | [d] => { results := [.lit (.bool true)], args := [d] }
  | _ => none }
def fnFaultsRow : OpenClaim := { program := "ytcaephelagjodaa", sum := "5503f2d7620760da0aa100acdd6bbcc762d1df4c498c993d7033f5b6a115fdce", func := "loop.example/dagconsensus/laws.FnFaults", spec := "fnFaults", apart := false }
def FnFaultsSaid : Prop := fnFaultsRow.holds Try.pinned (OpenSpec.ofChange fnFaultsSpec)

/-- ITS FALSE NEIGHBOUR: 'it returns false'. Refute it at one input. -/
def fnFaultsWrong : ChangeSpec := { name := "fnFaults", fn := fun _ => fun
  | [d] => { results := [.lit (.bool false)], args := [d] }
  | _ => none }
def FnFaultsWrongFalsely : Prop := fnFaultsRow.holds Try.pinned (OpenSpec.ofChange fnFaultsWrong)

/-- 'laws.FnLeaders': WHATEVER THE INPUT: true; the input reads as it did. -/
def fnLeadersSpec : ChangeSpec := { name := "fnLeaders", fn := fun _ => fun
  | [d] => { results := [.lit (.bool true)], args := [d] }
  | _ => none }
def fnLeadersRow : OpenClaim := { program := "ytcaephelagjodaa", sum := "5503f2d7620760da0aa100acdd6bbcc762d1df4c498c993d7033f5b6a115fdce", func := "loop.example/dagconsensus/laws.FnLeaders", spec := "fnLeaders", apart := false }
def FnLeadersSaid : Prop := fnLeadersRow.holds Try.pinned (OpenSpec.ofChange fnLeadersSpec)

/-- ITS FALSE NEIGHBOUR: 'it returns false'. Refute it at one input. -/
def fnLeadersWrong : ChangeSpec := { name := "fnLeaders", fn := fun _ => fun
  | [d] => { results := [.lit (.bool false)], args := [d] }
  | _ => none }
def FnLeadersWrongFalsely : Prop := fnLeadersRow.holds Try.pinned (OpenSpec.ofChange fnLeadersWrong)

/-- 'laws.FnMembersValid': WHATEVER THE INPUT: true; the input reads as it did. -/
def fnMembersValidSpec : ChangeSpec := { name := "fnMembersValid", fn := fun _ => fun
  | [d1, d2] => { results := [.lit (.bool true)], args := [d1, d2] }
  | _ => none }
def fnMembersValidRow : OpenClaim := { program := "ytcaephelagjodaa", sum := "5503f2d7620760da0aa100acdd6bbcc762d1df4c498c993d7033f5b6a115fdce", func := "loop.example/dagconsensus/laws.FnMembersValid", spec := "fnMembersValid", apart := false }
def FnMembersValidSaid : Prop := fnMembersValidRow.holds Try.pinned (OpenSpec.ofChange fnMembersValidSpec)

/-- ITS FALSE NEIGHBOUR: 'it returns false'. Refute it at one input. -/
def fnMembersValidWrong : ChangeSpec := { name := "fnMembersValid", fn := fun _ => fun
  | [d1, d2] => { results := [.lit (.bool false)], args := [d1, d2] }
  | _ => none }
def FnMembersValidWrongFalsely : Prop := fnMembersValidRow.holds Try.pinned (OpenSpec.ofChange fnMembersValidWrong)

/-- 'laws.FnQuorum': WHATEVER THE INPUT: true; the input reads as it did. -/
def fnQuorumSpec : ChangeSpec := { name := "fnQuorum", fn := fun _ => fun
  | [d] => { results := [.lit (.bool true)], args := [d] }
  | _ => none }
def fnQuorumRow : OpenClaim := { program := "ytcaephelagjodaa", sum := "5503f2d7620760da0aa100acdd6bbcc762d1df4c498c993d7033f5b6a115fdce", func := "loop.example/dagconsensus/laws.FnQuorum", spec := "fnQuorum", apart := false }
def FnQuorumSaid : Prop := fnQuorumRow.holds Try.pinned (OpenSpec.ofChange fnQuorumSpec)

/-- ITS FALSE NEIGHBOUR: 'it returns false'. Refute it at one input. -/
def fnQuorumWrong : ChangeSpec := { name := "fnQuorum", fn := fun _ => fun
  | [d] => { results := [.lit (.bool false)], args := [d] }
  | _ => none }
def FnQuorumWrongFalsely : Prop := fnQuorumRow.holds Try.pinned (OpenSpec.ofChange fnQuorumWrong)

/-- 'laws.FnSupport': WHATEVER THE INPUT: true; the input reads as it did. -/
def fnSupportSpec : ChangeSpec := { name := "fnSupport", fn := fun _ => fun
  | [d] => { results := [.lit (.bool true)], args := [d] }
  | _ => none }
def fnSupportRow : OpenClaim := { program := "ytcaephelagjodaa", sum := "5503f2d7620760da0aa100acdd6bbcc762d1df4c498c993d7033f5b6a115fdce", func := "loop.example/dagconsensus/laws.FnSupport", spec := "fnSupport", apart := false }
def FnSupportSaid : Prop := fnSupportRow.holds Try.pinned (OpenSpec.ofChange fnSupportSpec)

/-- ITS FALSE NEIGHBOUR: 'it returns false'. Refute it at one input. -/
def fnSupportWrong : ChangeSpec := { name := "fnSupport", fn := fun _ => fun
  | [d] => { results := [.lit (.bool false)], args := [d] }
  | _ => none }
def FnSupportWrongFalsely : Prop := fnSupportRow.holds Try.pinned (OpenSpec.ofChange fnSupportWrong)

/-- 'laws.FnCoinLeader': WHATEVER THE INPUT: true; the input reads as it did. -/
def fnCoinLeaderSpec : ChangeSpec := { name := "fnCoinLeader", fn := fun _ => fun
  | [d] => { results := [.lit (.bool true)], args := [d] }
  | _ => none }
def fnCoinLeaderRow : OpenClaim := { program := "ytcaephelagjodaa", sum := "5503f2d7620760da0aa100acdd6bbcc762d1df4c498c993d7033f5b6a115fdce", func := "loop.example/dagconsensus/laws.FnCoinLeader", spec := "fnCoinLeader", apart := false }
def FnCoinLeaderSaid : Prop := fnCoinLeaderRow.holds Try.pinned (OpenSpec.ofChange fnCoinLeaderSpec)

/-- ITS FALSE NEIGHBOUR: 'it returns false'. Refute it at one input. -/
def fnCoinLeaderWrong : ChangeSpec := { name := "fnCoinLeader", fn := fun _ => fun
  | [d] => { results := [.lit (.bool false)], args := [d] }
  | _ => none }
def FnCoinLeaderWrongFalsely : Prop := fnCoinLeaderRow.holds Try.pinned (OpenSpec.ofChange fnCoinLeaderWrong)

/-- 'laws.FnTotal': WHATEVER THE INPUT: true; the input reads as it did. -/
def fnTotalSpec : ChangeSpec := { name := "fnTotal", fn := fun _ => fun
  | [d] => { results := [.lit (.bool true)], args := [d] }
  | _ => none }
def fnTotalRow : OpenClaim := { program := "ytcaephelagjodaa", sum := "5503f2d7620760da0aa100acdd6bbcc762d1df4c498c993d7033f5b6a115fdce", func := "loop.example/dagconsensus/laws.FnTotal", spec := "fnTotal", apart := false }
def FnTotalSaid : Prop := fnTotalRow.holds Try.pinned (OpenSpec.ofChange fnTotalSpec)

/-- ITS FALSE NEIGHBOUR: 'it returns false'. Refute it at one input. -/
def fnTotalWrong : ChangeSpec := { name := "fnTotal", fn := fun _ => fun
  | [d] => { results := [.lit (.bool false)], args := [d] }
  | _ => none }
def FnTotalWrongFalsely : Prop := fnTotalRow.holds Try.pinned (OpenSpec.ofChange fnTotalWrong)

/-- 'laws.FnQuorumsMeet': WHATEVER THE INPUT: true; the input reads as it did. -/
def fnQuorumsMeetSpec : ChangeSpec := { name := "fnQuorumsMeet", fn := fun _ => fun
  | [d1, d2] => { results := [.lit (.bool true)], args := [d1, d2] }
  | _ => none }
def fnQuorumsMeetRow : OpenClaim := { program := "ytcaephelagjodaa", sum := "5503f2d7620760da0aa100acdd6bbcc762d1df4c498c993d7033f5b6a115fdce", func := "loop.example/dagconsensus/laws.FnQuorumsMeet", spec := "fnQuorumsMeet", apart := false }
def FnQuorumsMeetSaid : Prop := fnQuorumsMeetRow.holds Try.pinned (OpenSpec.ofChange fnQuorumsMeetSpec)

/-- ITS FALSE NEIGHBOUR: 'it returns false'. Refute it at one input. -/
def fnQuorumsMeetWrong : ChangeSpec := { name := "fnQuorumsMeet", fn := fun _ => fun
  | [d1, d2] => { results := [.lit (.bool false)], args := [d1, d2] }
  | _ => none }
def FnQuorumsMeetWrongFalsely : Prop := fnQuorumsMeetRow.holds Try.pinned (OpenSpec.ofChange fnQuorumsMeetWrong)

/-- 'laws.FnSupportMeets': WHATEVER THE INPUT: true; the input reads as it did. -/
def fnSupportMeetsSpec : ChangeSpec := { name := "fnSupportMeets", fn := fun _ => fun
  | [d1, d2] => { results := [.lit (.bool true)], args := [d1, d2] }
  | _ => none }
def fnSupportMeetsRow : OpenClaim := { program := "ytcaephelagjodaa", sum := "5503f2d7620760da0aa100acdd6bbcc762d1df4c498c993d7033f5b6a115fdce", func := "loop.example/dagconsensus/laws.FnSupportMeets", spec := "fnSupportMeets", apart := false }
def FnSupportMeetsSaid : Prop := fnSupportMeetsRow.holds Try.pinned (OpenSpec.ofChange fnSupportMeetsSpec)

/-- ITS FALSE NEIGHBOUR: 'it returns false'. Refute it at one input. -/
def fnSupportMeetsWrong : ChangeSpec := { name := "fnSupportMeets", fn := fun _ => fun
  | [d1, d2] => { results := [.lit (.bool false)], args := [d1, d2] }
  | _ => none }
def FnSupportMeetsWrongFalsely : Prop := fnSupportMeetsRow.holds Try.pinned (OpenSpec.ofChange fnSupportMeetsWrong)

/-- 'laws.FnWeightAdds': WHATEVER THE INPUT: true; the input reads as it did. -/
def fnWeightAddsSpec : ChangeSpec := { name := "fnWeightAdds", fn := fun _ => fun
  | [d1, d2] => { results := [.lit (.bool true)], args := [d1, d2] }
  | _ => none }
def fnWeightAddsRow : OpenClaim := { program := "ytcaephelagjodaa", sum := "5503f2d7620760da0aa100acdd6bbcc762d1df4c498c993d7033f5b6a115fdce", func := "loop.example/dagconsensus/laws.FnWeightAdds", spec := "fnWeightAdds", apart := false }
def FnWeightAddsSaid : Prop := fnWeightAddsRow.holds Try.pinned (OpenSpec.ofChange fnWeightAddsSpec)

/-- ITS FALSE NEIGHBOUR: 'it returns false'. Refute it at one input. -/
def fnWeightAddsWrong : ChangeSpec := { name := "fnWeightAdds", fn := fun _ => fun
  | [d1, d2] => { results := [.lit (.bool false)], args := [d1, d2] }
  | _ => none }
def FnWeightAddsWrongFalsely : Prop := fnWeightAddsRow.holds Try.pinned (OpenSpec.ofChange fnWeightAddsWrong)

/- THE SECOND FORM. 'bulk': how many values and letters a reading holds, each counted each time it is reached (what is shared counts as often as it is met; a slice's spare places count too). A statement '..UptoSaid' is the law's where the arguments, and the package variables that the reading takes, are together of bulk at most 1048576: NARROWER than '..Said'. Prove '..Said' where nothing that the law and all that it calls make is longer than what came in: it says more and counts as full. Else prove '..UptoSaid'. A law counts once. -/
mutual
def uptoBulk {H : Type} : DataW H → Nat
  | .lit (.string bytes) => bytes.length + 1
  | .lit _ => 1
  | .nil => 1
  | .ptr d => uptoBulk d + 1
  | .slice elems spare => uptoBulkAll elems + uptoBulkAll spare + 1
  | .agg parts => uptoBulkAll parts + 1
  | .iface _ d => uptoBulk d + 1
  | .map entries => uptoBulkEntries entries + 1
  | .held _ => 1
def uptoBulkAll {H : Type} : List (DataW H) → Nat
  | [] => 0
  | d :: r => uptoBulk d + uptoBulkAll r
def uptoBulkEntries {H : Type} : List (Lit × DataW H) → Nat
  | [] => 0
  | x :: r => uptoBulkEntry x + uptoBulkEntries r
def uptoBulkEntry {H : Type} : Lit × DataW H → Nat
  | (.string bytes, d) => bytes.length + uptoBulk d + 1
  | (_, d) => uptoBulk d + 1
 end
def uptoSmall : (H : Type) → List (DataW H) → Bool := fun _ ds => decide (uptoBulkAll ds ≤ 1048576)
def OpenSpec.upto (s : _root_.Go.ChangeSpec) : _root_.Go.OpenSpec := { _root_.Go.OpenSpec.ofChange s with cond := some uptoSmall }

/-- 'laws.FnConflict', WHERE WHAT IT READS IS OF BULK AT MOST 1048576: true; the input reads as it did. -/
def fnConflictUptoRow : OpenClaim := { program := "ytcaephelagjodaa", sum := "5503f2d7620760da0aa100acdd6bbcc762d1df4c498c993d7033f5b6a115fdce", func := "loop.example/dagconsensus/laws.FnConflict", spec := "fnConflict", apart := false, narrowed := true }
def FnConflictUptoSaid : Prop := fnConflictUptoRow.holds Try.pinned (OpenSpec.upto fnConflictSpec)

/-- 'laws.FnReceiptDigest', WHERE WHAT IT READS IS OF BULK AT MOST 1048576: true; the input reads as it did. -/
def fnReceiptDigestUptoRow : OpenClaim := { program := "ytcaephelagjodaa", sum := "5503f2d7620760da0aa100acdd6bbcc762d1df4c498c993d7033f5b6a115fdce", func := "loop.example/dagconsensus/laws.FnReceiptDigest", spec := "fnReceiptDigest", apart := false, narrowed := true }
def FnReceiptDigestUptoSaid : Prop := fnReceiptDigestUptoRow.holds Try.pinned (OpenSpec.upto fnReceiptDigestSpec)

/-- 'laws.FnFaults', WHERE WHAT IT READS IS OF BULK AT MOST 1048576: true; the input reads as it did. -/
def fnFaultsUptoRow : OpenClaim := { program := "ytcaephelagjodaa", sum := "5503f2d7620760da0aa100acdd6bbcc762d1df4c498c993d7033f5b6a115fdce", func := "loop.example/dagconsensus/laws.FnFaults", spec := "fnFaults", apart := false, narrowed := true }
def FnFaultsUptoSaid : Prop := fnFaultsUptoRow.holds Try.pinned (OpenSpec.upto fnFaultsSpec)

/-- 'laws.FnLeaders', WHERE WHAT IT READS IS OF BULK AT MOST 1048576: true; the input reads as it did. -/
def fnLeadersUptoRow : OpenClaim := { program := "ytcaephelagjodaa", sum := "5503f2d7620760da0aa100acdd6bbcc762d1df4c498c993d7033f5b6a115fdce", func := "loop.example/dagconsensus/laws.FnLeaders", spec := "fnLeaders", apart := false, narrowed := true }
def FnLeadersUptoSaid : Prop := fnLeadersUptoRow.holds Try.pinned (OpenSpec.upto fnLeadersSpec)

/-- 'laws.FnMembersValid', WHERE WHAT IT READS IS OF BULK AT MOST 1048576: true; the input reads as it did. -/
def fnMembersValidUptoRow : OpenClaim := { program := "ytcaephelagjodaa", sum := "5503f2d7620760da0aa100acdd6bbcc762d1df4c498c993d7033f5b6a115fdce", func := "loop.example/dagconsensus/laws.FnMembersValid", spec := "fnMembersValid", apart := false, narrowed := true }
def FnMembersValidUptoSaid : Prop := fnMembersValidUptoRow.holds Try.pinned (OpenSpec.upto fnMembersValidSpec)

/-- 'laws.FnQuorum', WHERE WHAT IT READS IS OF BULK AT MOST 1048576: true; the input reads as it did. -/
def fnQuorumUptoRow : OpenClaim := { program := "ytcaephelagjodaa", sum := "5503f2d7620760da0aa100acdd6bbcc762d1df4c498c993d7033f5b6a115fdce", func := "loop.example/dagconsensus/laws.FnQuorum", spec := "fnQuorum", apart := false, narrowed := true }
def FnQuorumUptoSaid : Prop := fnQuorumUptoRow.holds Try.pinned (OpenSpec.upto fnQuorumSpec)

/-- 'laws.FnSupport', WHERE WHAT IT READS IS OF BULK AT MOST 1048576: true; the input reads as it did. -/
def fnSupportUptoRow : OpenClaim := { program := "ytcaephelagjodaa", sum := "5503f2d7620760da0aa100acdd6bbcc762d1df4c498c993d7033f5b6a115fdce", func := "loop.example/dagconsensus/laws.FnSupport", spec := "fnSupport", apart := false, narrowed := true }
def FnSupportUptoSaid : Prop := fnSupportUptoRow.holds Try.pinned (OpenSpec.upto fnSupportSpec)

/-- 'laws.FnCoinLeader', WHERE WHAT IT READS IS OF BULK AT MOST 1048576: true; the input reads as it did. -/
def fnCoinLeaderUptoRow : OpenClaim := { program := "ytcaephelagjodaa", sum := "5503f2d7620760da0aa100acdd6bbcc762d1df4c498c993d7033f5b6a115fdce", func := "loop.example/dagconsensus/laws.FnCoinLeader", spec := "fnCoinLeader", apart := false, narrowed := true }
def FnCoinLeaderUptoSaid : Prop := fnCoinLeaderUptoRow.holds Try.pinned (OpenSpec.upto fnCoinLeaderSpec)

/-- 'laws.FnTotal', WHERE WHAT IT READS IS OF BULK AT MOST 1048576: true; the input reads as it did. -/
def fnTotalUptoRow : OpenClaim := { program := "ytcaephelagjodaa", sum := "5503f2d7620760da0aa100acdd6bbcc762d1df4c498c993d7033f5b6a115fdce", func := "loop.example/dagconsensus/laws.FnTotal", spec := "fnTotal", apart := false, narrowed := true }
def FnTotalUptoSaid : Prop := fnTotalUptoRow.holds Try.pinned (OpenSpec.upto fnTotalSpec)

/-- 'laws.FnQuorumsMeet', WHERE WHAT IT READS IS OF BULK AT MOST 1048576: true; the input reads as it did. -/
def fnQuorumsMeetUptoRow : OpenClaim := { program := "ytcaephelagjodaa", sum := "5503f2d7620760da0aa100acdd6bbcc762d1df4c498c993d7033f5b6a115fdce", func := "loop.example/dagconsensus/laws.FnQuorumsMeet", spec := "fnQuorumsMeet", apart := false, narrowed := true }
def FnQuorumsMeetUptoSaid : Prop := fnQuorumsMeetUptoRow.holds Try.pinned (OpenSpec.upto fnQuorumsMeetSpec)

/-- 'laws.FnSupportMeets', WHERE WHAT IT READS IS OF BULK AT MOST 1048576: true; the input reads as it did. -/
def fnSupportMeetsUptoRow : OpenClaim := { program := "ytcaephelagjodaa", sum := "5503f2d7620760da0aa100acdd6bbcc762d1df4c498c993d7033f5b6a115fdce", func := "loop.example/dagconsensus/laws.FnSupportMeets", spec := "fnSupportMeets", apart := false, narrowed := true }
def FnSupportMeetsUptoSaid : Prop := fnSupportMeetsUptoRow.holds Try.pinned (OpenSpec.upto fnSupportMeetsSpec)

/-- 'laws.FnWeightAdds', WHERE WHAT IT READS IS OF BULK AT MOST 1048576: true; the input reads as it did. -/
def fnWeightAddsUptoRow : OpenClaim := { program := "ytcaephelagjodaa", sum := "5503f2d7620760da0aa100acdd6bbcc762d1df4c498c993d7033f5b6a115fdce", func := "loop.example/dagconsensus/laws.FnWeightAdds", spec := "fnWeightAdds", apart := false, narrowed := true }
def FnWeightAddsUptoSaid : Prop := fnWeightAddsUptoRow.holds Try.pinned (OpenSpec.upto fnWeightAddsSpec)

end Rows
end Go.Proofs.Ytcaephelagjodaa
