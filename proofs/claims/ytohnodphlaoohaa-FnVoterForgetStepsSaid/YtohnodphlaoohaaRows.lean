/-
  No cell of these rows narrows 'for every input' (looked for: loops, veiled, ifaces, maps, wideKeys, modest, calm, conditions, laid).
  DERIVED. THE GIVEN ROWS OF THIS SEAT. 10 by the template 'for every input the law returns true; each argument reads behind the call as it read before'; 0 by the template 'total and deterministic' (their statements: YtohnodphlaoohaaTotals.lean).
  GIVEN WITH THE SEED: the statements are not yours to turn. If you find one false, say at which input.
  Laid BY PROGRAM, IN A SANDBOX (cutbox-rows.mjs): the forced cells as the released guide's own fill.sh prints them over the translation 15e593650e74bddb… (all of the seat's roots in one cut). By AI agents, Wed Nov 11 2026. No macro, syntax, notation, axiom, sorry.
-/
import Derived.Test.YtohnodphlaoohaaChecked
import GoSem.Claim
import GoSem.ClaimJoined
import GoSem.ClaimMapViews
import Derived.JoinedTies
import Derived.KernelRfl
namespace Go.Proofs.Ytohnodphlaoohaa
/- THE CELL 'sum', in the pinned program and in every row, IS THE sha256 OF THE DUMP (.gsa) THAT YtohnodphlaoohaaProg.lean LOADS. Nothing in Lean hashes anything: it is a label: what it is worth is what the hold of that sum in a sandbox is worth. -/
noncomputable def Try.pinned : Pinned := { name := "ytohnodphlaoohaa", sum := "15e593650e74bddb0ab2e830f3d788fa46f023c5e8c14062f07452d08ad1c2df", checked := Try.checked }
namespace Rows
def none {H : Type} : Left H := { results := [], args := [] }

/-- 'laws.FnExactCertMake': WHATEVER THE INPUT: true; the input reads as it did. -/
def fnExactCertMakeSpec : ChangeSpec := { name := "fnExactCertMake", fn := fun _ => fun
  | [d1, d2, d3, d4] => { results := [.lit (.bool true)], args := [d1, d2, d3, d4] }
  | _ => none }
def fnExactCertMakeRow : OpenClaim := { program := "ytohnodphlaoohaa", sum := "15e593650e74bddb0ab2e830f3d788fa46f023c5e8c14062f07452d08ad1c2df", func := "loop.example/dagconsensus/laws.FnExactCertMake", spec := "fnExactCertMake", apart := false }
def FnExactCertMakeSaid : Prop := fnExactCertMakeRow.holds Try.pinned (OpenSpec.ofChange fnExactCertMakeSpec)

/-- ITS FALSE NEIGHBOUR: 'it returns false'. Refute it at one input. -/
def fnExactCertMakeWrong : ChangeSpec := { name := "fnExactCertMake", fn := fun _ => fun
  | [d1, d2, d3, d4] => { results := [.lit (.bool false)], args := [d1, d2, d3, d4] }
  | _ => none }
def FnExactCertMakeWrongFalsely : Prop := fnExactCertMakeRow.holds Try.pinned (OpenSpec.ofChange fnExactCertMakeWrong)

/-- 'laws.FnTallyInnocent': WHATEVER THE INPUT: true; the input reads as it did. -/
def fnTallyInnocentSpec : ChangeSpec := { name := "fnTallyInnocent", fn := fun _ => fun
  | [d] => { results := [.lit (.bool true)], args := [d] }
  | _ => none }
def fnTallyInnocentRow : OpenClaim := { program := "ytohnodphlaoohaa", sum := "15e593650e74bddb0ab2e830f3d788fa46f023c5e8c14062f07452d08ad1c2df", func := "loop.example/dagconsensus/laws.FnTallyInnocent", spec := "fnTallyInnocent", unfollowed := true, recurses := true, apart := false }
def FnTallyInnocentSaid : Prop := fnTallyInnocentRow.holds Try.pinned (OpenSpec.ofChange fnTallyInnocentSpec)

/-- ITS FALSE NEIGHBOUR: 'it returns false'. Refute it at one input. -/
def fnTallyInnocentWrong : ChangeSpec := { name := "fnTallyInnocent", fn := fun _ => fun
  | [d] => { results := [.lit (.bool false)], args := [d] }
  | _ => none }
def FnTallyInnocentWrongFalsely : Prop := fnTallyInnocentRow.holds Try.pinned (OpenSpec.ofChange fnTallyInnocentWrong)

/-- 'laws.FnExactVoterValid': WHATEVER THE INPUT: true; the input reads as it did. -/
def fnExactVoterValidSpec : ChangeSpec := { name := "fnExactVoterValid", fn := fun _ => fun
  | [d] => { results := [.lit (.bool true)], args := [d] }
  | _ => none }
def fnExactVoterValidRow : OpenClaim := { program := "ytohnodphlaoohaa", sum := "15e593650e74bddb0ab2e830f3d788fa46f023c5e8c14062f07452d08ad1c2df", func := "loop.example/dagconsensus/laws.FnExactVoterValid", spec := "fnExactVoterValid", apart := false }
def FnExactVoterValidSaid : Prop := fnExactVoterValidRow.holds Try.pinned (OpenSpec.ofChange fnExactVoterValidSpec)

/-- ITS FALSE NEIGHBOUR: 'it returns false'. Refute it at one input. -/
def fnExactVoterValidWrong : ChangeSpec := { name := "fnExactVoterValid", fn := fun _ => fun
  | [d] => { results := [.lit (.bool false)], args := [d] }
  | _ => none }
def FnExactVoterValidWrongFalsely : Prop := fnExactVoterValidRow.holds Try.pinned (OpenSpec.ofChange fnExactVoterValidWrong)

/-- 'laws.FnVoterForgetSteps': WHATEVER THE INPUT: true; the input reads as it did. -/
def fnVoterForgetStepsSpec : ChangeSpec := { name := "fnVoterForgetSteps", fn := fun _ => fun
  | [d1, d2] => { results := [.lit (.bool true)], args := [d1, d2] }
  | _ => none }
def fnVoterForgetStepsRow : OpenClaim := { program := "ytohnodphlaoohaa", sum := "15e593650e74bddb0ab2e830f3d788fa46f023c5e8c14062f07452d08ad1c2df", func := "loop.example/dagconsensus/laws.FnVoterForgetSteps", spec := "fnVoterForgetSteps", apart := false }
def FnVoterForgetStepsSaid : Prop := fnVoterForgetStepsRow.holds Try.pinned (OpenSpec.ofChange fnVoterForgetStepsSpec)

/-- ITS FALSE NEIGHBOUR: 'it returns false'. Refute it at one input. -/
def fnVoterForgetStepsWrong : ChangeSpec := { name := "fnVoterForgetSteps", fn := fun _ => fun
  | [d1, d2] => { results := [.lit (.bool false)], args := [d1, d2] }
  | _ => none }
def FnVoterForgetStepsWrongFalsely : Prop := fnVoterForgetStepsRow.holds Try.pinned (OpenSpec.ofChange fnVoterForgetStepsWrong)

/-- 'laws.FnExactTallyGuilty': WHATEVER THE INPUT: true; the input reads as it did. -/
def fnExactTallyGuiltySpec : ChangeSpec := { name := "fnExactTallyGuilty", fn := fun _ => fun
  | [d1, d2, d3] => { results := [.lit (.bool true)], args := [d1, d2, d3] }
  | _ => none }
def fnExactTallyGuiltyRow : OpenClaim := { program := "ytohnodphlaoohaa", sum := "15e593650e74bddb0ab2e830f3d788fa46f023c5e8c14062f07452d08ad1c2df", func := "loop.example/dagconsensus/laws.FnExactTallyGuilty", spec := "fnExactTallyGuilty", unfollowed := true, recurses := true, apart := false }
def FnExactTallyGuiltySaid : Prop := fnExactTallyGuiltyRow.holds Try.pinned (OpenSpec.ofChange fnExactTallyGuiltySpec)

/-- ITS FALSE NEIGHBOUR: 'it returns false'. Refute it at one input. -/
def fnExactTallyGuiltyWrong : ChangeSpec := { name := "fnExactTallyGuilty", fn := fun _ => fun
  | [d1, d2, d3] => { results := [.lit (.bool false)], args := [d1, d2, d3] }
  | _ => none }
def FnExactTallyGuiltyWrongFalsely : Prop := fnExactTallyGuiltyRow.holds Try.pinned (OpenSpec.ofChange fnExactTallyGuiltyWrong)

/-- 'laws.FnExactCertCheck': WHATEVER THE INPUT: true; the input reads as it did. -/
def fnExactCertCheckSpec : ChangeSpec := { name := "fnExactCertCheck", fn := fun _ => fun
  | [d1, d2, d3] => { results := [.lit (.bool true)], args := [d1, d2, d3] }
  | _ => none }
def fnExactCertCheckRow : OpenClaim := { program := "ytohnodphlaoohaa", sum := "15e593650e74bddb0ab2e830f3d788fa46f023c5e8c14062f07452d08ad1c2df", func := "loop.example/dagconsensus/laws.FnExactCertCheck", spec := "fnExactCertCheck", apart := false }
def FnExactCertCheckSaid : Prop := fnExactCertCheckRow.holds Try.pinned (OpenSpec.ofChange fnExactCertCheckSpec)

/-- ITS FALSE NEIGHBOUR: 'it returns false'. Refute it at one input. -/
def fnExactCertCheckWrong : ChangeSpec := { name := "fnExactCertCheck", fn := fun _ => fun
  | [d1, d2, d3] => { results := [.lit (.bool false)], args := [d1, d2, d3] }
  | _ => none }
def FnExactCertCheckWrongFalsely : Prop := fnExactCertCheckRow.holds Try.pinned (OpenSpec.ofChange fnExactCertCheckWrong)

/-- 'laws.FnExactVoterForget': WHATEVER THE INPUT: true; the input reads as it did. -/
def fnExactVoterForgetSpec : ChangeSpec := { name := "fnExactVoterForget", fn := fun _ => fun
  | [d1, d2] => { results := [.lit (.bool true)], args := [d1, d2] }
  | _ => none }
def fnExactVoterForgetRow : OpenClaim := { program := "ytohnodphlaoohaa", sum := "15e593650e74bddb0ab2e830f3d788fa46f023c5e8c14062f07452d08ad1c2df", func := "loop.example/dagconsensus/laws.FnExactVoterForget", spec := "fnExactVoterForget", apart := false }
def FnExactVoterForgetSaid : Prop := fnExactVoterForgetRow.holds Try.pinned (OpenSpec.ofChange fnExactVoterForgetSpec)

/-- ITS FALSE NEIGHBOUR: 'it returns false'. Refute it at one input. -/
def fnExactVoterForgetWrong : ChangeSpec := { name := "fnExactVoterForget", fn := fun _ => fun
  | [d1, d2] => { results := [.lit (.bool false)], args := [d1, d2] }
  | _ => none }
def FnExactVoterForgetWrongFalsely : Prop := fnExactVoterForgetRow.holds Try.pinned (OpenSpec.ofChange fnExactVoterForgetWrong)

/-- 'laws.FnConflict': WHATEVER THE INPUT: true; the input reads as it did. -/
def fnConflictSpec : ChangeSpec := { name := "fnConflict", fn := fun _ => fun
  | [d] => { results := [.lit (.bool true)], args := [d] }
  | _ => none }
def fnConflictRow : OpenClaim := { program := "ytohnodphlaoohaa", sum := "15e593650e74bddb0ab2e830f3d788fa46f023c5e8c14062f07452d08ad1c2df", func := "loop.example/dagconsensus/laws.FnConflict", spec := "fnConflict", apart := false }
def FnConflictSaid : Prop := fnConflictRow.holds Try.pinned (OpenSpec.ofChange fnConflictSpec)

/-- ITS FALSE NEIGHBOUR: 'it returns false'. Refute it at one input. -/
def fnConflictWrong : ChangeSpec := { name := "fnConflict", fn := fun _ => fun
  | [d] => { results := [.lit (.bool false)], args := [d] }
  | _ => none }
def FnConflictWrongFalsely : Prop := fnConflictRow.holds Try.pinned (OpenSpec.ofChange fnConflictWrong)

/-- 'laws.FnReceiptDigest': WHATEVER THE INPUT: true; the input reads as it did. -/
def fnReceiptDigestSpec : ChangeSpec := { name := "fnReceiptDigest", fn := fun _ => fun
  | [d1, d2] => { results := [.lit (.bool true)], args := [d1, d2] }
  | _ => none }
def fnReceiptDigestRow : OpenClaim := { program := "ytohnodphlaoohaa", sum := "15e593650e74bddb0ab2e830f3d788fa46f023c5e8c14062f07452d08ad1c2df", func := "loop.example/dagconsensus/laws.FnReceiptDigest", spec := "fnReceiptDigest", apart := false }
def FnReceiptDigestSaid : Prop := fnReceiptDigestRow.holds Try.pinned (OpenSpec.ofChange fnReceiptDigestSpec)

/-- ITS FALSE NEIGHBOUR: 'it returns false'. Refute it at one input. -/
def fnReceiptDigestWrong : ChangeSpec := { name := "fnReceiptDigest", fn := fun _ => fun
  | [d1, d2] => { results := [.lit (.bool false)], args := [d1, d2] }
  | _ => none }
def FnReceiptDigestWrongFalsely : Prop := fnReceiptDigestRow.holds Try.pinned (OpenSpec.ofChange fnReceiptDigestWrong)

/-- 'laws.FnLeaders': WHATEVER THE INPUT: true; the input reads as it did. -/
def fnLeadersSpec : ChangeSpec := { name := "fnLeaders", fn := fun _ => fun
  | [d] => { results := [.lit (.bool true)], args := [d] }
  | _ => none }
def fnLeadersRow : OpenClaim := { program := "ytohnodphlaoohaa", sum := "15e593650e74bddb0ab2e830f3d788fa46f023c5e8c14062f07452d08ad1c2df", func := "loop.example/dagconsensus/laws.FnLeaders", spec := "fnLeaders", apart := false }
def FnLeadersSaid : Prop := fnLeadersRow.holds Try.pinned (OpenSpec.ofChange fnLeadersSpec)

/-- ITS FALSE NEIGHBOUR: 'it returns false'. Refute it at one input. -/
def fnLeadersWrong : ChangeSpec := { name := "fnLeaders", fn := fun _ => fun
  | [d] => { results := [.lit (.bool false)], args := [d] }
  | _ => none }
def FnLeadersWrongFalsely : Prop := fnLeadersRow.holds Try.pinned (OpenSpec.ofChange fnLeadersWrong)

/- THE SECOND FORM. 'bulk': how many values and letters a reading holds, each counted each time it is reached (what is shared counts as often as it is met; a slice's spare places count too). A statement '..UptoSaid' is the law's where the arguments, and the package variables that the reading takes, are together of bulk at most 1048576: NARROWER than '..Said'. Prove '..Said' where nothing that the law and all that it calls make is longer than what came in: it says more and counts as full. Else prove '..UptoSaid'. A law counts once. -/
mutual
def uptoBulk {H : Type} : DataW H → Nat
  | .lit (.string bytes) => bytes.length + 1
  | .lit _ => 1
  | .nil => 1
  | .ptr d => uptoBulk d + 1
  | .slice elems spare => uptoBulkAll elems + uptoBulkAll spare + 1
  | .agg parts => uptoBulkAll parts + 1
  | .iface _ d => uptoBulk d + 1
  | .map entries => uptoBulkEntries entries + 1
  | .held _ => 1
def uptoBulkAll {H : Type} : List (DataW H) → Nat
  | [] => 0
  | d :: r => uptoBulk d + uptoBulkAll r
def uptoBulkEntries {H : Type} : List (Lit × DataW H) → Nat
  | [] => 0
  | x :: r => uptoBulkEntry x + uptoBulkEntries r
def uptoBulkEntry {H : Type} : Lit × DataW H → Nat
  | (.string bytes, d) => bytes.length + uptoBulk d + 1
  | (_, d) => uptoBulk d + 1
 end
def uptoSmall : (H : Type) → List (DataW H) → Bool := fun _ ds => decide (uptoBulkAll ds ≤ 1048576)
def OpenSpec.upto (s : _root_.Go.ChangeSpec) : _root_.Go.OpenSpec := { _root_.Go.OpenSpec.ofChange s with cond := some uptoSmall }

/-- 'laws.FnExactCertMake', WHERE WHAT IT READS IS OF BULK AT MOST 1048576: true; the input reads as it did. -/
def fnExactCertMakeUptoRow : OpenClaim := { program := "ytohnodphlaoohaa", sum := "15e593650e74bddb0ab2e830f3d788fa46f023c5e8c14062f07452d08ad1c2df", func := "loop.example/dagconsensus/laws.FnExactCertMake", spec := "fnExactCertMake", apart := false, narrowed := true }
def FnExactCertMakeUptoSaid : Prop := fnExactCertMakeUptoRow.holds Try.pinned (OpenSpec.upto fnExactCertMakeSpec)

/-- 'laws.FnTallyInnocent', WHERE WHAT IT READS IS OF BULK AT MOST 1048576: true; the input reads as it did. -/
def fnTallyInnocentUptoRow : OpenClaim := { program := "ytohnodphlaoohaa", sum := "15e593650e74bddb0ab2e830f3d788fa46f023c5e8c14062f07452d08ad1c2df", func := "loop.example/dagconsensus/laws.FnTallyInnocent", spec := "fnTallyInnocent", unfollowed := true, recurses := true, apart := false, narrowed := true }
def FnTallyInnocentUptoSaid : Prop := fnTallyInnocentUptoRow.holds Try.pinned (OpenSpec.upto fnTallyInnocentSpec)

/-- 'laws.FnExactVoterValid', WHERE WHAT IT READS IS OF BULK AT MOST 1048576: true; the input reads as it did. -/
def fnExactVoterValidUptoRow : OpenClaim := { program := "ytohnodphlaoohaa", sum := "15e593650e74bddb0ab2e830f3d788fa46f023c5e8c14062f07452d08ad1c2df", func := "loop.example/dagconsensus/laws.FnExactVoterValid", spec := "fnExactVoterValid", apart := false, narrowed := true }
def FnExactVoterValidUptoSaid : Prop := fnExactVoterValidUptoRow.holds Try.pinned (OpenSpec.upto fnExactVoterValidSpec)

/-- 'laws.FnVoterForgetSteps', WHERE WHAT IT READS IS OF BULK AT MOST 1048576: true; the input reads as it did. -/
def fnVoterForgetStepsUptoRow : OpenClaim := { program := "ytohnodphlaoohaa", sum := "15e593650e74bddb0ab2e830f3d788fa46f023c5e8c14062f07452d08ad1c2df", func := "loop.example/dagconsensus/laws.FnVoterForgetSteps", spec := "fnVoterForgetSteps", apart := false, narrowed := true }
def FnVoterForgetStepsUptoSaid : Prop := fnVoterForgetStepsUptoRow.holds Try.pinned (OpenSpec.upto fnVoterForgetStepsSpec)

/-- 'laws.FnExactTallyGuilty', WHERE WHAT IT READS IS OF BULK AT MOST 1048576: true; the input reads as it did. -/
def fnExactTallyGuiltyUptoRow : OpenClaim := { program := "ytohnodphlaoohaa", sum := "15e593650e74bddb0ab2e830f3d788fa46f023c5e8c14062f07452d08ad1c2df", func := "loop.example/dagconsensus/laws.FnExactTallyGuilty", spec := "fnExactTallyGuilty", unfollowed := true, recurses := true, apart := false, narrowed := true }
def FnExactTallyGuiltyUptoSaid : Prop := fnExactTallyGuiltyUptoRow.holds Try.pinned (OpenSpec.upto fnExactTallyGuiltySpec)

/-- 'laws.FnExactCertCheck', WHERE WHAT IT READS IS OF BULK AT MOST 1048576: true; the input reads as it did. -/
def fnExactCertCheckUptoRow : OpenClaim := { program := "ytohnodphlaoohaa", sum := "15e593650e74bddb0ab2e830f3d788fa46f023c5e8c14062f07452d08ad1c2df", func := "loop.example/dagconsensus/laws.FnExactCertCheck", spec := "fnExactCertCheck", apart := false, narrowed := true }
def FnExactCertCheckUptoSaid : Prop := fnExactCertCheckUptoRow.holds Try.pinned (OpenSpec.upto fnExactCertCheckSpec)

/-- 'laws.FnExactVoterForget', WHERE WHAT IT READS IS OF BULK AT MOST 1048576: true; the input reads as it did. -/
def fnExactVoterForgetUptoRow : OpenClaim := { program := "ytohnodphlaoohaa", sum := "15e593650e74bddb0ab2e830f3d788fa46f023c5e8c14062f07452d08ad1c2df", func := "loop.example/dagconsensus/laws.FnExactVoterForget", spec := "fnExactVoterForget", apart := false, narrowed := true }
def FnExactVoterForgetUptoSaid : Prop := fnExactVoterForgetUptoRow.holds Try.pinned (OpenSpec.upto fnExactVoterForgetSpec)

/-- 'laws.FnConflict', WHERE WHAT IT READS IS OF BULK AT MOST 1048576: true; the input reads as it did. -/
def fnConflictUptoRow : OpenClaim := { program := "ytohnodphlaoohaa", sum := "15e593650e74bddb0ab2e830f3d788fa46f023c5e8c14062f07452d08ad1c2df", func := "loop.example/dagconsensus/laws.FnConflict", spec := "fnConflict", apart := false, narrowed := true }
def FnConflictUptoSaid : Prop := fnConflictUptoRow.holds Try.pinned (OpenSpec.upto fnConflictSpec)

/-- 'laws.FnReceiptDigest', WHERE WHAT IT READS IS OF BULK AT MOST 1048576: true; the input reads as it did. -/
def fnReceiptDigestUptoRow : OpenClaim := { program := "ytohnodphlaoohaa", sum := "15e593650e74bddb0ab2e830f3d788fa46f023c5e8c14062f07452d08ad1c2df", func := "loop.example/dagconsensus/laws.FnReceiptDigest", spec := "fnReceiptDigest", apart := false, narrowed := true }
def FnReceiptDigestUptoSaid : Prop := fnReceiptDigestUptoRow.holds Try.pinned (OpenSpec.upto fnReceiptDigestSpec)

/-- 'laws.FnLeaders', WHERE WHAT IT READS IS OF BULK AT MOST 1048576: true; the input reads as it did. -/
def fnLeadersUptoRow : OpenClaim := { program := "ytohnodphlaoohaa", sum := "15e593650e74bddb0ab2e830f3d788fa46f023c5e8c14062f07452d08ad1c2df", func := "loop.example/dagconsensus/laws.FnLeaders", spec := "fnLeaders", apart := false, narrowed := true }
def FnLeadersUptoSaid : Prop := fnLeadersUptoRow.holds Try.pinned (OpenSpec.upto fnLeadersSpec)

end Rows
end Go.Proofs.Ytohnodphlaoohaa
