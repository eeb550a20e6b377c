/-
  No cell of these rows narrows 'for every input' (looked for: loops, veiled, ifaces, maps, wideKeys, modest, calm, conditions, laid).
  DERIVED. THE GIVEN ROWS OF THIS SEAT. 7 by the template 'for every input the law returns true; each argument reads behind the call as it read before'; 0 by the template 'total and deterministic' (their statements: YtfanbhbpmhojaaaTotals.lean).
  GIVEN WITH THE SEED: the statements are not yours to turn. If you find one false, say at which input.
  Laid BY PROGRAM, IN A SANDBOX (cutbox-rows.mjs): the forced cells as the released guide's own fill.sh prints them over the translation 46641840ba3ae9f8… (all of the seat's roots in one cut). By AI agents, Wed Nov 11 2026. No macro, syntax, notation, axiom, sorry.
-/
import Derived.Test.YtfanbhbpmhojaaaChecked
import GoSem.Claim
import GoSem.ClaimJoined
import GoSem.ClaimMapViews
import Derived.JoinedTies
import Derived.KernelRfl
namespace Go.Proofs.Ytfanbhbpmhojaaa
/- THE CELL 'sum', in the pinned program and in every row, IS THE sha256 OF THE DUMP (.gsa) THAT YtfanbhbpmhojaaaProg.lean LOADS. Nothing in Lean hashes anything: it is a label: what it is worth is what the hold of that sum in a sandbox is worth. -/
noncomputable def Try.pinned : Pinned := { name := "ytfanbhbpmhojaaa", sum := "46641840ba3ae9f839c4fc681e47955acce8fb8efe8cb1f9ab606e870eab2a75", checked := Try.checked }
namespace Rows
def none {H : Type} : Left H := { results := [], args := [] }

/-- 'lamellalaw10.CouncilAlone': WHATEVER THE INPUT: true; the input reads as it did. -/
def councilAloneSpec : ChangeSpec := { name := "councilAlone", fn := fun _ => fun
  | [d1, d2] => { results := [.lit (.bool true)], args := [d1, d2] }
  | _ => none }
def councilAloneRow : OpenClaim := { program := "ytfanbhbpmhojaaa", sum := "46641840ba3ae9f839c4fc681e47955acce8fb8efe8cb1f9ab606e870eab2a75", func := "lamella/lamellalaw10.CouncilAlone", spec := "councilAlone", unfollowed := true, recurses := true, apart := false }
def CouncilAloneSaid : Prop := councilAloneRow.holds Try.pinned (OpenSpec.ofChange councilAloneSpec)

/-- ITS FALSE NEIGHBOUR: 'it returns false'. Refute it at one input. -/
def councilAloneWrong : ChangeSpec := { name := "councilAlone", fn := fun _ => fun
  | [d1, d2] => { results := [.lit (.bool false)], args := [d1, d2] }
  | _ => none }
def CouncilAloneWrongFalsely : Prop := councilAloneRow.holds Try.pinned (OpenSpec.ofChange councilAloneWrong)

/-- 'lamellalaw10.CouncilLoads': WHATEVER THE INPUT: true; the input reads as it did. -/
def councilLoadsSpec : ChangeSpec := { name := "councilLoads", fn := fun _ => fun
  | [d1, d2] => { results := [.lit (.bool true)], args := [d1, d2] }
  | _ => none }
def councilLoadsRow : OpenClaim := { program := "ytfanbhbpmhojaaa", sum := "46641840ba3ae9f839c4fc681e47955acce8fb8efe8cb1f9ab606e870eab2a75", func := "lamella/lamellalaw10.CouncilLoads", spec := "councilLoads", unfollowed := true, recurses := true, apart := false }
def CouncilLoadsSaid : Prop := councilLoadsRow.holds Try.pinned (OpenSpec.ofChange councilLoadsSpec)

/-- ITS FALSE NEIGHBOUR: 'it returns false'. Refute it at one input. -/
def councilLoadsWrong : ChangeSpec := { name := "councilLoads", fn := fun _ => fun
  | [d1, d2] => { results := [.lit (.bool false)], args := [d1, d2] }
  | _ => none }
def CouncilLoadsWrongFalsely : Prop := councilLoadsRow.holds Try.pinned (OpenSpec.ofChange councilLoadsWrong)

/-- 'lamellalaw10.CouncilNews': WHATEVER THE INPUT: true; the input reads as it did. -/
def councilNewsSpec : ChangeSpec := { name := "councilNews", fn := fun _ => fun
  | [d1, d2, d3] => { results := [.lit (.bool true)], args := [d1, d2, d3] }
  | _ => none }
def councilNewsRow : OpenClaim := { program := "ytfanbhbpmhojaaa", sum := "46641840ba3ae9f839c4fc681e47955acce8fb8efe8cb1f9ab606e870eab2a75", func := "lamella/lamellalaw10.CouncilNews", spec := "councilNews", unfollowed := true, recurses := true, apart := false }
def CouncilNewsSaid : Prop := councilNewsRow.holds Try.pinned (OpenSpec.ofChange councilNewsSpec)

/-- ITS FALSE NEIGHBOUR: 'it returns false'. Refute it at one input. -/
def councilNewsWrong : ChangeSpec := { name := "councilNews", fn := fun _ => fun
  | [d1, d2, d3] => { results := [.lit (.bool false)], args := [d1, d2, d3] }
  | _ => none }
def CouncilNewsWrongFalsely : Prop := councilNewsRow.holds Try.pinned (OpenSpec.ofChange councilNewsWrong)

/-- 'lamellalaw10.CouncilVotes': WHATEVER THE INPUT: true; the input reads as it did. -/
def councilVotesSpec : ChangeSpec := { name := "councilVotes", fn := fun _ => fun
  | [d1, d2] => { results := [.lit (.bool true)], args := [d1, d2] }
  | _ => none }
def councilVotesRow : OpenClaim := { program := "ytfanbhbpmhojaaa", sum := "46641840ba3ae9f839c4fc681e47955acce8fb8efe8cb1f9ab606e870eab2a75", func := "lamella/lamellalaw10.CouncilVotes", spec := "councilVotes", unfollowed := true, recurses := true, apart := false }
def CouncilVotesSaid : Prop := councilVotesRow.holds Try.pinned (OpenSpec.ofChange councilVotesSpec)

/-- ITS FALSE NEIGHBOUR: 'it returns false'. Refute it at one input. -/
def councilVotesWrong : ChangeSpec := { name := "councilVotes", fn := fun _ => fun
  | [d1, d2] => { results := [.lit (.bool false)], args := [d1, d2] }
  | _ => none }
def CouncilVotesWrongFalsely : Prop := councilVotesRow.holds Try.pinned (OpenSpec.ofChange councilVotesWrong)

/-- 'lamellalaw10.CouncilAgrees': WHATEVER THE INPUT: true; the input reads as it did. -/
def councilAgreesSpec : ChangeSpec := { name := "councilAgrees", fn := fun _ => fun
  | [d1, d2] => { results := [.lit (.bool true)], args := [d1, d2] }
  | _ => none }
def councilAgreesRow : OpenClaim := { program := "ytfanbhbpmhojaaa", sum := "46641840ba3ae9f839c4fc681e47955acce8fb8efe8cb1f9ab606e870eab2a75", func := "lamella/lamellalaw10.CouncilAgrees", spec := "councilAgrees", unfollowed := true, recurses := true, apart := false }
def CouncilAgreesSaid : Prop := councilAgreesRow.holds Try.pinned (OpenSpec.ofChange councilAgreesSpec)

/-- ITS FALSE NEIGHBOUR: 'it returns false'. Refute it at one input. -/
def councilAgreesWrong : ChangeSpec := { name := "councilAgrees", fn := fun _ => fun
  | [d1, d2] => { results := [.lit (.bool false)], args := [d1, d2] }
  | _ => none }
def CouncilAgreesWrongFalsely : Prop := councilAgreesRow.holds Try.pinned (OpenSpec.ofChange councilAgreesWrong)

/-- 'lamellalaw10.CouncilSteps': WHATEVER THE INPUT: true; the input reads as it did. -/
def councilStepsSpec : ChangeSpec := { name := "councilSteps", fn := fun _ => fun
  | [d1, d2] => { results := [.lit (.bool true)], args := [d1, d2] }
  | _ => none }
def councilStepsRow : OpenClaim := { program := "ytfanbhbpmhojaaa", sum := "46641840ba3ae9f839c4fc681e47955acce8fb8efe8cb1f9ab606e870eab2a75", func := "lamella/lamellalaw10.CouncilSteps", spec := "councilSteps", unfollowed := true, recurses := true, apart := false }
def CouncilStepsSaid : Prop := councilStepsRow.holds Try.pinned (OpenSpec.ofChange councilStepsSpec)

/-- ITS FALSE NEIGHBOUR: 'it returns false'. Refute it at one input. -/
def councilStepsWrong : ChangeSpec := { name := "councilSteps", fn := fun _ => fun
  | [d1, d2] => { results := [.lit (.bool false)], args := [d1, d2] }
  | _ => none }
def CouncilStepsWrongFalsely : Prop := councilStepsRow.holds Try.pinned (OpenSpec.ofChange councilStepsWrong)

/-- 'lamellalaw10.CouncilKept': WHATEVER THE INPUT: true; the input reads as it did. -/
def councilKeptSpec : ChangeSpec := { name := "councilKept", fn := fun _ => fun
  | [d1, d2] => { results := [.lit (.bool true)], args := [d1, d2] }
  | _ => none }
def councilKeptRow : OpenClaim := { program := "ytfanbhbpmhojaaa", sum := "46641840ba3ae9f839c4fc681e47955acce8fb8efe8cb1f9ab606e870eab2a75", func := "lamella/lamellalaw10.CouncilKept", spec := "councilKept", unfollowed := true, recurses := true, apart := false }
def CouncilKeptSaid : Prop := councilKeptRow.holds Try.pinned (OpenSpec.ofChange councilKeptSpec)

/-- ITS FALSE NEIGHBOUR: 'it returns false'. Refute it at one input. -/
def councilKeptWrong : ChangeSpec := { name := "councilKept", fn := fun _ => fun
  | [d1, d2] => { results := [.lit (.bool false)], args := [d1, d2] }
  | _ => none }
def CouncilKeptWrongFalsely : Prop := councilKeptRow.holds Try.pinned (OpenSpec.ofChange councilKeptWrong)

/- THE SECOND FORM. 'bulk': how many values and letters a reading holds, each counted each time it is reached (what is shared counts as often as it is met; a slice's spare places count too). A statement '..UptoSaid' is the law's where the arguments, and the package variables that the reading takes, are together of bulk at most 1048576: NARROWER than '..Said'. Prove '..Said' where nothing that the law and all that it calls make is longer than what came in: it says more and counts as full. Else prove '..UptoSaid'. A law counts once. -/
mutual
def uptoBulk {H : Type} : DataW H → Nat
  | .lit (.string bytes) => bytes.length + 1
  | .lit _ => 1
  | .nil => 1
  | .ptr d => uptoBulk d + 1
  | .slice elems spare => uptoBulkAll elems + uptoBulkAll spare + 1
  | .agg parts => uptoBulkAll parts + 1
  | .iface _ d => uptoBulk d + 1
  | .map entries => uptoBulkEntries entries + 1
  | .held _ => 1
def uptoBulkAll {H : Type} : List (DataW H) → Nat
  | [] => 0
  | d :: r => uptoBulk d + uptoBulkAll r
def uptoBulkEntries {H : Type} : List (Lit × DataW H) → Nat
  | [] => 0
  | x :: r => uptoBulkEntry x + uptoBulkEntries r
def uptoBulkEntry {H : Type} : Lit × DataW H → Nat
  | (.string bytes, d) => bytes.length + uptoBulk d + 1
  | (_, d) => uptoBulk d + 1
 end
def uptoSmall : (H : Type) → List (DataW H) → Bool := fun _ ds => decide (uptoBulkAll ds ≤ 1048576)
def OpenSpec.upto (s : _root_.Go.ChangeSpec) : _root_.Go.OpenSpec := { _root_.Go.OpenSpec.ofChange s with cond := some uptoSmall }

/-- 'lamellalaw10.CouncilAlone', WHERE WHAT IT READS IS OF BULK AT MOST 1048576: true; the input reads as it did. -/
def councilAloneUptoRow : OpenClaim := { program := "ytfanbhbpmhojaaa", sum := "46641840ba3ae9f839c4fc681e47955acce8fb8efe8cb1f9ab606e870eab2a75", func := "lamella/lamellalaw10.CouncilAlone", spec := "councilAlone", unfollowed := true, recurses := true, apart := false, narrowed := true }
def CouncilAloneUptoSaid : Prop := councilAloneUptoRow.holds Try.pinned (OpenSpec.upto councilAloneSpec)

/-- 'lamellalaw10.CouncilLoads', WHERE WHAT IT READS IS OF BULK AT MOST 1048576: true; the input reads as it did. -/
def councilLoadsUptoRow : OpenClaim := { program := "ytfanbhbpmhojaaa", sum := "46641840ba3ae9f839c4fc681e47955acce8fb8efe8cb1f9ab606e870eab2a75", func := "lamella/lamellalaw10.CouncilLoads", spec := "councilLoads", unfollowed := true, recurses := true, apart := false, narrowed := true }
def CouncilLoadsUptoSaid : Prop := councilLoadsUptoRow.holds Try.pinned (OpenSpec.upto councilLoadsSpec)

/-- 'lamellalaw10.CouncilNews', WHERE WHAT IT READS IS OF BULK AT MOST 1048576: true; the input reads as it did. -/
def councilNewsUptoRow : OpenClaim := { program := "ytfanbhbpmhojaaa", sum := "46641840ba3ae9f839c4fc681e47955acce8fb8efe8cb1f9ab606e870eab2a75", func := "lamella/lamellalaw10.CouncilNews", spec := "councilNews", unfollowed := true, recurses := true, apart := false, narrowed := true }
def CouncilNewsUptoSaid : Prop := councilNewsUptoRow.holds Try.pinned (OpenSpec.upto councilNewsSpec)

/-- 'lamellalaw10.CouncilVotes', WHERE WHAT IT READS IS OF BULK AT MOST 1048576: true; the input reads as it did. -/
def councilVotesUptoRow : OpenClaim := { program := "ytfanbhbpmhojaaa", sum := "46641840ba3ae9f839c4fc681e47955acce8fb8efe8cb1f9ab606e870eab2a75", func := "lamella/lamellalaw10.CouncilVotes", spec := "councilVotes", unfollowed := true, recurses := true, apart := false, narrowed := true }
def CouncilVotesUptoSaid : Prop := councilVotesUptoRow.holds Try.pinned (OpenSpec.upto councilVotesSpec)

/-- 'lamellalaw10.CouncilAgrees', WHERE WHAT IT READS IS OF BULK AT MOST 1048576: true; the input reads as it did. -/
def councilAgreesUptoRow : OpenClaim := { program := "ytfanbhbpmhojaaa", sum := "46641840ba3ae9f839c4fc681e47955acce8fb8efe8cb1f9ab606e870eab2a75", func := "lamella/lamellalaw10.CouncilAgrees", spec := "councilAgrees", unfollowed := true, recurses := true, apart := false, narrowed := true }
def CouncilAgreesUptoSaid : Prop := councilAgreesUptoRow.holds Try.pinned (OpenSpec.upto councilAgreesSpec)

/-- 'lamellalaw10.CouncilSteps', WHERE WHAT IT READS IS OF BULK AT MOST 1048576: true; the input reads as it did. -/
def councilStepsUptoRow : OpenClaim := { program := "ytfanbhbpmhojaaa", sum := "46641840ba3ae9f839c4fc681e47955acce8fb8efe8cb1f9ab606e870eab2a75", func := "lamella/lamellalaw10.CouncilSteps", spec := "councilSteps", unfollowed := true, recurses := true, apart := false, narrowed := true }
def CouncilStepsUptoSaid : Prop := councilStepsUptoRow.holds Try.pinned (OpenSpec.upto councilStepsSpec)

/-- 'lamellalaw10.CouncilKept', WHERE WHAT IT READS IS OF BULK AT MOST 1048576: true; the input reads as it did. -/
def councilKeptUptoRow : OpenClaim := { program := "ytfanbhbpmhojaaa", sum := "46641840ba3ae9f839c4fc681e47955acce8fb8efe8cb1f9ab606e870eab2a75", func := "lamella/lamellalaw10.CouncilKept", spec := "councilKept", unfollowed := true, recurses := true, apart := false, narrowed := true }
def CouncilKeptUptoSaid : Prop := councilKeptUptoRow.holds Try.pinned (OpenSpec.upto councilKeptSpec)

end Rows
end Go.Proofs.Ytfanbhbpmhojaaa
