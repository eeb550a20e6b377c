/-
  No cell of these rows narrows 'for every input' (looked for: loops, veiled, ifaces, maps, wideKeys, modest, calm, conditions, laid).
  DERIVED. THE GIVEN ROWS OF THIS SEAT. 13 by the template 'for every input the law returns true; each argument reads behind the call as it read before'; 0 by the template 'total and deterministic' (their statements: YthobpcbiaimccaaTotals.lean).
  GIVEN WITH THE SEED: the statements are not yours to turn. If you find one false, say at which input.
  Laid BY PROGRAM, IN A SANDBOX (cutbox-rows.mjs): the forced cells as the released guide's own fill.sh prints them over the translation d3310627c3cb2dfd… (all of the seat's roots in one cut). By AI agents, Wed Nov 11 2026. No macro, syntax, notation, axiom, sorry.
-/
import Derived.Test.YthobpcbiaimccaaChecked
import GoSem.Claim
import GoSem.ClaimJoined
import GoSem.ClaimMapViews
import Derived.JoinedTies
import Derived.KernelRfl
namespace Go.Proofs.Ythobpcbiaimccaa
/- THE CELL 'sum', in the pinned program and in every row, IS THE sha256 OF THE DUMP (.gsa) THAT YthobpcbiaimccaaProg.lean LOADS. Nothing in Lean hashes anything: it is a label: what it is worth is what the hold of that sum in a sandbox is worth. -/
noncomputable def Try.pinned : Pinned := { name := "ythobpcbiaimccaa", sum := "d3310627c3cb2dfdb83b3e3e1a62829ebda99a649740bc2c3cb2b2914f887068", checked := Try.checked }
namespace Rows
def none {H : Type} : Left H := { results := [], args := [] }

/-- 'lamellalaw20.StormRand': WHATEVER THE INPUT: true; the input reads as it did. -/
def stormRandSpec : ChangeSpec := { name := "stormRand", fn := fun _ => fun
  | [d1, d2] => { results := [.lit (.bool true)], args := [d1, d2] }
  | _ => none }
def stormRandRow : OpenClaim := { program := "ythobpcbiaimccaa", sum := "d3310627c3cb2dfdb83b3e3e1a62829ebda99a649740bc2c3cb2b2914f887068", func := "lamella/lamellalaw20.StormRand", spec := "stormRand", apart := false }
def StormRandSaid : Prop := stormRandRow.holds Try.pinned (OpenSpec.ofChange stormRandSpec)

/-- ITS FALSE NEIGHBOUR: 'it returns false'. Refute it at one input. -/
def stormRandWrong : ChangeSpec := { name := "stormRand", fn := fun _ => fun
  | [d1, d2] => { results := [.lit (.bool false)], args := [d1, d2] }
  | _ => none }
def StormRandWrongFalsely : Prop := stormRandRow.holds Try.pinned (OpenSpec.ofChange stormRandWrong)

/-- 'lamellalaw01.OctetSums': WHATEVER THE INPUT: true; the input reads as it did. -/
def octetSumsSpec : ChangeSpec := { name := "octetSums", fn := fun _ => fun
  | [d1, d2, d3] => { results := [.lit (.bool true)], args := [d1, d2, d3] }
  | _ => none }
def octetSumsRow : OpenClaim := { program := "ythobpcbiaimccaa", sum := "d3310627c3cb2dfdb83b3e3e1a62829ebda99a649740bc2c3cb2b2914f887068", func := "lamella/lamellalaw01.OctetSums", spec := "octetSums", apart := false }
def OctetSumsSaid : Prop := octetSumsRow.holds Try.pinned (OpenSpec.ofChange octetSumsSpec)

/-- ITS FALSE NEIGHBOUR: 'it returns false'. Refute it at one input. -/
def octetSumsWrong : ChangeSpec := { name := "octetSums", fn := fun _ => fun
  | [d1, d2, d3] => { results := [.lit (.bool false)], args := [d1, d2, d3] }
  | _ => none }
def OctetSumsWrongFalsely : Prop := octetSumsRow.holds Try.pinned (OpenSpec.ofChange octetSumsWrong)

/-- 'lamellalaw01.OctetBursts': WHATEVER THE INPUT: true; the input reads as it did. -/
def octetBurstsSpec : ChangeSpec := { name := "octetBursts", fn := fun _ => fun
  | [d1, d2, d3] => { results := [.lit (.bool true)], args := [d1, d2, d3] }
  | _ => none }
def octetBurstsRow : OpenClaim := { program := "ythobpcbiaimccaa", sum := "d3310627c3cb2dfdb83b3e3e1a62829ebda99a649740bc2c3cb2b2914f887068", func := "lamella/lamellalaw01.OctetBursts", spec := "octetBursts", apart := false }
def OctetBurstsSaid : Prop := octetBurstsRow.holds Try.pinned (OpenSpec.ofChange octetBurstsSpec)

/-- ITS FALSE NEIGHBOUR: 'it returns false'. Refute it at one input. -/
def octetBurstsWrong : ChangeSpec := { name := "octetBursts", fn := fun _ => fun
  | [d1, d2, d3] => { results := [.lit (.bool false)], args := [d1, d2, d3] }
  | _ => none }
def OctetBurstsWrongFalsely : Prop := octetBurstsRow.holds Try.pinned (OpenSpec.ofChange octetBurstsWrong)

/-- 'lamellalaw01.OctetWrites': WHATEVER THE INPUT: true; the input reads as it did. -/
def octetWritesSpec : ChangeSpec := { name := "octetWrites", fn := fun _ => fun
  | [d1, d2, d3] => { results := [.lit (.bool true)], args := [d1, d2, d3] }
  | _ => none }
def octetWritesRow : OpenClaim := { program := "ythobpcbiaimccaa", sum := "d3310627c3cb2dfdb83b3e3e1a62829ebda99a649740bc2c3cb2b2914f887068", func := "lamella/lamellalaw01.OctetWrites", spec := "octetWrites", apart := false }
def OctetWritesSaid : Prop := octetWritesRow.holds Try.pinned (OpenSpec.ofChange octetWritesSpec)

/-- ITS FALSE NEIGHBOUR: 'it returns false'. Refute it at one input. -/
def octetWritesWrong : ChangeSpec := { name := "octetWrites", fn := fun _ => fun
  | [d1, d2, d3] => { results := [.lit (.bool false)], args := [d1, d2, d3] }
  | _ => none }
def OctetWritesWrongFalsely : Prop := octetWritesRow.holds Try.pinned (OpenSpec.ofChange octetWritesWrong)

/-- 'lamellalaw01.OctetFrames': WHATEVER THE INPUT: true; the input reads as it did. -/
def octetFramesSpec : ChangeSpec := { name := "octetFrames", fn := fun _ => fun
  | [d1, d2, d3] => { results := [.lit (.bool true)], args := [d1, d2, d3] }
  | _ => none }
def octetFramesRow : OpenClaim := { program := "ythobpcbiaimccaa", sum := "d3310627c3cb2dfdb83b3e3e1a62829ebda99a649740bc2c3cb2b2914f887068", func := "lamella/lamellalaw01.OctetFrames", spec := "octetFrames", apart := false }
def OctetFramesSaid : Prop := octetFramesRow.holds Try.pinned (OpenSpec.ofChange octetFramesSpec)

/-- ITS FALSE NEIGHBOUR: 'it returns false'. Refute it at one input. -/
def octetFramesWrong : ChangeSpec := { name := "octetFrames", fn := fun _ => fun
  | [d1, d2, d3] => { results := [.lit (.bool false)], args := [d1, d2, d3] }
  | _ => none }
def OctetFramesWrongFalsely : Prop := octetFramesRow.holds Try.pinned (OpenSpec.ofChange octetFramesWrong)

/-- 'lamellalaw01.OctetChain': WHATEVER THE INPUT: true; the input reads as it did. -/
def octetChainSpec : ChangeSpec := { name := "octetChain", fn := fun _ => fun
  | [d1, d2] => { results := [.lit (.bool true)], args := [d1, d2] }
  | _ => none }
def octetChainRow : OpenClaim := { program := "ythobpcbiaimccaa", sum := "d3310627c3cb2dfdb83b3e3e1a62829ebda99a649740bc2c3cb2b2914f887068", func := "lamella/lamellalaw01.OctetChain", spec := "octetChain", apart := false }
def OctetChainSaid : Prop := octetChainRow.holds Try.pinned (OpenSpec.ofChange octetChainSpec)

/-- ITS FALSE NEIGHBOUR: 'it returns false'. Refute it at one input. -/
def octetChainWrong : ChangeSpec := { name := "octetChain", fn := fun _ => fun
  | [d1, d2] => { results := [.lit (.bool false)], args := [d1, d2] }
  | _ => none }
def OctetChainWrongFalsely : Prop := octetChainRow.holds Try.pinned (OpenSpec.ofChange octetChainWrong)

/-- 'lamellalaw01.OctetTurned': WHATEVER THE INPUT: true; the input reads as it did. -/
def octetTurnedSpec : ChangeSpec := { name := "octetTurned", fn := fun _ => fun
  | [d1, d2] => { results := [.lit (.bool true)], args := [d1, d2] }
  | _ => none }
def octetTurnedRow : OpenClaim := { program := "ythobpcbiaimccaa", sum := "d3310627c3cb2dfdb83b3e3e1a62829ebda99a649740bc2c3cb2b2914f887068", func := "lamella/lamellalaw01.OctetTurned", spec := "octetTurned", apart := false }
def OctetTurnedSaid : Prop := octetTurnedRow.holds Try.pinned (OpenSpec.ofChange octetTurnedSpec)

/-- ITS FALSE NEIGHBOUR: 'it returns false'. Refute it at one input. -/
def octetTurnedWrong : ChangeSpec := { name := "octetTurned", fn := fun _ => fun
  | [d1, d2] => { results := [.lit (.bool false)], args := [d1, d2] }
  | _ => none }
def OctetTurnedWrongFalsely : Prop := octetTurnedRow.holds Try.pinned (OpenSpec.ofChange octetTurnedWrong)

/-- 'lamellalaw01.OctetLists': WHATEVER THE INPUT: true; the input reads as it did. -/
def octetListsSpec : ChangeSpec := { name := "octetLists", fn := fun _ => fun
  | [d1, d2] => { results := [.lit (.bool true)], args := [d1, d2] }
  | _ => none }
def octetListsRow : OpenClaim := { program := "ythobpcbiaimccaa", sum := "d3310627c3cb2dfdb83b3e3e1a62829ebda99a649740bc2c3cb2b2914f887068", func := "lamella/lamellalaw01.OctetLists", spec := "octetLists", unfollowed := true, recurses := true, apart := false }
def OctetListsSaid : Prop := octetListsRow.holds Try.pinned (OpenSpec.ofChange octetListsSpec)

/-- ITS FALSE NEIGHBOUR: 'it returns false'. Refute it at one input. -/
def octetListsWrong : ChangeSpec := { name := "octetLists", fn := fun _ => fun
  | [d1, d2] => { results := [.lit (.bool false)], args := [d1, d2] }
  | _ => none }
def OctetListsWrongFalsely : Prop := octetListsRow.holds Try.pinned (OpenSpec.ofChange octetListsWrong)

/-- 'lamellalaw01.OctetOnly': WHATEVER THE INPUT: true; the input reads as it did. -/
def octetOnlySpec : ChangeSpec := { name := "octetOnly", fn := fun _ => fun
  | [d] => { results := [.lit (.bool true)], args := [d] }
  | _ => none }
def octetOnlyRow : OpenClaim := { program := "ythobpcbiaimccaa", sum := "d3310627c3cb2dfdb83b3e3e1a62829ebda99a649740bc2c3cb2b2914f887068", func := "lamella/lamellalaw01.OctetOnly", spec := "octetOnly", apart := false }
def OctetOnlySaid : Prop := octetOnlyRow.holds Try.pinned (OpenSpec.ofChange octetOnlySpec)

/-- ITS FALSE NEIGHBOUR: 'it returns false'. Refute it at one input. -/
def octetOnlyWrong : ChangeSpec := { name := "octetOnly", fn := fun _ => fun
  | [d] => { results := [.lit (.bool false)], args := [d] }
  | _ => none }
def OctetOnlyWrongFalsely : Prop := octetOnlyRow.holds Try.pinned (OpenSpec.ofChange octetOnlyWrong)

/-- 'lamellalaw01.OctetReads': WHATEVER THE INPUT: true; the input reads as it did. -/
def octetReadsSpec : ChangeSpec := { name := "octetReads", fn := fun _ => fun
  | [d] => { results := [.lit (.bool true)], args := [d] }
  | _ => none }
def octetReadsRow : OpenClaim := { program := "ythobpcbiaimccaa", sum := "d3310627c3cb2dfdb83b3e3e1a62829ebda99a649740bc2c3cb2b2914f887068", func := "lamella/lamellalaw01.OctetReads", spec := "octetReads", apart := false }
def OctetReadsSaid : Prop := octetReadsRow.holds Try.pinned (OpenSpec.ofChange octetReadsSpec)

/-- ITS FALSE NEIGHBOUR: 'it returns false'. Refute it at one input. -/
def octetReadsWrong : ChangeSpec := { name := "octetReads", fn := fun _ => fun
  | [d] => { results := [.lit (.bool false)], args := [d] }
  | _ => none }
def OctetReadsWrongFalsely : Prop := octetReadsRow.holds Try.pinned (OpenSpec.ofChange octetReadsWrong)

/-- 'lamellalaw01.OctetRows': WHATEVER THE INPUT: true; the input reads as it did. -/
def octetRowsSpec : ChangeSpec := { name := "octetRows", fn := fun _ => fun
  | [d1, d2, d3] => { results := [.lit (.bool true)], args := [d1, d2, d3] }
  | _ => none }
def octetRowsRow : OpenClaim := { program := "ythobpcbiaimccaa", sum := "d3310627c3cb2dfdb83b3e3e1a62829ebda99a649740bc2c3cb2b2914f887068", func := "lamella/lamellalaw01.OctetRows", spec := "octetRows", unfollowed := true, recurses := true, apart := false }
def OctetRowsSaid : Prop := octetRowsRow.holds Try.pinned (OpenSpec.ofChange octetRowsSpec)

/-- ITS FALSE NEIGHBOUR: 'it returns false'. Refute it at one input. -/
def octetRowsWrong : ChangeSpec := { name := "octetRows", fn := fun _ => fun
  | [d1, d2, d3] => { results := [.lit (.bool false)], args := [d1, d2, d3] }
  | _ => none }
def OctetRowsWrongFalsely : Prop := octetRowsRow.holds Try.pinned (OpenSpec.ofChange octetRowsWrong)

/-- 'lamellalaw01.OctetCuts': WHATEVER THE INPUT: true; the input reads as it did. -/
def octetCutsSpec : ChangeSpec := { name := "octetCuts", fn := fun _ => fun
  | [d1, d2] => { results := [.lit (.bool true)], args := [d1, d2] }
  | _ => none }
def octetCutsRow : OpenClaim := { program := "ythobpcbiaimccaa", sum := "d3310627c3cb2dfdb83b3e3e1a62829ebda99a649740bc2c3cb2b2914f887068", func := "lamella/lamellalaw01.OctetCuts", spec := "octetCuts", unfollowed := true, recurses := true, apart := false }
def OctetCutsSaid : Prop := octetCutsRow.holds Try.pinned (OpenSpec.ofChange octetCutsSpec)

/-- ITS FALSE NEIGHBOUR: 'it returns false'. Refute it at one input. -/
def octetCutsWrong : ChangeSpec := { name := "octetCuts", fn := fun _ => fun
  | [d1, d2] => { results := [.lit (.bool false)], args := [d1, d2] }
  | _ => none }
def OctetCutsWrongFalsely : Prop := octetCutsRow.holds Try.pinned (OpenSpec.ofChange octetCutsWrong)

/-- 'lamellalaw01.OctetLimits': WHATEVER THE INPUT: true; the input reads as it did. -/
def octetLimitsSpec : ChangeSpec := { name := "octetLimits", fn := fun _ => fun
  | [d] => { results := [.lit (.bool true)], args := [d] }
  | _ => none }
def octetLimitsRow : OpenClaim := { program := "ythobpcbiaimccaa", sum := "d3310627c3cb2dfdb83b3e3e1a62829ebda99a649740bc2c3cb2b2914f887068", func := "lamella/lamellalaw01.OctetLimits", spec := "octetLimits", unfollowed := true, recurses := true, apart := false }
def OctetLimitsSaid : Prop := octetLimitsRow.holds Try.pinned (OpenSpec.ofChange octetLimitsSpec)

/-- ITS FALSE NEIGHBOUR: 'it returns false'. Refute it at one input. -/
def octetLimitsWrong : ChangeSpec := { name := "octetLimits", fn := fun _ => fun
  | [d] => { results := [.lit (.bool false)], args := [d] }
  | _ => none }
def OctetLimitsWrongFalsely : Prop := octetLimitsRow.holds Try.pinned (OpenSpec.ofChange octetLimitsWrong)

/- THE SECOND FORM. 'bulk': how many values and letters a reading holds, each counted each time it is reached (what is shared counts as often as it is met; a slice's spare places count too). A statement '..UptoSaid' is the law's where the arguments, and the package variables that the reading takes, are together of bulk at most 1048576: NARROWER than '..Said'. Prove '..Said' where nothing that the law and all that it calls make is longer than what came in: it says more and counts as full. Else prove '..UptoSaid'. A law counts once. -/
mutual
def uptoBulk {H : Type} : DataW H → Nat
  | .lit (.string bytes) => bytes.length + 1
  | .lit _ => 1
  | .nil => 1
  | .ptr d => uptoBulk d + 1
  | .slice elems spare => uptoBulkAll elems + uptoBulkAll spare + 1
  | .agg parts => uptoBulkAll parts + 1
  | .iface _ d => uptoBulk d + 1
  | .map entries => uptoBulkEntries entries + 1
  | .held _ => 1
def uptoBulkAll {H : Type} : List (DataW H) → Nat
  | [] => 0
  | d :: r => uptoBulk d + uptoBulkAll r
def uptoBulkEntries {H : Type} : List (Lit × DataW H) → Nat
  | [] => 0
  | x :: r => uptoBulkEntry x + uptoBulkEntries r
def uptoBulkEntry {H : Type} : Lit × DataW H → Nat
  | (.string bytes, d) => bytes.length + uptoBulk d + 1
  | (_, d) => uptoBulk d + 1
 end
def uptoSmall : (H : Type) → List (DataW H) → Bool := fun _ ds => decide (uptoBulkAll ds ≤ 1048576)
def OpenSpec.upto (s : _root_.Go.ChangeSpec) : _root_.Go.OpenSpec := { _root_.Go.OpenSpec.ofChange s with cond := some uptoSmall }

/-- 'lamellalaw20.StormRand', WHERE WHAT IT READS IS OF BULK AT MOST 1048576: true; the input reads as it did. -/
def stormRandUptoRow : OpenClaim := { program := "ythobpcbiaimccaa", sum := "d3310627c3cb2dfdb83b3e3e1a62829ebda99a649740bc2c3cb2b2914f887068", func := "lamella/lamellalaw20.StormRand", spec := "stormRand", apart := false, narrowed := true }
def StormRandUptoSaid : Prop := stormRandUptoRow.holds Try.pinned (OpenSpec.upto stormRandSpec)

/-- 'lamellalaw01.OctetSums', WHERE WHAT IT READS IS OF BULK AT MOST 1048576: true; the input reads as it did. -/
def octetSumsUptoRow : OpenClaim := { program := "ythobpcbiaimccaa", sum := "d3310627c3cb2dfdb83b3e3e1a62829ebda99a649740bc2c3cb2b2914f887068", func := "lamella/lamellalaw01.OctetSums", spec := "octetSums", apart := false, narrowed := true }
def OctetSumsUptoSaid : Prop := octetSumsUptoRow.holds Try.pinned (OpenSpec.upto octetSumsSpec)

/-- 'lamellalaw01.OctetBursts', WHERE WHAT IT READS IS OF BULK AT MOST 1048576: true; the input reads as it did. -/
def octetBurstsUptoRow : OpenClaim := { program := "ythobpcbiaimccaa", sum := "d3310627c3cb2dfdb83b3e3e1a62829ebda99a649740bc2c3cb2b2914f887068", func := "lamella/lamellalaw01.OctetBursts", spec := "octetBursts", apart := false, narrowed := true }
def OctetBurstsUptoSaid : Prop := octetBurstsUptoRow.holds Try.pinned (OpenSpec.upto octetBurstsSpec)

/-- 'lamellalaw01.OctetWrites', WHERE WHAT IT READS IS OF BULK AT MOST 1048576: true; the input reads as it did. -/
def octetWritesUptoRow : OpenClaim := { program := "ythobpcbiaimccaa", sum := "d3310627c3cb2dfdb83b3e3e1a62829ebda99a649740bc2c3cb2b2914f887068", func := "lamella/lamellalaw01.OctetWrites", spec := "octetWrites", apart := false, narrowed := true }
def OctetWritesUptoSaid : Prop := octetWritesUptoRow.holds Try.pinned (OpenSpec.upto octetWritesSpec)

/-- 'lamellalaw01.OctetFrames', WHERE WHAT IT READS IS OF BULK AT MOST 1048576: true; the input reads as it did. -/
def octetFramesUptoRow : OpenClaim := { program := "ythobpcbiaimccaa", sum := "d3310627c3cb2dfdb83b3e3e1a62829ebda99a649740bc2c3cb2b2914f887068", func := "lamella/lamellalaw01.OctetFrames", spec := "octetFrames", apart := false, narrowed := true }
def OctetFramesUptoSaid : Prop := octetFramesUptoRow.holds Try.pinned (OpenSpec.upto octetFramesSpec)

/-- 'lamellalaw01.OctetChain', WHERE WHAT IT READS IS OF BULK AT MOST 1048576: true; the input reads as it did. -/
def octetChainUptoRow : OpenClaim := { program := "ythobpcbiaimccaa", sum := "d3310627c3cb2dfdb83b3e3e1a62829ebda99a649740bc2c3cb2b2914f887068", func := "lamella/lamellalaw01.OctetChain", spec := "octetChain", apart := false, narrowed := true }
def OctetChainUptoSaid : Prop := octetChainUptoRow.holds Try.pinned (OpenSpec.upto octetChainSpec)

/-- 'lamellalaw01.OctetTurned', WHERE WHAT IT READS IS OF BULK AT MOST 1048576: true; the input reads as it did. -/
def octetTurnedUptoRow : OpenClaim := { program := "ythobpcbiaimccaa", sum := "d3310627c3cb2dfdb83b3e3e1a62829ebda99a649740bc2c3cb2b2914f887068", func := "lamella/lamellalaw01.OctetTurned", spec := "octetTurned", apart := false, narrowed := true }
def OctetTurnedUptoSaid : Prop := octetTurnedUptoRow.holds Try.pinned (OpenSpec.upto octetTurnedSpec)

/-- 'lamellalaw01.OctetLists', WHERE WHAT IT READS IS OF BULK AT MOST 1048576: true; the input reads as it did. -/
def octetListsUptoRow : OpenClaim := { program := "ythobpcbiaimccaa", sum := "d3310627c3cb2dfdb83b3e3e1a62829ebda99a649740bc2c3cb2b2914f887068", func := "lamella/lamellalaw01.OctetLists", spec := "octetLists", unfollowed := true, recurses := true, apart := false, narrowed := true }
def OctetListsUptoSaid : Prop := octetListsUptoRow.holds Try.pinned (OpenSpec.upto octetListsSpec)

/-- 'lamellalaw01.OctetOnly', WHERE WHAT IT READS IS OF BULK AT MOST 1048576: true; the input reads as it did. -/
def octetOnlyUptoRow : OpenClaim := { program := "ythobpcbiaimccaa", sum := "d3310627c3cb2dfdb83b3e3e1a62829ebda99a649740bc2c3cb2b2914f887068", func := "lamella/lamellalaw01.OctetOnly", spec := "octetOnly", apart := false, narrowed := true }
def OctetOnlyUptoSaid : Prop := octetOnlyUptoRow.holds Try.pinned (OpenSpec.upto octetOnlySpec)

/-- 'lamellalaw01.OctetReads', WHERE WHAT IT READS IS OF BULK AT MOST 1048576: true; the input reads as it did. -/
def octetReadsUptoRow : OpenClaim := { program := "ythobpcbiaimccaa", sum := "d3310627c3cb2dfdb83b3e3e1a62829ebda99a649740bc2c3cb2b2914f887068", func := "lamella/lamellalaw01.OctetReads", spec := "octetReads", apart := false, narrowed := true }
def OctetReadsUptoSaid : Prop := octetReadsUptoRow.holds Try.pinned (OpenSpec.upto octetReadsSpec)

/-- 'lamellalaw01.OctetRows', WHERE WHAT IT READS IS OF BULK AT MOST 1048576: true; the input reads as it did. -/
def octetRowsUptoRow : OpenClaim := { program := "ythobpcbiaimccaa", sum := "d3310627c3cb2dfdb83b3e3e1a62829ebda99a649740bc2c3cb2b2914f887068", func := "lamella/lamellalaw01.OctetRows", spec := "octetRows", unfollowed := true, recurses := true, apart := false, narrowed := true }
def OctetRowsUptoSaid : Prop := octetRowsUptoRow.holds Try.pinned (OpenSpec.upto octetRowsSpec)

/-- 'lamellalaw01.OctetCuts', WHERE WHAT IT READS IS OF BULK AT MOST 1048576: true; the input reads as it did. -/
def octetCutsUptoRow : OpenClaim := { program := "ythobpcbiaimccaa", sum := "d3310627c3cb2dfdb83b3e3e1a62829ebda99a649740bc2c3cb2b2914f887068", func := "lamella/lamellalaw01.OctetCuts", spec := "octetCuts", unfollowed := true, recurses := true, apart := false, narrowed := true }
def OctetCutsUptoSaid : Prop := octetCutsUptoRow.holds Try.pinned (OpenSpec.upto octetCutsSpec)

/-- 'lamellalaw01.OctetLimits', WHERE WHAT IT READS IS OF BULK AT MOST 1048576: true; the input reads as it did. -/
def octetLimitsUptoRow : OpenClaim := { program := "ythobpcbiaimccaa", sum := "d3310627c3cb2dfdb83b3e3e1a62829ebda99a649740bc2c3cb2b2914f887068", func := "lamella/lamellalaw01.OctetLimits", spec := "octetLimits", unfollowed := true, recurses := true, apart := false, narrowed := true }
def OctetLimitsUptoSaid : Prop := octetLimitsUptoRow.holds Try.pinned (OpenSpec.upto octetLimitsSpec)

end Rows
end Go.Proofs.Ythobpcbiaimccaa
