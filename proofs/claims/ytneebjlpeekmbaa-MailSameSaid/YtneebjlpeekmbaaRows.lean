/-
  No cell of these rows narrows 'for every input' (looked for: loops, veiled, ifaces, maps, wideKeys, modest, calm, conditions, laid).
  DERIVED. THE GIVEN ROWS OF THIS SEAT. 7 by the template 'for every input the law returns true; each argument reads behind the call as it read before'; 0 by the template 'total and deterministic' (their statements: YtneebjlpeekmbaaTotals.lean).
  GIVEN WITH THE SEED: the statements are not yours to turn. If you find one false, say at which input.
  Laid BY PROGRAM, IN A SANDBOX (cutbox-rows.mjs): the forced cells as the released guide's own fill.sh prints them over the translation 85792b32728a1af8… (all of the seat's roots in one cut). By AI agents, Wed Nov 11 2026. No macro, syntax, notation, axiom, sorry.
-/
import Derived.Test.YtneebjlpeekmbaaChecked
import GoSem.Claim
import GoSem.ClaimJoined
import GoSem.ClaimMapViews
import Derived.JoinedTies
import Derived.KernelRfl
namespace Go.Proofs.Ytneebjlpeekmbaa
/- THE CELL 'sum', in the pinned program and in every row, IS THE sha256 OF THE DUMP (.gsa) THAT YtneebjlpeekmbaaProg.lean LOADS. Nothing in Lean hashes anything: it is a label: what it is worth is what the hold of that sum in a sandbox is worth. -/
noncomputable def Try.pinned : Pinned := { name := "ytneebjlpeekmbaa", sum := "85792b32728a1af8bd57b276ba01357bf1f48ffbbde5761234c658cc8e9953b1", checked := Try.checked }
namespace Rows
def none {H : Type} : Left H := { results := [], args := [] }

/-- 'lamellalaw15.MailLays': WHATEVER THE INPUT: true; the input reads as it did. -/
def mailLaysSpec : ChangeSpec := { name := "mailLays", fn := fun _ => fun
  | [d] => { results := [.lit (.bool true)], args := [d] }
  | _ => none }
def mailLaysRow : OpenClaim := { program := "ytneebjlpeekmbaa", sum := "85792b32728a1af8bd57b276ba01357bf1f48ffbbde5761234c658cc8e9953b1", func := "lamella/lamellalaw15.MailLays", spec := "mailLays", unfollowed := true, recurses := true, apart := false }
def MailLaysSaid : Prop := mailLaysRow.holds Try.pinned (OpenSpec.ofChange mailLaysSpec)

/-- ITS FALSE NEIGHBOUR: 'it returns false'. Refute it at one input. -/
def mailLaysWrong : ChangeSpec := { name := "mailLays", fn := fun _ => fun
  | [d] => { results := [.lit (.bool false)], args := [d] }
  | _ => none }
def MailLaysWrongFalsely : Prop := mailLaysRow.holds Try.pinned (OpenSpec.ofChange mailLaysWrong)

/-- 'lamellalaw15.MailTakes': WHATEVER THE INPUT: true; the input reads as it did. -/
def mailTakesSpec : ChangeSpec := { name := "mailTakes", fn := fun _ => fun
  | [d] => { results := [.lit (.bool true)], args := [d] }
  | _ => none }
def mailTakesRow : OpenClaim := { program := "ytneebjlpeekmbaa", sum := "85792b32728a1af8bd57b276ba01357bf1f48ffbbde5761234c658cc8e9953b1", func := "lamella/lamellalaw15.MailTakes", spec := "mailTakes", unfollowed := true, recurses := true, apart := false }
def MailTakesSaid : Prop := mailTakesRow.holds Try.pinned (OpenSpec.ofChange mailTakesSpec)

/-- ITS FALSE NEIGHBOUR: 'it returns false'. Refute it at one input. -/
def mailTakesWrong : ChangeSpec := { name := "mailTakes", fn := fun _ => fun
  | [d] => { results := [.lit (.bool false)], args := [d] }
  | _ => none }
def MailTakesWrongFalsely : Prop := mailTakesRow.holds Try.pinned (OpenSpec.ofChange mailTakesWrong)

/-- 'lamellalaw15.MailFramed': WHATEVER THE INPUT: true; the input reads as it did. -/
def mailFramedSpec : ChangeSpec := { name := "mailFramed", fn := fun _ => fun
  | [d] => { results := [.lit (.bool true)], args := [d] }
  | _ => none }
def mailFramedRow : OpenClaim := { program := "ytneebjlpeekmbaa", sum := "85792b32728a1af8bd57b276ba01357bf1f48ffbbde5761234c658cc8e9953b1", func := "lamella/lamellalaw15.MailFramed", spec := "mailFramed", unfollowed := true, recurses := true, apart := false }
def MailFramedSaid : Prop := mailFramedRow.holds Try.pinned (OpenSpec.ofChange mailFramedSpec)

/-- ITS FALSE NEIGHBOUR: 'it returns false'. Refute it at one input. -/
def mailFramedWrong : ChangeSpec := { name := "mailFramed", fn := fun _ => fun
  | [d] => { results := [.lit (.bool false)], args := [d] }
  | _ => none }
def MailFramedWrongFalsely : Prop := mailFramedRow.holds Try.pinned (OpenSpec.ofChange mailFramedWrong)

/-- 'lamellalaw15.MailTurned': WHATEVER THE INPUT: true; the input reads as it did. -/
def mailTurnedSpec : ChangeSpec := { name := "mailTurned", fn := fun _ => fun
  | [d1, d2, d3] => { results := [.lit (.bool true)], args := [d1, d2, d3] }
  | _ => none }
def mailTurnedRow : OpenClaim := { program := "ytneebjlpeekmbaa", sum := "85792b32728a1af8bd57b276ba01357bf1f48ffbbde5761234c658cc8e9953b1", func := "lamella/lamellalaw15.MailTurned", spec := "mailTurned", unfollowed := true, recurses := true, apart := false }
def MailTurnedSaid : Prop := mailTurnedRow.holds Try.pinned (OpenSpec.ofChange mailTurnedSpec)

/-- ITS FALSE NEIGHBOUR: 'it returns false'. Refute it at one input. -/
def mailTurnedWrong : ChangeSpec := { name := "mailTurned", fn := fun _ => fun
  | [d1, d2, d3] => { results := [.lit (.bool false)], args := [d1, d2, d3] }
  | _ => none }
def MailTurnedWrongFalsely : Prop := mailTurnedRow.holds Try.pinned (OpenSpec.ofChange mailTurnedWrong)

/-- 'lamellalaw15.MailSame': WHATEVER THE INPUT: true; the input reads as it did. -/
def mailSameSpec : ChangeSpec := { name := "mailSame", fn := fun _ => fun
  | [d1, d2] => { results := [.lit (.bool true)], args := [d1, d2] }
  | _ => none }
def mailSameRow : OpenClaim := { program := "ytneebjlpeekmbaa", sum := "85792b32728a1af8bd57b276ba01357bf1f48ffbbde5761234c658cc8e9953b1", func := "lamella/lamellalaw15.MailSame", spec := "mailSame", unfollowed := true, recurses := true, apart := false }
def MailSameSaid : Prop := mailSameRow.holds Try.pinned (OpenSpec.ofChange mailSameSpec)

/-- ITS FALSE NEIGHBOUR: 'it returns false'. Refute it at one input. -/
def mailSameWrong : ChangeSpec := { name := "mailSame", fn := fun _ => fun
  | [d1, d2] => { results := [.lit (.bool false)], args := [d1, d2] }
  | _ => none }
def MailSameWrongFalsely : Prop := mailSameRow.holds Try.pinned (OpenSpec.ofChange mailSameWrong)

/-- 'lamellalaw15.MailKinds': WHATEVER THE INPUT: true; the input reads as it did. -/
def mailKindsSpec : ChangeSpec := { name := "mailKinds", fn := fun _ => fun
  | [d1, d2] => { results := [.lit (.bool true)], args := [d1, d2] }
  | _ => none }
def mailKindsRow : OpenClaim := { program := "ytneebjlpeekmbaa", sum := "85792b32728a1af8bd57b276ba01357bf1f48ffbbde5761234c658cc8e9953b1", func := "lamella/lamellalaw15.MailKinds", spec := "mailKinds", unfollowed := true, recurses := true, apart := false }
def MailKindsSaid : Prop := mailKindsRow.holds Try.pinned (OpenSpec.ofChange mailKindsSpec)

/-- ITS FALSE NEIGHBOUR: 'it returns false'. Refute it at one input. -/
def mailKindsWrong : ChangeSpec := { name := "mailKinds", fn := fun _ => fun
  | [d1, d2] => { results := [.lit (.bool false)], args := [d1, d2] }
  | _ => none }
def MailKindsWrongFalsely : Prop := mailKindsRow.holds Try.pinned (OpenSpec.ofChange mailKindsWrong)

/-- 'lamellalaw15.MailLimits': WHATEVER THE INPUT: true; the input reads as it did. -/
def mailLimitsSpec : ChangeSpec := { name := "mailLimits", fn := fun _ => fun
  | [d1, d2] => { results := [.lit (.bool true)], args := [d1, d2] }
  | _ => none }
def mailLimitsRow : OpenClaim := { program := "ytneebjlpeekmbaa", sum := "85792b32728a1af8bd57b276ba01357bf1f48ffbbde5761234c658cc8e9953b1", func := "lamella/lamellalaw15.MailLimits", spec := "mailLimits", unfollowed := true, recurses := true, apart := false }
def MailLimitsSaid : Prop := mailLimitsRow.holds Try.pinned (OpenSpec.ofChange mailLimitsSpec)

/-- ITS FALSE NEIGHBOUR: 'it returns false'. Refute it at one input. -/
def mailLimitsWrong : ChangeSpec := { name := "mailLimits", fn := fun _ => fun
  | [d1, d2] => { results := [.lit (.bool false)], args := [d1, d2] }
  | _ => none }
def MailLimitsWrongFalsely : Prop := mailLimitsRow.holds Try.pinned (OpenSpec.ofChange mailLimitsWrong)

/- THE SECOND FORM. 'bulk': how many values and letters a reading holds, each counted each time it is reached (what is shared counts as often as it is met; a slice's spare places count too). A statement '..UptoSaid' is the law's where the arguments, and the package variables that the reading takes, are together of bulk at most 1048576: NARROWER than '..Said'. Prove '..Said' where nothing that the law and all that it calls make is longer than what came in: it says more and counts as full. Else prove '..UptoSaid'. A law counts once. -/
mutual
def uptoBulk {H : Type} : DataW H → Nat
  | .lit (.string bytes) => bytes.length + 1
  | .lit _ => 1
  | .nil => 1
  | .ptr d => uptoBulk d + 1
  | .slice elems spare => uptoBulkAll elems + uptoBulkAll spare + 1
  | .agg parts => uptoBulkAll parts + 1
  | .iface _ d => uptoBulk d + 1
  | .map entries => uptoBulkEntries entries + 1
  | .held _ => 1
def uptoBulkAll {H : Type} : List (DataW H) → Nat
  | [] => 0
  | d :: r => uptoBulk d + uptoBulkAll r
def uptoBulkEntries {H : Type} : List (Lit × DataW H) → Nat
  | [] => 0
  | x :: r => uptoBulkEntry x + uptoBulkEntries r
def uptoBulkEntry {H : Type} : Lit × DataW H → Nat
  | (.string bytes, d) => bytes.length + uptoBulk d + 1
  | (_, d) => uptoBulk d + 1
 end
def uptoSmall : (H : Type) → List (DataW H) → Bool := fun _ ds => decide (uptoBulkAll ds ≤ 1048576)
def OpenSpec.upto (s : _root_.Go.ChangeSpec) : _root_.Go.OpenSpec := { _root_.Go.OpenSpec.ofChange s with cond := some uptoSmall }

/-- 'lamellalaw15.MailLays', WHERE WHAT IT READS IS OF BULK AT MOST 1048576: true; the input reads as it did. -/
def mailLaysUptoRow : OpenClaim := { program := "ytneebjlpeekmbaa", sum := "85792b32728a1af8bd57b276ba01357bf1f48ffbbde5761234c658cc8e9953b1", func := "lamella/lamellalaw15.MailLays", spec := "mailLays", unfollowed := true, recurses := true, apart := false, narrowed := true }
def MailLaysUptoSaid : Prop := mailLaysUptoRow.holds Try.pinned (OpenSpec.upto mailLaysSpec)

/-- 'lamellalaw15.MailTakes', WHERE WHAT IT READS IS OF BULK AT MOST 1048576: true; the input reads as it did. -/
def mailTakesUptoRow : OpenClaim := { program := "ytneebjlpeekmbaa", sum := "85792b32728a1af8bd57b276ba01357bf1f48ffbbde5761234c658cc8e9953b1", func := "lamella/lamellalaw15.MailTakes", spec := "mailTakes", unfollowed := true, recurses := true, apart := false, narrowed := true }
def MailTakesUptoSaid : Prop := mailTakesUptoRow.holds Try.pinned (OpenSpec.upto mailTakesSpec)

/-- 'lamellalaw15.MailFramed', WHERE WHAT IT READS IS OF BULK AT MOST 1048576: true; the input reads as it did. -/
def mailFramedUptoRow : OpenClaim := { program := "ytneebjlpeekmbaa", sum := "85792b32728a1af8bd57b276ba01357bf1f48ffbbde5761234c658cc8e9953b1", func := "lamella/lamellalaw15.MailFramed", spec := "mailFramed", unfollowed := true, recurses := true, apart := false, narrowed := true }
def MailFramedUptoSaid : Prop := mailFramedUptoRow.holds Try.pinned (OpenSpec.upto mailFramedSpec)

/-- 'lamellalaw15.MailTurned', WHERE WHAT IT READS IS OF BULK AT MOST 1048576: true; the input reads as it did. -/
def mailTurnedUptoRow : OpenClaim := { program := "ytneebjlpeekmbaa", sum := "85792b32728a1af8bd57b276ba01357bf1f48ffbbde5761234c658cc8e9953b1", func := "lamella/lamellalaw15.MailTurned", spec := "mailTurned", unfollowed := true, recurses := true, apart := false, narrowed := true }
def MailTurnedUptoSaid : Prop := mailTurnedUptoRow.holds Try.pinned (OpenSpec.upto mailTurnedSpec)

/-- 'lamellalaw15.MailSame', WHERE WHAT IT READS IS OF BULK AT MOST 1048576: true; the input reads as it did. -/
def mailSameUptoRow : OpenClaim := { program := "ytneebjlpeekmbaa", sum := "85792b32728a1af8bd57b276ba01357bf1f48ffbbde5761234c658cc8e9953b1", func := "lamella/lamellalaw15.MailSame", spec := "mailSame", unfollowed := true, recurses := true, apart := false, narrowed := true }
def MailSameUptoSaid : Prop := mailSameUptoRow.holds Try.pinned (OpenSpec.upto mailSameSpec)

/-- 'lamellalaw15.MailKinds', WHERE WHAT IT READS IS OF BULK AT MOST 1048576: true; the input reads as it did. -/
def mailKindsUptoRow : OpenClaim := { program := "ytneebjlpeekmbaa", sum := "85792b32728a1af8bd57b276ba01357bf1f48ffbbde5761234c658cc8e9953b1", func := "lamella/lamellalaw15.MailKinds", spec := "mailKinds", unfollowed := true, recurses := true, apart := false, narrowed := true }
def MailKindsUptoSaid : Prop := mailKindsUptoRow.holds Try.pinned (OpenSpec.upto mailKindsSpec)

/-- 'lamellalaw15.MailLimits', WHERE WHAT IT READS IS OF BULK AT MOST 1048576: true; the input reads as it did. -/
def mailLimitsUptoRow : OpenClaim := { program := "ytneebjlpeekmbaa", sum := "85792b32728a1af8bd57b276ba01357bf1f48ffbbde5761234c658cc8e9953b1", func := "lamella/lamellalaw15.MailLimits", spec := "mailLimits", unfollowed := true, recurses := true, apart := false, narrowed := true }
def MailLimitsUptoSaid : Prop := mailLimitsUptoRow.holds Try.pinned (OpenSpec.upto mailLimitsSpec)

end Rows
end Go.Proofs.Ytneebjlpeekmbaa
