/- A mail as one aggregate that no walk opens, and what is called with one. No conditions beyond those typed. -/
import Derived.Test.YtneebjlpeekmbaaAbT
import Derived.Test.YtneebjlpeekmbaaLitB
namespace Go.Proofs.Ytneebjlpeekmbaa
open Go.RowKit Go.Proofs.YtneebjlpeekmbaaW.PrintWords Go.Proofs.YtneebjlpeekmbaaW.PrintLast Go.Proofs.YtneebjlpeekmbaaW.PrintMore PRef
set_option linter.unusedVariables false
set_option linter.unusedSimpArgs false

section
variable {w : World} {cs : Array Value} {x : Mail}
theorem light_m (h : InM w cs x) (ht : x.text.size ≤ 9223372036854775807) : Calls Try.prog 10 #[.agg cs] w fun e w' => ∃ b, e = .returned (.bool b) ∧ Hid (b = true → LightOk x) ∧ Below w.heap.size w w' := by
  obtain ⟨A1, c1, A2, c2, A3, c3, rfl, h1, h2, h3⟩ := h
  exact light_calls w A1 A2 A3 c1 c2 c3 x h1 h2 h3 ht
end
end Go.Proofs.Ytneebjlpeekmbaa
