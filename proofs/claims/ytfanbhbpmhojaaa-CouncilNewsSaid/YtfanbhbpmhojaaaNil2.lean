/- No council at all: Hear. No conditions. -/
import Derived.Test.YtfanbhbpmhojaaaNil
namespace Go.Proofs.Ytfanbhbpmhojaaa
open Go.RowKit Go.Proofs.YtfanbhbpmhojaaaW.PrintWords Go.Proofs.YtfanbhbpmhojaaaW.PrintLast Go.Proofs.YtfanbhbpmhojaaaW.PrintMore PRef
attribute [local go_sem] max2_int min2_int max_two min_two
set_option linter.unusedVariables false
set_option linter.unusedSimpArgs false

set_option maxRecDepth 100000 in
theorem nil_hear (w : World) (cs : Array Value) : Calls Try.prog 29 #[.pointer none, .agg cs] w fun e w' => e = .returned noWord ∧ Below w.heap.size w w' := by
  have HT := Lib.hid (two_new w cs #[.bool false, .slice none 0 0, .slice none 0 0] 70 32)
  go_enter Try.func29, Try.ntmps29
  go_wp2_with fail
  (try simp only [Exit.inBlock, Exit.then])
  refine bodyPost_ret (results_cell_row rfl _ _ (w.heap.size + 1) 32 _ (0, 0) _ rfl HT.out.2.2 Try.underlying32 rfl inf32) rfl ?_
  exact ⟨rfl, HT.out.1⟩

end Go.Proofs.Ytfanbhbpmhojaaa
