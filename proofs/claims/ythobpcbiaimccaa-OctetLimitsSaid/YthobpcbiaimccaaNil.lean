/- A Reader that there isn't: it is bad, and nothing is read from it. No conditions. -/
import Derived.Test.YthobpcbiaimccaaGet
namespace Go.Proofs.Ythobpcbiaimccaa
open Go.RowKit Go.Proofs.YthobpcbiaimccaaW.PrintWords Go.Proofs.YthobpcbiaimccaaW.PrintLast Go.Proofs.YthobpcbiaimccaaW.PrintMore PRef
set_option linter.unusedVariables false
set_option linter.unusedSimpArgs false

theorem nbad (w : World) : Calls Try.prog 43 #[.pointer none] w fun e w' => e = .returned (.bool true) ∧ w = w' := by
  go_enter Try.func43, Try.ntmps43
  go_wp2_with fail
  go_ret
  exact ⟨rfl, rfl⟩
theorem nfail (w : World) : Calls Try.prog 64 #[.pointer none] w fun e w' => e = .returned (.tuple #[]) ∧ w = w' := by
  go_enter Try.func64, Try.ntmps64
  go_wp2_with fail
  go_end0
  exact ⟨rfl, rfl⟩
theorem nleft (w : World) : Calls Try.prog 44 #[.pointer none] w fun e w' => e = .returned (.int .i64 0) ∧ w = w' := by
  go_enter Try.func44, Try.ntmps44
  go_wp2_with ((with_reducible refine (nbad _).mono ?_); rintro e w' ⟨rfl, rfl⟩)
  go_ret
  exact ⟨rfl, rfl⟩
theorem nend (w : World) : Calls Try.prog 49 #[.pointer none] w fun e w' => e = .returned (.bool false) ∧ w = w' := by
  go_enter Try.func49, Try.ntmps49
  go_wp2_with ((with_reducible refine (nbad _).mono ?_); rintro e w' ⟨rfl, rfl⟩)
  go_ret
  exact ⟨rfl, rfl⟩
theorem nbyte (w : World) : Calls Try.prog 42 #[.pointer none] w fun e w' => e = .returned (.int .u8 0) ∧ w = w' := by
  go_enter Try.func42, Try.ntmps42
  go_wp2_with (first | ((with_reducible refine (nleft _).mono ?_); rintro e w' ⟨rfl, rfl⟩) | ((with_reducible refine (nfail _).mono ?_); rintro e w' ⟨rfl, rfl⟩))
  go_ret
  exact ⟨rfl, rfl⟩
theorem nbool (w : World) : Calls Try.prog 52 #[.pointer none] w fun e w' => e = .returned (.bool false) ∧ w = w' := by
  go_enter Try.func52, Try.ntmps52
  go_wp2_with (first | ((with_reducible refine (nbyte _).mono ?_); rintro e w' ⟨rfl, rfl⟩) | ((with_reducible refine (nfail _).mono ?_); rintro e w' ⟨rfl, rfl⟩))
  go_ret
  exact ⟨rfl, rfl⟩
set_option maxRecDepth 100000 in
theorem nnum (w : World) : Calls Try.prog 45 #[.pointer none] w fun e w' => e = .returned (.int .u64 0) ∧ w = w' := by
  go_enter Try.func45, Try.ntmps45
  go_wp2_with fail
  go_loopw [3] (fun vn wr => w = wr ∧ vn = .int .u64 0) (fun _ _ => 0)
  case atStart => exact ⟨rfl, rfl⟩
  case round =>
    obtain ⟨rfl, rfl⟩ := hrel
    go_wp2_with (first | ((with_reducible refine (nbyte _).mono ?_); rintro e w' ⟨rfl, rfl⟩) | ((with_reducible refine (nbad _).mono ?_); rintro e w' ⟨rfl, rfl⟩) | ((with_reducible refine (nfail _).mono ?_); rintro e w' ⟨rfl, rfl⟩))
    go_ret
    exact ⟨rfl, rfl⟩
theorem nint (w : World) : Calls Try.prog 46 #[.pointer none] w fun e w' => e = .returned (.int .i64 0) ∧ w = w' := by
  go_enter Try.func46, Try.ntmps46
  go_wp2_with (first | ((with_reducible refine (nbyte _).mono ?_); rintro e w' ⟨rfl, rfl⟩) | ((with_reducible refine (nnum _).mono ?_); rintro e w' ⟨rfl, rfl⟩) | ((with_reducible refine (nbad _).mono ?_); rintro e w' ⟨rfl, rfl⟩) | ((with_reducible refine (nfail _).mono ?_); rintro e w' ⟨rfl, rfl⟩))
  go_ret
  exact ⟨rfl, rfl⟩
theorem ntext (w : World) : Calls Try.prog 47 #[.pointer none] w fun e w' => e = .returned (.string ByteArray.empty) ∧ w = w' := by
  go_enter Try.func47, Try.ntmps47
  go_wp2_with (first | ((with_reducible refine (nnum _).mono ?_); rintro e w' ⟨rfl, rfl⟩) | ((with_reducible refine (nleft _).mono ?_); rintro e w' ⟨rfl, rfl⟩) | ((with_reducible refine (nbad _).mono ?_); rintro e w' ⟨rfl, rfl⟩) | ((with_reducible refine (nfail _).mono ?_); rintro e w' ⟨rfl, rfl⟩))
  go_ret
  exact ⟨rfl, rfl⟩
set_option maxRecDepth 100000 in
theorem nget (w : World) : Calls Try.prog 56 #[.pointer none, .func (.func 45) #[] #[]] w fun e w' => e = .returned (.slice none 0 0) ∧ w = w' := by
  go_enter Try.func56, Try.ntmps56
  go_wp2_with (first | ((with_reducible refine (nnum _).mono ?_); rintro e w' ⟨rfl, rfl⟩) | ((with_reducible refine (nleft _).mono ?_); rintro e w' ⟨rfl, rfl⟩))
  go_loopw [7] (fun vn wr => w = wr ∧ vn = .int .u64 0) (fun _ _ => 0)
  case atStart => exact ⟨rfl, rfl⟩
  case round =>
    obtain ⟨rfl, rfl⟩ := hrel
    go_wp2_with ((with_reducible refine (nbad _).mono ?_); rintro e w' ⟨rfl, rfl⟩)
    go_ret
    exact ⟨rfl, rfl⟩

end Go.Proofs.Ythobpcbiaimccaa
