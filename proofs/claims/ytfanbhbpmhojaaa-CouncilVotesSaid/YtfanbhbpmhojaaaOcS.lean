/- What stands behind the beginning of some bytes. No program in sight. -/
import Derived.Test.YtfanbhbpmhojaaaOcT
namespace Go.Proofs.Ytfanbhbpmhojaaa
open Go.RowKit Go.Proofs.YtfanbhbpmhojaaaW.PrintWords Go.Proofs.YtfanbhbpmhojaaaW.PrintLast Go.Proofs.YtfanbhbpmhojaaaW.PrintMore PRef
set_option linter.unusedVariables false
set_option linter.unusedSimpArgs false
def sh (a : Nat) (s : Option Nat) : Option Nat := s.map (a + ·)
theorem sh_none (a : Nat) : sh a none = none := rfl
theorem sh_some (a b : Nat) : sh a (some b) = some (a + b) := rfl
theorem shB (xs : List Int) (a : Nat) (ha : a ≤ xs.length) (s : Option Nat) : byteR xs (sh a s) = ((byteR (xs.drop a) s).1, sh a (byteR (xs.drop a) s).2) := by
  cases s with
  | none => rfl
  | some b =>
    rw [sh_some]
    have hl : (xs.drop a).length = xs.length - a := List.length_drop
    by_cases h : b < (xs.drop a).length
    · simp only [byteR, if_pos h]
      rw [if_pos (by omega)]
      refine Prod.ext ?_ ?_
      · show xs.getD (a + b) 0 = (xs.drop a).getD b 0
        rw [List.getD_eq_getElem?_getD, List.getD_eq_getElem?_getD, List.getElem?_drop]
      · show some (a + b + 1) = sh a (some (b + 1))
        rw [sh_some, Nat.add_assoc]
    · simp only [byteR, if_neg h]
      rw [if_neg (by omega)]
      rfl
theorem shN (xs : List Int) (a : Nat) (s : Option Nat) : numR xs (sh a s) = ((numR (xs.drop a) s).1, sh a (numR (xs.drop a) s).2) := by
  cases s with
  | none => rfl
  | some b =>
    rw [sh_some]
    simp only [numR, List.drop_drop]
    cases takeNum 0 true (xs.drop (a + b)) with
    | none => rfl
    | some p => simp only [sh_some, Nat.add_assoc]
theorem shI (xs : List Int) (a : Nat) (ha : a ≤ xs.length) (s : Option Nat) : intR xs (sh a s) = ((intR (xs.drop a) s).1, sh a (intR (xs.drop a) s).2) := by
  unfold intR
  rw [shB xs a ha, shN]
  dsimp only
  generalize numR (xs.drop a) (byteR (xs.drop a) s).2 = q
  obtain ⟨n, u⟩ := q
  cases u with
  | none => rfl
  | some c =>
    rw [sh_some]
    dsimp only
    split
    · rfl
    · rfl
theorem shT (xs : List Int) (a : Nat) (s : Option Nat) : textR xs (sh a s) = ((textR (xs.drop a) s).1, sh a (textR (xs.drop a) s).2) := by
  unfold textR
  rw [shN]
  dsimp only
  generalize numR (xs.drop a) s = q
  obtain ⟨n, u⟩ := q
  cases u with
  | none => rfl
  | some c =>
    rw [sh_some]
    dsimp only
    have hl : (xs.drop a).length = xs.length - a := List.length_drop
    rw [hl, List.drop_drop, Nat.sub_sub]
    split
    · rfl
    · rw [sh_some, Nat.add_assoc]
theorem shS (xs : List Int) (a : Nat) (s : Option Nat) : textS xs (sh a s) = ((textS (xs.drop a) s).1, sh a (textS (xs.drop a) s).2) := by
  unfold textS
  rw [shT]
theorem leftR_sh (xs : List Int) (a : Nat) (ha : a ≤ xs.length) (s : Option Nat) : leftR xs (sh a s) = leftR (xs.drop a) s := by
  have hl : (xs.drop a).length = xs.length - a := List.length_drop
  cases s with
  | none => simp only [leftR, sh_none, Option.getD_none]; omega
  | some b => simp only [leftR, sh_some, Option.getD_some]; omega
end Go.Proofs.Ytfanbhbpmhojaaa
