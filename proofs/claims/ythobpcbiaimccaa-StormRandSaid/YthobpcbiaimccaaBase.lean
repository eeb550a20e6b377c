/- Small facts on worlds, slices that came in, and integers, for all of this seat's proofs. They have no conditions beyond those typed. -/
import Derived.Test.YthobpcbiaimccaaProg
import Derived.WalkKit
import Derived.WalkSpells
import Derived.WalkLawsBesides
import Derived.OpenShut
import Derived.Lib.Hide
import Derived.BigQuiet
import Derived.Deep.QuietTactic
import Derived.Test.YthobpcbiaimccaaWWords
namespace Go.Proofs.Ythobpcbiaimccaa
open Go.RowKit Go.Proofs.YthobpcbiaimccaaW.PrintWords
set_option linter.unusedVariables false
set_option linter.unusedSimpArgs false

/-- What a slice of integers that came in is told as, turned into the word that the walks use. -/
theorem reads_row {k : IntKind} {w : World} {a : Option Addr} {len cap : Nat} {zs : List Int}
    (h : (a = none ∧ len = 0 ∧ cap = 0 ∧ zs = []) ∨ ∃ x, a = some x ∧ len ≤ cap ∧ cap ≤ maxLen ∧ zs.length = cap ∧ (∀ i, i < zs.length → w.cell? (x.add i) = some (.int k (zs.getD i 0))) ∧ ∀ n ∈ zs, (Lit.int k n).wf = true) :
    ReadsInt w k a len (zs.take len) ∧ len ≤ cap ∧ cap ≤ maxLen ∧ (zs.take len).length = len ∧ ∀ n ∈ zs.take len, (Lit.int k n).wf = true := by
  rcases h with ⟨rfl, rfl, rfl, rfl⟩ | ⟨x, rfl, h1, h2, h3, h4, h5⟩
  · exact ⟨⟨rfl, by omega, fun h => absurd h (by omega)⟩, Nat.le_refl _, Nat.zero_le _, rfl, by simp⟩
  · have hl : (zs.take len).length = len := by rw [List.length_take]; omega
    refine ⟨⟨hl, by unfold maxLen at h2; omega, fun _ => ⟨x, rfl, fun j hj => ?_⟩⟩, h1, h2, hl, fun n hn => h5 n (List.mem_of_mem_take hn)⟩
    rw [h4 j (by omega)]
    simp [List.getD_eq_getElem?_getD, List.getElem?_take, hj]

theorem getD_wf {k : IntKind} {xs : List Int} {P : Int → Prop} (h : ∀ n ∈ xs, (Lit.int k n).wf = true) (hP : ∀ n, (Lit.int k n).wf = true → P n) (h0 : P 0) (i : Nat) : P (xs.getD i 0) := by
  rw [List.getD_eq_getElem?_getD]
  by_cases hi : i < xs.length
  · rw [List.getElem?_eq_getElem hi]; exact hP _ (h _ (List.getElem_mem hi))
  · rw [List.getElem?_eq_none (by omega)]; exact h0

end Go.Proofs.Ythobpcbiaimccaa
