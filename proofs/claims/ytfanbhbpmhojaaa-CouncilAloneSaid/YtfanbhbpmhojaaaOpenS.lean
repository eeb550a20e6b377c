/- How arguments that are slices of strings, of numbers, are opened into the walks' words. -/
import Derived.Test.YtfanbhbpmhojaaaBase
import Derived.SliceStrings
import Derived.ChangeSlices
namespace Go.Proofs.Ytfanbhbpmhojaaa
open Go.RowKit Go.Deep Go.ChangeShapes Go.WideShapes Go.Proofs.YtfanbhbpmhojaaaW.PrintWords
set_option linter.unusedVariables false
set_option linter.unusedSimpArgs false

/-- A slice of strings, as the walks read it. -/
def IsStrs (w : World) (a : Option Addr) (len : Nat) (ss : List ByteArray) : Prop := ReadsOf Value.string ByteArray.empty w a len ss ∧ ∀ s ∈ ss, s.size ≤ 9223372036854775807
theorem strs_open {H : Type} {enc : TypeId × Value → H} {w : World} {base fuel : Nat} {held : Bool} {a : Option Addr} {len cap : Nat} {cs : List Value} {x : DataW H × List MemPlace}
    (h : DataW.trod enc Try.prog w base (fun _ => true) held fuel 22 cs = some x) (hcs : cs = [.slice a len cap]) : ∃ ls, IsStrs w a len ls := by
  rcases open_strings Try.underlying22 Try.underlying9 (by kernel_rfl) h with ⟨h1, _⟩ | ⟨ad, l, c, ss, h1, _, hl, hm, hz, _, hcell, hsz⟩
  · rw [hcs] at h1
    simp at h1
    obtain ⟨rfl, rfl, rfl⟩ := h1
    exact ⟨[], ⟨rfl, by omega, fun hp => by omega⟩, fun s hs => by cases hs⟩
  · rw [hcs] at h1
    simp at h1
    obtain ⟨rfl, rfl, rfl⟩ := h1
    unfold maxLen at hm hsz
    have hz' : ss.length = cap := by simpa using hz
    refine ⟨ss.take len, ⟨by rw [List.length_take]; omega, by omega, fun hp => ⟨ad, rfl, fun j hj => ?_⟩⟩, fun s hs => hsz s (List.mem_of_mem_take hs)⟩
    rw [hcell j (by omega)]
    simp [List.getD_eq_getElem?_getD, hj]

end Go.Proofs.Ytfanbhbpmhojaaa
