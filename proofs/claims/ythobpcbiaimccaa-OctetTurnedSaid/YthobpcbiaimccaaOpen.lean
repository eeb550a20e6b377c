/- How arguments that are slices of slices of bytes, slices of strings, or a struct of three numbers are opened into the walks' words. -/
import Derived.Test.YthobpcbiaimccaaLawChainW
import Derived.Deep.Matrix
import Derived.SliceStrings
namespace Go.Proofs.Ythobpcbiaimccaa
open Go.RowKit Go.Deep Go.ChangeShapes Go.WideShapes Go.Proofs.YthobpcbiaimccaaW.PrintWords
set_option linter.unusedVariables false
set_option linter.unusedSimpArgs false

theorem readsLc_open {H : Type} {enc : TypeId × Value → H} {w : World} {base fuel : Nat} {held : Bool} {a : Option Addr} {len cap : Nat} {cs : List Value} {x : DataW H × List MemPlace}
    (h : DataW.trod enc Try.prog w base (fun _ => true) held fuel 61 cs = some x) (hcs : cs = [.slice a len cap]) : ∃ ls, ReadsLc w a len ls := by
  rcases open_int_rows Try.underlying61 Try.underlying31 Try.underlying5 (by kernel_rfl) (by kernel_rfl) h with ⟨h1, _⟩ | ⟨ad, l, c, A, L, C, Z, h1, _, hl, hc, _, hr⟩
  · rw [hcs] at h1
    simp at h1
    obtain ⟨rfl, rfl, rfl⟩ := h1
    exact ⟨[], rfl, by omega, fun j hj => by omega⟩
  · rw [hcs] at h1
    simp at h1
    obtain ⟨rfl, rfl, rfl⟩ := h1
    refine ⟨(List.range len).map fun r => (Z r).take (L r), by simp, by unfold maxLen at hc; omega, fun j hj => ?_⟩
    obtain ⟨h2, h3, h4, h5, h6, h7, h8⟩ := hr j (by omega)
    have hg : ((List.range len).map fun r => (Z r).take (L r)).getD j [] = (Z j).take (L j) := by
      simp [List.getD_eq_getElem?_getD, List.getElem?_map, List.getElem?_range hj]
    have hlen : ((Z j).take (L j)).length = L j := by rw [List.length_take]; omega
    rw [hg, hlen]
    refine ⟨ad, A j, C j, rfl, h2, h3, ⟨hlen, by unfold maxLen at h4; omega, fun hp => ?_⟩, fun n hn => ?_⟩
    · cases hA : A j with
      | none => have := h7 hA; omega
      | some a' =>
        refine ⟨a', rfl, fun i hi => ?_⟩
        rw [(h8 a' hA).2 i (by omega)]
        simp [List.getD_eq_getElem?_getD, hi]
    · have := bounds_u8 (h6 n (List.mem_of_mem_take hn))
      omega

end Go.Proofs.Ythobpcbiaimccaa
