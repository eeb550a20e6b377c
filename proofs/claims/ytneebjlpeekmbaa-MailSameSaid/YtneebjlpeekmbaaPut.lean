/- Put of package octet, at texts. Conditions: the kinds' ranges; fewer than 2^45 bytes. -/
import Derived.Test.YtneebjlpeekmbaaWrA
import Derived.Test.YtneebjlpeekmbaaFrameA
namespace Go.Proofs.Ytneebjlpeekmbaa
open Go.RowKit Go.Proofs.YtneebjlpeekmbaaW.PrintWords Go.Proofs.YtneebjlpeekmbaaW.PrintLast Go.Proofs.YtneebjlpeekmbaaW.PrintMore PRef
set_option linter.unusedVariables false
set_option linter.unusedSimpArgs false
/-- The bytes of a list. -/
def encAll {α : Type} (f : α → List Int) (l : List α) : List Int := (l.map f).flatten
theorem encAll_snoc {α : Type} (f : α → List Int) (l : List α) (i : Nat) (d : α) (h : i < l.length) : encAll f (l.take (i + 1)) = encAll f (l.take i) ++ f (l.getD i d) := by
  unfold encAll
  rw [List.take_add_one, List.getElem?_eq_getElem h, List.map_append, List.flatten_append, List.getD_eq_getElem?_getD, List.getElem?_eq_getElem h]
  simp
theorem encAll_le {α : Type} (f : α → List Int) (l : List α) (B : Nat) (h : ∀ x ∈ l, (f x).length ≤ B) : (encAll f l).length ≤ B * l.length := by
  induction l with
  | nil => simp [encAll]
  | cons a l ih =>
    have h1 := h a (by simp)
    have h2 := ih (fun x hx => h x (by simp [hx]))
    unfold encAll at h2 ⊢
    rw [List.map_cons, List.flatten_cons, List.length_append, List.length_cons, Nat.mul_add]
    omega

set_option maxRecDepth 100000 in
set_option maxHeartbeats 1000000 in
theorem puttext_calls (w0 w : World) (g : Nat) (xs : List Int) (A : Option Addr) (c : Nat) (l : List ByteArray) (hW : Wr w w0.heap.size g (fun k => w0.heap.size ≤ k) xs) (hr : ReadsOf Value.string ByteArray.empty w0 A l.length l) (hl : l.length ≤ 200) (hx : xs.length ≤ 1000000) (h64 : ∀ x ∈ l, x.size ≤ 1000) (hB : Below w0.heap.size w0 w) :
    Calls Try.prog 85 #[.pointer (some ⟨g, 0, none⟩), .slice A l.length c, .func (.func 29) #[] #[]] w fun e w' => e = .returned (.tuple #[]) ∧ Wr w' w0.heap.size g (fun k => w0.heap.size ≤ k) (xs ++ encNum l.length ++ encAll (encText) l) ∧ Below w0.heap.size w0 w' := by
  have HW := Lib.hid hW
  have HR := Lib.hid hr
  have HB := Lib.hid hB
  have H64 := Lib.hid h64
  have hba : Hid (∀ i, (encAll (encText) (l.take i)).length ≤ 1010 * l.length) := Lib.hid (fun i => by
    refine Nat.le_trans (encAll_le _ _ 1010 (fun x hx => ?_)) (by rw [List.length_take]; exact Nat.mul_le_mul_left _ (by omega))
    have hx := h64 x (List.mem_of_mem_take hx)
    have := encText_length x (by omega); omega)
  clear hW hr hB h64
  have hln := encNum_length l.length (by omega)
  go_enter Try.func85, Try.ntmps85
  go_wp2_with fail
  ((with_reducible refine (num_calls _ _ _ _ _ l.length HW.out (by omega) (by omega)).mono ?_); rintro e w1 ⟨rfl, hW, hC⟩)
  have HW1 := Lib.hid (hW.from_ HB.out.size)
  have HB1 := Lib.hid (HB.out.trans (hC.below_ HB.out.size))
  clear hW hC HW HB
  go_wp2_with fail
  go_loopw [15] (fun vi wr => ∃ i : Nat, vi = .int .i64 i ∧ i ≤ l.length ∧ Hid (Wr wr w0.heap.size g (fun k => w0.heap.size ≤ k) (xs ++ encNum l.length ++ encAll (encText) (l.take i))) ∧ Hid (Below w0.heap.size w0 wr)) (fun vi _ => l.length - (intOf vi).toNat)
  case atStart => exact ⟨0, rfl, by omega, Lib.hid (by simpa [encAll] using HW1.out), HB1⟩
  case round =>
    obtain ⟨i, rfl, hi, HW, HB⟩ := hrel
    by_cases hlt : i < l.length
    · have hbi := hba.out i
      obtain ⟨ad, rfl, hcell⟩ := (HR.out.below HB.out).at_ (i : Int) (by omega) (by omega)
      rw [Int.toNat_natCast] at hcell
      have hz := H64.out (l.getD i ByteArray.empty) (by rw [List.getD_eq_getElem?_getD, List.getElem?_eq_getElem hlt]; exact List.getElem_mem hlt)
      have hrd : rdOf ByteArray.empty l (i : Int) = l.getD i ByteArray.empty := by unfold rdOf; rw [Int.toNat_natCast]
      rw [hrd] at hcell
      obtain ⟨z, hze⟩ : ∃ z, z = l.getD i ByteArray.empty := ⟨_, rfl⟩
      rw [← hze] at hcell hz
      have HQ : Hid (encText z = encText (l.getD i ByteArray.empty)) := Lib.hid (by rw [hze])
      clear hze hrd
      go_wp2_with fail
      ((with_reducible refine (text_calls _ _ _ _ _ z HW.out (by rw [List.length_append, List.length_append]; omega) (by omega)).mono ?_); rintro e w2 ⟨rfl, hW, hC⟩)
      have HW2 := Lib.hid (hW.from_ HB.out.size)
      have HB2 := Lib.hid (HB.out.trans (hC.below_ HB.out.size))
      clear hW hC
      go_wp2_with fail
      go_roundw
      case measure => simp [intOf]; omega
      case rel =>
        refine ⟨i + 1, by go_num, by omega, Lib.hid ?_, HB2⟩
        have := HW2.out
        rw [encAll_snoc _ l i ByteArray.empty hlt, ← List.append_assoc]
        rw [← HQ.out]
        exact this
    · obtain rfl : i = l.length := by omega
      go_wp2_with fail
      go_end0
      have := HW.out
      rw [List.take_of_length_le (Nat.le_refl _)] at this
      exact ⟨rfl, this, HB.out⟩


end Go.Proofs.Ytneebjlpeekmbaa
