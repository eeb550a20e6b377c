/- The walk of the law OctetLists: it returns true, and writes nothing that was there. Conditions: the kinds' ranges. -/
import Derived.Test.YthobpcbiaimccaaGet
import Derived.Test.YthobpcbiaimccaaLawOnlyW
namespace Go.Proofs.Ythobpcbiaimccaa
open Go.RowKit Go.Proofs.YthobpcbiaimccaaW.PrintWords Go.Proofs.YthobpcbiaimccaaW.PrintLast Go.Proofs.YthobpcbiaimccaaW.PrintMore PRef
set_option linter.unusedVariables false
set_option linter.unusedSimpArgs false

theorem loopR_bytes (xs : List Int) : ∀ (n a : Nat), a + n ≤ xs.length → loopR (byteR xs) n (some a) = ((xs.drop a).take n, some (a + n))
  | 0, a, h => by simp [loopR]
  | n + 1, a, h => by
    have hlt : a < xs.length := by omega
    have e : byteR xs (some a) = (xs.getD a 0, some (a + 1)) := by simp [byteR, hlt]
    rw [loopR_some, e]
    dsimp only
    rw [loopR_bytes xs n (a + 1) (by omega), List.drop_eq_getElem_cons hlt, List.take_succ_cons, List.getD_eq_getElem?_getD, List.getElem?_eq_getElem hlt]
    simp only [Option.getD_some]
    rw [show a + 1 + n = a + (n + 1) from by omega]

theorem hi_bytes (n : Nat) : ∀ k, IsBytes (hi n k)
  | 0 => fun x hx => by cases hx
  | k + 1 => fun x hx => by
    rcases List.mem_cons.1 hx with rfl | hx
    · omega
    · exact hi_bytes n k x hx
theorem encNum_bytes (n : Nat) : IsBytes (encNum n) := (hi_bytes n _).append (fun x hx => by
  rw [List.mem_singleton] at hx
  subst hx
  omega)

/-- What Get gives of a list whose things are bytes. -/
theorem getR_bytes (n m : Nat) (h : n < 18446744073709551616) : (n ≤ 4096 ∧ n ≤ m → getR (encNum n ++ List.replicate m (7 : Int)) (byteR (encNum n ++ List.replicate m (7 : Int))) (some 0) = (List.replicate n 7, some ((encNum n).length + n))) ∧
    (¬ (n ≤ 4096 ∧ n ≤ m) → getR (encNum n ++ List.replicate m (7 : Int)) (byteR (encNum n ++ List.replicate m (7 : Int))) (some 0) = ([], none)) := by
  have hnum : numR (encNum n ++ List.replicate m (7 : Int)) (some 0) = (n, some (encNum n).length) := by
    show (match takeNum 0 true ((encNum n ++ List.replicate m (7 : Int)).drop 0) with | none => ((0, none) : Nat × Option Nat) | some (m, k) => (m, some (0 + k))) = _
    rw [List.drop_zero, takeNum_back n _ h]
    simp
  have hleft : leftR (encNum n ++ List.replicate m (7 : Int)) (some (encNum n).length) = m := by
    unfold leftR; simp
  unfold getR
  rw [hnum]
  dsimp only
  rw [hleft]
  constructor
  · intro hc
    rw [if_neg (show ¬ (4096 < n ∨ m < n) from by omega), loopR_bytes _ _ _ (by simp; omega)]
    rw [if_neg (by simp)]
    congr 1
    rw [List.drop_append_of_le_length (Nat.le_refl _), List.drop_of_length_le (Nat.le_refl _), List.nil_append, List.take_replicate, Nat.min_eq_left hc.2]
  · intro hc
    rw [if_pos (show 4096 < n ∨ m < n from by omega), loopR_none]
    rfl

set_option maxRecDepth 100000 in
set_option maxHeartbeats 4000000 in
theorem lists_law (n : Nat) (more_ : Int) (w : World) (hn : n < 18446744073709551616) (h0 : -9223372036854775808 ≤ more_) (h1 : more_ ≤ 9223372036854775807) :
    Calls Try.prog 10 #[.int .u64 n, .int .i64 more_] w fun e w' => e = .returned (.bool true) ∧ Below w.heap.size w w' := by
  have hl1 := encNum_length n hn
  go_enter Try.func10, Try.ntmps10
  have HW0 := Lib.hid (wr_new w)
  have HBA := Lib.hid ((Below.refl w.heap.size w).alloc (Nat.le_refl _) (.cells #[.slice none 0 0] 41))
  go_wp2_with fail
  obtain ⟨m, hm⟩ : ∃ m : Nat, max 0 (min more_ 5000) = (m : Int) := ⟨(max 0 (min more_ 5000)).toNat, by omega⟩
  have hm5 : m ≤ 5000 := by omega
  rw [hm]
  clear hm h0 h1
  generalize hwA : w.alloc (.cells #[.slice none 0 0] 41) = wA at HW0 HBA ⊢
  have HS2 : Hid (w.heap.size ≤ wA.heap.size) := Lib.hid (by rw [← hwA]; simp)
  clear hwA
  ((with_reducible refine (num_calls _ _ _ _ _ n HW0.out (by simp) hn).mono ?_); rintro e w1 ⟨rfl, hW, hC⟩)
  rw [List.nil_append] at hW
  have HW1 := Lib.hid (hW.from_ HS2.out)
  have HB1 := Lib.hid (HBA.out.trans (hC.below_ HS2.out))
  clear hW hC HW0 HBA
  go_wp2_with fail
  go_loopw [14] (fun vi wr => ∃ i : Nat, vi = .int .i64 i ∧ i ≤ m ∧ Hid (Wr wr w.heap.size w.heap.size (fun k => w.heap.size ≤ k) (encNum n ++ List.replicate i (7 : Int))) ∧ Hid (Below w.heap.size w wr)) (fun vi _ => m - (intOf vi).toNat)
  case atStart => exact ⟨0, rfl, by omega, Lib.hid (by simpa using HW1.out), HB1⟩
  case round =>
    obtain ⟨i, rfl, hi, HW, HB⟩ := hrel
    by_cases hlt : i < m
    · go_wp2_with fail
      ((with_reducible refine (byte_calls _ _ _ _ _ 7 HW.out (by simp; omega)).mono ?_); rintro e w2 ⟨rfl, hW, hC⟩)
      have HW2 := Lib.hid (hW.from_ HB.out.size)
      have HB2 := Lib.hid (HB.out.trans (hC.below_ HB.out.size))
      clear hW hC
      go_wp2_with fail
      go_roundw
      case measure => simp [intOf]; omega
      case rel => exact ⟨i + 1, by go_num, by omega, Lib.hid (by have := HW2.out; rw [List.append_assoc, ← List.replicate_succ'] at this; exact this), HB2⟩
    · obtain rfl : i = m := by omega
      clear hlt hi
      obtain ⟨hg1, hg2⟩ := getR_bytes n i hn
      have HG1 := Lib.hid hg1
      have HG2 := Lib.hid hg2
      clear hg1 hg2
      have hxb : IsBytes (encNum n ++ List.replicate i (7 : Int)) := (encNum_bytes n).append (fun x hx => by rw [(List.mem_replicate.1 hx).2]; decide)
      have HX := Lib.hid hxb
      have hxl : (encNum n ++ List.replicate i (7 : Int)).length = (encNum n).length + i := by simp
      have HXL := Lib.hid hxl
      have hxs : (encNum n ++ List.replicate i (7 : Int)).length ≤ 5010 := by omega
      clear hxb hxl
      generalize encNum n ++ List.replicate i (7 : Int) = us at HW HG1 HG2 HX HXL hxs
      go_wp2_with fail
      ((with_reducible refine (bytes_str_calls _ _ _ _ us HW.out (by omega)).mono ?_); rintro e w2 ⟨A, c1, rfl, hc1, HU, hb⟩)
      have HB2 := Lib.hid (HB.out.trans (hb.mono HB.out.size))
      clear hb
      go_wp2_with fail
      ((with_reducible refine (reader_new _ _ _ _ HU.out hc1 HX.out (by omega)).mono ?_); rintro e w3 ⟨g, A1, d1, rfl, hg, HR, HBr⟩)
      have HB3 := Lib.hid (HB2.out.trans (HBr.out.mono HB2.out.size))
      have hgw : w.heap.size ≤ g := Nat.le_trans HB2.out.size hg
      clear HBr
      go_wp2_with fail
      ((with_reducible refine (getbyte_calls HR.out).mono ?_); rintro e w4 ⟨v, rfl, ho, hr, hc⟩)
      have HB4 := Lib.hid (hc.reader HB3.out hgw)
      by_cases hok : n ≤ 4096 ∧ n ≤ i
      · rw [HG1.out hok] at ho hr
        obtain ⟨B, d, rfl, hd, _⟩ := ho.reads
        have HR4 := Lib.hid hr
        have hlf : ((leftR us (some ((encNum n).length + n)) : Nat) : Int) = (i : Int) - n := by unfold leftR; rw [HXL.out]; simp; omega
        have HLF := Lib.hid hlf
        obtain ⟨hk1, hk2⟩ := hok
        clear ho hr hc hlf
        rw [List.length_replicate]
        go_wp2_with (first | ((with_reducible refine (bad_calls HR4.out).mono ?_); rintro e w' ⟨rfl, rfl⟩) | ((with_reducible refine (left_calls HR4.out).mono ?_); rw [HLF.out]; rintro e w5 ⟨rfl, hb⟩; have HB5 := Lib.hid (HB4.out.trans (hb.mono HB4.out.size)); clear hb) | ((with_reducible refine (lives_calls _).mono ?_); rintro e w6 ⟨rfl, hb6⟩))
        go_ret
        exact ⟨rfl, HB5.out.trans (hb6.mono HB5.out.size)⟩
      · rw [HG2.out hok] at ho hr
        obtain ⟨B, d, rfl, hd, _⟩ := ho.reads
        have HR4 := Lib.hid hr
        clear ho hr hc
        rw [List.length_nil]
        by_cases hbig : 4096 < n
        all_goals
          go_wp2_with (first | ((with_reducible refine (bad_calls HR4.out).mono ?_); rintro e w' ⟨rfl, rfl⟩) | ((with_reducible refine (lives_calls _).mono ?_); rintro e w6 ⟨rfl, hb6⟩))
          go_ret
          exact ⟨rfl, HB4.out.trans (hb6.mono HB4.out.size)⟩

end Go.Proofs.Ythobpcbiaimccaa
