/- Put of package octet at Refs, Entries and texts. Conditions: the kinds' ranges; at most 5000 elements; fewer than 2^45 bytes. -/
import Derived.Test.YtneebjlpeekmbaaLay
namespace Go.Proofs.Ytneebjlpeekmbaa
open Go.RowKit Go.Proofs.YtneebjlpeekmbaaW.PrintWords Go.Proofs.YtneebjlpeekmbaaW.PrintLast Go.Proofs.YtneebjlpeekmbaaW.PrintMore PRef
set_option linter.unusedVariables false
set_option linter.unusedSimpArgs false

theorem Chg.belowB {B : Nat} {ok : Nat → Prop} {w w1 : World} (h : Chg ok w w1) (hB : B ≤ w.heap.size) (hok : ∀ k, ok k → B ≤ k) : Below B w w1 := h.below hB fun i hi hk => by have := hok i hk; omega
theorem encRef_length (x : S23) (h0 : I64 x.f0) (h1 : I64 x.f1) : (encRef x).length ≤ 22 := by
  have a := encInt_length x.f0 h0.1 h0.2
  have b := encInt_length x.f1 h1.1 h1.2
  unfold encRef
  rw [List.length_append]; omega
theorem encEnt_length (x : S60) (h0 : I64 x.f0) (h1 : I64 x.f1) (h2 : x.f2.size ≤ 2097152) : (encEnt x).length ≤ 2097300 := by
  have a := encInt_length x.f0 h0.1 h0.2
  have b := encInt_length x.f1 h1.1 h1.2
  have c := encText_length x.f2 (by omega)
  unfold encEnt
  rw [List.length_append, List.length_append]; omega

set_option maxRecDepth 100000 in
set_option maxHeartbeats 1000000 in
theorem putref_calls (w0 w : World) (g : Nat) (ok : Nat → Prop) (xs : List Int) (A : Option Addr) (c : Nat) (l : List S23) (hW : Wr w w0.heap.size g ok xs) (hok : ∀ k, ok k → w0.heap.size ≤ k) (hB : Below w0.heap.size w0 w) (hr : InR w0 A c l) (hl : l.length ≤ 5000) (hx : xs.length ≤ 17592186044416) (h64 : ∀ x ∈ l, I64 x.f0 ∧ I64 x.f1) :
    Calls Try.prog 61 #[.pointer (some ⟨g, 0, none⟩), .slice A l.length c, .func (.func 62) #[] #[]] w fun e w' => e = .returned (.tuple #[]) ∧ Wr w' w0.heap.size g (more ok w) (xs ++ encNum l.length ++ encAll encRef l) ∧ Chg ok w w' := by
  have HW := Lib.hid hW
  have HR := Lib.hid hr
  have HB := Lib.hid hB
  have H64 := Lib.hid h64
  have HOK := Lib.hid hok
  have hba : Hid (∀ i, (encAll encRef (l.take i)).length ≤ 22 * l.length) := Lib.hid (fun i => by
    refine Nat.le_trans (encAll_le _ _ 22 (fun x hx => ?_)) (by rw [List.length_take]; exact Nat.mul_le_mul_left _ (by omega))
    have hx := h64 x (List.mem_of_mem_take hx)
    exact encRef_length x hx.1 hx.2)
  clear hW hr hB h64 hok
  have hln := encNum_length l.length (by omega)
  have hu23 := Try.underlying23
  go_enter Try.func61, Try.ntmps61
  go_wp2_with fail
  ((with_reducible refine (num_calls _ _ _ _ _ l.length HW.out (by omega) (by omega)).mono ?_); rintro e w1 ⟨rfl, hW, hC⟩)
  have HW1 := Lib.hid hW
  have HC1 := Lib.hid hC
  clear hW hC
  go_wp2_with fail
  go_loopw [15] (fun vi wr => ∃ i : Nat, vi = .int .i64 i ∧ i ≤ l.length ∧ Hid (Wr wr w0.heap.size g (more ok w) (xs ++ encNum l.length ++ encAll encRef (l.take i))) ∧ Hid (Chg ok w wr)) (fun vi _ => l.length - (intOf vi).toNat)
  case atStart => exact ⟨0, rfl, by omega, Lib.hid (by simpa [encAll] using HW1.out), HC1⟩
  case round =>
    obtain ⟨i, rfl, hi, HW, HC⟩ := hrel
    have HBw := Lib.hid (HB.out.trans (HC.out.belowB HB.out.size HOK.out))
    by_cases hlt : i < l.length
    · have hbi := hba.out i
      obtain ⟨ad, rfl, ha0, ha1⟩ := at_T23 (Kd.C_below HR.out.1 HBw.out) (i : Int) (by omega) (by omega)
      have hrx : rd_T23 l (i : Int) = l.getD i z23 := by unfold rd_T23; rw [Int.toNat_natCast]
      rw [hrx, Int.toNat_natCast] at ha0 ha1
      obtain ⟨x, hxe⟩ : ∃ x, x = l.getD i z23 := ⟨_, rfl⟩
      rw [← hxe] at ha0 ha1
      have hz := H64.out x (by rw [hxe, List.getD_eq_getElem?_getD, List.getElem?_eq_getElem hlt]; exact List.getElem_mem hlt)
      have HXE := Lib.hid hxe
      have HZ := Lib.hid hz
      clear hxe hrx hz
      have HWx := Lib.hid (HW.out.below ((Below.refl wr.heap.size wr).alloc (Nat.le_refl _) (.cells #[.int .i64 x.f0, .int .i64 x.f1] 23)))
      have HCx := Lib.hid (HC.out.alloc (.cells #[.int .i64 x.f0, .int .i64 x.f1] 23))
      go_wp2_with fail
      generalize wr.alloc (.cells #[.int .i64 x.f0, .int .i64 x.f1] 23) = wx at HWx HCx ⊢
      ((with_reducible refine (layref_calls _ _ _ _ _ x HWx.out (by rw [List.length_append, List.length_append]; omega) HZ.out.1 HZ.out.2).mono ?_); rintro e w2 ⟨rfl, hW, hC⟩)
      have HW2 := Lib.hid (hW.mono (more_more HCx.out.size))
      have HC2 := Lib.hid (HCx.out.then_more hC)
      clear hW hC HWx HCx
      go_wp2_with fail
      go_roundw
      case measure => simp [intOf]; omega
      case rel =>
        refine ⟨i + 1, by go_num, by omega, Lib.hid ?_, HC2⟩
        have := HW2.out
        rw [encAll_snoc _ l i z23 hlt, ← List.append_assoc]
        rw [← HXE.out]
        exact this
    · obtain rfl : i = l.length := by omega
      go_wp2_with fail
      go_end0
      have := HW.out
      rw [List.take_of_length_le (Nat.le_refl _)] at this
      exact ⟨rfl, this, HC.out⟩

set_option maxRecDepth 100000 in
set_option maxHeartbeats 1000000 in
theorem putent_calls (w0 w : World) (g : Nat) (ok : Nat → Prop) (xs : List Int) (A : Option Addr) (c : Nat) (l : List S60) (hW : Wr w w0.heap.size g ok xs) (hok : ∀ k, ok k → w0.heap.size ≤ k) (hB : Below w0.heap.size w0 w) (hr : InE w0 A c l) (hl : l.length ≤ 5000) (hx : xs.length ≤ 17592186044416) (h64 : ∀ x ∈ l, I64 x.f0 ∧ I64 x.f1 ∧ x.f2.size ≤ 2097152) :
    Calls Try.prog 27 #[.pointer (some ⟨g, 0, none⟩), .slice A l.length c, .func (.func 28) #[] #[]] w fun e w' => e = .returned (.tuple #[]) ∧ Wr w' w0.heap.size g (more ok w) (xs ++ encNum l.length ++ encAll encEnt l) ∧ Chg ok w w' := by
  have HW := Lib.hid hW
  have HR := Lib.hid hr
  have HB := Lib.hid hB
  have H64 := Lib.hid h64
  have HOK := Lib.hid hok
  have hba : Hid (∀ i, (encAll encEnt (l.take i)).length ≤ 2097300 * l.length) := Lib.hid (fun i => by
    refine Nat.le_trans (encAll_le _ _ 2097300 (fun x hx => ?_)) (by rw [List.length_take]; exact Nat.mul_le_mul_left _ (by omega))
    have hx := h64 x (List.mem_of_mem_take hx)
    exact encEnt_length x hx.1 hx.2.1 hx.2.2)
  clear hW hr hB h64 hok
  have hln := encNum_length l.length (by omega)
  have hu60 := Try.underlying60
  go_enter Try.func27, Try.ntmps27
  go_wp2_with fail
  ((with_reducible refine (num_calls _ _ _ _ _ l.length HW.out (by omega) (by omega)).mono ?_); rintro e w1 ⟨rfl, hW, hC⟩)
  have HW1 := Lib.hid hW
  have HC1 := Lib.hid hC
  clear hW hC
  go_wp2_with fail
  go_loopw [15] (fun vi wr => ∃ i : Nat, vi = .int .i64 i ∧ i ≤ l.length ∧ Hid (Wr wr w0.heap.size g (more ok w) (xs ++ encNum l.length ++ encAll encEnt (l.take i))) ∧ Hid (Chg ok w wr)) (fun vi _ => l.length - (intOf vi).toNat)
  case atStart => exact ⟨0, rfl, by omega, Lib.hid (by simpa [encAll] using HW1.out), HC1⟩
  case round =>
    obtain ⟨i, rfl, hi, HW, HC⟩ := hrel
    have HBw := Lib.hid (HB.out.trans (HC.out.belowB HB.out.size HOK.out))
    by_cases hlt : i < l.length
    · have hbi := hba.out i
      obtain ⟨ad, rfl, ha0, ha1, ha2⟩ := at_T60 (Kd.C_below HR.out.1 HBw.out) (i : Int) (by omega) (by omega)
      have hrx : rd_T60 l (i : Int) = l.getD i z60 := by unfold rd_T60; rw [Int.toNat_natCast]
      rw [hrx, Int.toNat_natCast] at ha0 ha1 ha2
      obtain ⟨x, hxe⟩ : ∃ x, x = l.getD i z60 := ⟨_, rfl⟩
      rw [← hxe] at ha0 ha1 ha2
      have hz := H64.out x (by rw [hxe, List.getD_eq_getElem?_getD, List.getElem?_eq_getElem hlt]; exact List.getElem_mem hlt)
      have HXE := Lib.hid hxe
      have HZ := Lib.hid hz
      clear hxe hrx hz
      have HWx := Lib.hid (HW.out.below ((Below.refl wr.heap.size wr).alloc (Nat.le_refl _) (.cells #[.int .i64 x.f0, .int .i64 x.f1, .string x.f2] 60)))
      have HCx := Lib.hid (HC.out.alloc (.cells #[.int .i64 x.f0, .int .i64 x.f1, .string x.f2] 60))
      go_wp2_with fail
      generalize wr.alloc (.cells #[.int .i64 x.f0, .int .i64 x.f1, .string x.f2] 60) = wx at HWx HCx ⊢
      ((with_reducible refine (layent_calls _ _ _ _ _ x HWx.out (by rw [List.length_append, List.length_append]; omega) HZ.out.1 HZ.out.2.1 (by have := HZ.out.2.2; omega)).mono ?_); rintro e w2 ⟨rfl, hW, hC⟩)
      have HW2 := Lib.hid (hW.mono (more_more HCx.out.size))
      have HC2 := Lib.hid (HCx.out.then_more hC)
      clear hW hC HWx HCx
      go_wp2_with fail
      go_roundw
      case measure => simp [intOf]; omega
      case rel =>
        refine ⟨i + 1, by go_num, by omega, Lib.hid ?_, HC2⟩
        have := HW2.out
        rw [encAll_snoc _ l i z60 hlt, ← List.append_assoc]
        rw [← HXE.out]
        exact this
    · obtain rfl : i = l.length := by omega
      go_wp2_with fail
      go_end0
      have := HW.out
      rw [List.take_of_length_le (Nat.le_refl _)] at this
      exact ⟨rfl, this, HC.out⟩

theorem readsStr {w : World} {A : Option Addr} {n : Nat} {xs : List ByteArray} (h : Kd.C Kd.string w A n xs) : ReadsOf Value.string ByteArray.empty w A n xs := by
  refine ⟨h.1, h.2.1, fun h0 => ?_⟩
  obtain ⟨ad, e, hc⟩ := h.2.2 h0
  refine ⟨ad, e, fun j hj => ?_⟩
  have hlt : j < xs.length := by have := h.1; omega
  obtain ⟨c, hs, hK, hcell⟩ := hc j _ (List.getElem?_eq_getElem hlt)
  have hc2 : c = [.string xs[j]] := hK
  subst hc2
  have := hcell 0 _ rfl
  rw [List.getD_eq_getElem?_getD, List.getElem?_eq_getElem hlt]
  have e1 : j * Kd.string.sz + 0 = j := by show j * 1 + 0 = j; omega
  rw [e1] at this
  simpa using this

set_option maxRecDepth 100000 in
set_option maxHeartbeats 1000000 in
theorem puttexts_calls (w0 w : World) (g : Nat) (ok : Nat → Prop) (xs : List Int) (A : Option Addr) (c : Nat) (l : List ByteArray) (hW : Wr w w0.heap.size g ok xs) (hok : ∀ k, ok k → w0.heap.size ≤ k) (hB : Below w0.heap.size w0 w) (hr : InC w0 A c l) (hl : l.length ≤ 5000) (hx : xs.length ≤ 17592186044416) (h64 : ∀ x ∈ l, x.size ≤ 2097152) :
    Calls Try.prog 85 #[.pointer (some ⟨g, 0, none⟩), .slice A l.length c, .func (.func 29) #[] #[]] w fun e w' => e = .returned (.tuple #[]) ∧ Wr w' w0.heap.size g (more ok w) (xs ++ encNum l.length ++ encAll encText l) ∧ Chg ok w w' := by
  have HW := Lib.hid hW
  have HR := Lib.hid hr
  have HB := Lib.hid hB
  have H64 := Lib.hid h64
  have HOK := Lib.hid hok
  have hba : Hid (∀ i, (encAll encText (l.take i)).length ≤ 2097162 * l.length) := Lib.hid (fun i => by
    refine Nat.le_trans (encAll_le _ _ 2097162 (fun x hx => ?_)) (by rw [List.length_take]; exact Nat.mul_le_mul_left _ (by omega))
    have hx := h64 x (List.mem_of_mem_take hx)
    exact Nat.le_trans (encText_length x (by omega)) (by omega))
  clear hW hr hB h64 hok
  have hln := encNum_length l.length (by omega)
  go_enter Try.func85, Try.ntmps85
  go_wp2_with fail
  ((with_reducible refine (num_calls _ _ _ _ _ l.length HW.out (by omega) (by omega)).mono ?_); rintro e w1 ⟨rfl, hW, hC⟩)
  have HW1 := Lib.hid hW
  have HC1 := Lib.hid hC
  clear hW hC
  go_wp2_with fail
  go_loopw [15] (fun vi wr => ∃ i : Nat, vi = .int .i64 i ∧ i ≤ l.length ∧ Hid (Wr wr w0.heap.size g (more ok w) (xs ++ encNum l.length ++ encAll encText (l.take i))) ∧ Hid (Chg ok w wr)) (fun vi _ => l.length - (intOf vi).toNat)
  case atStart => exact ⟨0, rfl, by omega, Lib.hid (by simpa [encAll] using HW1.out), HC1⟩
  case round =>
    obtain ⟨i, rfl, hi, HW, HC⟩ := hrel
    have HBw := Lib.hid (HB.out.trans (HC.out.belowB HB.out.size HOK.out))
    by_cases hlt : i < l.length
    · have hbi := hba.out i
      obtain ⟨ad, rfl, ha0⟩ := ReadsOf.at_ (d := ByteArray.empty) (show ReadsOf Value.string ByteArray.empty wr A l.length l from readsStr (Kd.C_below HR.out.1 HBw.out)) (i : Int) (by omega) (by omega)
      have hrx : rdOf ByteArray.empty l (i : Int) = l.getD i ByteArray.empty := by unfold rdOf; rw [Int.toNat_natCast]
      rw [hrx, Int.toNat_natCast] at ha0
      obtain ⟨x, hxe⟩ : ∃ x, x = l.getD i ByteArray.empty := ⟨_, rfl⟩
      rw [← hxe] at ha0
      have hz := H64.out x (by rw [hxe, List.getD_eq_getElem?_getD, List.getElem?_eq_getElem hlt]; exact List.getElem_mem hlt)
      have HXE := Lib.hid hxe
      have HZ := Lib.hid hz
      clear hxe hrx hz
      have HWx := HW
      have HCx := HC
      go_wp2_with fail
      ((with_reducible refine (text_calls _ _ _ _ _ x HWx.out (by rw [List.length_append, List.length_append]; omega) (by have := HZ.out; omega)).mono ?_); rintro e w2 ⟨rfl, hW, hC⟩)
      have HW2 := Lib.hid (hW.mono (more_more HCx.out.size))
      have HC2 := Lib.hid (HCx.out.then_more hC)
      clear hW hC HWx HCx
      go_wp2_with fail
      go_roundw
      case measure => simp [intOf]; omega
      case rel =>
        refine ⟨i + 1, by go_num, by omega, Lib.hid ?_, HC2⟩
        have := HW2.out
        rw [encAll_snoc _ l i ByteArray.empty hlt, ← List.append_assoc]
        rw [← HXE.out]
        exact this
    · obtain rfl : i = l.length := by omega
      go_wp2_with fail
      go_end0
      have := HW.out
      rw [List.take_of_length_le (Nat.le_refl _)] at this
      exact ⟨rfl, this, HC.out⟩

end Go.Proofs.Ytneebjlpeekmbaa
