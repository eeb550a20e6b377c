/- What a function that has blocks of its own lays by a Writer; the closures that lay a Ref and an Entry. Conditions: the kinds' ranges, fewer than 2^45 bytes. Put of package octet at Refs, Entries and texts. Conditions: the kinds' ranges; at most 5000 elements; fewer than 2^45 bytes. How a command and an instance are laid. Conditions: the kinds' ranges, lists of at most 5000, fewer than 2^44 bytes. How an instance is laid. Conditions: the kinds' ranges, lists of at most 5000, fewer than 2^44 bytes. -/
import Derived.Test.YtneebjlpeekmbaaPut
import Derived.Test.YtneebjlpeekmbaaSameA
namespace Go.Proofs.Ytneebjlpeekmbaa
open Go.RowKit Go.Proofs.YtneebjlpeekmbaaW.PrintWords Go.Proofs.YtneebjlpeekmbaaW.PrintLast Go.Proofs.YtneebjlpeekmbaaW.PrintMore PRef
set_option linter.unusedVariables false
set_option linter.unusedSimpArgs false

/-- ok without the blocks that a call has made for itself, till w1. -/
def okF (ok : Nat → Prop) (w w1 : World) (k : Nat) : Prop := (ok k ∧ k < w.heap.size) ∨ w1.heap.size ≤ k
/-- The Writer as it goes, behind w1. -/
structure St (w1 wr : World) (base g : Nat) (ok : Nat → Prop) (xs : List Int) : Prop where
  lay : Wr wr base g ok xs
  chg : Chg ok w1 wr
theorem St.begin {w w1 : World} {base g : Nat} {ok : Nat → Prop} {xs : List Int} (hW : Wr w base g ok xs) (hb : Below w.heap.size w w1) : St w1 w1 base g (okF ok w w1) xs := by
  refine ⟨?_, Chg.refl _ _⟩
  have h := hW.below hb
  obtain ⟨h0, h1, v, h2, h3, h4⟩ := hW
  refine ⟨h0, .inl ⟨h1, blk_lt h2⟩, v, blk_below h2 hb, own_move h3 (fun k hk => hb.block k (own_lt h3 k hk)), fun k hk => .inl ⟨h4 k hk, own_lt h3 k hk⟩⟩
theorem St.step {w w1 wr w2 : World} {base g : Nat} {ok : Nat → Prop} {xs ys : List Int} (h : St w1 wr base g (okF ok w w1) xs) (hW : Wr w2 base g (more (okF ok w w1) wr) ys) (hC : Chg (okF ok w w1) wr w2) : St w1 w2 base g (okF ok w w1) ys :=
  ⟨hW.mono fun k hk => by
    rcases hk with hk | hk
    · exact hk
    · exact .inr (Nat.le_trans h.2.size hk), h.2.trans hC fun _ _ h => h⟩
theorem St.below {w1 wr w2 : World} {base g : Nat} {ok : Nat → Prop} {xs : List Int} (h : St w1 wr base g ok xs) (hb : Below wr.heap.size wr w2) : St w1 w2 base g ok xs :=
  ⟨h.1.below hb, h.2.trans (Chg.of_same hb ok) fun _ _ h => h⟩
/-- A block of the call's own, made between w and w1, stays. -/
theorem St.keeps {w w1 wr : World} {base g b : Nat} {ok : Nat → Prop} {xs : List Int} {o : Obj} (h : St w1 wr base g (okF ok w w1) xs) (ho : w1.heap[b]? = some o) (hb : w.heap.size ≤ b) : wr.heap[b]? = some o :=
  h.2.get ho fun hk => by
    have := blk_lt ho
    rcases hk with hk | hk <;> omega
theorem St.final {w w1 wr : World} {base g : Nat} {ok : Nat → Prop} {xs : List Int} (h : St w1 wr base g (okF ok w w1) xs) (hb : Below w.heap.size w w1) : Wr wr base g (more ok w) xs ∧ Chg ok w wr :=
  ⟨h.1.mono fun k hk => by
    rcases hk with hk | hk
    · exact .inl hk.1
    · exact .inr (Nat.le_trans hb.size hk), (Chg.of_same hb ok).trans h.2 fun i hi hk => by
    rcases hk with hk | hk
    · exact hk.1
    · have := hb.size; omega⟩
theorem St.belowB {w w1 wr : World} {base g : Nat} {ok : Nat → Prop} {xs : List Int} (h : St w1 wr base g (okF ok w w1) xs) (hb : Below w.heap.size w w1) (hB : base ≤ w.heap.size) (hok : ∀ k, ok k → base ≤ k) : Below base w1 wr :=
  h.2.below (Nat.le_trans hB hb.size) fun i hi hk => by
    rcases hk with hk | hk
    · have := hok i hk.1; omega
    · have := hb.size; omega

abbrev I64 (n : Int) : Prop := -9223372036854775808 ≤ n ∧ n ≤ 9223372036854775807
def encRef (x : S23) : List Int := encInt x.f0 ++ encInt x.f1
def encEnt (x : S60) : List Int := encInt x.f0 ++ encInt x.f1 ++ encText x.f2

set_option maxRecDepth 100000 in
set_option maxHeartbeats 1000000 in
theorem layref_calls (w : World) (base g : Nat) (ok : Nat → Prop) (xs : List Int) (x : S23) (hW : Wr w base g ok xs) (hl : xs.length < 35184372080000) (h0 : I64 x.f0) (h1 : I64 x.f1) :
    Calls Try.prog 62 #[.pointer (some ⟨g, 0, none⟩), .agg #[.int .i64 x.f0, .int .i64 x.f1]] w fun e w' => e = .returned (.tuple #[]) ∧ Wr w' base g (more ok w) (xs ++ encRef x) ∧ Chg ok w w' := by
  obtain ⟨a, b⟩ := x
  dsimp only at h0 h1 ⊢
  have hb := (Below.refl w.heap.size w).alloc (Nat.le_refl _) (.cells #[.int .i64 a, .int .i64 b] 23)
  have HBK := Lib.hid (blk_new w (.cells #[.int .i64 a, .int .i64 b] 23))
  have HS := Lib.hid (St.begin hW hb)
  have HB := Lib.hid hb
  have HA := encInt_length a h0.1 h0.2
  clear hW hb
  go_enter Try.func62, Try.ntmps62
  go_wp2_with fail
  generalize w.alloc (.cells #[.int .i64 a, .int .i64 b] 23) = w1 at HBK HS HB ⊢
  ((with_reducible refine (int_calls _ _ _ _ _ a HS.out.1 (by omega) h0.1 h0.2).mono ?_); rintro e w2 ⟨rfl, hW, hC⟩)
  have HS2 := Lib.hid (HS.out.step hW hC)
  have hc : w2.cell? ⟨w.heap.size, 1, none⟩ = some (.int .i64 b) := by rw [blk_cell (HS2.out.keeps HBK.out (Nat.le_refl _))]; rfl
  clear hW hC HS
  go_wp2_with fail
  ((with_reducible refine (int_calls _ _ _ _ _ b HS2.out.1 (by rw [List.length_append]; omega) h1.1 h1.2).mono ?_); rintro e w3 ⟨rfl, hW, hC⟩)
  have HS3 := Lib.hid (HS2.out.step hW hC)
  clear hW hC HS2
  go_wp2_with fail
  go_end0
  have := HS3.out.final HB.out
  rw [List.append_assoc] at this
  exact ⟨rfl, this⟩

set_option maxRecDepth 100000 in
set_option maxHeartbeats 1000000 in
theorem layent_calls (w : World) (base g : Nat) (ok : Nat → Prop) (xs : List Int) (x : S60) (hW : Wr w base g ok xs) (hl : xs.length < 35184372080000) (h0 : I64 x.f0) (h1 : I64 x.f1) (h2 : x.f2.size ≤ 70368744177664) :
    Calls Try.prog 28 #[.pointer (some ⟨g, 0, none⟩), .agg #[.int .i64 x.f0, .int .i64 x.f1, .string x.f2]] w fun e w' => e = .returned (.tuple #[]) ∧ Wr w' base g (more ok w) (xs ++ encEnt x) ∧ Chg ok w w' := by
  obtain ⟨a, b, s⟩ := x
  dsimp only at h0 h1 h2 ⊢
  have hb := (Below.refl w.heap.size w).alloc (Nat.le_refl _) (.cells #[.int .i64 a, .int .i64 b, .string s] 60)
  have HBK := Lib.hid (blk_new w (.cells #[.int .i64 a, .int .i64 b, .string s] 60))
  have HS := Lib.hid (St.begin hW hb)
  have HB := Lib.hid hb
  have HA := encInt_length a h0.1 h0.2
  have HA2 := encInt_length b h1.1 h1.2
  clear hW hb
  go_enter Try.func28, Try.ntmps28
  go_wp2_with fail
  generalize w.alloc (.cells #[.int .i64 a, .int .i64 b, .string s] 60) = w1 at HBK HS HB ⊢
  ((with_reducible refine (int_calls _ _ _ _ _ a HS.out.1 (by omega) h0.1 h0.2).mono ?_); rintro e w2 ⟨rfl, hW, hC⟩)
  have HS2 := Lib.hid (HS.out.step hW hC)
  have hc : w2.cell? ⟨w.heap.size, 1, none⟩ = some (.int .i64 b) := by rw [blk_cell (HS2.out.keeps HBK.out (Nat.le_refl _))]; rfl
  clear hW hC HS
  go_wp2_with fail
  ((with_reducible refine (int_calls _ _ _ _ _ b HS2.out.1 (by rw [List.length_append]; omega) h1.1 h1.2).mono ?_); rintro e w3 ⟨rfl, hW, hC⟩)
  have HS3 := Lib.hid (HS2.out.step hW hC)
  have hc2 : w3.cell? ⟨w.heap.size, 2, none⟩ = some (.string s) := by rw [blk_cell (HS3.out.keeps HBK.out (Nat.le_refl _))]; rfl
  clear hW hC HS2 hc
  go_wp2_with fail
  ((with_reducible refine (text_calls _ _ _ _ _ s HS3.out.1 (by rw [List.length_append, List.length_append]; omega) h2).mono ?_); rintro e w4 ⟨rfl, hW, hC⟩)
  have HS4 := Lib.hid (HS3.out.step hW hC)
  clear hW hC HS3
  go_wp2_with fail
  go_end0
  have := HS4.out.final HB.out
  rw [List.append_assoc, List.append_assoc] at this
  refine ⟨rfl, ?_⟩
  unfold encEnt
  rw [List.append_assoc]
  exact this

end Go.Proofs.Ytneebjlpeekmbaa

namespace Go.Proofs.Ytneebjlpeekmbaa
open Go.RowKit Go.Proofs.YtneebjlpeekmbaaW.PrintWords Go.Proofs.YtneebjlpeekmbaaW.PrintLast Go.Proofs.YtneebjlpeekmbaaW.PrintMore PRef
set_option linter.unusedVariables false
set_option linter.unusedSimpArgs false

theorem Chg.belowB {B : Nat} {ok : Nat → Prop} {w w1 : World} (h : Chg ok w w1) (hB : B ≤ w.heap.size) (hok : ∀ k, ok k → B ≤ k) : Below B w w1 := h.below hB fun i hi hk => by have := hok i hk; omega
theorem encRef_length (x : S23) (h0 : I64 x.f0) (h1 : I64 x.f1) : (encRef x).length ≤ 22 := by
  have a := encInt_length x.f0 h0.1 h0.2
  have b := encInt_length x.f1 h1.1 h1.2
  unfold encRef
  rw [List.length_append]; omega
theorem encEnt_length (x : S60) (h0 : I64 x.f0) (h1 : I64 x.f1) (h2 : x.f2.size ≤ 2097152) : (encEnt x).length ≤ 2097300 := by
  have a := encInt_length x.f0 h0.1 h0.2
  have b := encInt_length x.f1 h1.1 h1.2
  have c := encText_length x.f2 (by omega)
  unfold encEnt
  rw [List.length_append, List.length_append]; omega

set_option maxRecDepth 100000 in
set_option maxHeartbeats 1000000 in
theorem putref_calls (w0 w : World) (g : Nat) (ok : Nat → Prop) (xs : List Int) (A : Option Addr) (c : Nat) (l : List S23) (hW : Wr w w0.heap.size g ok xs) (hok : ∀ k, ok k → w0.heap.size ≤ k) (hB : Below w0.heap.size w0 w) (hr : InR w0 A c l) (hl : l.length ≤ 5000) (hx : xs.length ≤ 17592186044416) (h64 : ∀ x ∈ l, I64 x.f0 ∧ I64 x.f1) :
    Calls Try.prog 61 #[.pointer (some ⟨g, 0, none⟩), .slice A l.length c, .func (.func 62) #[] #[]] w fun e w' => e = .returned (.tuple #[]) ∧ Wr w' w0.heap.size g (more ok w) (xs ++ encNum l.length ++ encAll encRef l) ∧ Chg ok w w' := by
  have HW := Lib.hid hW
  have HR := Lib.hid hr
  have HB := Lib.hid hB
  have H64 := Lib.hid h64
  have HOK := Lib.hid hok
  have hba : Hid (∀ i, (encAll encRef (l.take i)).length ≤ 22 * l.length) := Lib.hid (fun i => by
    refine Nat.le_trans (encAll_le _ _ 22 (fun x hx => ?_)) (by rw [List.length_take]; exact Nat.mul_le_mul_left _ (by omega))
    have hx := h64 x (List.mem_of_mem_take hx)
    exact encRef_length x hx.1 hx.2)
  clear hW hr hB h64 hok
  have hln := encNum_length l.length (by omega)
  have hu23 := Try.underlying23
  go_enter Try.func61, Try.ntmps61
  go_wp2_with fail
  ((with_reducible refine (num_calls _ _ _ _ _ l.length HW.out (by omega) (by omega)).mono ?_); rintro e w1 ⟨rfl, hW, hC⟩)
  have HW1 := Lib.hid hW
  have HC1 := Lib.hid hC
  clear hW hC
  go_wp2_with fail
  go_loopw [15] (fun vi wr => ∃ i : Nat, vi = .int .i64 i ∧ i ≤ l.length ∧ Hid (Wr wr w0.heap.size g (more ok w) (xs ++ encNum l.length ++ encAll encRef (l.take i))) ∧ Hid (Chg ok w wr)) (fun vi _ => l.length - (intOf vi).toNat)
  case atStart => exact ⟨0, rfl, by omega, Lib.hid (by simpa [encAll] using HW1.out), HC1⟩
  case round =>
    obtain ⟨i, rfl, hi, HW, HC⟩ := hrel
    have HBw := Lib.hid (HB.out.trans (HC.out.belowB HB.out.size HOK.out))
    by_cases hlt : i < l.length
    · have hbi := hba.out i
      obtain ⟨ad, rfl, ha0, ha1⟩ := at_T23 (Kd.C_below HR.out.1 HBw.out) (i : Int) (by omega) (by omega)
      have hrx : rd_T23 l (i : Int) = l.getD i z23 := by unfold rd_T23; rw [Int.toNat_natCast]
      rw [hrx, Int.toNat_natCast] at ha0 ha1
      obtain ⟨x, hxe⟩ : ∃ x, x = l.getD i z23 := ⟨_, rfl⟩
      rw [← hxe] at ha0 ha1
      have hz := H64.out x (by rw [hxe, List.getD_eq_getElem?_getD, List.getElem?_eq_getElem hlt]; exact List.getElem_mem hlt)
      have HXE := Lib.hid hxe
      have HZ := Lib.hid hz
      clear hxe hrx hz
      have HWx := Lib.hid (HW.out.below ((Below.refl wr.heap.size wr).alloc (Nat.le_refl _) (.cells #[.int .i64 x.f0, .int .i64 x.f1] 23)))
      have HCx := Lib.hid (HC.out.alloc (.cells #[.int .i64 x.f0, .int .i64 x.f1] 23))
      go_wp2_with fail
      generalize wr.alloc (.cells #[.int .i64 x.f0, .int .i64 x.f1] 23) = wx at HWx HCx ⊢
      ((with_reducible refine (layref_calls _ _ _ _ _ x HWx.out (by rw [List.length_append, List.length_append]; omega) HZ.out.1 HZ.out.2).mono ?_); rintro e w2 ⟨rfl, hW, hC⟩)
      have HW2 := Lib.hid (hW.mono (more_more HCx.out.size))
      have HC2 := Lib.hid (HCx.out.then_more hC)
      clear hW hC HWx HCx
      go_wp2_with fail
      go_roundw
      case measure => simp [intOf]; omega
      case rel =>
        refine ⟨i + 1, by go_num, by omega, Lib.hid ?_, HC2⟩
        have := HW2.out
        rw [encAll_snoc _ l i z23 hlt, ← List.append_assoc]
        rw [← HXE.out]
        exact this
    · obtain rfl : i = l.length := by omega
      go_wp2_with fail
      go_end0
      have := HW.out
      rw [List.take_of_length_le (Nat.le_refl _)] at this
      exact ⟨rfl, this, HC.out⟩

set_option maxRecDepth 100000 in
set_option maxHeartbeats 1000000 in
theorem putent_calls (w0 w : World) (g : Nat) (ok : Nat → Prop) (xs : List Int) (A : Option Addr) (c : Nat) (l : List S60) (hW : Wr w w0.heap.size g ok xs) (hok : ∀ k, ok k → w0.heap.size ≤ k) (hB : Below w0.heap.size w0 w) (hr : InE w0 A c l) (hl : l.length ≤ 5000) (hx : xs.length ≤ 17592186044416) (h64 : ∀ x ∈ l, I64 x.f0 ∧ I64 x.f1 ∧ x.f2.size ≤ 2097152) :
    Calls Try.prog 27 #[.pointer (some ⟨g, 0, none⟩), .slice A l.length c, .func (.func 28) #[] #[]] w fun e w' => e = .returned (.tuple #[]) ∧ Wr w' w0.heap.size g (more ok w) (xs ++ encNum l.length ++ encAll encEnt l) ∧ Chg ok w w' := by
  have HW := Lib.hid hW
  have HR := Lib.hid hr
  have HB := Lib.hid hB
  have H64 := Lib.hid h64
  have HOK := Lib.hid hok
  have hba : Hid (∀ i, (encAll encEnt (l.take i)).length ≤ 2097300 * l.length) := Lib.hid (fun i => by
    refine Nat.le_trans (encAll_le _ _ 2097300 (fun x hx => ?_)) (by rw [List.length_take]; exact Nat.mul_le_mul_left _ (by omega))
    have hx := h64 x (List.mem_of_mem_take hx)
    exact encEnt_length x hx.1 hx.2.1 hx.2.2)
  clear hW hr hB h64 hok
  have hln := encNum_length l.length (by omega)
  have hu60 := Try.underlying60
  go_enter Try.func27, Try.ntmps27
  go_wp2_with fail
  ((with_reducible refine (num_calls _ _ _ _ _ l.length HW.out (by omega) (by omega)).mono ?_); rintro e w1 ⟨rfl, hW, hC⟩)
  have HW1 := Lib.hid hW
  have HC1 := Lib.hid hC
  clear hW hC
  go_wp2_with fail
  go_loopw [15] (fun vi wr => ∃ i : Nat, vi = .int .i64 i ∧ i ≤ l.length ∧ Hid (Wr wr w0.heap.size g (more ok w) (xs ++ encNum l.length ++ encAll encEnt (l.take i))) ∧ Hid (Chg ok w wr)) (fun vi _ => l.length - (intOf vi).toNat)
  case atStart => exact ⟨0, rfl, by omega, Lib.hid (by simpa [encAll] using HW1.out), HC1⟩
  case round =>
    obtain ⟨i, rfl, hi, HW, HC⟩ := hrel
    have HBw := Lib.hid (HB.out.trans (HC.out.belowB HB.out.size HOK.out))
    by_cases hlt : i < l.length
    · have hbi := hba.out i
      obtain ⟨ad, rfl, ha0, ha1, ha2⟩ := at_T60 (Kd.C_below HR.out.1 HBw.out) (i : Int) (by omega) (by omega)
      have hrx : rd_T60 l (i : Int) = l.getD i z60 := by unfold rd_T60; rw [Int.toNat_natCast]
      rw [hrx, Int.toNat_natCast] at ha0 ha1 ha2
      obtain ⟨x, hxe⟩ : ∃ x, x = l.getD i z60 := ⟨_, rfl⟩
      rw [← hxe] at ha0 ha1 ha2
      have hz := H64.out x (by rw [hxe, List.getD_eq_getElem?_getD, List.getElem?_eq_getElem hlt]; exact List.getElem_mem hlt)
      have HXE := Lib.hid hxe
      have HZ := Lib.hid hz
      clear hxe hrx hz
      have HWx := Lib.hid (HW.out.below ((Below.refl wr.heap.size wr).alloc (Nat.le_refl _) (.cells #[.int .i64 x.f0, .int .i64 x.f1, .string x.f2] 60)))
      have HCx := Lib.hid (HC.out.alloc (.cells #[.int .i64 x.f0, .int .i64 x.f1, .string x.f2] 60))
      go_wp2_with fail
      generalize wr.alloc (.cells #[.int .i64 x.f0, .int .i64 x.f1, .string x.f2] 60) = wx at HWx HCx ⊢
      ((with_reducible refine (layent_calls _ _ _ _ _ x HWx.out (by rw [List.length_append, List.length_append]; omega) HZ.out.1 HZ.out.2.1 (by have := HZ.out.2.2; omega)).mono ?_); rintro e w2 ⟨rfl, hW, hC⟩)
      have HW2 := Lib.hid (hW.mono (more_more HCx.out.size))
      have HC2 := Lib.hid (HCx.out.then_more hC)
      clear hW hC HWx HCx
      go_wp2_with fail
      go_roundw
      case measure => simp [intOf]; omega
      case rel =>
        refine ⟨i + 1, by go_num, by omega, Lib.hid ?_, HC2⟩
        have := HW2.out
        rw [encAll_snoc _ l i z60 hlt, ← List.append_assoc]
        rw [← HXE.out]
        exact this
    · obtain rfl : i = l.length := by omega
      go_wp2_with fail
      go_end0
      have := HW.out
      rw [List.take_of_length_le (Nat.le_refl _)] at this
      exact ⟨rfl, this, HC.out⟩

theorem readsStr {w : World} {A : Option Addr} {n : Nat} {xs : List ByteArray} (h : Kd.C Kd.string w A n xs) : ReadsOf Value.string ByteArray.empty w A n xs := by
  refine ⟨h.1, h.2.1, fun h0 => ?_⟩
  obtain ⟨ad, e, hc⟩ := h.2.2 h0
  refine ⟨ad, e, fun j hj => ?_⟩
  have hlt : j < xs.length := by have := h.1; omega
  obtain ⟨c, hs, hK, hcell⟩ := hc j _ (List.getElem?_eq_getElem hlt)
  have hc2 : c = [.string xs[j]] := hK
  subst hc2
  have := hcell 0 _ rfl
  rw [List.getD_eq_getElem?_getD, List.getElem?_eq_getElem hlt]
  have e1 : j * Kd.string.sz + 0 = j := by show j * 1 + 0 = j; omega
  rw [e1] at this
  simpa using this

set_option maxRecDepth 100000 in
set_option maxHeartbeats 1000000 in
theorem puttexts_calls (w0 w : World) (g : Nat) (ok : Nat → Prop) (xs : List Int) (A : Option Addr) (c : Nat) (l : List ByteArray) (hW : Wr w w0.heap.size g ok xs) (hok : ∀ k, ok k → w0.heap.size ≤ k) (hB : Below w0.heap.size w0 w) (hr : InC w0 A c l) (hl : l.length ≤ 5000) (hx : xs.length ≤ 17592186044416) (h64 : ∀ x ∈ l, x.size ≤ 2097152) :
    Calls Try.prog 85 #[.pointer (some ⟨g, 0, none⟩), .slice A l.length c, .func (.func 29) #[] #[]] w fun e w' => e = .returned (.tuple #[]) ∧ Wr w' w0.heap.size g (more ok w) (xs ++ encNum l.length ++ encAll encText l) ∧ Chg ok w w' := by
  have HW := Lib.hid hW
  have HR := Lib.hid hr
  have HB := Lib.hid hB
  have H64 := Lib.hid h64
  have HOK := Lib.hid hok
  have hba : Hid (∀ i, (encAll encText (l.take i)).length ≤ 2097162 * l.length) := Lib.hid (fun i => by
    refine Nat.le_trans (encAll_le _ _ 2097162 (fun x hx => ?_)) (by rw [List.length_take]; exact Nat.mul_le_mul_left _ (by omega))
    have hx := h64 x (List.mem_of_mem_take hx)
    exact Nat.le_trans (encText_length x (by omega)) (by omega))
  clear hW hr hB h64 hok
  have hln := encNum_length l.length (by omega)
  go_enter Try.func85, Try.ntmps85
  go_wp2_with fail
  ((with_reducible refine (num_calls _ _ _ _ _ l.length HW.out (by omega) (by omega)).mono ?_); rintro e w1 ⟨rfl, hW, hC⟩)
  have HW1 := Lib.hid hW
  have HC1 := Lib.hid hC
  clear hW hC
  go_wp2_with fail
  go_loopw [15] (fun vi wr => ∃ i : Nat, vi = .int .i64 i ∧ i ≤ l.length ∧ Hid (Wr wr w0.heap.size g (more ok w) (xs ++ encNum l.length ++ encAll encText (l.take i))) ∧ Hid (Chg ok w wr)) (fun vi _ => l.length - (intOf vi).toNat)
  case atStart => exact ⟨0, rfl, by omega, Lib.hid (by simpa [encAll] using HW1.out), HC1⟩
  case round =>
    obtain ⟨i, rfl, hi, HW, HC⟩ := hrel
    have HBw := Lib.hid (HB.out.trans (HC.out.belowB HB.out.size HOK.out))
    by_cases hlt : i < l.length
    · have hbi := hba.out i
      obtain ⟨ad, rfl, ha0⟩ := ReadsOf.at_ (d := ByteArray.empty) (show ReadsOf Value.string ByteArray.empty wr A l.length l from readsStr (Kd.C_below HR.out.1 HBw.out)) (i : Int) (by omega) (by omega)
      have hrx : rdOf ByteArray.empty l (i : Int) = l.getD i ByteArray.empty := by unfold rdOf; rw [Int.toNat_natCast]
      rw [hrx, Int.toNat_natCast] at ha0
      obtain ⟨x, hxe⟩ : ∃ x, x = l.getD i ByteArray.empty := ⟨_, rfl⟩
      rw [← hxe] at ha0
      have hz := H64.out x (by rw [hxe, List.getD_eq_getElem?_getD, List.getElem?_eq_getElem hlt]; exact List.getElem_mem hlt)
      have HXE := Lib.hid hxe
      have HZ := Lib.hid hz
      clear hxe hrx hz
      have HWx := HW
      have HCx := HC
      go_wp2_with fail
      ((with_reducible refine (text_calls _ _ _ _ _ x HWx.out (by rw [List.length_append, List.length_append]; omega) (by have := HZ.out; omega)).mono ?_); rintro e w2 ⟨rfl, hW, hC⟩)
      have HW2 := Lib.hid (hW.mono (more_more HCx.out.size))
      have HC2 := Lib.hid (HCx.out.then_more hC)
      clear hW hC HWx HCx
      go_wp2_with fail
      go_roundw
      case measure => simp [intOf]; omega
      case rel =>
        refine ⟨i + 1, by go_num, by omega, Lib.hid ?_, HC2⟩
        have := HW2.out
        rw [encAll_snoc _ l i ByteArray.empty hlt, ← List.append_assoc]
        rw [← HXE.out]
        exact this
    · obtain rfl : i = l.length := by omega
      go_wp2_with fail
      go_end0
      have := HW.out
      rw [List.take_of_length_le (Nat.le_refl _)] at this
      exact ⟨rfl, this, HC.out⟩

end Go.Proofs.Ytneebjlpeekmbaa

namespace Go.Proofs.Ytneebjlpeekmbaa
open Go.RowKit Go.Proofs.YtneebjlpeekmbaaW.PrintWords Go.Proofs.YtneebjlpeekmbaaW.PrintLast Go.Proofs.YtneebjlpeekmbaaW.PrintMore PRef
set_option linter.unusedVariables false
set_option linter.unusedSimpArgs false

theorem St.keeps_ne {w1 wr : World} {base g b : Nat} {ok : Nat → Prop} {xs : List Int} {o : Obj} (h : St w1 wr base g ok xs) (ho : w1.heap[b]? = some o) (hn : ¬ ok b) : wr.heap[b]? = some o := h.2.get ho hn
theorem okF_not {ok : Nat → Prop} {w w1 : World} {b : Nat} (h0 : w.heap.size ≤ b) (h1 : b < w1.heap.size) : ¬ okF ok w w1 b := by
  intro hk
  rcases hk with hk | hk <;> omega
theorem okF_not2 {ok : Nat → Prop} {w w1 : World} {b : Nat} (h0 : ¬ ok b) (h1 : b < w1.heap.size) : ¬ okF ok w w1 b := by
  intro hk
  rcases hk with hk | hk
  · exact h0 hk.1
  · omega
/-- Whole numbers, laid. -/
theorem encAll_int_le (l : List Int) (h : ∀ x ∈ l, I64 x) (i : Nat) : (encAll encInt (l.take i)).length ≤ 11 * l.length := by
  refine Nat.le_trans (encAll_le _ _ 11 (fun x hx => ?_)) (by rw [List.length_take]; exact Nat.mul_le_mul_left _ (by omega))
  have hx := h x (List.mem_of_mem_take hx)
  exact encInt_length _ hx.1 hx.2
theorem ints_get (L : List Int) (cs : Array Value) (hc : cs.toList = L.map (Value.int .i64)) (i : Nat) (h : i < L.length) : cs[i]? = some (.int .i64 (L.getD i 0)) := by
  rw [← Array.getElem?_toList, hc, List.getElem?_map, List.getElem?_eq_getElem h, List.getD_eq_getElem?_getD, List.getElem?_eq_getElem h]
  rfl
def encCmd (c : Cmd) : List Int := c.op :: (encAll encInt [c.client, c.seq, c.cfrom, c.cto] ++ (encNum c.data.length ++ encAll encText c.data))
structure CmdOk (c : Cmd) : Prop where
  op : 0 ≤ c.op ∧ c.op ≤ 255
  client : I64 c.client
  seq : I64 c.seq
  cfrom : I64 c.cfrom
  cto : I64 c.cto
  data : c.data.length ≤ 5000 ∧ ∀ x ∈ c.data, x.size ≤ 2097152

set_option maxRecDepth 100000 in
set_option maxHeartbeats 2000000 in
theorem laycmd_calls (w0 w : World) (g : Nat) (ok : Nat → Prop) (xs : List Int) (A : Option Addr) (c : Nat) (x : Cmd) (hW : Wr w w0.heap.size g ok xs) (hok : ∀ k, ok k → w0.heap.size ≤ k) (hB : Below w0.heap.size w0 w) (hr : InC w0 A c x.data) (hl : xs.length ≤ 17592186040000) (hx : CmdOk x) :
    Calls Try.prog 60 #[.pointer (some ⟨g, 0, none⟩), .agg #[.int .i64 x.op, .int .i64 x.client, .int .i64 x.seq, .int .i64 x.cfrom, .int .i64 x.cto, .slice A x.data.length c]] w fun e w' => e = .returned (.tuple #[]) ∧ Wr w' w0.heap.size g (more ok w) (xs ++ encCmd x) ∧ Chg ok w w' := by
  obtain ⟨x0, x1, x2, x3, x4, x5⟩ := x
  obtain ⟨h0, h1, h2, h3, h4, h5⟩ := hx
  dsimp only at h0 h1 h2 h3 h4 h5 hr ⊢
  have hb := (Below.refl w.heap.size w).alloc (Nat.le_refl _) (.cells #[.int .i64 x0, .int .i64 x1, .int .i64 x2, .int .i64 x3, .int .i64 x4, .slice A x5.length c] 28)
  have HBK := Lib.hid (blk_new w (.cells #[.int .i64 x0, .int .i64 x1, .int .i64 x2, .int .i64 x3, .int .i64 x4, .slice A x5.length c] 28))
  have HS := Lib.hid (St.begin hW hb)
  have HB := Lib.hid hb
  have HB0 := Lib.hid hB
  have HOK := Lib.hid hok
  have HR := Lib.hid hr
  have hbw := hB.size
  have hwr : IntKind.u8.wrap x0 = x0 := by show x0 % 256 = x0; omega
  clear hW hb hB hok hr
  go_enter Try.func60, Try.ntmps60
  go_wp2_with fail
  generalize w.alloc (.cells #[.int .i64 x0, .int .i64 x1, .int .i64 x2, .int .i64 x3, .int .i64 x4, .slice A x5.length c] 28) = w1 at HBK HS HB ⊢
  ((with_reducible refine (byte_calls _ _ _ _ _ x0 HS.out.1 (by omega)).mono ?_); rintro e w2 ⟨rfl, hW, hC⟩)
  have HS2 := Lib.hid (HS.out.step hW hC)
  have hbk2 := HS2.out.keeps HBK.out (Nat.le_refl _)
  have hc1 : w2.cell? ⟨w.heap.size, 1, none⟩ = some (.int .i64 x1) := by rw [blk_cell hbk2]; rfl
  have hc2 : w2.cell? ⟨w.heap.size, 2, none⟩ = some (.int .i64 x2) := by rw [blk_cell hbk2]; rfl
  have hc3 : w2.cell? ⟨w.heap.size, 3, none⟩ = some (.int .i64 x3) := by rw [blk_cell hbk2]; rfl
  have hc4 : w2.cell? ⟨w.heap.size, 4, none⟩ = some (.int .i64 x4) := by rw [blk_cell hbk2]; rfl
  clear hW hC HS hbk2
  go_wp2_with fail
  have hb3 := (Below.refl w2.heap.size w2).alloc (Nat.le_refl _) (.cells #[.int .i64 x1, .int .i64 x2, .int .i64 x3, .int .i64 x4] 3)
  have HK3 := Lib.hid (blk_new w2 (.cells #[.int .i64 x1, .int .i64 x2, .int .i64 x3, .int .i64 x4] 3))
  have HT3 := Lib.hid (St.begin HS2.out.1 hb3)
  have HB3 := Lib.hid hb3
  have HL3 : Hid (∀ z ∈ [x1, x2, x3, x4], I64 z) := Lib.hid (by simp only [List.mem_cons, List.not_mem_nil, or_false]; rintro z (rfl | rfl | rfl | rfl) <;> assumption)
  have hle3 := encAll_int_le [x1, x2, x3, x4] HL3.out
  have HLE3 := Lib.hid hle3
  clear hb3 hle3
  generalize w2.alloc (.cells #[.int .i64 x1, .int .i64 x2, .int .i64 x3, .int .i64 x4] 3) = w3 at HK3 HT3 HB3 ⊢
  go_loopw [21] (fun vi wr => ∃ i : Nat, vi = .int .i64 i ∧ i ≤ 4 ∧ Hid (St w3 wr w0.heap.size g (okF (okF ok w w1) w2 w3) ((xs ++ [x0]) ++ encAll encInt ([x1, x2, x3, x4].take i)))) (fun vi _ => 4 - (intOf vi).toNat)
  case atStart => exact ⟨0, rfl, by omega, Lib.hid (by simpa [encAll] using HT3.out)⟩
  case round =>
  obtain ⟨i, rfl, hi, HT⟩ := hrel
  by_cases hlt : i < 4
  · have hrk := HT.out.keeps HK3.out (Nat.le_refl _)
    have hcell : wr.cell? ⟨w2.heap.size, i, none⟩ = some (.int .i64 ([x1, x2, x3, x4].getD i 0)) := by rw [blk_cell hrk]; exact ints_get [x1, x2, x3, x4] _ rfl i hlt
    have hz := HL3.out ([x1, x2, x3, x4].getD i 0) (by rw [List.getD_eq_getElem?_getD, List.getElem?_eq_getElem (show i < [x1, x2, x3, x4].length from hlt)]; exact List.getElem_mem _)
    have hle := HLE3.out i
    have hsn := encAll_snoc encInt [x1, x2, x3, x4] i 0 hlt
    have HSN := Lib.hid hsn
    clear hrk hsn
    generalize hzz : [x1, x2, x3, x4].getD i 0 = z at hcell hz HSN
    clear hzz
    go_wp2_with fail
    ((with_reducible refine (int_calls _ _ _ _ _ z HT.out.1 (by simp only [List.length_append, List.length_cons, List.length_nil] at hle ⊢; omega) hz.1 hz.2).mono ?_); rintro e wq ⟨rfl, hW, hC⟩)
    have HT2 := Lib.hid (HT.out.step hW hC)
    clear hW hC
    go_wp2_with fail
    go_roundw
    case measure => simp [intOf]; omega
    case rel => exact ⟨i + 1, by go_num, by omega, Lib.hid (by have := HT2.out; rw [HSN.out, ← List.append_assoc]; exact this)⟩
  obtain rfl : i = 4 := by omega
  have HS3 : Hid (St w1 wr w0.heap.size g (okF ok w w1) ((xs ++ [x0]) ++ encAll encInt [x1, x2, x3, x4])) := Lib.hid (HS2.out.step (HT.out.final HB3.out).1 (HT.out.final HB3.out).2)
  have HLF3 := HLE3.out 4
  rw [show [x1, x2, x3, x4].take 4 = [x1, x2, x3, x4] from rfl] at HLF3
  clear HT hlt hi HK3 HT3 HB3 HLE3 HL3
  have hbk4 := HS3.out.keeps HBK.out (Nat.le_refl _)
  have hc5 : wr.cell? ⟨w.heap.size, 5, none⟩ = some (.slice A x5.length c) := by rw [blk_cell hbk4]; rfl
  clear hc1 hc2 hc3 hc4 hbk4
  have HBR := Lib.hid ((HB0.out.trans (HB.out.mono hbw)).trans (HS3.out.belowB HB.out hbw HOK.out))
  have HOK1 : Hid (∀ k, okF ok w w1 k → w0.heap.size ≤ k) := Lib.hid (fun k hk => by
    have := HB.out.size
    rcases hk with hk | hk
    · exact HOK.out k hk.1
    · omega)
  go_wp2_with fail
  ((with_reducible refine (puttexts_calls w0 _ _ _ _ _ _ x5 HS3.out.1 HOK1.out HBR.out HR.out h5.1 (by simp only [List.length_append, List.length_cons, List.length_nil] at HLF3 ⊢; omega) h5.2).mono ?_); rintro e w5 ⟨rfl, hW, hC⟩)
  have HS5 := Lib.hid (HS3.out.step hW hC)
  clear hW hC HS3
  go_wp2_with fail
  go_end0
  have := HS5.out.final HB.out
  refine ⟨rfl, ?_⟩
  unfold encCmd
  simp only [List.append_assoc, List.singleton_append] at this ⊢
  exact this

end Go.Proofs.Ytneebjlpeekmbaa

namespace Go.Proofs.Ytneebjlpeekmbaa
open Go.RowKit Go.Proofs.YtneebjlpeekmbaaW.PrintWords Go.Proofs.YtneebjlpeekmbaaW.PrintLast Go.Proofs.YtneebjlpeekmbaaW.PrintMore PRef
set_option linter.unusedVariables false
set_option linter.unusedSimpArgs false

def encInst (x : Inst) : List Int := encAll encInt [x.lead, x.index, x.bn, x.bnode, x.vn, x.vnode, x.status] ++ ((if x.same = true then 1 else 0) :: (encCmd x.cmd ++ (encInt x.iseq ++ (encNum x.deps.length ++ encAll encRef x.deps))))
structure InstOk (x : Inst) : Prop where
  lead : I64 x.lead
  index : I64 x.index
  bn : I64 x.bn
  bnode : I64 x.bnode
  vn : I64 x.vn
  vnode : I64 x.vnode
  status : I64 x.status
  cmd : CmdOk x.cmd
  iseq : I64 x.iseq
  deps : x.deps.length ≤ 5000 ∧ ∀ r ∈ x.deps, I64 r.f0 ∧ I64 r.f1
theorem encCmd_length (x : Cmd) (h : CmdOk x) : (encCmd x).length ≤ 60 + 2097162 * x.data.length := by
  have h1 := encAll_int_le [x.client, x.seq, x.cfrom, x.cto] (by simp only [List.mem_cons, List.not_mem_nil, or_false]; rintro z (rfl | rfl | rfl | rfl); exact h.client; exact h.seq; exact h.cfrom; exact h.cto) 4
  have h2 := encNum_length x.data.length (by have := h.data.1; omega)
  have h3 := encAll_le encText x.data 2097162 (fun s hs => Nat.le_trans (encText_length s (by have := h.data.2 s hs; omega)) (by have := h.data.2 s hs; omega))
  rw [show [x.client, x.seq, x.cfrom, x.cto].take 4 = [x.client, x.seq, x.cfrom, x.cto] from rfl] at h1
  unfold encCmd
  simp only [List.length_append, List.length_cons, List.length_nil] at h1 ⊢
  omega

set_option maxRecDepth 100000 in
set_option maxHeartbeats 4000000 in
theorem layinst_calls (w0 w : World) (g : Nat) (ok : Nat → Prop) (xs : List Int) (A1 A2 : Option Addr) (c1 c2 : Nat) (x : Inst) (hW : Wr w w0.heap.size g ok xs) (hok : ∀ k, ok k → w0.heap.size ≤ k) (hB : Below w0.heap.size w0 w) (hr1 : InC w0 A1 c1 x.cmd.data) (hr2 : InR w0 A2 c2 x.deps) (hl : xs.length ≤ 8796093022000) (hx : InstOk x) :
    Calls Try.prog 25 #[.pointer (some ⟨g, 0, none⟩), .agg #[.int .i64 x.lead, .int .i64 x.index, .int .i64 x.bn, .int .i64 x.bnode, .int .i64 x.vn, .int .i64 x.vnode, .int .i64 x.status, .bool x.same, .int .i64 x.cmd.op, .int .i64 x.cmd.client, .int .i64 x.cmd.seq, .int .i64 x.cmd.cfrom, .int .i64 x.cmd.cto, .slice A1 x.cmd.data.length c1, .int .i64 x.iseq, .slice A2 x.deps.length c2]] w fun e w' => e = .returned (.tuple #[]) ∧ Wr w' w0.heap.size g (more ok w) (xs ++ encInst x) ∧ Chg ok w w' := by
  obtain ⟨x0, x1, x2, x3, x4, x5, x6, x7, x8, x9, x10⟩ := x
  obtain ⟨h0, h1, h2, h3, h4, h5, h6, h8, h9, h10⟩ := hx
  have hcl := encCmd_length x8 h8
  have hdl := h8.data.1
  obtain ⟨q0, q1, q2, q3, q4, q5⟩ := x8
  dsimp only at h0 h1 h2 h3 h4 h5 h6 h8 h9 h10 hr1 hr2 hcl hdl ⊢
  have hb := (Below.refl w.heap.size w).alloc (Nat.le_refl _) (.cells #[.int .i64 x0, .int .i64 x1, .int .i64 x2, .int .i64 x3, .int .i64 x4, .int .i64 x5, .int .i64 x6, .bool x7, .int .i64 q0, .int .i64 q1, .int .i64 q2, .int .i64 q3, .int .i64 q4, .slice A1 q5.length c1, .int .i64 x9, .slice A2 x10.length c2] 31)
  have HBK := Lib.hid (blk_new w (.cells #[.int .i64 x0, .int .i64 x1, .int .i64 x2, .int .i64 x3, .int .i64 x4, .int .i64 x5, .int .i64 x6, .bool x7, .int .i64 q0, .int .i64 q1, .int .i64 q2, .int .i64 q3, .int .i64 q4, .slice A1 q5.length c1, .int .i64 x9, .slice A2 x10.length c2] 31))
  have HS := Lib.hid (St.begin hW hb)
  have HB := Lib.hid hb
  have HB0 := Lib.hid hB
  have HOK := Lib.hid hok
  have HR1 := Lib.hid hr1
  have HR2 := Lib.hid hr2
  have hbw := hB.size
  have HCO := Lib.hid h8
  have hu31 := Try.underlying31
  have hu23 := Try.underlying23
  have hu25 := Try.underlying25
  clear hW hb hB hok hr1 hr2 h8
  have HOK1 : Hid (∀ w1 : World, Below w.heap.size w w1 → ∀ k, okF ok w w1 k → w0.heap.size ≤ k) := Lib.hid (fun w1 hb k hk => by
    have := hb.size
    rcases hk with hk | hk
    · exact HOK.out k hk.1
    · omega)
  go_enter Try.func25, Try.ntmps25
  go_upto_region 1 with fail
  generalize w.alloc (.cells #[.int .i64 x0, .int .i64 x1, .int .i64 x2, .int .i64 x3, .int .i64 x4, .int .i64 x5, .int .i64 x6, .bool x7, .int .i64 q0, .int .i64 q1, .int .i64 q2, .int .i64 q3, .int .i64 q4, .slice A1 q5.length c1, .int .i64 x9, .slice A2 x10.length c2] 31) = w1 at HBK HS HB ⊢
  have c0x0 : w1.cell? ⟨w.heap.size, 0, none⟩ = some (.int .i64 x0) := by rw [blk_cell HBK.out]; rfl
  have c0x1 : w1.cell? ⟨w.heap.size, 1, none⟩ = some (.int .i64 x1) := by rw [blk_cell HBK.out]; rfl
  have c0x2 : w1.cell? ⟨w.heap.size, 2, none⟩ = some (.int .i64 x2) := by rw [blk_cell HBK.out]; rfl
  have c0x3 : w1.cell? ⟨w.heap.size, 3, none⟩ = some (.int .i64 x3) := by rw [blk_cell HBK.out]; rfl
  have c0x4 : w1.cell? ⟨w.heap.size, 4, none⟩ = some (.int .i64 x4) := by rw [blk_cell HBK.out]; rfl
  have c0x5 : w1.cell? ⟨w.heap.size, 5, none⟩ = some (.int .i64 x5) := by rw [blk_cell HBK.out]; rfl
  have c0x6 : w1.cell? ⟨w.heap.size, 6, none⟩ = some (.int .i64 x6) := by rw [blk_cell HBK.out]; rfl
  go_wp2_with fail
  have hb3 := (Below.refl w1.heap.size w1).alloc (Nat.le_refl _) (.cells #[.int .i64 x0, .int .i64 x1, .int .i64 x2, .int .i64 x3, .int .i64 x4, .int .i64 x5, .int .i64 x6] 3)
  have HK3 := Lib.hid (blk_new w1 (.cells #[.int .i64 x0, .int .i64 x1, .int .i64 x2, .int .i64 x3, .int .i64 x4, .int .i64 x5, .int .i64 x6] 3))
  have HT3 := Lib.hid (St.begin HS.out.1 hb3)
  have HB3 := Lib.hid hb3
  have HL3 : Hid (∀ z ∈ [x0, x1, x2, x3, x4, x5, x6], I64 z) := Lib.hid (by simp only [List.mem_cons, List.not_mem_nil, or_false]; rintro z (rfl | rfl | rfl | rfl | rfl | rfl | rfl) <;> assumption)
  have hle3 := encAll_int_le [x0, x1, x2, x3, x4, x5, x6] HL3.out
  have HLE3 := Lib.hid hle3
  clear hb3 hle3
  generalize w1.alloc (.cells #[.int .i64 x0, .int .i64 x1, .int .i64 x2, .int .i64 x3, .int .i64 x4, .int .i64 x5, .int .i64 x6] 3) = w3 at HK3 HT3 HB3 ⊢
  go_loopw [28] (fun vi wr => ∃ i : Nat, vi = .int .i64 i ∧ i ≤ 7 ∧ Hid (St w3 wr w0.heap.size g (okF (okF ok w w1) w1 w3) (xs ++ encAll encInt ([x0, x1, x2, x3, x4, x5, x6].take i)))) (fun vi _ => 7 - (intOf vi).toNat)
  case atStart => exact ⟨0, rfl, by omega, Lib.hid (by simpa [encAll] using HT3.out)⟩
  case round =>
  obtain ⟨i, rfl, hi, HT⟩ := hrel
  by_cases hlt : i < 7
  · have hrk := HT.out.keeps HK3.out (Nat.le_refl _)
    have hcell : wr.cell? ⟨w1.heap.size, i, none⟩ = some (.int .i64 ([x0, x1, x2, x3, x4, x5, x6].getD i 0)) := by rw [blk_cell hrk]; exact ints_get [x0, x1, x2, x3, x4, x5, x6] _ rfl i hlt
    have hz := HL3.out ([x0, x1, x2, x3, x4, x5, x6].getD i 0) (by rw [List.getD_eq_getElem?_getD, List.getElem?_eq_getElem (show i < [x0, x1, x2, x3, x4, x5, x6].length from hlt)]; exact List.getElem_mem _)
    have hle := HLE3.out i
    have hsn := encAll_snoc encInt [x0, x1, x2, x3, x4, x5, x6] i 0 hlt
    have HSN := Lib.hid hsn
    clear hrk hsn
    generalize hzz : [x0, x1, x2, x3, x4, x5, x6].getD i 0 = z at hcell hz HSN
    clear hzz
    go_wp2_with fail
    ((with_reducible refine (int_calls _ _ _ _ _ z HT.out.1 (by simp only [List.length_append, List.length_cons, List.length_nil] at hle ⊢; omega) hz.1 hz.2).mono ?_); rintro e wq ⟨rfl, hW, hC⟩)
    have HT2 := Lib.hid (HT.out.step hW hC)
    clear hW hC
    go_wp2_with fail
    go_roundw
    case measure => simp [intOf]; omega
    case rel => exact ⟨i + 1, by go_num, by omega, Lib.hid (by have := HT2.out; rw [HSN.out, ← List.append_assoc]; exact this)⟩
  obtain rfl : i = 7 := by omega
  have HS3 : Hid (St w1 wr w0.heap.size g (okF ok w w1) (xs ++ encAll encInt [x0, x1, x2, x3, x4, x5, x6])) := Lib.hid (HS.out.step (HT.out.final HB3.out).1 (HT.out.final HB3.out).2)
  have HLF3 := HLE3.out 7
  rw [show [x0, x1, x2, x3, x4, x5, x6].take 7 = [x0, x1, x2, x3, x4, x5, x6] from rfl] at HLF3
  clear HT hlt hi HK3 HT3 HB3 HLE3 HL3
  clear c0x0 c0x1 c0x2 c0x3 c0x4 c0x5 c0x6
  have hbk4 := HS3.out.keeps HBK.out (Nat.le_refl _)
  have cwrx7 : wr.cell? ⟨w.heap.size, 7, none⟩ = some (.bool x7) := by rw [blk_cell hbk4]; rfl
  clear hbk4
  go_wp2_with fail
  ((with_reducible refine (bool_calls _ _ _ _ _ x7 HS3.out.1 (by simp only [List.length_append, List.length_cons, List.length_nil] at HLF3 ⊢; omega)).mono ?_); rintro e w5 ⟨rfl, hW, hC⟩)
  have HS5 := Lib.hid (HS3.out.step hW hC)
  have hbk5 := HS5.out.keeps HBK.out (Nat.le_refl _)
  have cw5x8 : w5.cell? ⟨w.heap.size, 8, none⟩ = some (.int .i64 q0) := by rw [blk_cell hbk5]; rfl
  have cw5x9 : w5.cell? ⟨w.heap.size, 9, none⟩ = some (.int .i64 q1) := by rw [blk_cell hbk5]; rfl
  have cw5x10 : w5.cell? ⟨w.heap.size, 10, none⟩ = some (.int .i64 q2) := by rw [blk_cell hbk5]; rfl
  have cw5x11 : w5.cell? ⟨w.heap.size, 11, none⟩ = some (.int .i64 q3) := by rw [blk_cell hbk5]; rfl
  have cw5x12 : w5.cell? ⟨w.heap.size, 12, none⟩ = some (.int .i64 q4) := by rw [blk_cell hbk5]; rfl
  have cw5x13 : w5.cell? ⟨w.heap.size, 13, none⟩ = some (.slice A1 q5.length c1) := by rw [blk_cell hbk5]; rfl
  have HBR5 := Lib.hid ((HB0.out.trans (HB.out.mono hbw)).trans (HS5.out.belowB HB.out hbw HOK.out))
  clear hW hC hbk5 HS3
  go_wp2_with fail
  ((with_reducible refine (laycmd_calls w0 _ _ _ _ _ _ ⟨q0, q1, q2, q3, q4, q5⟩ HS5.out.1 (HOK1.out _ HB.out) HBR5.out HR1.out (by simp only [List.length_append, List.length_cons, List.length_nil] at HLF3 ⊢; omega) HCO.out).mono ?_); rintro e w6 ⟨rfl, hW, hC⟩)
  have HS6 := Lib.hid (HS5.out.step hW hC)
  have hbk6 := HS6.out.keeps HBK.out (Nat.le_refl _)
  have cw6x14 : w6.cell? ⟨w.heap.size, 14, none⟩ = some (.int .i64 x9) := by rw [blk_cell hbk6]; rfl
  clear hW hC hbk6 HS5 HBR5
  go_wp2_with fail
  ((with_reducible refine (int_calls _ _ _ _ _ x9 HS6.out.1 (by simp only [List.length_append, List.length_cons, List.length_nil] at HLF3 hcl ⊢; omega) h9.1 h9.2).mono ?_); rintro e w7 ⟨rfl, hW, hC⟩)
  have HS7 := Lib.hid (HS6.out.step hW hC)
  have hbk7 := HS7.out.keeps HBK.out (Nat.le_refl _)
  have cw7x15 : w7.cell? ⟨w.heap.size, 15, none⟩ = some (.slice A2 x10.length c2) := by rw [blk_cell hbk7]; rfl
  have HBR7 := Lib.hid ((HB0.out.trans (HB.out.mono hbw)).trans (HS7.out.belowB HB.out hbw HOK.out))
  have hil := encInt_length x9 h9.1 h9.2
  clear hW hC hbk7 HS6
  go_wp2_with fail
  ((with_reducible refine (putref_calls w0 _ _ _ _ _ _ x10 HS7.out.1 (HOK1.out _ HB.out) HBR7.out HR2.out h10.1 (by simp only [List.length_append, List.length_cons, List.length_nil] at HLF3 hcl ⊢; omega) h10.2).mono ?_); rintro e w8 ⟨rfl, hW, hC⟩)
  have HS8 := Lib.hid (HS7.out.step hW hC)
  clear hW hC HS7
  go_wp2_with fail
  go_end0
  have := HS8.out.final HB.out
  refine ⟨rfl, ?_⟩
  unfold encInst
  simp only [List.append_assoc, List.singleton_append, List.cons_append] at this ⊢
  exact this

end Go.Proofs.Ytneebjlpeekmbaa
