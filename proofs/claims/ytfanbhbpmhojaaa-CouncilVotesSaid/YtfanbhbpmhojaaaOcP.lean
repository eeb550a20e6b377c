/- The Writer of octets: an entry, a list of entries. Conditions: the worlds hold what is told of them. -/
import Derived.Test.YtfanbhbpmhojaaaOcR
namespace Go.Proofs.Ytfanbhbpmhojaaa
open Go.RowKit Go.Proofs.YtfanbhbpmhojaaaW.PrintWords Go.Proofs.YtfanbhbpmhojaaaW.PrintLast Go.Proofs.YtfanbhbpmhojaaaW.PrintMore PRef
set_option linter.unusedVariables false
set_option linter.unusedSimpArgs false
/-- The bytes of a list. -/
def encAll {α : Type} (f : α → List Int) (l : List α) : List Int := (l.map f).flatten
theorem encAll_snoc {α : Type} (f : α → List Int) (l : List α) (i : Nat) (d : α) (h : i < l.length) : encAll f (l.take (i + 1)) = encAll f (l.take i) ++ f (l.getD i d) := by
  unfold encAll
  rw [List.take_add_one, List.getElem?_eq_getElem h, List.map_append, List.flatten_append, List.getD_eq_getElem?_getD, List.getElem?_eq_getElem h]
  simp
theorem encAll_le {α : Type} (f : α → List Int) (l : List α) (B : Nat) (h : ∀ x ∈ l, (f x).length ≤ B) : (encAll f l).length ≤ B * l.length := by
  induction l with
  | nil => simp [encAll]
  | cons a l ih =>
    have h1 := h a (by simp)
    have h2 := ih (fun x hx => h x (by simp [hx]))
    unfold encAll at h2 ⊢
    rw [List.map_cons, List.flatten_cons, List.length_append, List.length_cons, Nat.mul_add]
    omega

/-- ok without the blocks that a call has made for itself, till w1. -/
def okF (ok : Nat → Prop) (w w1 : World) (k : Nat) : Prop := (ok k ∧ k < w.heap.size) ∨ w1.heap.size ≤ k
/-- The Writer as it goes, behind w1. -/
structure oSt (w1 wr : World) (base g : Nat) (ok : Nat → Prop) (xs : List Int) : Prop where
  lay : Wr wr base g ok xs
  chg : Chg ok w1 wr
theorem oSt.begin {w w1 : World} {base g : Nat} {ok : Nat → Prop} {xs : List Int} (hW : Wr w base g ok xs) (hb : Below w.heap.size w w1) : oSt w1 w1 base g (okF ok w w1) xs := by
  refine ⟨?_, Chg.refl _ _⟩
  have h := hW.below hb
  obtain ⟨h0, h1, v, h2, h3, h4⟩ := hW
  refine ⟨h0, .inl ⟨h1, blk_lt h2⟩, v, blk_below h2 hb, own_move h3 (fun k hk => hb.block k (own_lt h3 k hk)), fun k hk => .inl ⟨h4 k hk, own_lt h3 k hk⟩⟩
theorem oSt.step {w w1 wr w2 : World} {base g : Nat} {ok : Nat → Prop} {xs ys : List Int} (h : oSt w1 wr base g (okF ok w w1) xs) (hW : Wr w2 base g (more (okF ok w w1) wr) ys) (hC : Chg (okF ok w w1) wr w2) : oSt w1 w2 base g (okF ok w w1) ys :=
  ⟨hW.mono fun k hk => by
    rcases hk with hk | hk
    · exact hk
    · exact .inr (Nat.le_trans h.2.size hk), h.2.trans hC fun _ _ h => h⟩
theorem oSt.below {w1 wr w2 : World} {base g : Nat} {ok : Nat → Prop} {xs : List Int} (h : oSt w1 wr base g ok xs) (hb : Below wr.heap.size wr w2) : oSt w1 w2 base g ok xs :=
  ⟨h.1.below hb, h.2.trans (Chg.of_same hb ok) fun _ _ h => h⟩
/-- A block of the call's own, made between w and w1, stays. -/
theorem oSt.keeps {w w1 wr : World} {base g b : Nat} {ok : Nat → Prop} {xs : List Int} {o : Obj} (h : oSt w1 wr base g (okF ok w w1) xs) (ho : w1.heap[b]? = some o) (hb : w.heap.size ≤ b) : wr.heap[b]? = some o :=
  h.2.get ho fun hk => by
    have := blk_lt ho
    rcases hk with hk | hk <;> omega
theorem oSt.final {w w1 wr : World} {base g : Nat} {ok : Nat → Prop} {xs : List Int} (h : oSt w1 wr base g (okF ok w w1) xs) (hb : Below w.heap.size w w1) : Wr wr base g (more ok w) xs ∧ Chg ok w wr :=
  ⟨h.1.mono fun k hk => by
    rcases hk with hk | hk
    · exact .inl hk.1
    · exact .inr (Nat.le_trans hb.size hk), (Chg.of_same hb ok).trans h.2 fun i hi hk => by
    rcases hk with hk | hk
    · exact hk.1
    · have := hb.size; omega⟩
theorem oSt.belowB {w w1 wr : World} {base g : Nat} {ok : Nat → Prop} {xs : List Int} (h : oSt w1 wr base g (okF ok w w1) xs) (hb : Below w.heap.size w w1) (hB : base ≤ w.heap.size) (hok : ∀ k, ok k → base ≤ k) : Below base w1 wr :=
  h.2.below (Nat.le_trans hB hb.size) fun i hi hk => by
    rcases hk with hk | hk
    · have := hok i hk.1; omega
    · have := hb.size; omega

abbrev I64 (n : Int) : Prop := -9223372036854775808 ≤ n ∧ n ≤ 9223372036854775807
def encEnt (x : S39) : List Int := encInt x.f0 ++ encInt x.f1 ++ encText x.f2

set_option maxRecDepth 100000 in
set_option maxHeartbeats 1000000 in
theorem layent_calls (w : World) (base g : Nat) (ok : Nat → Prop) (xs : List Int) (x : S39) (hW : Wr w base g ok xs) (hl : xs.length < 35184372080000) (h0 : I64 x.f0) (h1 : I64 x.f1) (h2 : x.f2.size ≤ 70368744177664) :
    Calls Try.prog 63 #[.pointer (some ⟨g, 0, none⟩), .agg #[.int .i64 x.f0, .int .i64 x.f1, .string x.f2]] w fun e w' => e = .returned (.tuple #[]) ∧ Wr w' base g (more ok w) (xs ++ encEnt x) ∧ Chg ok w w' := by
  obtain ⟨a, b, s⟩ := x
  dsimp only at h0 h1 h2 ⊢
  have hb := (Below.refl w.heap.size w).alloc (Nat.le_refl _) (.cells #[.int .i64 a, .int .i64 b, .string s] 39)
  have HBK := Lib.hid (blk_new w (.cells #[.int .i64 a, .int .i64 b, .string s] 39))
  have HS := Lib.hid (oSt.begin hW hb)
  have HB := Lib.hid hb
  have HA := encInt_length a h0.1 h0.2
  have HA2 := encInt_length b h1.1 h1.2
  clear hW hb
  go_enter Try.func63, Try.ntmps63
  go_wp2_with fail
  generalize w.alloc (.cells #[.int .i64 a, .int .i64 b, .string s] 39) = w1 at HBK HS HB ⊢
  ((with_reducible refine (int_calls _ _ _ _ _ a HS.out.1 (by omega) h0.1 h0.2).mono ?_); rintro e w2 ⟨rfl, hW, hC⟩)
  have HS2 := Lib.hid (HS.out.step hW hC)
  have hc : w2.cell? ⟨w.heap.size, 1, none⟩ = some (.int .i64 b) := by rw [blk_cell (HS2.out.keeps HBK.out (Nat.le_refl _))]; rfl
  clear hW hC HS
  go_wp2_with fail
  ((with_reducible refine (int_calls _ _ _ _ _ b HS2.out.1 (by rw [List.length_append]; omega) h1.1 h1.2).mono ?_); rintro e w3 ⟨rfl, hW, hC⟩)
  have HS3 := Lib.hid (HS2.out.step hW hC)
  have hc2 : w3.cell? ⟨w.heap.size, 2, none⟩ = some (.string s) := by rw [blk_cell (HS3.out.keeps HBK.out (Nat.le_refl _))]; rfl
  clear hW hC HS2 hc
  go_wp2_with fail
  ((with_reducible refine (text_calls _ _ _ _ _ s HS3.out.1 (by rw [List.length_append, List.length_append]; omega) h2).mono ?_); rintro e w4 ⟨rfl, hW, hC⟩)
  have HS4 := Lib.hid (HS3.out.step hW hC)
  clear hW hC HS3
  go_wp2_with fail
  go_end0
  have := HS4.out.final HB.out
  rw [List.append_assoc, List.append_assoc] at this
  refine ⟨rfl, ?_⟩
  unfold encEnt
  rw [List.append_assoc]
  exact this

end Go.Proofs.Ytfanbhbpmhojaaa

namespace Go.Proofs.Ytfanbhbpmhojaaa
open Go.RowKit Go.Proofs.YtfanbhbpmhojaaaW.PrintWords Go.Proofs.YtfanbhbpmhojaaaW.PrintLast Go.Proofs.YtfanbhbpmhojaaaW.PrintMore PRef
set_option linter.unusedVariables false
set_option linter.unusedSimpArgs false

theorem Chg.belowB {B : Nat} {ok : Nat → Prop} {w w1 : World} (h : Chg ok w w1) (hB : B ≤ w.heap.size) (hok : ∀ k, ok k → B ≤ k) : Below B w w1 := h.below hB fun i hi hk => by have := hok i hk; omega
theorem encEnt_length (x : S39) (h0 : I64 x.f0) (h1 : I64 x.f1) (h2 : x.f2.size ≤ 2097152) : (encEnt x).length ≤ 2097300 := by
  have a := encInt_length x.f0 h0.1 h0.2
  have b := encInt_length x.f1 h1.1 h1.2
  have c := encText_length x.f2 (by omega)
  unfold encEnt
  rw [List.length_append, List.length_append]; omega

set_option maxRecDepth 100000 in
set_option maxHeartbeats 1000000 in
theorem putent_calls (w0 w : World) (g : Nat) (ok : Nat → Prop) (xs : List Int) (A : Option Addr) (c : Nat) (l : List S39) (hW : Wr w w0.heap.size g ok xs) (hok : ∀ k, ok k → w0.heap.size ≤ k) (hB : Below w0.heap.size w0 w) (hr : InE w0 A c l) (hl : l.length ≤ 5000) (hx : xs.length ≤ 17592186044416) (h64 : ∀ x ∈ l, I64 x.f0 ∧ I64 x.f1 ∧ x.f2.size ≤ 2097152) :
    Calls Try.prog 62 #[.pointer (some ⟨g, 0, none⟩), .slice A l.length c, .func (.func 63) #[] #[]] w fun e w' => e = .returned (.tuple #[]) ∧ Wr w' w0.heap.size g (more ok w) (xs ++ encNum l.length ++ encAll encEnt l) ∧ Chg ok w w' := by
  have HW := Lib.hid hW
  have HR := Lib.hid hr
  have HB := Lib.hid hB
  have H64 := Lib.hid h64
  have HOK := Lib.hid hok
  have hba : Hid (∀ i, (encAll encEnt (l.take i)).length ≤ 2097300 * l.length) := Lib.hid (fun i => by
    refine Nat.le_trans (encAll_le _ _ 2097300 (fun x hx => ?_)) (by rw [List.length_take]; exact Nat.mul_le_mul_left _ (by omega))
    have hx := h64 x (List.mem_of_mem_take hx)
    exact encEnt_length x hx.1 hx.2.1 hx.2.2)
  clear hW hr hB h64 hok
  have hln := encNum_length l.length (by omega)
  have hu39 := Try.underlying39
  go_enter Try.func62, Try.ntmps62
  go_wp2_with fail
  ((with_reducible refine (num_calls _ _ _ _ _ l.length HW.out (by omega) (by omega)).mono ?_); rintro e w1 ⟨rfl, hW, hC⟩)
  have HW1 := Lib.hid hW
  have HC1 := Lib.hid hC
  clear hW hC
  go_wp2_with fail
  go_loopw [15] (fun vi wr => ∃ i : Nat, vi = .int .i64 i ∧ i ≤ l.length ∧ Hid (Wr wr w0.heap.size g (more ok w) (xs ++ encNum l.length ++ encAll encEnt (l.take i))) ∧ Hid (Chg ok w wr)) (fun vi _ => l.length - (intOf vi).toNat)
  case atStart => exact ⟨0, rfl, by omega, Lib.hid (by simpa [encAll] using HW1.out), HC1⟩
  case round =>
    obtain ⟨i, rfl, hi, HW, HC⟩ := hrel
    have HBw := Lib.hid (HB.out.trans (HC.out.belowB HB.out.size HOK.out))
    by_cases hlt : i < l.length
    · have hbi := hba.out i
      obtain ⟨ad, rfl, ha0, ha1, ha2⟩ := at_T39 (Kd.C_below HR.out.1 HBw.out) (i : Int) (by omega) (by omega)
      have hrx : rd_T39 l (i : Int) = l.getD i z39 := by unfold rd_T39; rw [Int.toNat_natCast]
      rw [hrx, Int.toNat_natCast] at ha0 ha1 ha2
      obtain ⟨x, hxe⟩ : ∃ x, x = l.getD i z39 := ⟨_, rfl⟩
      rw [← hxe] at ha0 ha1 ha2
      have hz := H64.out x (by rw [hxe, List.getD_eq_getElem?_getD, List.getElem?_eq_getElem hlt]; exact List.getElem_mem hlt)
      have HXE := Lib.hid hxe
      have HZ := Lib.hid hz
      clear hxe hrx hz
      have HWx := Lib.hid (HW.out.below ((Below.refl wr.heap.size wr).alloc (Nat.le_refl _) (.cells #[.int .i64 x.f0, .int .i64 x.f1, .string x.f2] 39)))
      have HCx := Lib.hid (HC.out.alloc (.cells #[.int .i64 x.f0, .int .i64 x.f1, .string x.f2] 39))
      go_wp2_with fail
      generalize wr.alloc (.cells #[.int .i64 x.f0, .int .i64 x.f1, .string x.f2] 39) = wx at HWx HCx ⊢
      ((with_reducible refine (layent_calls _ _ _ _ _ x HWx.out (by rw [List.length_append, List.length_append]; omega) HZ.out.1 HZ.out.2.1 (by have := HZ.out.2.2; omega)).mono ?_); rintro e w2 ⟨rfl, hW, hC⟩)
      have HW2 := Lib.hid (hW.mono (more_more HCx.out.size))
      have HC2 := Lib.hid (HCx.out.then_more hC)
      clear hW hC HWx HCx
      go_wp2_with fail
      go_roundw
      case measure => simp [intOf]; omega
      case rel =>
        refine ⟨i + 1, by go_num, by omega, Lib.hid ?_, HC2⟩
        have := HW2.out
        rw [encAll_snoc _ l i z39 hlt, ← List.append_assoc]
        rw [← HXE.out]
        exact this
    · obtain rfl : i = l.length := by omega
      go_wp2_with fail
      go_end0
      have := HW.out
      rw [List.take_of_length_le (Nat.le_refl _)] at this
      exact ⟨rfl, this, HC.out⟩

end Go.Proofs.Ytfanbhbpmhojaaa

namespace Go.Proofs.Ytfanbhbpmhojaaa
open Go.RowKit Go.Proofs.YtfanbhbpmhojaaaW.PrintWords Go.Proofs.YtfanbhbpmhojaaaW.PrintLast Go.Proofs.YtfanbhbpmhojaaaW.PrintMore PRef
set_option linter.unusedVariables false
set_option linter.unusedSimpArgs false

theorem oSt.keeps_ne {w1 wr : World} {base g b : Nat} {ok : Nat → Prop} {xs : List Int} {o : Obj} (h : oSt w1 wr base g ok xs) (ho : w1.heap[b]? = some o) (hn : ¬ ok b) : wr.heap[b]? = some o := h.2.get ho hn
theorem okF_not {ok : Nat → Prop} {w w1 : World} {b : Nat} (h0 : w.heap.size ≤ b) (h1 : b < w1.heap.size) : ¬ okF ok w w1 b := by
  intro hk
  rcases hk with hk | hk <;> omega
theorem okF_not2 {ok : Nat → Prop} {w w1 : World} {b : Nat} (h0 : ¬ ok b) (h1 : b < w1.heap.size) : ¬ okF ok w w1 b := by
  intro hk
  rcases hk with hk | hk
  · exact h0 hk.1
  · omega
/-- Whole numbers, laid. -/
theorem encAll_int_le (l : List Int) (h : ∀ x ∈ l, I64 x) (i : Nat) : (encAll encInt (l.take i)).length ≤ 11 * l.length := by
  refine Nat.le_trans (encAll_le _ _ 11 (fun x hx => ?_)) (by rw [List.length_take]; exact Nat.mul_le_mul_left _ (by omega))
  have hx := h x (List.mem_of_mem_take hx)
  exact encInt_length _ hx.1 hx.2
end Go.Proofs.Ytfanbhbpmhojaaa

namespace Go.Proofs.Ytfanbhbpmhojaaa
open Go.RowKit Go.Proofs.YtfanbhbpmhojaaaW.PrintWords Go.Proofs.YtfanbhbpmhojaaaW.PrintLast Go.Proofs.YtfanbhbpmhojaaaW.PrintMore PRef
set_option linter.unusedVariables false
set_option linter.unusedSimpArgs false

end Go.Proofs.Ytfanbhbpmhojaaa
