/- The Reader of octets: what each method takes. Conditions: the worlds hold what is told of them. -/
import Derived.Test.YtfanbhbpmhojaaaOcX
import Derived.Outline
import Derived.Deep.Cut
import Derived.Deep.CutRange
import Derived.Deep.DeepCutAuto
namespace Go.Proofs.Ytfanbhbpmhojaaa
open Go.RowKit Go.Proofs.YtfanbhbpmhojaaaW.PrintWords Go.Proofs.YtfanbhbpmhojaaaW.PrintLast Go.Proofs.YtfanbhbpmhojaaaW.PrintMore PRef
set_option linter.unusedVariables false
set_option linter.unusedSimpArgs false
/-- A Reader at block g over the bytes xs, in a row of its own: s is where it stands, none: it is bad. -/
def Rd (w : World) (base g : Nat) (A : Option Addr) (c : Nat) (xs : List Int) (s : Option Nat) : Prop :=
  w.heap[g]? = some (.cells #[.slice A xs.length c, .int .i64 (s.getD xs.length : Nat), .bool s.isNone] 135 (0, 0)) ∧ OwnB w base (.slice A xs.length c) xs ∧ base ≤ g ∧ (∀ a, s = some a → a ≤ xs.length) ∧ IsBytes xs

namespace Rd
variable {w w1 : World} {base g : Nat} {A : Option Addr} {c : Nat} {xs : List Int} {s : Option Nat}
theorem ne (h : Rd w base g A c xs s) : some g ≠ (Value.slice A xs.length c).ownBlock := own_ne h.2.1 h.1 (by decide)
theorem below (h : Rd w base g A c xs s) (hb : Below w.heap.size w w1) : Rd w1 base g A c xs s := ⟨blk_below h.1 hb, h.2.1.below hb, h.2.2⟩
theorem lt (h : Rd w base g A c xs s) : g < w.heap.size := blk_lt h.1
theorem len (h : Rd w base g A c xs s) : xs.length ≤ c ∧ xs.length ≤ 9223372036854775807 := by
  refine ⟨own_le h.2.1, ?_⟩
  exact (own_reads' h.2.1).2.1
theorem set (h : Rd w base g A c xs s) (t : Option Nat) (ht : ∀ a, t = some a → a ≤ xs.length) (w1 : World) (hw : w1.heap[g]? = some (.cells #[.slice A xs.length c, .int .i64 (t.getD xs.length : Nat), .bool t.isNone] 135 (0, 0))) (hc : Chg (fun k => k = g) w w1) : Rd w1 base g A c xs t :=
  ⟨hw, own_move h.2.1 (fun k hk => hc.block k (own_lt h.2.1 k hk) (by have := h.ne; intro e; subst e; exact this hk.symm)), h.2.2.1, ht, h.2.2.2.2⟩
end Rd

set_option maxRecDepth 100000 in
theorem bad_calls {w : World} {base g : Nat} {A : Option Addr} {c : Nat} {xs : List Int} {s : Option Nat} (h : Rd w base g A c xs s) :
    Calls Try.prog 86 #[.pointer (some ⟨g, 0, none⟩)] w fun e w' => e = .returned (.bool s.isNone) ∧ w = w' := by
  have c2 : w.cell? ⟨g, 2, none⟩ = some (.bool s.isNone) := by rw [blk_cell h.1]; rfl
  clear h
  go_enter Try.func86, Try.ntmps86
  go_wp2_with fail
  go_ret
  exact ⟨rfl, rfl⟩

set_option maxRecDepth 100000 in
theorem fail_calls {w : World} {base g : Nat} {A : Option Addr} {c : Nat} {xs : List Int} {s : Option Nat} (h : Rd w base g A c xs s) :
    Calls Try.prog 87 #[.pointer (some ⟨g, 0, none⟩)] w fun e w' => e = .returned (.tuple #[]) ∧ Rd w' base g A c xs none ∧ Chg (fun k => k = g) w w' := by
  have c0 : w.cell? ⟨g, 0, none⟩ = some (.slice A xs.length c) := by rw [blk_cell h.1]; rfl
  have c1 : w.cell? ⟨g, 1, none⟩ = some (.int .i64 (s.getD xs.length : Nat)) := by rw [blk_cell h.1]; rfl
  have c2 : w.cell? ⟨g, 2, none⟩ = some (.bool s.isNone) := by rw [blk_cell h.1]; rfl
  have f1 : w.frozen? ⟨g, 1, none⟩ = false := blk_frozen h.1 1
  have f2 : w.frozen? ⟨g, 2, none⟩ = false := blk_frozen h.1 2
  have H := Lib.hid h
  clear h
  go_enter Try.func87, Try.ntmps87
  go_wp2_with fail
  go_end0
  have h := H.out
  have e1 := blk_set h.1 2 (.bool true)
  have e2 := blk_set e1 1 (.int .i64 (xs.length : Nat))
  have hc : Chg (fun k => k = g) w ((w.setCell ⟨g, 2, none⟩ (.bool true)).setCell ⟨g, 1, none⟩ (.int .i64 (xs.length : Nat))) := ((Chg.refl (fun k => k = g) w).setCell (p := ⟨g, 2, none⟩) (.inl (by rfl)) _).setCell (p := ⟨g, 1, none⟩) (.inl (by rfl)) _
  exact ⟨rfl, h.set none (fun a ha => by cases ha) _ e2 hc, hc⟩

/-- What is left. -/
def leftR (xs : List Int) (s : Option Nat) : Nat := xs.length - s.getD xs.length

set_option maxRecDepth 100000 in
theorem left_calls {w : World} {base g : Nat} {A : Option Addr} {c : Nat} {xs : List Int} {s : Option Nat} (h : Rd w base g A c xs s) :
    Calls Try.prog 88 #[.pointer (some ⟨g, 0, none⟩)] w fun e w' => e = .returned (.int .i64 (leftR xs s : Nat)) ∧ Below w.heap.size w w' := by
  have c0 : w.cell? ⟨g, 0, none⟩ = some (.slice A xs.length c) := by rw [blk_cell h.1]; rfl
  have c1 : w.cell? ⟨g, 1, none⟩ = some (.int .i64 (s.getD xs.length : Nat)) := by rw [blk_cell h.1]; rfl
  have hl := h.len.2
  have H := Lib.hid h
  have hs := h.2.2.2.1
  clear h
  unfold leftR
  cases s with
  | none =>
    clear hs
    simp only [Option.getD_none] at c1 ⊢
    go_enter Try.func88, Try.ntmps88
    go_wp2_with ((with_reducible refine (bad_calls H.out).mono ?_); rintro e w' ⟨rfl, rfl⟩)
    go_ret
    exact ⟨by simp, Below.refl _ _⟩
  | some a =>
    have ha := hs a rfl
    clear hs
    simp only [Option.getD_some] at c1 ⊢
    go_enter Try.func88, Try.ntmps88
    go_wp2_with ((with_reducible refine (bad_calls H.out).mono ?_); rintro e w' ⟨rfl, rfl⟩)
    go_quiet (fail)
    go_wp2_with fail
    go_ret
    exact ⟨ret_i64 (by omega), pw_below_drewN (Below.refl _ _) _⟩

theorem Below.same_lt {w w1 : World} (h : Below w.heap.size w w1) : w.heap.size ≤ w1.heap.size := h.size

set_option maxRecDepth 100000 in
theorem end_calls {w : World} {base g : Nat} {A : Option Addr} {c : Nat} {xs : List Int} {s : Option Nat} (h : Rd w base g A c xs s) :
    Calls Try.prog 55 #[.pointer (some ⟨g, 0, none⟩)] w fun e w' => e = .returned (.bool (decide (s = some xs.length))) ∧ Below w.heap.size w w' := by
  have H := Lib.hid h
  have hs := h.2.2.2.1
  have hl := h.len.2
  clear h
  cases s with
  | none =>
    go_enter Try.func55, Try.ntmps55
    go_wp2_with ((with_reducible refine (bad_calls H.out).mono ?_); rintro e w' ⟨rfl, rfl⟩)
    go_ret
    exact ⟨by simp, Below.refl _ _⟩
  | some a =>
    have ha := hs a rfl
    have hlr : (((leftR xs (some a) : Nat) : Int) == 0) = decide (some a = some xs.length) := by
      unfold leftR
      rw [Option.getD_some]
      by_cases h : a = xs.length
      · subst h; simp
      · rw [decide_eq_false (by simpa using h), beq_eq_false_iff_ne]; omega
    have HL := Lib.hid hlr
    clear hs hlr
    go_enter Try.func55, Try.ntmps55
    go_wp2_with (first | ((with_reducible refine (bad_calls H.out).mono ?_); rintro e w' ⟨rfl, rfl⟩) | ((with_reducible refine (left_calls H.out).mono ?_); rintro e w' ⟨rfl, hb⟩; have HB := Lib.hid hb; clear hb))
    go_ret
    exact ⟨by show Ending.returned (.bool _) = _; rw [HL.out], HB.out⟩

/-- A byte. -/
def byteR (xs : List Int) : Option Nat → Int × Option Nat
  | none => (0, none)
  | some a => if a < xs.length then (xs.getD a 0, some (a + 1)) else (0, none)

theorem chg_below {w w1 w2 : World} {ok : Nat → Prop} (h : Below w.heap.size w w1) (k : Chg ok w1 w2) : Chg ok w w2 := (Chg.of_same h ok).trans k fun _ _ h => h

set_option maxRecDepth 100000 in
theorem rdbyte_calls {w : World} {base g : Nat} {A : Option Addr} {c : Nat} {xs : List Int} {s : Option Nat} (h : Rd w base g A c xs s) :
    Calls Try.prog 84 #[.pointer (some ⟨g, 0, none⟩)] w fun e w' => e = .returned (.int .u8 (byteR xs s).1) ∧ Rd w' base g A c xs (byteR xs s).2 ∧ Chg (fun k => k = g) w w' := by
  by_cases h0 : leftR xs s = 0
  · have hb : byteR xs s = (0, none) := by
      cases s with
      | none => rfl
      | some a => unfold leftR at h0; simp at h0; simp [byteR]; omega
    have HBR := Lib.hid hb
    have H := Lib.hid h
    have hz : (((leftR xs s : Nat) : Int) == 0) = true := by rw [h0]; rfl
    clear hb h h0
    go_enter Try.func84, Try.ntmps84
    go_wp2_with (first | ((with_reducible refine (left_calls H.out).mono ?_); rintro e w1 ⟨rfl, hb⟩; have HB := Lib.hid hb; clear hb) | ((with_reducible refine (fail_calls (H.out.below HB.out)).mono ?_); rintro e w' ⟨rfl, hr, hc⟩; have HR := Lib.hid hr; have HC := Lib.hid hc; clear hr hc))
    go_ret
    rw [HBR.out]
    exact ⟨rfl, HR.out, chg_below HB.out HC.out⟩
  · cases s with
    | none => exact absurd (by simp [leftR]) h0
    | some a =>
      have hlt : a < xs.length := by unfold leftR at h0; simp at h0; omega
      have hlr : leftR xs (some a) = xs.length - a := rfl
      have hb : byteR xs (some a) = (xs.getD a 0, some (a + 1)) := by simp [byteR, hlt]
      have hz : (((leftR xs (some a) : Nat) : Int) == 0) = false := by rw [beq_eq_false_iff_ne]; omega
      have hll := h.len.2
      have HBR := Lib.hid hb
      have H := Lib.hid h
      clear hb h h0 hlr
      go_enter Try.func84, Try.ntmps84
      go_wp2_with ((with_reducible refine (left_calls H.out).mono ?_); rintro e w1 ⟨rfl, hb⟩; have HB := Lib.hid hb; clear hb; have H1 := Lib.hid (H.out.below HB.out); have c0 : w1.cell? ⟨g, 0, none⟩ = some (.slice A xs.length c) := (by rw [blk_cell H1.out.1]; rfl); have c1 : w1.cell? ⟨g, 1, none⟩ = some (.int .i64 (a : Nat)) := (by rw [blk_cell H1.out.1]; rfl); have f1 : w1.frozen? ⟨g, 1, none⟩ = false := blk_frozen H1.out.1 1)
      have e2 := blk_set H1.out.1 1 (.int .i64 ((a : Int) + 1))
      have hc : Chg (fun k => k = g) w1 (w1.setCell ⟨g, 1, none⟩ (.int .i64 ((a : Int) + 1))) := (Chg.refl (fun k => k = g) w1).setCell (p := ⟨g, 1, none⟩) (.inl (by rfl)) _
      have h2 := H1.out.set (some (a + 1)) (fun b hb => by injection hb; omega) _ (by rw [e2]; simp) hc
      clear c0 c1 f1 e2
      generalize w1.setCell ⟨g, 1, none⟩ (.int .i64 ((a : Int) + 1)) = w2 at hc h2 ⊢
      have HC := Lib.hid hc
      have c0 : w2.cell? ⟨g, 0, none⟩ = some (.slice A xs.length c) := by rw [blk_cell h2.1]; rfl
      have c1 : w2.cell? ⟨g, 1, none⟩ = some (.int .i64 ((a : Int) + 1)) := by rw [blk_cell h2.1]; simp
      obtain ⟨ad, rfl, hcell⟩ := (own_reads' h2.2.1).at_ (a : Int) (by omega) (by omega)
      have H2 := Lib.hid h2
      clear hc h2
      rw [Int.toNat_natCast] at hcell
      have hrd : Hid (rd xs (a : Int) = xs.getD a 0) := Lib.hid (by unfold rd; rw [Int.toNat_natCast])
      generalize rd xs (a : Int) = z at hcell hrd
      go_quiet (fail)
      go_wp2_with fail
      go_ret
      rw [HBR.out]
      exact ⟨by show Ending.returned (.int .u8 z) = .returned (.int .u8 (xs.getD a 0)); rw [hrd.out], H2.out.below (pw_below_drewN (Below.refl _ _) _), (chg_below HB.out HC.out).drewN _⟩

set_option maxRecDepth 100000 in
theorem newreader_calls (A : Option Addr) (c : Nat) (xs : List Int) (w : World) (hr : ReadsInt w .u8 A xs.length xs) (hc : xs.length ≤ c) (hb : IsBytes xs) (hl : xs.length ≤ 140737488355328) :
    Calls Try.prog 50 #[.slice A xs.length c] w fun e w' => ∃ g A' c', e = .returned (.pointer (some ⟨g, 0, none⟩)) ∧ w.heap.size ≤ g ∧ Rd w' w.heap.size g A' c' xs (some 0) ∧ Below w.heap.size w w' := by
  have HR := Lib.hid hr
  have HB := Lib.hid hb
  clear hr hb
  go_enter Try.func50, Try.ntmps50
  go_wp2_with ((with_reducible refine gate_builtin (b := .append) (xs := #[.const (.slice none 0 0), .tmp 3]) rfl ?_); at_builtin; refine print_append_row (w0 := w) w.heap.size rfl (.const (.slice none 0 0)) (.tmp 3) 43 5 .u8 1 rfl Try.underlying43 info5 (by decide) (.slice none 0 0) [] xs A xs.length c rfl rfl (own_nil _ _ _ _) HR.out (Below.refl _ _) (Nat.le_refl _) ?hl ?_; (case hl => simp; omega); intro v1 w1 hown hB hg hat; clear hg hat; rw [List.nil_append] at hown; obtain ⟨A1, c1, rfl, hc1, hrz⟩ := OwnB.reads (base := w.heap.size) (xs := xs) (v := v1) hown; have HO := Lib.hid hown; clear hown hrz; have HB1 := Lib.hid hB; clear hB)
  go_ret
  have hk := blk_new w1 (.cells #[.slice A1 xs.length c1, .int .i64 0, .bool false] 135)
  have hB2 := (Below.refl w1.heap.size w1).alloc (Nat.le_refl _) (.cells #[.slice A1 xs.length c1, .int .i64 0, .bool false] 135)
  exact ⟨w1.heap.size, A1, c1, rfl, HB1.out.size, ⟨by simpa using hk, OwnB.below (show OwnB w1 w.heap.size _ xs from HO.out) hB2, HB1.out.size, fun a ha => by injection ha; omega, HB.out⟩, HB1.out.trans (hB2.mono HB1.out.size)⟩

/-- The number with which bytes begin, behind n so far. -/
def takeNum : Nat → Bool → List Int → Option (Nat × Nat)
  | _, _, [] => none
  | n, first, c :: cs => if (first = true ∧ c = 128) ∨ 2 ^ 57 ≤ n then none else if c < 128 then some (128 * n + c.toNat % 128, 1) else (takeNum (128 * n + c.toNat % 128) false cs).map fun p => (p.1, p.2 + 1)

theorem takeNum_le : ∀ (l : List Int) (n : Nat) (f : Bool) (m k : Nat), takeNum n f l = some (m, k) → 0 < k ∧ k ≤ l.length ∧ m < 18446744073709551616
  | [], _, _, _, _, h => by simp [takeNum] at h
  | c :: cs, n, f, m, k, h => by
    unfold takeNum at h
    split at h
    · cases h
    · rename_i hn
      split at h
      · injection h with h
        injection h with h1 h2
        simp only [List.length_cons]
        have : ¬ 2 ^ 57 ≤ n := fun h => hn (.inr h)
        omega
      · cases hr : takeNum (128 * n + c.toNat % 128) false cs with
        | none => rw [hr] at h; cases h
        | some p =>
          rw [hr] at h
          injection h with h
          injection h with h1 h2
          have := takeNum_le cs _ _ p.1 p.2 hr
          simp only [List.length_cons]
          omega

def numR (xs : List Int) : Option Nat → Nat × Option Nat
  | none => (0, none)
  | some a => match takeNum 0 true (xs.drop a) with
    | none => (0, none)
    | some (m, k) => (m, some (a + k))

/-- Num, behind n so far. -/
def contR (n : Nat) (f : Bool) (xs : List Int) : Option Nat → Nat × Option Nat
  | none => (0, none)
  | some a => match takeNum n f (xs.drop a) with
    | none => (0, none)
    | some (m, k) => (m, some (a + k))
theorem contR_numR (xs : List Int) (s : Option Nat) : contR 0 true xs s = numR xs s := by cases s <;> rfl
theorem contR_bad (n : Nat) (f : Bool) (xs : List Int) (s : Option Nat) (h : (byteR xs s).2 = none) : contR n f xs s = (0, none) := by
  cases s with
  | none => rfl
  | some a =>
    unfold byteR at h
    dsimp only at h
    split at h
    · cases h
    · rename_i hn
      have hd : xs.drop a = [] := List.drop_of_length_le (by omega)
      show (match takeNum n f (xs.drop a) with | none => ((0, none) : Nat × Option Nat) | some (m, k) => (m, some (a + k))) = _
      rw [hd]
      rfl
theorem chg_trans {w w1 w2 : World} {g : Nat} (h : Chg (fun k => k = g) w w1) (k : Chg (fun k => k = g) w1 w2) : Chg (fun k => k = g) w w2 := h.trans k fun _ _ h => h

theorem digit_join (n z : Nat) (hn : n < 144115188075855872) (hz : z < 256) : bits BinOp.or IntKind.u64 ((n : Int) * 128) (IntKind.u64.wrap (bits BinOp.and IntKind.u8 (z : Int) 127)) = ((128 * n + z % 128 : Nat) : Int) := by
  have h := u8_and_nat z 127 hz (by decide)
  rw [and_127 ⟨z, hz⟩] at h
  have h' : bits BinOp.and IntKind.u8 (z : Int) 127 = ((z % 128 : Nat) : Int) := h
  rw [h', IntKind.wrap_u64, show (((z % 128 : Nat) : Int) % 18446744073709551616) = ((z % 128 : Nat) : Int) from by omega, show ((n : Int) * 128) = ((n * 128 : Nat) : Int) from by omega, u64_or_nat _ _ (by omega) (by omega), Nat.or_comm]
  have := Nat.two_pow_add_eq_or_of_lt (b := z % 128) (i := 7) (by omega) n
  rw [show n * 128 = 2 ^ 7 * n from by omega, Nat.or_comm, ← this]

set_option maxRecDepth 100000 in
set_option maxHeartbeats 1000000 in
theorem rdnum_calls {w : World} {base g : Nat} {A : Option Addr} {c : Nat} {xs : List Int} {s : Option Nat} (h : Rd w base g A c xs s) :
    Calls Try.prog 85 #[.pointer (some ⟨g, 0, none⟩)] w fun e w' => e = .returned (.int .u64 ((numR xs s).1 : Nat)) ∧ Rd w' base g A c xs (numR xs s).2 ∧ Chg (fun k => k = g) w w' := by
  have H0 := Lib.hid h
  clear h
  go_enter Try.func85, Try.ntmps85
  go_wp2_with fail
  go_loopw [3, 4] (fun vn vf wr => ∃ (n : Nat) (f : Bool) (t : Option Nat), vn = .int .u64 n ∧ vf = .bool f ∧ n < 18446744073709551616 ∧ Hid (contR n f xs t = numR xs s) ∧ Hid (Rd wr base g A c xs t) ∧ Hid (Chg (fun k => k = g) w wr)) (fun _ _ wr => xs.length + 1 - (intOf ((wr.cell? ⟨g, 1, none⟩).getD (.int .i64 0))).toNat)
  case atStart => exact ⟨0, true, s, rfl, rfl, by omega, Lib.hid (contR_numR _ _), H0, Lib.hid (Chg.refl _ _)⟩
  case round =>
    obtain ⟨n, f, t, rfl, rfl, hn, HE, HR, HC⟩ := hrel
    cases hbr : (byteR xs t).2 with
    | none =>
      have hcb := contR_bad n f xs t hbr
      have HZ : Hid (numR xs s = (0, none)) := Lib.hid (by rw [← HE.out, hcb])
      have HN := Lib.hid hbr
      clear hcb hbr
      go_wp2_with (first | ((with_reducible refine (rdbyte_calls HR.out).mono ?_); rintro e w1 ⟨rfl, hr, hc⟩; rw [HN.out] at hr; have HR1 := Lib.hid hr; have HC1 := Lib.hid hc; clear hr hc; generalize (byteR xs t).1 = z) | ((with_reducible refine (bad_calls HR1.out).mono ?_); rintro e w' ⟨rfl, rfl⟩) | ((with_reducible refine (fail_calls HR1.out).mono ?_); rintro e w2 ⟨rfl, hr, hc⟩; have HR2 := Lib.hid hr; have HC2 := Lib.hid hc; clear hr hc))
      go_ret
      rw [HZ.out]
      exact ⟨rfl, HR2.out, chg_trans HC.out (chg_trans HC1.out HC2.out)⟩
    | some a' =>
      cases t with
      | none => cases hbr
      | some a =>
        have hlt : a < xs.length := by
          unfold byteR at hbr
          dsimp only at hbr
          split at hbr
          · assumption
          · cases hbr
        have hbe : byteR xs (some a) = (xs.getD a 0, some (a + 1)) := by simp [byteR, hlt]
        rw [hbe] at hbr
        injection hbr with hbr
        subst hbr
        have hdr : xs.drop a = xs.getD a 0 :: xs.drop (a + 1) := by
          rw [List.drop_eq_getElem_cons hlt, List.getD_eq_getElem?_getD, List.getElem?_eq_getElem hlt]; rfl
        have HB := Lib.hid hbe
        have hz := HR.out.2.2.2.2.getD a
        obtain ⟨z, hze⟩ : ∃ z, z = xs.getD a 0 := ⟨_, rfl⟩
        rw [← hze] at hdr hz
        obtain ⟨z, rfl⟩ := Int.eq_ofNat_of_zero_le hz.1
        have HE2 : Hid ((match takeNum n f ((z : Int) :: xs.drop (a + 1)) with | none => ((0, none) : Nat × Option Nat) | some (m, k) => (m, some (a + k))) = numR xs s) := Lib.hid (by rw [← HE.out, ← hdr]; rfl)
        have HZ := Lib.hid hze
        have hzl : z < 256 := by omega
        clear hbe hze hdr hz HE
        by_cases hbig : 144115188075855872 ≤ n
        · cases f with
          | true =>
            by_cases hzb : z = 128
            · have hzb' : ((z : Int) == 128) = true := by rw [beq_iff_eq]; omega
              go_wp2_with (first | ((with_reducible refine (rdbyte_calls HR.out).mono ?_); rw [HB.out, ← HZ.out]; rintro e w1 ⟨rfl, hr, hc⟩; have HR1 := Lib.hid hr; have HC1 := Lib.hid hc; clear hr hc) | ((with_reducible refine (bad_calls HR1.out).mono ?_); rintro e w' ⟨rfl, rfl⟩) | ((with_reducible refine (fail_calls HR1.out).mono ?_); rintro e w2 ⟨rfl, hr, hc⟩; have HR2 := Lib.hid hr; have HC2 := Lib.hid hc; clear hr hc))
              go_ret
              rw [← HE2.out]
              rw [takeNum]
              rw [if_pos (.inr (by omega))]
              exact ⟨rfl, HR2.out, chg_trans HC.out (chg_trans HC1.out HC2.out)⟩
            · have hzb' : ((z : Int) == 128) = false := by rw [beq_eq_false_iff_ne]; omega
              go_wp2_with (first | ((with_reducible refine (rdbyte_calls HR.out).mono ?_); rw [HB.out, ← HZ.out]; rintro e w1 ⟨rfl, hr, hc⟩; have HR1 := Lib.hid hr; have HC1 := Lib.hid hc; clear hr hc) | ((with_reducible refine (bad_calls HR1.out).mono ?_); rintro e w' ⟨rfl, rfl⟩) | ((with_reducible refine (fail_calls HR1.out).mono ?_); rintro e w2 ⟨rfl, hr, hc⟩; have HR2 := Lib.hid hr; have HC2 := Lib.hid hc; clear hr hc))
              go_ret
              rw [← HE2.out]
              rw [takeNum]
              rw [if_pos (.inr (by omega))]
              exact ⟨rfl, HR2.out, chg_trans HC.out (chg_trans HC1.out HC2.out)⟩
          | false =>
            go_wp2_with (first | ((with_reducible refine (rdbyte_calls HR.out).mono ?_); rw [HB.out, ← HZ.out]; rintro e w1 ⟨rfl, hr, hc⟩; have HR1 := Lib.hid hr; have HC1 := Lib.hid hc; clear hr hc) | ((with_reducible refine (bad_calls HR1.out).mono ?_); rintro e w' ⟨rfl, rfl⟩) | ((with_reducible refine (fail_calls HR1.out).mono ?_); rintro e w2 ⟨rfl, hr, hc⟩; have HR2 := Lib.hid hr; have HC2 := Lib.hid hc; clear hr hc))
            go_ret
            rw [← HE2.out]
            rw [takeNum]
            rw [if_pos (.inr (by omega))]
            exact ⟨rfl, HR2.out, chg_trans HC.out (chg_trans HC1.out HC2.out)⟩
        · cases f with
          | true =>
            by_cases hzb : z = 128
            · have hzb' : ((z : Int) == 128) = true := by rw [beq_iff_eq]; omega
              go_wp2_with (first | ((with_reducible refine (rdbyte_calls HR.out).mono ?_); rw [HB.out, ← HZ.out]; rintro e w1 ⟨rfl, hr, hc⟩; have HR1 := Lib.hid hr; have HC1 := Lib.hid hc; clear hr hc) | ((with_reducible refine (bad_calls HR1.out).mono ?_); rintro e w' ⟨rfl, rfl⟩) | ((with_reducible refine (fail_calls HR1.out).mono ?_); rintro e w2 ⟨rfl, hr, hc⟩; have HR2 := Lib.hid hr; have HC2 := Lib.hid hc; clear hr hc))
              go_ret
              rw [← HE2.out]
              rw [takeNum]
              rw [if_pos (.inl ⟨rfl, by omega⟩)]
              exact ⟨rfl, HR2.out, chg_trans HC.out (chg_trans HC1.out HC2.out)⟩
            · have hzb' : ((z : Int) == 128) = false := by rw [beq_eq_false_iff_ne]; omega
              by_cases hlow : z < 128
              · go_wp2_with (first | ((with_reducible refine (rdbyte_calls HR.out).mono ?_); rw [HB.out, ← HZ.out]; rintro e w1 ⟨rfl, hr, hc⟩; have HR1 := Lib.hid hr; have HC1 := Lib.hid hc; clear hr hc) | ((with_reducible refine (bad_calls HR1.out).mono ?_); rintro e w' ⟨rfl, rfl⟩) | ((with_reducible refine (fail_calls HR1.out).mono ?_); rintro e w2 ⟨rfl, hr, hc⟩; have HR2 := Lib.hid hr; have HC2 := Lib.hid hc; clear hr hc))
                go_ret
                rw [digit_join n z (by omega) hzl, ← HE2.out]
                rw [takeNum]
                rw [if_neg (by rintro (⟨_, h⟩ | h) <;> omega), if_pos (by omega), Int.toNat_natCast]
                exact ⟨rfl, HR1.out, chg_trans HC.out HC1.out⟩
              · go_wp2_with (first | ((with_reducible refine (rdbyte_calls HR.out).mono ?_); rw [HB.out, ← HZ.out]; rintro e w1 ⟨rfl, hr, hc⟩; have HR1 := Lib.hid hr; have HC1 := Lib.hid hc; clear hr hc) | ((with_reducible refine (bad_calls HR1.out).mono ?_); rintro e w' ⟨rfl, rfl⟩) | ((with_reducible refine (fail_calls HR1.out).mono ?_); rintro e w2 ⟨rfl, hr, hc⟩; have HR2 := Lib.hid hr; have HC2 := Lib.hid hc; clear hr hc))
                rw [digit_join n z (by omega) hzl]
                go_roundw
                case measure =>
                  rw [blk_cell HR1.out.1, blk_cell HR.out.1]
                  simp [intOf]
                  omega
                case rel =>
                  refine ⟨128 * n + z % 128, false, some (a + 1), rfl, rfl, by omega, Lib.hid ?_, HR1, Lib.hid (chg_trans HC.out HC1.out)⟩
                  rw [← HE2.out]
                  rw [takeNum]
                  rw [if_neg (by rintro (⟨_, h⟩ | h) <;> omega), if_neg (by omega), Int.toNat_natCast]
                  show (match takeNum (128 * n + z % 128) false (xs.drop (a + 1)) with | none => ((0, none) : Nat × Option Nat) | some (m, k) => (m, some (a + 1 + k))) = _
                  cases takeNum (128 * n + z % 128) false (xs.drop (a + 1)) with
                  | none => rfl
                  | some p => simp only [Option.map_some]; rw [show a + (p.2 + 1) = a + 1 + p.2 from by omega]
          | false =>
            by_cases hlow : z < 128
            · go_wp2_with (first | ((with_reducible refine (rdbyte_calls HR.out).mono ?_); rw [HB.out, ← HZ.out]; rintro e w1 ⟨rfl, hr, hc⟩; have HR1 := Lib.hid hr; have HC1 := Lib.hid hc; clear hr hc) | ((with_reducible refine (bad_calls HR1.out).mono ?_); rintro e w' ⟨rfl, rfl⟩) | ((with_reducible refine (fail_calls HR1.out).mono ?_); rintro e w2 ⟨rfl, hr, hc⟩; have HR2 := Lib.hid hr; have HC2 := Lib.hid hc; clear hr hc))
              go_ret
              rw [digit_join n z (by omega) hzl, ← HE2.out]
              rw [takeNum]
              rw [if_neg (by rintro (⟨h, _⟩ | h) <;> first | omega | exact absurd h (by decide)), if_pos (by omega), Int.toNat_natCast]
              exact ⟨rfl, HR1.out, chg_trans HC.out HC1.out⟩
            · go_wp2_with (first | ((with_reducible refine (rdbyte_calls HR.out).mono ?_); rw [HB.out, ← HZ.out]; rintro e w1 ⟨rfl, hr, hc⟩; have HR1 := Lib.hid hr; have HC1 := Lib.hid hc; clear hr hc) | ((with_reducible refine (bad_calls HR1.out).mono ?_); rintro e w' ⟨rfl, rfl⟩) | ((with_reducible refine (fail_calls HR1.out).mono ?_); rintro e w2 ⟨rfl, hr, hc⟩; have HR2 := Lib.hid hr; have HC2 := Lib.hid hc; clear hr hc))
              rw [digit_join n z (by omega) hzl]
              go_roundw
              case measure =>
                rw [blk_cell HR1.out.1, blk_cell HR.out.1]
                simp [intOf]
                omega
              case rel =>
                refine ⟨128 * n + z % 128, false, some (a + 1), rfl, rfl, by omega, Lib.hid ?_, HR1, Lib.hid (chg_trans HC.out HC1.out)⟩
                rw [← HE2.out]
                rw [takeNum]
                rw [if_neg (by rintro (⟨h, _⟩ | h) <;> first | omega | exact absurd h (by decide)), if_neg (by omega), Int.toNat_natCast]
                show (match takeNum (128 * n + z % 128) false (xs.drop (a + 1)) with | none => ((0, none) : Nat × Option Nat) | some (m, k) => (m, some (a + 1 + k))) = _
                cases takeNum (128 * n + z % 128) false (xs.drop (a + 1)) with
                | none => rfl
                | some p => simp only [Option.map_some]; rw [show a + (p.2 + 1) = a + 1 + p.2 from by omega]


/-- A whole number. -/
def intR (xs : List Int) (s : Option Nat) : Int × Option Nat :=
  match (numR xs (byteR xs s).2).2 with
  | none => (0, none)
  | some a => if 1 < (byteR xs s).1 ∨ 9223372036854775808 ≤ (numR xs (byteR xs s).2).1 then (0, none) else (if (byteR xs s).1 = 1 then -1 - ((numR xs (byteR xs s).2).1 : Int) else ((numR xs (byteR xs s).2).1 : Int), some a)
/-- A truth. -/
def boolR (xs : List Int) (s : Option Nat) : Bool × Option Nat := ((byteR xs s).1 == 1, if 1 < (byteR xs s).1 then none else (byteR xs s).2)

theorem byteR_range (xs : List Int) (s : Option Nat) (h : IsBytes xs) : 0 ≤ (byteR xs s).1 ∧ (byteR xs s).1 < 256 := by
  cases s with
  | none => show (0 : Int) ≤ 0 ∧ (0 : Int) < 256; decide
  | some a =>
    by_cases hl : a < xs.length
    · simp only [byteR, if_pos hl]; exact h.getD a
    · simp only [byteR, if_neg hl]; decide
theorem numR_lt (xs : List Int) (s : Option Nat) : (numR xs s).1 < 18446744073709551616 := by
  cases s with
  | none => show (0 : Nat) < 18446744073709551616; decide
  | some a =>
    cases h : takeNum 0 true (xs.drop a) with
    | none => simp only [numR, h]; decide
    | some p => simp only [numR, h]; exact (takeNum_le _ _ _ p.1 p.2 h).2.2
theorem numR_le (xs : List Int) (s : Option Nat) (a : Nat) (h : (numR xs s).2 = some a) : a ≤ xs.length := by
  cases s with
  | none => cases h
  | some b =>
    cases hn : takeNum 0 true (xs.drop b) with
    | none => simp only [numR, hn] at h; cases h
    | some p =>
      simp only [numR, hn] at h
      injection h with h
      have := takeNum_le _ _ _ p.1 p.2 hn
      rw [List.length_drop] at this
      omega

set_option maxRecDepth 100000 in
set_option maxHeartbeats 400000 in
theorem rdint_calls {w : World} {base g : Nat} {A : Option Addr} {c : Nat} {xs : List Int} {s : Option Nat} (h : Rd w base g A c xs s) :
    Calls Try.prog 51 #[.pointer (some ⟨g, 0, none⟩)] w fun e w' => e = .returned (.int .i64 (intR xs s).1) ∧ Rd w' base g A c xs (intR xs s).2 ∧ Chg (fun k => k = g) w w' := by
  have hr := byteR_range xs s h.2.2.2.2
  have H := Lib.hid h
  clear h
  unfold intR
  generalize hb : byteR xs s = b at hr ⊢
  have HB := Lib.hid hb
  clear hb
  obtain ⟨z, t⟩ := b
  have hn := numR_lt xs t
  dsimp only at hr ⊢
  generalize hm : numR xs t = m at hn ⊢
  have HM := Lib.hid hm
  clear hm
  obtain ⟨n, u⟩ := m
  dsimp only at hn ⊢
  cases u with
  | none =>
    go_enter Try.func51, Try.ntmps51
    go_wp2_with (first | ((with_reducible refine (rdbyte_calls H.out).mono ?_); rw [HB.out]; rintro e w1 ⟨rfl, hr, hc⟩; have HR1 := Lib.hid hr; have HC1 := Lib.hid hc; clear hr hc) | ((with_reducible refine (rdnum_calls HR1.out).mono ?_); (try dsimp only); rw [HM.out]; rintro e w2 ⟨rfl, hr, hc⟩; have HR2 := Lib.hid hr; have HC2 := Lib.hid hc; clear hr hc) | ((with_reducible refine (bad_calls HR2.out).mono ?_); rintro e w' ⟨rfl, rfl⟩) | ((with_reducible refine (fail_calls HR2.out).mono ?_); rintro e w3 ⟨rfl, hr, hc⟩; have HR3 := Lib.hid hr; have HC3 := Lib.hid hc; clear hr hc))
    go_ret
    exact ⟨rfl, HR3.out, chg_trans HC1.out (chg_trans HC2.out HC3.out)⟩
  | some a =>
    dsimp only
    by_cases hbad : 1 < z ∨ 9223372036854775808 ≤ n
    · rw [if_pos hbad]
      by_cases hz : 1 < z
      all_goals
        go_enter Try.func51, Try.ntmps51
        go_wp2_with (first | ((with_reducible refine (rdbyte_calls H.out).mono ?_); rw [HB.out]; rintro e w1 ⟨rfl, hr, hc⟩; have HR1 := Lib.hid hr; have HC1 := Lib.hid hc; clear hr hc) | ((with_reducible refine (rdnum_calls HR1.out).mono ?_); (try dsimp only); rw [HM.out]; rintro e w2 ⟨rfl, hr, hc⟩; have HR2 := Lib.hid hr; have HC2 := Lib.hid hc; clear hr hc) | ((with_reducible refine (bad_calls HR2.out).mono ?_); rintro e w' ⟨rfl, rfl⟩) | ((with_reducible refine (fail_calls HR2.out).mono ?_); rintro e w3 ⟨rfl, hr, hc⟩; have HR3 := Lib.hid hr; have HC3 := Lib.hid hc; clear hr hc))
        go_ret
        exact ⟨rfl, HR3.out, chg_trans HC1.out (chg_trans HC2.out HC3.out)⟩
    · rw [if_neg hbad]
      have hz : ¬ 1 < z := fun h => hbad (.inl h)
      have hnn : ¬ 9223372036854775808 ≤ n := fun h => hbad (.inr h)
      have hnot := Lib.hid (not_i64 n (by omega) (by omega))
      clear hbad
      by_cases h1 : z = 1
      · rw [if_pos h1]
        subst h1
        clear hz
        have h1b : ((1 : Int) == 1) = true := rfl
        obtain ⟨q, hq⟩ : ∃ q : Int, q = -1 - (n : Int) := ⟨_, rfl⟩
        have HQ := Lib.hid hq
        rw [← hq]
        clear hq h1b
        go_enter Try.func51, Try.ntmps51
        go_wp2_with fail
        ((with_reducible refine (rdbyte_calls H.out).mono ?_); rw [HB.out]; rintro e w1 ⟨rfl, hr, hc⟩; have HR1 := Lib.hid hr; have HC1 := Lib.hid hc; clear hr hc)
        go_wp2_with fail
        ((with_reducible refine (rdnum_calls HR1.out).mono ?_); (try dsimp only); rw [HM.out]; rintro e w2 ⟨rfl, hr, hc⟩; have HR2 := Lib.hid hr; have HC2 := Lib.hid hc; clear hr hc)
        go_wp2_with fail
        ((with_reducible refine (bad_calls HR2.out).mono ?_); rintro e w' ⟨rfl, rfl⟩)
        clear hr
        obtain ⟨m, hm⟩ : ∃ m : Int, (n : Int) = m := ⟨_, rfl⟩
        have HN := hnot.out
        have hm0 : 0 ≤ m := by omega
        have hm1 : m < 9223372036854775808 := by omega
        rw [hm] at HN ⊢
        have HN := Lib.hid HN
        have HQ2 := HQ.out
        rw [hm] at HQ2
        have HQ2 := Lib.hid HQ2
        clear hn hnn hm HQ hnot
        go_wp2_with fail
        go_ret
        exact ⟨ret_i64 (by first | (rw [HN.out, HQ2.out]; done) | rw [HQ2.out] | rw [HN.out] | rfl), HR2.out, chg_trans HC1.out HC2.out⟩
      · rw [if_neg h1]
        have h1b : ((z : Int) == 1) = false := by rw [beq_eq_false_iff_ne]; exact h1
        go_enter Try.func51, Try.ntmps51
        go_wp2_with (first | ((with_reducible refine (rdbyte_calls H.out).mono ?_); rw [HB.out]; rintro e w1 ⟨rfl, hr, hc⟩; have HR1 := Lib.hid hr; have HC1 := Lib.hid hc; clear hr hc) | ((with_reducible refine (rdnum_calls HR1.out).mono ?_); (try dsimp only); rw [HM.out]; rintro e w2 ⟨rfl, hr, hc⟩; have HR2 := Lib.hid hr; have HC2 := Lib.hid hc; clear hr hc) | ((with_reducible refine (bad_calls HR2.out).mono ?_); rintro e w' ⟨rfl, rfl⟩) | ((with_reducible refine (fail_calls HR2.out).mono ?_); rintro e w3 ⟨rfl, hr, hc⟩; have HR3 := Lib.hid hr; have HC3 := Lib.hid hc; clear hr hc))
        go_ret
        exact ⟨rfl, HR2.out, chg_trans HC1.out HC2.out⟩

/-- A text: what it is, as bytes. -/
def textR (xs : List Int) (s : Option Nat) : List Int × Option Nat :=
  match (numR xs s).2 with
  | none => ([], none)
  | some a => if 1048576 < (numR xs s).1 ∨ xs.length - a < (numR xs s).1 then ([], none) else ((xs.drop a).take (numR xs s).1, some (a + (numR xs s).1))

theorem numR_none (xs : List Int) (s : Option Nat) (h : (numR xs s).2 = none) : (numR xs s).1 = 0 := by
  cases s with
  | none => rfl
  | some b =>
    cases hn : takeNum 0 true (xs.drop b) with
    | none => simp only [numR, hn]
    | some p => simp only [numR, hn] at h; cases h

set_option maxRecDepth 100000 in
set_option maxHeartbeats 400000 in
theorem rdtext_calls {w : World} {base g : Nat} {A : Option Addr} {c : Nat} {xs : List Int} {s : Option Nat} (h : Rd w base g A c xs s) :
    Calls Try.prog 52 #[.pointer (some ⟨g, 0, none⟩)] w fun e w' => e = .returned (.string (strOfNums (textR xs s).1)) ∧ Rd w' base g A c xs (textR xs s).2 ∧ Chg (fun k => k = g) w w' := by
  have hll := h.len
  have H := Lib.hid h
  clear h
  have hn := numR_lt xs s
  have hle := numR_le xs s
  have hno := numR_none xs s
  unfold textR
  generalize hm : numR xs s = m at hn hle hno ⊢
  have HM := Lib.hid hm
  clear hm
  obtain ⟨n, u⟩ := m
  dsimp only at hn hle hno ⊢
  cases u with
  | none =>
    obtain rfl := hno rfl
    clear hno hle
    have h0 : ((leftR xs none : Nat) : Int) = 0 := by simp [leftR]
    go_enter Try.func52, Try.ntmps52
    go_wp2_with fail
    ((with_reducible refine (rdnum_calls H.out).mono ?_); rw [HM.out]; rintro e w2 ⟨rfl, hr, hc⟩; have HR2 := Lib.hid hr; have HC2 := Lib.hid hc; clear hr hc)
    go_wp2_with fail
    ((with_reducible refine (left_calls HR2.out).mono ?_); rintro e w3 ⟨rfl, hb⟩; have HB := Lib.hid hb; have HR3 := Lib.hid (HR2.out.below HB.out); clear hb)
    go_wp2_with ((with_reducible refine (bad_calls HR3.out).mono ?_); rintro e w' ⟨rfl, rfl⟩)
    go_ret
    exact ⟨rfl, HR3.out, HC2.out.trans (Chg.of_same HB.out _) (fun _ _ h => h)⟩
  | some a =>
    have ha := hle a rfl
    clear hno hle
    dsimp only
    have hlr : leftR xs (some a) = xs.length - a := rfl
    by_cases hbad : 1048576 < n ∨ xs.length - a < n
    · rw [if_pos hbad]
      by_cases hbig : 1048576 < n
      · clear hbad
        go_enter Try.func52, Try.ntmps52
        go_wp2_with fail
        ((with_reducible refine (rdnum_calls H.out).mono ?_); rw [HM.out]; rintro e w2 ⟨rfl, hr, hc⟩; have HR2 := Lib.hid hr; have HC2 := Lib.hid hc; clear hr hc)
        go_wp2_with ((with_reducible refine (fail_calls HR2.out).mono ?_); rintro e w3 ⟨rfl, hr, hc⟩; have HR3 := Lib.hid hr; have HC3 := Lib.hid hc; clear hr hc)
        go_ret
        exact ⟨rfl, HR3.out, chg_trans HC2.out HC3.out⟩
      · have hsm : xs.length - a < n := by omega
        clear hbad
        go_enter Try.func52, Try.ntmps52
        go_wp2_with fail
        ((with_reducible refine (rdnum_calls H.out).mono ?_); rw [HM.out]; rintro e w2 ⟨rfl, hr, hc⟩; have HR2 := Lib.hid hr; have HC2 := Lib.hid hc; clear hr hc)
        go_wp2_with fail
        ((with_reducible refine (left_calls HR2.out).mono ?_); rw [hlr]; rintro e w3 ⟨rfl, hb⟩; have HB := Lib.hid hb; have HR3 := Lib.hid (HR2.out.below HB.out); clear hb)
        go_wp2_with ((with_reducible refine (fail_calls HR3.out).mono ?_); rintro e w3 ⟨rfl, hr, hc⟩; have HR4 := Lib.hid hr; have HC4 := Lib.hid hc; clear hr hc)
        go_ret
        exact ⟨rfl, HR4.out, chg_trans HC2.out (chg_below HB.out HC4.out)⟩
    · rw [if_neg hbad]
      have hbig : ¬ 1048576 < n := fun h => hbad (.inl h)
      have hsm : ¬ xs.length - a < n := fun h => hbad (.inr h)
      clear hbad
      go_enter Try.func52, Try.ntmps52
      go_wp2_with fail
      ((with_reducible refine (rdnum_calls H.out).mono ?_); rw [HM.out]; rintro e w2 ⟨rfl, hr, hc⟩; have HR2 := Lib.hid hr; have HC2 := Lib.hid hc; clear hr hc)
      go_wp2_with fail
      ((with_reducible refine (left_calls HR2.out).mono ?_); rw [hlr]; rintro e w3 ⟨rfl, hb⟩; have HB := Lib.hid hb; have HR3 := Lib.hid (HR2.out.below HB.out); clear hb)
      have c1 : w3.cell? ⟨g, 1, none⟩ = some (.int .i64 (a : Nat)) := by rw [blk_cell HR3.out.1]; rfl
      have f1 : w3.frozen? ⟨g, 1, none⟩ = false := blk_frozen HR3.out.1 1
      go_wp2_with ((with_reducible refine (bad_calls HR3.out).mono ?_); rintro e w' ⟨rfl, rfl⟩)
      have e2 := blk_set HR3.out.1 1 (.int .i64 ((a : Int) + n))
      have hc : Chg (fun k => k = g) w3 (w3.setCell ⟨g, 1, none⟩ (.int .i64 ((a : Int) + n))) := (Chg.refl (fun k => k = g) w3).setCell (p := ⟨g, 1, none⟩) (.inl (by rfl)) _
      have h2 := HR3.out.set (some (a + n)) (fun b hb => by injection hb; omega) _ (by rw [e2]; simp) hc
      clear c1 f1 e2
      generalize w3.setCell ⟨g, 1, none⟩ (.int .i64 ((a : Int) + n)) = w4 at hc h2 ⊢
      have HC := Lib.hid hc
      have c0 : w4.cell? ⟨g, 0, none⟩ = some (.slice A xs.length c) := by rw [blk_cell h2.1]; rfl
      have c1 : w4.cell? ⟨g, 1, none⟩ = some (.int .i64 ((a : Int) + n)) := by rw [blk_cell h2.1]; simp
      obtain ⟨i0, hi, hzz⟩ := Option.map_eq_some_iff.1 info5
      have hsz : i0.size = 1 := by simp only [Prod.mk.injEq] at hzz; exact hzz.2.1
      obtain ⟨A3, hcut, hrd, _⟩ := print_mid_int (P := Try.prog) (k := .u8) 43 5 Try.underlying43 hi hsz A c xs a ((a : Int) + n) (by omega) (by omega) (by omega) hll.1
      have em : (xs.take ((a : Int) + n).toNat).drop (a : Int).toNat = (xs.drop a).take n := by
        rw [show ((a : Int) + n).toNat = a + n from by omega, Int.toNat_natCast, List.take_drop]
      have hlen : ((xs.drop a).take n).length = n := by rw [List.length_take, List.length_drop]; omega
      rw [em, hlen] at hcut hrd
      rw [Int.toNat_natCast] at hcut
      have hrd4 := hrd w4 (own_reads' h2.2.1)
      have cvt : ∀ m, (convert 43 9 (.slice A3 n (c - a))).run Try.prog (w4.drewN m) = .ok (.string (strOfNums ((xs.drop a).take n))) (w4.drewN m) := fun m => string_of_reads (P := Try.prog) (src := 43) (dst := 9) (c := c - a) Try.underlying43 Try.underlying5 Try.underlying9 (hrd4.below (pw_below_drewN (Below.refl _ _) m))
      have hw1 : IntKind.i64.wrap (n : Int) = n := IntWalk.i64_in _ (by omega)
      have hw3 : IntKind.i64.wrap (a : Int) = a := IntWalk.i64_in _ (by omega)
      have hw2 : IntKind.i64.wrap ((a : Int) + n - n) = a := by rw [show ((a : Int) + n - n) = a from by omega]; exact IntWalk.i64_in _ (by omega)
      have H2 := Lib.hid h2
      clear hc h2 em hrd hrd4 hzz hi hsz hlen
      go_quiet (fail)
      go_wp2_with fail
      go_ret
      exact ⟨rfl, H2.out.below (pw_below_drewN (Below.refl _ _) _), ((chg_trans HC2.out (chg_below HB.out HC.out))).drewN _⟩


end Go.Proofs.Ytfanbhbpmhojaaa

namespace Go.Proofs.Ytfanbhbpmhojaaa
open Go.RowKit Go.Proofs.YtfanbhbpmhojaaaW.PrintWords Go.Proofs.YtfanbhbpmhojaaaW.PrintLast Go.Proofs.YtfanbhbpmhojaaaW.PrintMore PRef
set_option linter.unusedVariables false
set_option linter.unusedSimpArgs false
/-- The digits of a number, each with the mark. -/
def encHi (q : Nat) : List Int := if h : q = 0 then [] else encHi (q / 128) ++ [((q % 128 + 128 : Nat) : Int)]
termination_by q
decreasing_by omega
theorem encHi_zero : encHi 0 = [] := by unfold encHi; simp
theorem encHi_pos (q : Nat) (h : q ≠ 0) : encHi q = encHi (q / 128) ++ [((q % 128 + 128 : Nat) : Int)] := by rw [encHi]; simp [h]

theorem hi_encHi : ∀ (d n : Nat), n ≤ d → 128 ≤ n → n < 18446744073709551616 → hi n (numLen (n / 128)) = encHi (n / 128) := by
  intro d
  induction d with
  | zero => intro n h1 h2; omega
  | succ d ih =>
    intro n hd hn h64
    have hq : n / 128 ≠ 0 := by omega
    rw [encHi_pos _ hq]
    by_cases hs : n / 128 < 128
    · rw [numLen_small _ hs, hi_zero, show n / 128 / 128 = 0 from by omega, encHi_zero]
      simp [hi]
    · rw [numLen_big _ (by omega) (by omega), hi_zero, ih (n / 128) (by omega) (by omega) (by omega)]

theorem encNum_hi (n : Nat) (h64 : n < 18446744073709551616) : encNum n = encHi (n / 128) ++ [((n % 128 : Nat) : Int)] := by
  by_cases h : n < 128
  · rw [encNum_small n h, show n / 128 = 0 from by omega, encHi_zero, show n % 128 = n from by omega]; rfl
  · rw [encNum_big n (by omega) h64, hi_encHi n n (Nat.le_refl _) (by omega) h64]

/-- What is read is written as the bytes that it was. -/
theorem takeNum_enc : ∀ (l : List Int) (n : Nat) (f : Bool) (m k : Nat), IsBytes l → ((f = true ∧ n = 0) ∨ (f = false ∧ 0 < n)) → takeNum n f l = some (m, k) → encHi n ++ l.take k = encNum m
  | [], _, _, _, _, _, _, h => by simp [takeNum] at h
  | c :: cs, n, f, m, k, hb, hf, h => by
    have h64 := (takeNum_le _ _ _ _ _ h).2.2
    have hc := hb c (by simp)
    obtain ⟨c, rfl⟩ := Int.eq_ofNat_of_zero_le hc.1
    rw [takeNum] at h
    split at h
    · cases h
    · rename_i hn
      have hn57 : ¬ 2 ^ 57 ≤ n := fun h => hn (.inr h)
      have hf128 : ¬ (f = true ∧ (c : Int) = 128) := fun h => hn (.inl h)
      rw [Int.toNat_natCast] at h
      split at h
      · injection h with h
        injection h with h1 h2
        subst h1 h2
        rw [encNum_hi _ h64, show (128 * n + c % 128) / 128 = n from by omega, show (128 * n + c % 128) % 128 = c from by omega]
        rfl
      · rename_i hc128
        cases hr : takeNum (128 * n + c % 128) false cs with
        | none => rw [hr] at h; cases h
        | some p =>
          rw [hr] at h
          injection h with h
          injection h with h1 h2
          subst h1 h2
          have hpos : 0 < 128 * n + c % 128 := by
            rcases hf with ⟨h1, h2⟩ | ⟨h1, h2⟩
            · have : c ≠ 128 := fun e => hf128 ⟨h1, by omega⟩
              omega
            · omega
          have ih := takeNum_enc cs (128 * n + c % 128) false p.1 p.2 (fun x hx => hb x (by simp [hx])) (.inr ⟨rfl, hpos⟩) hr
          rw [encHi_pos _ (by omega), show (128 * n + c % 128) / 128 = n from by omega, show (128 * n + c % 128) % 128 + 128 = c from by omega] at ih
          rw [← ih]
          simp

theorem takeNum_hi : ∀ (d q : Nat) (l : List Int), q ≤ d → 0 < q → q < 2 ^ 57 → takeNum 0 true (encHi q ++ l) = (takeNum q false l).map fun p => (p.1, p.2 + (encHi q).length) := by
  intro d
  induction d with
  | zero => intro q l h1 h2; omega
  | succ d ih =>
    intro q l hd hq h57
    rw [encHi_pos q (by omega), List.append_assoc]
    by_cases hs : q < 128
    · rw [show q / 128 = 0 from by omega, encHi_zero, List.nil_append, List.singleton_append, takeNum, if_neg (by rintro (⟨_, h⟩ | h) <;> omega), if_neg (by omega), Int.toNat_natCast, show 128 * 0 + (q % 128 + 128) % 128 = q from by omega]
      rfl
    · rw [ih (q / 128) _ (by omega) (by omega) (by omega), List.singleton_append, takeNum, if_neg (by rintro (⟨h, _⟩ | h) <;> first | omega | exact absurd h (by decide)), if_neg (by omega), Int.toNat_natCast, show 128 * (q / 128) + (q % 128 + 128) % 128 = q from by omega]
      cases takeNum q false l with
      | none => rfl
      | some p => simp only [Option.map_some, List.length_append, List.length_singleton]; rw [Nat.add_assoc, Nat.add_comm 1]

/-- What is written is read back. -/
theorem takeNum_back (m : Nat) (l : List Int) (h : m < 18446744073709551616) : takeNum 0 true (encNum m ++ l) = some (m, (encNum m).length) := by
  rw [encNum_hi m h, List.append_assoc]
  by_cases hs : m < 128
  · rw [show m / 128 = 0 from by omega, encHi_zero, List.nil_append, List.singleton_append, takeNum, if_neg (by rintro (⟨_, h⟩ | h) <;> omega), if_pos (by omega), Int.toNat_natCast, show 128 * 0 + (m % 128) % 128 = m from by omega]
    rfl
  · rw [takeNum_hi _ (m / 128) _ (Nat.le_refl _) (by omega) (by omega), List.singleton_append, takeNum, if_neg (by rintro (⟨h, _⟩ | h) <;> first | omega | exact absurd h (by decide)), if_pos (by omega), Int.toNat_natCast, show 128 * (m / 128) + (m % 128) % 128 = m from by omega]
    simp only [Option.map_some, List.length_append, List.length_singleton]
    rw [Nat.add_comm 1]


theorem reader_new (A : Option Addr) (c : Nat) (xs : List Int) (w : World) (hr : ReadsInt w .u8 A xs.length xs) (hc : xs.length ≤ c) (hb : IsBytes xs) (hl : xs.length ≤ 140737488355328) :
    Calls Try.prog 50 #[.slice A xs.length c] w fun e w' => ∃ g A' c', e = .returned (.pointer (some ⟨g, 0, none⟩)) ∧ w.heap.size ≤ g ∧ Hid (Rd w' w.heap.size g A' c' xs (some 0)) ∧ Hid (Below w.heap.size w w') :=
  (newreader_calls A c xs w hr hc hb hl).mono fun e w' ⟨g, A', c', h1, h2, h3, h4⟩ => ⟨g, A', c', h1, h2, Lib.hid h3, Lib.hid h4⟩
/-- A Reader's doings are below. -/
theorem Chg.reader {w w1 w2 : World} {g : Nat} (k : Chg (fun k => k = g) w1 w2) (h : Below w.heap.size w w1) (hg : w.heap.size ≤ g) : Below w.heap.size w w2 := h.trans (k.below h.size fun i hi e => by omega)

theorem numR_enc (xs : List Int) (k : Nat) (hb : IsBytes xs) (h : (numR xs (some 0)).2 = some k) : encNum (numR xs (some 0)).1 = xs.take k ∧ k ≤ xs.length := by
  have hle := numR_le xs (some 0) k h
  have e : numR xs (some 0) = match takeNum 0 true xs with | none => (0, none) | some (m, k) => (m, some (0 + k)) := by
    show (match takeNum 0 true (xs.drop 0) with | none => ((0, none) : Nat × Option Nat) | some (m, k) => (m, some (0 + k))) = _
    rw [List.drop_zero]
  rw [e] at h ⊢
  cases hn : takeNum 0 true xs with
  | none => rw [hn] at h; cases h
  | some p =>
    rw [hn] at h
    injection h with h
    have := takeNum_enc xs 0 true p.1 p.2 hb (.inl ⟨rfl, rfl⟩) hn
    rw [encHi_zero, List.nil_append] at this
    refine ⟨?_, hle⟩
    show encNum p.1 = _
    rw [← this, ← h, Nat.zero_add]

theorem intR_cons (c : Int) (cs : List Int) : intR (c :: cs) (some 0) = match takeNum 0 true cs with | none => (0, none) | some (m, k) => if 1 < c ∨ 9223372036854775808 ≤ m then (0, none) else (if c = 1 then -1 - (m : Int) else (m : Int), some (1 + k)) := by
  have e1 : byteR (c :: cs) (some 0) = (c, some 1) := by simp [byteR]
  have e2 : numR (c :: cs) (some 1) = match takeNum 0 true cs with | none => (0, none) | some (m, k) => (m, some (1 + k)) := rfl
  unfold intR
  rw [e1]
  dsimp only
  rw [e2]
  cases takeNum 0 true cs with
  | none => rfl
  | some p => rfl

theorem intR_enc (xs : List Int) (k : Nat) (hb : IsBytes xs) (h : (intR xs (some 0)).2 = some k) : encInt (intR xs (some 0)).1 = xs.take k ∧ k ≤ xs.length ∧ -9223372036854775808 ≤ (intR xs (some 0)).1 ∧ (intR xs (some 0)).1 ≤ 9223372036854775807 := by
  cases xs with
  | nil => cases h
  | cons c cs =>
    have hc := hb c (by simp)
    rw [intR_cons] at h ⊢
    cases hn : takeNum 0 true cs with
    | none => rw [hn] at h; cases h
    | some p =>
      have hp := takeNum_le _ _ _ p.1 p.2 hn
      have := takeNum_enc cs 0 true p.1 p.2 (fun x hx => hb x (by simp [hx])) (.inl ⟨rfl, rfl⟩) hn
      rw [encHi_zero, List.nil_append] at this
      rw [hn] at h
      dsimp only at h ⊢
      by_cases hbad : 1 < c ∨ 9223372036854775808 ≤ p.1
      · rw [if_pos hbad] at h; cases h
      · rw [if_neg hbad] at h ⊢
        injection h with h
        dsimp only
        subst h
        rw [show 1 + p.2 = p.2 + 1 from by omega, List.take_succ_cons, List.length_cons]
        unfold encInt
        by_cases h1 : c = 1
        · rw [if_pos h1, if_pos (by omega), show (-(-1 - (p.1 : Int)) - 1).toNat = p.1 from by omega, this, h1]
          exact ⟨rfl, by omega, by omega, by omega⟩
        · rw [if_neg h1, if_neg (by omega), Int.toNat_natCast, this, show c = 0 from by omega]
          exact ⟨rfl, by omega, by omega, by omega⟩

theorem textR_enc (xs : List Int) (k : Nat) (hb : IsBytes xs) (hl : xs.length ≤ 60000) (h : (textR xs (some 0)).2 = some k) : encText (strOfNums (textR xs (some 0)).1) = xs.take k ∧ k ≤ xs.length ∧ (strOfNums (textR xs (some 0)).1).size ≤ 60000 := by
  unfold textR at h ⊢
  cases hn : (numR xs (some 0)).2 with
  | none => rw [hn] at h; cases h
  | some a =>
    have hne := numR_enc xs a hb hn
    rw [hn] at h
    dsimp only at h ⊢
    by_cases hbad : 1048576 < (numR xs (some 0)).1 ∨ xs.length - a < (numR xs (some 0)).1
    · rw [if_pos hbad] at h; cases h
    · rw [if_neg hbad] at h ⊢
      generalize (numR xs (some 0)).1 = n at h hne hbad ⊢
      injection h with h
      dsimp only
      subst h
      have hlt : ((xs.drop a).take n).length = n := by rw [List.length_take, List.length_drop]; omega
      have hb2 : IsBytes ((xs.drop a).take n) := (hb.drop a).take n
      unfold encText
      rw [strOfNums_size, hlt, hne.1, bytesOf_str _ hb2]
      refine ⟨?_, by omega, by omega⟩
      rw [← List.take_append_drop a (xs.take (a + n)), List.take_take, Nat.min_eq_left (by omega), List.drop_take, show a + n - a = n from by omega]

/-- n things, one behind another, or up to where it is bad. -/
def loopR {α : Type} (each : Option Nat → α × Option Nat) : Nat → Option Nat → List α × Option Nat
  | 0, s => ([], s)
  | n + 1, s => if s = none then ([], none) else ((each s).1 :: (loopR each n (each s).2).1, (loopR each n (each s).2).2)
theorem loopR_none {α : Type} (each : Option Nat → α × Option Nat) (n : Nat) : loopR each n none = ([], none) := by cases n <;> rfl
theorem loopR_some {α : Type} (each : Option Nat → α × Option Nat) (n a : Nat) : loopR each (n + 1) (some a) = ((each (some a)).1 :: (loopR each n (each (some a)).2).1, (loopR each n (each (some a)).2).2) := rfl
/-- A list: nothing where it is bad. -/
def getR {α : Type} (xs : List Int) (each : Option Nat → α × Option Nat) (s : Option Nat) : List α × Option Nat :=
  let t := (numR xs s).2
  let t := if 4096 < (numR xs s).1 ∨ leftR xs t < (numR xs s).1 then none else t
  let r := loopR each (numR xs s).1 t
  if r.2 = none then ([], none) else r

theorem Rd.move {w w1 : World} {base g : Nat} {A : Option Addr} {c : Nat} {xs : List Int} {s : Option Nat} {ok : Nat → Prop} (h : Rd w base g A c xs s) (hc : Chg ok w w1) (hg : ¬ ok g) (hA : ∀ k, (Value.slice A xs.length c).ownBlock = some k → ¬ ok k) : Rd w1 base g A c xs s :=
  ⟨hc.get h.1 hg, own_move h.2.1 (fun k hk => hc.block k (own_lt h.2.1 k hk) (hA k hk)), h.2.2⟩

theorem hi_bytes (n : Nat) : ∀ k, IsBytes (hi n k)
  | 0 => fun x hx => by cases hx
  | k + 1 => fun x hx => by
    rcases List.mem_cons.1 hx with rfl | hx
    · omega
    · exact hi_bytes n k x hx
theorem encNum_bytes (n : Nat) : IsBytes (encNum n) := (hi_bytes n _).append (fun x hx => by
  rw [List.mem_singleton] at hx
  subst hx
  omega)


/-- A text, as a string. -/
def textS (xs : List Int) (s : Option Nat) : ByteArray × Option Nat := (strOfNums (textR xs s).1, (textR xs s).2)
theorem rdtextS_calls {w : World} {base g : Nat} {A : Option Addr} {c : Nat} {xs : List Int} {s : Option Nat} (h : Rd w base g A c xs s) :
    Calls Try.prog 52 #[.pointer (some ⟨g, 0, none⟩)] w fun e w' => e = .returned (.string (textS xs s).1) ∧ Rd w' base g A c xs (textS xs s).2 ∧ Chg (fun k => k = g) w w' := rdtext_calls h

end Go.Proofs.Ytfanbhbpmhojaaa

namespace Go.Proofs.Ytfanbhbpmhojaaa
open Go.RowKit Go.Proofs.YtfanbhbpmhojaaaW.PrintWords Go.Proofs.YtfanbhbpmhojaaaW.PrintLast Go.Proofs.YtfanbhbpmhojaaaW.PrintMore PRef
set_option linter.unusedVariables false
set_option linter.unusedSimpArgs false

abbrev InE (w : World) (A : Option Addr) (c : Nat) (xs : List S39) : Prop := Kd.C k39 w A xs.length xs ∧ xs.length ≤ c
end Go.Proofs.Ytfanbhbpmhojaaa
