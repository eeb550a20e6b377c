/- The Reader of package octet: Int, Bool, Text. Conditions: bytes are bytes. -/
import Derived.Test.YthobpcbiaimccaaRd
import Derived.Test.YthobpcbiaimccaaStr
namespace Go.Proofs.Ythobpcbiaimccaa
open Go.RowKit Go.Proofs.YthobpcbiaimccaaW.PrintWords Go.Proofs.YthobpcbiaimccaaW.PrintLast Go.Proofs.YthobpcbiaimccaaW.PrintMore PRef
set_option linter.unusedVariables false
set_option linter.unusedSimpArgs false

/-- A whole number. -/
def intR (xs : List Int) (s : Option Nat) : Int × Option Nat :=
  match (numR xs (byteR xs s).2).2 with
  | none => (0, none)
  | some a => if 1 < (byteR xs s).1 ∨ 9223372036854775808 ≤ (numR xs (byteR xs s).2).1 then (0, none) else (if (byteR xs s).1 = 1 then -1 - ((numR xs (byteR xs s).2).1 : Int) else ((numR xs (byteR xs s).2).1 : Int), some a)
/-- A truth. -/
def boolR (xs : List Int) (s : Option Nat) : Bool × Option Nat := ((byteR xs s).1 == 1, if 1 < (byteR xs s).1 then none else (byteR xs s).2)

theorem byteR_range (xs : List Int) (s : Option Nat) (h : IsBytes xs) : 0 ≤ (byteR xs s).1 ∧ (byteR xs s).1 < 256 := by
  cases s with
  | none => show (0 : Int) ≤ 0 ∧ (0 : Int) < 256; decide
  | some a =>
    by_cases hl : a < xs.length
    · simp only [byteR, if_pos hl]; exact h.getD a
    · simp only [byteR, if_neg hl]; decide
theorem numR_lt (xs : List Int) (s : Option Nat) : (numR xs s).1 < 18446744073709551616 := by
  cases s with
  | none => show (0 : Nat) < 18446744073709551616; decide
  | some a =>
    cases h : takeNum 0 true (xs.drop a) with
    | none => simp only [numR, h]; decide
    | some p => simp only [numR, h]; exact (takeNum_le _ _ _ p.1 p.2 h).2.2
theorem numR_le (xs : List Int) (s : Option Nat) (a : Nat) (h : (numR xs s).2 = some a) : a ≤ xs.length := by
  cases s with
  | none => cases h
  | some b =>
    cases hn : takeNum 0 true (xs.drop b) with
    | none => simp only [numR, hn] at h; cases h
    | some p =>
      simp only [numR, hn] at h
      injection h with h
      have := takeNum_le _ _ _ p.1 p.2 hn
      rw [List.length_drop] at this
      omega

set_option maxRecDepth 100000 in
theorem rdbool_calls {w : World} {base g : Nat} {A : Option Addr} {c : Nat} {xs : List Int} {s : Option Nat} (h : Rd w base g A c xs s) :
    Calls Try.prog 52 #[.pointer (some ⟨g, 0, none⟩)] w fun e w' => e = .returned (.bool (boolR xs s).1) ∧ Rd w' base g A c xs (boolR xs s).2 ∧ Chg (fun k => k = g) w w' := by
  have hr := byteR_range xs s h.2.2.2.2
  have H := Lib.hid h
  clear h
  unfold boolR
  generalize hb : byteR xs s = b at hr ⊢
  have HB := Lib.hid hb
  clear hb
  obtain ⟨z, t⟩ := b
  dsimp only at hr ⊢
  by_cases hz : 1 < z
  · rw [if_pos hz]
    go_enter Try.func52, Try.ntmps52
    go_wp2_with (first | ((with_reducible refine (rdbyte_calls H.out).mono ?_); rw [HB.out]; rintro e w1 ⟨rfl, hr, hc⟩; have HR1 := Lib.hid hr; have HC1 := Lib.hid hc; clear hr hc) | ((with_reducible refine (fail_calls HR1.out).mono ?_); rintro e w2 ⟨rfl, hr, hc⟩; have HR2 := Lib.hid hr; have HC2 := Lib.hid hc; clear hr hc))
    go_ret
    exact ⟨rfl, HR2.out, chg_trans HC1.out HC2.out⟩
  · rw [if_neg hz]
    go_enter Try.func52, Try.ntmps52
    go_wp2_with (first | ((with_reducible refine (rdbyte_calls H.out).mono ?_); rw [HB.out]; rintro e w1 ⟨rfl, hr, hc⟩; have HR1 := Lib.hid hr; have HC1 := Lib.hid hc; clear hr hc) | ((with_reducible refine (fail_calls HR1.out).mono ?_); rintro e w2 ⟨rfl, hr, hc⟩; have HR2 := Lib.hid hr; have HC2 := Lib.hid hc; clear hr hc))
    go_ret
    exact ⟨rfl, HR1.out, HC1.out⟩

set_option maxRecDepth 100000 in
set_option maxHeartbeats 400000 in
theorem rdint_calls {w : World} {base g : Nat} {A : Option Addr} {c : Nat} {xs : List Int} {s : Option Nat} (h : Rd w base g A c xs s) :
    Calls Try.prog 46 #[.pointer (some ⟨g, 0, none⟩)] w fun e w' => e = .returned (.int .i64 (intR xs s).1) ∧ Rd w' base g A c xs (intR xs s).2 ∧ Chg (fun k => k = g) w w' := by
  have hr := byteR_range xs s h.2.2.2.2
  have H := Lib.hid h
  clear h
  unfold intR
  generalize hb : byteR xs s = b at hr ⊢
  have HB := Lib.hid hb
  clear hb
  obtain ⟨z, t⟩ := b
  have hn := numR_lt xs t
  dsimp only at hr ⊢
  generalize hm : numR xs t = m at hn ⊢
  have HM := Lib.hid hm
  clear hm
  obtain ⟨n, u⟩ := m
  dsimp only at hn ⊢
  cases u with
  | none =>
    go_enter Try.func46, Try.ntmps46
    go_wp2_with (first | ((with_reducible refine (rdbyte_calls H.out).mono ?_); rw [HB.out]; rintro e w1 ⟨rfl, hr, hc⟩; have HR1 := Lib.hid hr; have HC1 := Lib.hid hc; clear hr hc) | ((with_reducible refine (rdnum_calls HR1.out).mono ?_); (try dsimp only); rw [HM.out]; rintro e w2 ⟨rfl, hr, hc⟩; have HR2 := Lib.hid hr; have HC2 := Lib.hid hc; clear hr hc) | ((with_reducible refine (bad_calls HR2.out).mono ?_); rintro e w' ⟨rfl, rfl⟩) | ((with_reducible refine (fail_calls HR2.out).mono ?_); rintro e w3 ⟨rfl, hr, hc⟩; have HR3 := Lib.hid hr; have HC3 := Lib.hid hc; clear hr hc))
    go_ret
    exact ⟨rfl, HR3.out, chg_trans HC1.out (chg_trans HC2.out HC3.out)⟩
  | some a =>
    dsimp only
    by_cases hbad : 1 < z ∨ 9223372036854775808 ≤ n
    · rw [if_pos hbad]
      by_cases hz : 1 < z
      all_goals
        go_enter Try.func46, Try.ntmps46
        go_wp2_with (first | ((with_reducible refine (rdbyte_calls H.out).mono ?_); rw [HB.out]; rintro e w1 ⟨rfl, hr, hc⟩; have HR1 := Lib.hid hr; have HC1 := Lib.hid hc; clear hr hc) | ((with_reducible refine (rdnum_calls HR1.out).mono ?_); (try dsimp only); rw [HM.out]; rintro e w2 ⟨rfl, hr, hc⟩; have HR2 := Lib.hid hr; have HC2 := Lib.hid hc; clear hr hc) | ((with_reducible refine (bad_calls HR2.out).mono ?_); rintro e w' ⟨rfl, rfl⟩) | ((with_reducible refine (fail_calls HR2.out).mono ?_); rintro e w3 ⟨rfl, hr, hc⟩; have HR3 := Lib.hid hr; have HC3 := Lib.hid hc; clear hr hc))
        go_ret
        exact ⟨rfl, HR3.out, chg_trans HC1.out (chg_trans HC2.out HC3.out)⟩
    · rw [if_neg hbad]
      have hz : ¬ 1 < z := fun h => hbad (.inl h)
      have hnn : ¬ 9223372036854775808 ≤ n := fun h => hbad (.inr h)
      have hnot := Lib.hid (not_i64 n (by omega) (by omega))
      clear hbad
      by_cases h1 : z = 1
      · rw [if_pos h1]
        subst h1
        clear hz
        have h1b : ((1 : Int) == 1) = true := rfl
        obtain ⟨q, hq⟩ : ∃ q : Int, q = -1 - (n : Int) := ⟨_, rfl⟩
        have HQ := Lib.hid hq
        rw [← hq]
        clear hq h1b
        go_enter Try.func46, Try.ntmps46
        go_wp2_with fail
        ((with_reducible refine (rdbyte_calls H.out).mono ?_); rw [HB.out]; rintro e w1 ⟨rfl, hr, hc⟩; have HR1 := Lib.hid hr; have HC1 := Lib.hid hc; clear hr hc)
        go_wp2_with fail
        ((with_reducible refine (rdnum_calls HR1.out).mono ?_); (try dsimp only); rw [HM.out]; rintro e w2 ⟨rfl, hr, hc⟩; have HR2 := Lib.hid hr; have HC2 := Lib.hid hc; clear hr hc)
        go_wp2_with fail
        ((with_reducible refine (bad_calls HR2.out).mono ?_); rintro e w' ⟨rfl, rfl⟩)
        clear hr
        obtain ⟨m, hm⟩ : ∃ m : Int, (n : Int) = m := ⟨_, rfl⟩
        have HN := hnot.out
        have hm0 : 0 ≤ m := by omega
        have hm1 : m < 9223372036854775808 := by omega
        rw [hm] at HN ⊢
        have HN := Lib.hid HN
        have HQ2 := HQ.out
        rw [hm] at HQ2
        have HQ2 := Lib.hid HQ2
        clear hn hnn hm HQ hnot
        go_wp2_with fail
        go_ret
        exact ⟨ret_i64 (by first | (rw [HN.out, HQ2.out]; done) | rw [HQ2.out] | rw [HN.out] | rfl), HR2.out, chg_trans HC1.out HC2.out⟩
      · rw [if_neg h1]
        have h1b : ((z : Int) == 1) = false := by rw [beq_eq_false_iff_ne]; exact h1
        go_enter Try.func46, Try.ntmps46
        go_wp2_with (first | ((with_reducible refine (rdbyte_calls H.out).mono ?_); rw [HB.out]; rintro e w1 ⟨rfl, hr, hc⟩; have HR1 := Lib.hid hr; have HC1 := Lib.hid hc; clear hr hc) | ((with_reducible refine (rdnum_calls HR1.out).mono ?_); (try dsimp only); rw [HM.out]; rintro e w2 ⟨rfl, hr, hc⟩; have HR2 := Lib.hid hr; have HC2 := Lib.hid hc; clear hr hc) | ((with_reducible refine (bad_calls HR2.out).mono ?_); rintro e w' ⟨rfl, rfl⟩) | ((with_reducible refine (fail_calls HR2.out).mono ?_); rintro e w3 ⟨rfl, hr, hc⟩; have HR3 := Lib.hid hr; have HC3 := Lib.hid hc; clear hr hc))
        go_ret
        exact ⟨rfl, HR2.out, chg_trans HC1.out HC2.out⟩

/-- A text: what it is, as bytes. -/
def textR (xs : List Int) (s : Option Nat) : List Int × Option Nat :=
  match (numR xs s).2 with
  | none => ([], none)
  | some a => if 1048576 < (numR xs s).1 ∨ xs.length - a < (numR xs s).1 then ([], none) else ((xs.drop a).take (numR xs s).1, some (a + (numR xs s).1))

theorem numR_none (xs : List Int) (s : Option Nat) (h : (numR xs s).2 = none) : (numR xs s).1 = 0 := by
  cases s with
  | none => rfl
  | some b =>
    cases hn : takeNum 0 true (xs.drop b) with
    | none => simp only [numR, hn]
    | some p => simp only [numR, hn] at h; cases h

set_option maxRecDepth 100000 in
set_option maxHeartbeats 400000 in
theorem rdtext_calls {w : World} {base g : Nat} {A : Option Addr} {c : Nat} {xs : List Int} {s : Option Nat} (h : Rd w base g A c xs s) :
    Calls Try.prog 47 #[.pointer (some ⟨g, 0, none⟩)] w fun e w' => e = .returned (.string (strOfNums (textR xs s).1)) ∧ Rd w' base g A c xs (textR xs s).2 ∧ Chg (fun k => k = g) w w' := by
  have hll := h.len
  have H := Lib.hid h
  clear h
  have hn := numR_lt xs s
  have hle := numR_le xs s
  have hno := numR_none xs s
  unfold textR
  generalize hm : numR xs s = m at hn hle hno ⊢
  have HM := Lib.hid hm
  clear hm
  obtain ⟨n, u⟩ := m
  dsimp only at hn hle hno ⊢
  cases u with
  | none =>
    obtain rfl := hno rfl
    clear hno hle
    have h0 : ((leftR xs none : Nat) : Int) = 0 := by simp [leftR]
    go_enter Try.func47, Try.ntmps47
    go_wp2_with fail
    ((with_reducible refine (rdnum_calls H.out).mono ?_); rw [HM.out]; rintro e w2 ⟨rfl, hr, hc⟩; have HR2 := Lib.hid hr; have HC2 := Lib.hid hc; clear hr hc)
    go_wp2_with fail
    ((with_reducible refine (left_calls HR2.out).mono ?_); rintro e w3 ⟨rfl, hb⟩; have HB := Lib.hid hb; have HR3 := Lib.hid (HR2.out.below HB.out); clear hb)
    go_wp2_with ((with_reducible refine (bad_calls HR3.out).mono ?_); rintro e w' ⟨rfl, rfl⟩)
    go_ret
    exact ⟨rfl, HR3.out, HC2.out.trans (Chg.of_same HB.out _) (fun _ _ h => h)⟩
  | some a =>
    have ha := hle a rfl
    clear hno hle
    dsimp only
    have hlr : leftR xs (some a) = xs.length - a := rfl
    by_cases hbad : 1048576 < n ∨ xs.length - a < n
    · rw [if_pos hbad]
      by_cases hbig : 1048576 < n
      · clear hbad
        go_enter Try.func47, Try.ntmps47
        go_wp2_with fail
        ((with_reducible refine (rdnum_calls H.out).mono ?_); rw [HM.out]; rintro e w2 ⟨rfl, hr, hc⟩; have HR2 := Lib.hid hr; have HC2 := Lib.hid hc; clear hr hc)
        go_wp2_with ((with_reducible refine (fail_calls HR2.out).mono ?_); rintro e w3 ⟨rfl, hr, hc⟩; have HR3 := Lib.hid hr; have HC3 := Lib.hid hc; clear hr hc)
        go_ret
        exact ⟨rfl, HR3.out, chg_trans HC2.out HC3.out⟩
      · have hsm : xs.length - a < n := by omega
        clear hbad
        go_enter Try.func47, Try.ntmps47
        go_wp2_with fail
        ((with_reducible refine (rdnum_calls H.out).mono ?_); rw [HM.out]; rintro e w2 ⟨rfl, hr, hc⟩; have HR2 := Lib.hid hr; have HC2 := Lib.hid hc; clear hr hc)
        go_wp2_with fail
        ((with_reducible refine (left_calls HR2.out).mono ?_); rw [hlr]; rintro e w3 ⟨rfl, hb⟩; have HB := Lib.hid hb; have HR3 := Lib.hid (HR2.out.below HB.out); clear hb)
        go_wp2_with ((with_reducible refine (fail_calls HR3.out).mono ?_); rintro e w3 ⟨rfl, hr, hc⟩; have HR4 := Lib.hid hr; have HC4 := Lib.hid hc; clear hr hc)
        go_ret
        exact ⟨rfl, HR4.out, chg_trans HC2.out (chg_below HB.out HC4.out)⟩
    · rw [if_neg hbad]
      have hbig : ¬ 1048576 < n := fun h => hbad (.inl h)
      have hsm : ¬ xs.length - a < n := fun h => hbad (.inr h)
      clear hbad
      go_enter Try.func47, Try.ntmps47
      go_wp2_with fail
      ((with_reducible refine (rdnum_calls H.out).mono ?_); rw [HM.out]; rintro e w2 ⟨rfl, hr, hc⟩; have HR2 := Lib.hid hr; have HC2 := Lib.hid hc; clear hr hc)
      go_wp2_with fail
      ((with_reducible refine (left_calls HR2.out).mono ?_); rw [hlr]; rintro e w3 ⟨rfl, hb⟩; have HB := Lib.hid hb; have HR3 := Lib.hid (HR2.out.below HB.out); clear hb)
      have c1 : w3.cell? ⟨g, 1, none⟩ = some (.int .i64 (a : Nat)) := by rw [blk_cell HR3.out.1]; rfl
      have f1 : w3.frozen? ⟨g, 1, none⟩ = false := blk_frozen HR3.out.1 1
      go_wp2_with ((with_reducible refine (bad_calls HR3.out).mono ?_); rintro e w' ⟨rfl, rfl⟩)
      have e2 := blk_set HR3.out.1 1 (.int .i64 ((a : Int) + n))
      have hc : Chg (fun k => k = g) w3 (w3.setCell ⟨g, 1, none⟩ (.int .i64 ((a : Int) + n))) := (Chg.refl (fun k => k = g) w3).setCell (p := ⟨g, 1, none⟩) (.inl (by rfl)) _
      have h2 := HR3.out.set (some (a + n)) (fun b hb => by injection hb; omega) _ (by rw [e2]; simp) hc
      clear c1 f1 e2
      generalize w3.setCell ⟨g, 1, none⟩ (.int .i64 ((a : Int) + n)) = w4 at hc h2 ⊢
      have HC := Lib.hid hc
      have c0 : w4.cell? ⟨g, 0, none⟩ = some (.slice A xs.length c) := by rw [blk_cell h2.1]; rfl
      have c1 : w4.cell? ⟨g, 1, none⟩ = some (.int .i64 ((a : Int) + n)) := by rw [blk_cell h2.1]; simp
      obtain ⟨i0, hi, hzz⟩ := Option.map_eq_some_iff.1 info5
      have hsz : i0.size = 1 := by simp only [Prod.mk.injEq] at hzz; exact hzz.2.1
      obtain ⟨A3, hcut, hrd, _⟩ := print_mid_int (P := Try.prog) (k := .u8) 31 5 Try.underlying31 hi hsz A c xs a ((a : Int) + n) (by omega) (by omega) (by omega) hll.1
      have em : (xs.take ((a : Int) + n).toNat).drop (a : Int).toNat = (xs.drop a).take n := by
        rw [show ((a : Int) + n).toNat = a + n from by omega, Int.toNat_natCast, List.take_drop]
      have hlen : ((xs.drop a).take n).length = n := by rw [List.length_take, List.length_drop]; omega
      rw [em, hlen] at hcut hrd
      rw [Int.toNat_natCast] at hcut
      have hrd4 := hrd w4 (own_reads' h2.2.1)
      have cvt : ∀ m, (convert 31 9 (.slice A3 n (c - a))).run Try.prog (w4.drewN m) = .ok (.string (strOfNums ((xs.drop a).take n))) (w4.drewN m) := fun m => string_of_reads (P := Try.prog) (src := 31) (dst := 9) (c := c - a) Try.underlying31 Try.underlying5 Try.underlying9 (hrd4.below (pw_below_drewN (Below.refl _ _) m))
      have hw1 : IntKind.i64.wrap (n : Int) = n := IntWalk.i64_in _ (by omega)
      have hw3 : IntKind.i64.wrap (a : Int) = a := IntWalk.i64_in _ (by omega)
      have hw2 : IntKind.i64.wrap ((a : Int) + n - n) = a := by rw [show ((a : Int) + n - n) = a from by omega]; exact IntWalk.i64_in _ (by omega)
      have H2 := Lib.hid h2
      clear hc h2 em hrd hrd4 hzz hi hsz hlen
      go_quiet (fail)
      go_wp2_with fail
      go_ret
      exact ⟨rfl, H2.out.below (pw_below_drewN (Below.refl _ _) _), ((chg_trans HC2.out (chg_below HB.out HC.out))).drewN _⟩

end Go.Proofs.Ythobpcbiaimccaa
