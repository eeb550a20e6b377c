/- The reference's TakeInt and TakeText, by plain lists. Conditions: bytes are bytes; the rows hold at most 3000 bytes (TakeText). -/
import Derived.Test.YthobpcbiaimccaaRTake
namespace Go.Proofs.Ythobpcbiaimccaa
open Go.RowKit Go.Proofs.YthobpcbiaimccaaW.PrintWords Go.Proofs.YthobpcbiaimccaaW.PrintLast Go.Proofs.YthobpcbiaimccaaW.PrintMore PRef
set_option linter.unusedVariables false
set_option linter.unusedSimpArgs false

/-- How far a read went: 0 if it went bad. -/
def posR {α : Type} (p : α × Option Nat) : Nat := p.2.getD 0
theorem takeV_numR (xs : List Int) : takeV xs = ((numR xs (some 0)).1, posR (numR xs (some 0))) := by
  unfold takeV numR posR
  simp only [List.drop_zero]
  cases takeNum 0 true xs with
  | none => rfl
  | some p => simp
theorem numR_pos (xs : List Int) (k : Nat) (h : (numR xs (some 0)).2 = some k) : 0 < k := by
  unfold numR at h
  simp only [List.drop_zero] at h
  cases hn : takeNum 0 true xs with
  | none => rw [hn] at h; cases h
  | some p =>
    rw [hn] at h
    have := takeNum_le _ _ _ p.1 p.2 hn
    injection h with h
    omega

theorem cell_kept {w w' : World} (h : Below w.heap.size w w') {a : Addr} {v : Value} (hc : w.cell? a = some v) : w'.cell? a = some v := by
  rw [h.cell (World.block_lt_of_cell? w a hc)]; exact hc

/-- TakeInt behind its first byte. -/
def intC (z : Int) : Option (Nat × Nat) → Int × Option Nat
  | none => (0, none)
  | some p => if 1 < z ∨ 9223372036854775808 ≤ p.1 then (0, none) else (if z = 1 then -1 - (p.1 : Int) else (p.1 : Int), some (p.2 + 1))
theorem intR_intC (z : Int) (cs : List Int) : intR (z :: cs) (some 0) = intC z (takeNum 0 true cs) := by
  rw [intR_cons]
  cases takeNum 0 true cs with
  | none => rfl
  | some p => rw [intC, Nat.add_comm p.2 1]
theorem intC_bad (z : Int) (v : Option (Nat × Nat)) (h : 1 < z) : intC z v = (0, none) := by
  cases v with
  | none => rfl
  | some p => exact if_pos (.inl h)
theorem intC_some (z : Int) (m k : Nat) : intC z (some (m, k)) = if 1 < z ∨ 9223372036854775808 ≤ m then (0, none) else (if z = 1 then -1 - (m : Int) else (m : Int), some (k + 1)) := rfl

set_option maxRecDepth 100000 in
set_option maxHeartbeats 4000000 in
theorem rtakeint_calls (A : Option Addr) (c : Nat) (xs : List Int) (w : World) (hr : ReadsInt w .u8 A xs.length xs) (hc : xs.length ≤ c) (hb : IsBytes xs) :
    Calls Try.prog 50 #[.slice A xs.length c] w fun e w' => e = .returned (.tuple #[.int .i64 (intR xs (some 0)).1, .int .i64 (posR (intR xs (some 0)) : Nat)]) ∧ Below w.heap.size w w' := by
  have hl63 := hr.2.1
  have HR := Lib.hid hr
  have HX := Lib.hid hb
  cases xs with
  | nil =>
    clear hr hb
    go_enter Try.func50, Try.ntmps50
    go_wp2_with fail
    go_ret2
    exact ⟨rfl, Below.refl _ _⟩
  | cons z cs =>
    have hzb := hb z (by simp)
    obtain ⟨i0, hi0, hzz⟩ := Option.map_eq_some_iff.1 info5
    have hsz : i0.size = 1 := by simp only [Prod.mk.injEq] at hzz; exact hzz.2.1
    obtain ⟨ad, rfl, hcell⟩ := HR.out.at_ (0 : Int) (by omega) (by rw [List.length_cons]; omega)
    have ea : ad.add (0 : Int).toNat = ad := by simp [Addr.add]
    rw [ea] at hcell
    change w.cell? ad = some (.int .u8 z) at hcell
    have hlb : (((z :: cs).length : Int) == 0) = false := by rw [beq_eq_false_iff_ne, List.length_cons]; omega
    have hcut := cut_from (P := Try.prog) 31 5 .i64 Try.underlying31 hi0 1 hsz (some ad) (z :: cs).length c 1 (by omega) (by rw [List.length_cons]; omega)
    have hrd := HR.out.drop_ 1 (by rw [List.length_cons]; omega) hc
    rw [show (1 : Int).toNat = 1 from rfl] at hcut
    rw [List.drop_one, List.tail_cons] at hrd
    rw [show (z :: cs).length - 1 = cs.length from by rw [List.length_cons]; rfl] at hcut hrd
    rw [Nat.mul_one] at hcut
    have hcs : cs.length ≤ c - 1 := by rw [List.length_cons] at hc; omega
    have HRC := Lib.hid hrd
    have HXC : Hid (IsBytes cs) := Lib.hid (fun x hx => hb x (by simp [hx]))
    rw [intR_intC]
    generalize (if c = 1 then some ad else (some ad).map fun x => x.add 1) = A1 at hcut HRC
    clear hr hb hrd ea hi0 hsz hzz
    obtain ⟨v, hv⟩ : ∃ v, v = takeNum 0 true cs := ⟨_, rfl⟩
    rw [← hv]
    have htv : takeV cs = v.getD (0, 0) := by rw [hv]; rfl
    have hle : ∀ p, v = some p → 0 < p.2 ∧ p.2 ≤ cs.length ∧ p.1 < 18446744073709551616 := fun p hp => takeNum_le cs 0 true p.1 p.2 (by rw [← hv]; exact hp)
    have HTV := Lib.hid htv
    clear hv htv
    generalize hN : (z :: cs).length = N at hlb hcut hc HR hl63 ⊢
    have hNl : cs.length + 1 = N := by rw [← hN, List.length_cons]
    clear hN
    by_cases hz : 1 < z
    · have hzb : decide (1 < z) = true := by simpa using hz
      rw [intC_bad z v hz]
      clear hle hcut
      go_enter Try.func50, Try.ntmps50
      go_wp2_with fail
      go_ret2
      exact ⟨rfl, Below.refl _ _⟩
    · have hzb : decide (1 < z) = false := by simpa using hz
      cases v with
      | none =>
        clear hle
        go_enter Try.func50, Try.ntmps50
        go_wp2_with ((with_reducible refine (rtakenum_calls _ _ _ _ HRC.out hcs HXC.out).mono ?_); rw [HTV.out]; rintro e w1 ⟨rfl, hb1⟩; have HB1 := Lib.hid hb1; clear hb1; have hcell1 := cell_kept HB1.out hcell)
        go_ret2
        exact ⟨rfl, HB1.out⟩
      | some p =>
        obtain ⟨m, k⟩ := p
        obtain ⟨hk0, hk1, hm64⟩ := hle _ rfl
        clear hle
        rw [intC_some]
        dsimp only at hk0 hk1 hm64
        have hkb : (((k : Nat) : Int) == 0) = false := by rw [beq_eq_false_iff_ne]; omega
        by_cases hbig : 9223372036854775808 ≤ m
        · rw [if_pos (.inr hbig)]
          have hbb : decide ((9223372036854775808 : Int) ≤ (m : Int)) = true := by simp; omega
          clear hbig hm64
          go_enter Try.func50, Try.ntmps50
          go_wp2_with ((with_reducible refine (rtakenum_calls _ _ _ _ HRC.out hcs HXC.out).mono ?_); rw [HTV.out]; rintro e w1 ⟨rfl, hb1⟩; have HB1 := Lib.hid hb1; clear hb1; have hcell1 := cell_kept HB1.out hcell)
          go_ret2
          exact ⟨rfl, HB1.out⟩
        · rw [if_neg (by omega)]
          have hbb : decide ((9223372036854775808 : Int) ≤ (m : Int)) = false := by simp; omega
          have hw : IntKind.i64.wrap (m : Int) = (m : Int) := IntWalk.i64_in _ (by omega)
          have hkw : IntKind.i64.wrap ((k : Int) + 1) = (k : Int) + 1 := IntWalk.i64_in _ (by omega)
          by_cases h1 : z = 1
          · rw [if_pos h1]
            subst h1
            have hn1 : IntKind.i64.wrap (-(m : Int)) = -(m : Int) := IntWalk.i64_in _ (by omega)
            have hn2 : IntKind.i64.wrap (-(m : Int) - 1) = -1 - (m : Int) := by rw [IntWalk.i64_in _ (by omega)]; omega
            clear hbig hm64
            go_enter Try.func50, Try.ntmps50
            go_wp2_with ((with_reducible refine (rtakenum_calls _ _ _ _ HRC.out hcs HXC.out).mono ?_); rw [HTV.out]; rintro e w1 ⟨rfl, hb1⟩; have HB1 := Lib.hid hb1; clear hb1; have hcell1 := cell_kept HB1.out hcell)
            go_ret2
            exact ⟨rfl, HB1.out⟩
          · rw [if_neg h1]
            have h1b : (z == 1) = false := by rw [beq_eq_false_iff_ne]; exact h1
            clear hbig hm64
            go_enter Try.func50, Try.ntmps50
            go_wp2_with ((with_reducible refine (rtakenum_calls _ _ _ _ HRC.out hcs HXC.out).mono ?_); rw [HTV.out]; rintro e w1 ⟨rfl, hb1⟩; have HB1 := Lib.hid hb1; clear hb1; have hcell1 := cell_kept HB1.out hcell)
            go_ret2
            exact ⟨rfl, HB1.out⟩

set_option maxRecDepth 100000 in
set_option maxHeartbeats 4000000 in
theorem rtaketext_calls (A : Option Addr) (c : Nat) (xs : List Int) (w : World) (hr : ReadsInt w .u8 A xs.length xs) (hc : xs.length ≤ c) (hb : IsBytes xs) :
    Calls Try.prog 51 #[.slice A xs.length c] w fun e w' => e = .returned (.tuple #[.string (strOfNums (textR xs (some 0)).1), .int .i64 (posR (textR xs (some 0)) : Nat)]) ∧ Below w.heap.size w w' := by
  have hl63 := hr.2.1
  have HR := Lib.hid hr
  have HX := Lib.hid hb
  have HTV := Lib.hid (takeV_numR xs)
  have hpos := numR_pos xs
  have hle := numR_le xs (some 0)
  have hlt := numR_lt xs (some 0)
  have hno := numR_none xs (some 0)
  unfold textR
  obtain ⟨p, hp⟩ : ∃ p, p = numR xs (some 0) := ⟨_, rfl⟩
  rw [← hp] at HTV hpos hle hlt hno ⊢
  clear hr hb hp
  obtain ⟨n, s⟩ := p
  dsimp only at hpos hle hlt hno ⊢
  cases s with
  | none =>
    obtain rfl : n = 0 := hno rfl
    have HTV : Hid (takeV xs = (0, 0)) := HTV
    clear hpos hle hno
    go_enter Try.func51, Try.ntmps51
    go_wp2_with ((with_reducible refine (rtakenum_calls _ _ _ _ HR.out hc HX.out).mono ?_); rw [HTV.out]; rintro e w1 ⟨rfl, hb1⟩; have HB1 := Lib.hid hb1; clear hb1)
    go_ret2
    exact ⟨rfl, HB1.out⟩
  | some a =>
    have hpos := hpos a rfl
    have hle := hle a rfl
    have HTV : Hid (takeV xs = (n, a)) := HTV
    clear hno
    dsimp only
    have hkb : (((a : Nat) : Int) == 0) = false := by rw [beq_eq_false_iff_ne]; omega
    obtain ⟨N, hN⟩ : ∃ N, N = xs.length := ⟨_, rfl⟩
    have hi1 : IntKind.i64.wrap ((N : Int) - (a : Int)) = (N : Int) - (a : Int) := IntWalk.i64_in _ (by omega)
    have hi2 : IntKind.u64.wrap ((N : Int) - (a : Int)) = (N : Int) - (a : Int) := by show ((N : Int) - (a : Int)) % 18446744073709551616 = _; exact Int.emod_eq_of_lt (by omega) (by omega)
    by_cases hbad : 1048576 < n ∨ xs.length - a < n
    · rw [if_pos hbad]
      rw [← hN] at hl63 hle hc HR hbad ⊢
      by_cases h1 : 1048576 < n
      · have hb1 : decide ((1048576 : Int) < (n : Int)) = true := by simp; omega
        clear hbad h1 hi1 hi2
        rw [hN] at hc HR ⊢
        go_enter Try.func51, Try.ntmps51
        go_wp2_with ((with_reducible refine (rtakenum_calls _ _ _ _ HR.out hc HX.out).mono ?_); rw [HTV.out]; rintro e w1 ⟨rfl, hb1⟩; have HB1 := Lib.hid hb1; clear hb1)
        go_ret2
        exact ⟨rfl, HB1.out⟩
      · have hb1 : decide ((1048576 : Int) < (n : Int)) = false := by simp; omega
        have hb2 : decide ((N : Int) - (a : Int) < (n : Int)) = true := by simp; omega
        clear hbad h1
        rw [hN] at hc HR hb2 hi1 hi2 ⊢
        go_enter Try.func51, Try.ntmps51
        go_wp2_with ((with_reducible refine (rtakenum_calls _ _ _ _ HR.out hc HX.out).mono ?_); rw [HTV.out]; rintro e w1 ⟨rfl, hb1⟩; have HB1 := Lib.hid hb1; clear hb1)
        go_ret2
        exact ⟨rfl, HB1.out⟩
    · rw [if_neg hbad]
      have hb1 : decide ((1048576 : Int) < (n : Int)) = false := by simp; omega
      have hb2 : decide ((xs.length : Int) - (a : Int) < (n : Int)) = false := by simp; omega
      obtain ⟨i0, hi0, hzz⟩ := Option.map_eq_some_iff.1 info5
      have hsz : i0.size = 1 := by simp only [Prod.mk.injEq] at hzz; exact hzz.2.1
      obtain ⟨A2, hcut, hrd, _⟩ := print_mid_int (P := Try.prog) (k := .u8) 31 5 Try.underlying31 hi0 hsz A c xs (a : Int) ((a : Int) + (n : Int)) (by omega) (by omega) (by omega) hc
      have em : (xs.take ((a : Int) + (n : Int)).toNat).drop (a : Int).toNat = (xs.drop a).take n := by
        rw [Int.toNat_natCast, show ((a : Int) + (n : Int)).toNat = a + n from by omega, List.take_drop]
      rw [em] at hcut hrd
      have HRD := Lib.hid (hrd w HR.out)
      have hn1 : IntKind.i64.wrap (n : Int) = (n : Int) := IntWalk.i64_in _ (by omega)
      have hn2 : IntKind.i64.wrap ((a : Int) + (n : Int)) = (a : Int) + (n : Int) := IntWalk.i64_in _ (by omega)
      rw [hN] at hi1 hi2
      clear hbad hi0 hsz hzz hrd em hN
      generalize (xs.drop a).take n = ys at hcut HRD
      clear hlt
      go_enter Try.func51, Try.ntmps51
      go_wp2_with ((with_reducible refine (rtakenum_calls _ _ _ _ HR.out hc HX.out).mono ?_); rw [HTV.out]; rintro e w1 ⟨rfl, hb1⟩; have HB1 := Lib.hid hb1; clear hb1; have cvt := string_of_reads (P := Try.prog) (src := 31) (dst := 9) (c := c - a) Try.underlying31 Try.underlying5 Try.underlying9 (HRD.out.below HB1.out))
      go_ret2
      exact ⟨rfl, HB1.out⟩

end Go.Proofs.Ythobpcbiaimccaa
