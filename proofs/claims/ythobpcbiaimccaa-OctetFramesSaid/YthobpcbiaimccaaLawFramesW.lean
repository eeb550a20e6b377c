/- The walk of the law OctetFrames: it returns true, and writes nothing that was there. Conditions: bytes are bytes; the kinds' ranges. -/
import Derived.Test.YthobpcbiaimccaaRUnf
namespace Go.Proofs.Ythobpcbiaimccaa
open Go.RowKit Go.Proofs.YthobpcbiaimccaaW.PrintWords Go.Proofs.YthobpcbiaimccaaW.PrintLast Go.Proofs.YthobpcbiaimccaaW.PrintMore PRef
set_option linter.unusedVariables false
set_option linter.unusedSimpArgs false

theorem unf_cases (l : List Int) : unf l = 0 ∨ unf l = 8 ∨ unf l = 4 ∨ unf l = 5 := by
  unfold unf
  repeat' split
  all_goals simp

theorem frame_new (A : Option Addr) (c : Nat) (l : List Int) (w : World) (hr : ReadsInt w .u8 A l.length l) (hc : l.length ≤ c) (hb : IsBytes l) (hl : l.length ≤ 1048576) :
    Calls Try.prog 36 #[.slice A l.length c] w fun e w' => ∃ B d, e = .returned (.tuple #[.slice B (frameL l).length d, .int .i64 0]) ∧ Hid (OwnB w' w.heap.size (.slice B (frameL l).length d) (frameL l)) ∧ Below w.heap.size w w' :=
  (frame_calls A c l w hr hc hb hl).mono fun e w' ⟨v, h1, h2, h3⟩ => by
    obtain ⟨B, d, rfl, _, _⟩ := h2.reads
    exact ⟨B, d, h1, Lib.hid h2, h3⟩
theorem rframe_new (A : Option Addr) (c : Nat) (l : List Int) (w : World) (hr : ReadsInt w .u8 A l.length l) (hc : l.length ≤ c) (hb : IsBytes l) (hl : l.length ≤ 1048576) :
    Calls Try.prog 37 #[.slice A l.length c] w fun e w' => ∃ B d, e = .returned (.slice B (frameL l).length d) ∧ Hid (OwnB w' w.heap.size (.slice B (frameL l).length d) (frameL l)) ∧ Below w.heap.size w w' :=
  (rframe_calls A c l w hr hc hb (by omega)).mono fun e w' ⟨v, h1, h2, h3⟩ => by
    obtain ⟨B, d, rfl, _, _⟩ := h2.reads
    exact ⟨B, d, h1, Lib.hid h2, h3⟩

set_option maxRecDepth 100000 in
set_option maxHeartbeats 4000000 in
theorem frames_law (A B : Option Addr) (n1 c1 n2 c2 : Nat) (xs ys : List Int) (k : Int) (w : World) (hr1 : ReadsInt w .u8 A n1 xs) (hr2 : ReadsInt w .u8 B n2 ys) (hc1 : n1 ≤ c1) (hc2 : n2 ≤ c2) (hx : IsBytes xs) (hy : IsBytes ys) (hk0 : -9223372036854775808 ≤ k) (hk1 : k ≤ 9223372036854775807) :
    Calls Try.prog 7 #[.slice A n1 c1, .slice B n2 c2, .int .i64 k] w fun e w' => e = .returned (.bool true) ∧ Below w.heap.size w w' := by
  have HR1 := Lib.hid hr1
  have HR2 := Lib.hid hr2
  clear hr1 hr2
  go_enter Try.func7, Try.ntmps7
  go_wp2_with fail
  ((with_reducible refine (cut_new _ _ _ _ _ HR1.out hc1 hx).mono ?_); rintro e w' ⟨⟨us, rfl, hxa, h1a, HU, HX, HE1⟩, rfl⟩)
  go_wp2_with fail
  ((with_reducible refine (cut_new _ _ _ _ _ HR2.out hc2 hy).mono ?_); rintro e w' ⟨⟨vs, rfl, hya, h2a, HV, HY, HE2⟩, rfl⟩)
  clear HR1 HR2 hc1 hc2 HE1 HE2 hx hy
  go_wp2_with fail
  ((with_reducible refine (frame_new _ _ us _ HU.out h1a HX.out (by omega)).mono ?_); rintro e w1 ⟨C, c3, rfl, HF, hb1⟩)
  have HB1 := Lib.hid hb1
  clear hb1
  have ix0 : ∀ w, (Instr.index 59 (.agg #[.int .i64 0, .int .i64 8, .int .i64 4, .int .i64 5]) (.int .i64 0)).run Try.prog w = .ok (.int .i64 0) w := fun _ => by kernel_rfl
  have ix1 : ∀ w, (Instr.index 59 (.agg #[.int .i64 0, .int .i64 8, .int .i64 4, .int .i64 5]) (.int .i64 1)).run Try.prog w = .ok (.int .i64 8) w := fun _ => by kernel_rfl
  have ix2 : ∀ w, (Instr.index 59 (.agg #[.int .i64 0, .int .i64 8, .int .i64 4, .int .i64 5]) (.int .i64 2)).run Try.prog w = .ok (.int .i64 4) w := fun _ => by kernel_rfl
  have ix3 : ∀ w, (Instr.index 59 (.agg #[.int .i64 0, .int .i64 8, .int .i64 4, .int .i64 5]) (.int .i64 3)).run Try.prog w = .ok (.int .i64 5) w := fun _ => by kernel_rfl
  generalize hfl : (frameL us).length = fl at HF ⊢
  clear hfl
  go_upto_region 3 with (fail)
  go_cut [34] (fun v34 wc => v34 = .bool false ∧ Hid (Below w.heap.size w wc))
  case first =>
    have HBc : Hid (Below w1.heap.size w1 w1.drew) := Lib.hid (below_drew (Below.refl _ _))
    have cva := own_string (src := 31) (dst := 9) Try.underlying31 Try.underlying5 Try.underlying9 (HF.out.below HBc.out)
    go_region_with (first | (go_at_call 37; refine (rframe_new _ _ us _ (HU.out.below (HB1.out.trans (HBc.out.mono HB1.out.size))) h1a HX.out (by omega)).mono ?_; rintro e wx ⟨D, d4, rfl, HO, hbx⟩; have HBn := Lib.hid (HBc.out.trans (hbx.mono HBc.out.size)); clear hbx HBc; have HBc := HBn; clear HBn; have cvx := own_string (src := 31) (dst := 9) Try.underlying31 Try.underlying5 Try.underlying9 HO.out; have cva2 := own_string (src := 31) (dst := 9) Try.underlying31 Try.underlying5 Try.underlying9 (HF.out.below HBc.out)))
    all_goals (simp only [Exit.then]; go_wp2_with fail; go_meet; case rel => exact ⟨rfl, Lib.hid (HB1.out.trans (HBc.out.mono HB1.out.size))⟩)
  case rest =>
    obtain ⟨rfl, HBr⟩ := hcut
    by_cases hkr : k < 0 ∨ (vs.length : Int) < k
    · go_wp2_with fail
      ((with_reducible refine (unframe_arg _ _ _ _ _ hkr).mono ?_); rintro e w' ⟨rfl, rfl⟩)
      by_cases hk2 : k < 0
      · have hd : decide (k < 0) = true := by simpa using hk2
        clear hkr hk2
        go_wp2_with fail
        ((with_reducible refine (lives_calls _).mono ?_); rintro e w5 ⟨rfl, hb5⟩)
        go_wp2_with fail
        go_ret
        exact ⟨rfl, HBr.out.trans (hb5.mono HBr.out.size)⟩
      · have hd : decide (k < 0) = false := by simpa using hk2
        have hd2 : decide ((vs.length : Int) < k) = true := by simp; omega
        clear hkr hk2
        go_wp2_with fail
        ((with_reducible refine (lives_calls _).mono ?_); rintro e w5 ⟨rfl, hb5⟩)
        go_wp2_with fail
        go_ret
        exact ⟨rfl, HBr.out.trans (hb5.mono HBr.out.size)⟩
    · obtain ⟨m, rfl⟩ : ∃ m : Nat, k = m := ⟨k.toNat, by omega⟩
      have hm : m ≤ vs.length := by omega
      have hd : decide ((m : Int) < 0) = false := by simp
      have hd2 : decide ((vs.length : Int) < (m : Int)) = false := by simp; omega
      clear hkr
      obtain ⟨i0, hi, hzz⟩ := Option.map_eq_some_iff.1 info5
      have hsz : i0.size = 1 := by simp only [Prod.mk.injEq] at hzz; exact hzz.2.1
      obtain ⟨A1, hcut1, hrd⟩ := print_cut (P := Try.prog) 31 5 .i64 Try.underlying31 hi hsz B vs.length c2 m hm
      have HRl := Lib.hid (hrd w .u8 vs h2a HV.out)
      have HBl := Lib.hid (HY.out.drop m)
      have hll : (vs.drop m).length = vs.length - m := List.length_drop ..
      clear hi hsz hzz hrd
      go_wp2_with fail
      ((with_reducible refine (unframe_calls _ _ _ m vs _ (HV.out.below HBr.out) h2a HY.out hm).mono ?_); rintro e w2 ⟨v, kk, rfl, hU1, hU2, hb2⟩)
      have HB2 := Lib.hid (HBr.out.trans (hb2.mono HBr.out.size))
      have HU1 := Lib.hid hU1
      have HU2 := Lib.hid hU2
      clear hU1 hU2 hb2
      rw [← hll] at hcut1 HRl
      generalize vs.drop m = l at HU1 HU2 HRl HBl hll hcut1 ⊢
      have hlc : l.length ≤ c2 - m := by omega
      clear hll
      go_wp2_with fail
      ((with_reducible refine (runframe_calls _ _ l _ (HRl.out.below HB2.out) hlc HBl.out).mono ?_); rintro e w3 ⟨v', k', rfl, hR2, hb3⟩)
      have HB3 := Lib.hid (HB2.out.trans (hb3.mono HB2.out.size))
      have HC3 := Lib.hid hb3
      have HR2 := Lib.hid hR2
      clear hR2 hb3 hcut1
      rcases unf_cases l with h | h | h | h
      · obtain ⟨ek, ho⟩ := HU2.out h
        obtain ⟨ek', ho'⟩ := HR2.out h
        have cva := own_string (P := Try.prog) (src := 31) (dst := 9) Try.underlying31 Try.underlying5 Try.underlying9 (ho.below HC3.out)
        have cvb := own_string (P := Try.prog) (src := 31) (dst := 9) Try.underlying31 Try.underlying5 Try.underlying9 ho'
        rw [h, show whyOf 0 = 0 from rfl, ek, ek']
        have hN : Crc.num (l.take 4) < 4294967296 := Nat.lt_of_lt_of_le (Crc.num_lt (l.take 4) (HBl.out.take 4).lt) (by
          have : 256 ^ (l.take 4).length ≤ 256 ^ 4 := Nat.pow_le_pow_right (by omega) (by rw [List.length_take]; omega)
          exact this)
        clear h HU1 HU2 HR2 ho ho' ek ek'
        generalize Crc.num (l.take 4) = N at hN ⊢
        have heq : (((m : Int) + (N : Int) + 8) == ((m : Int) + ((N : Int) + 8))) = true := by rw [beq_iff_eq]; omega
        go_wp2_with fail
        ((with_reducible refine (lives_calls _).mono ?_); rintro e w5 ⟨rfl, hb5⟩)
        go_wp2_with fail
        go_ret
        exact ⟨rfl, HB3.out.trans (hb5.mono HB3.out.size)⟩
      · have hne : unf l ≠ 0 := by omega
        obtain ⟨rfl, rfl⟩ := HU1.out hne
        rw [h, show whyOf 8 = 1 from rfl]
        clear h hne HU1 HU2 HR2
        go_wp2_with fail
        ((with_reducible refine (lives_calls _).mono ?_); rintro e w5 ⟨rfl, hb5⟩)
        go_wp2_with fail
        go_ret
        exact ⟨rfl, HB3.out.trans (hb5.mono HB3.out.size)⟩
      · have hne : unf l ≠ 0 := by omega
        obtain ⟨rfl, rfl⟩ := HU1.out hne
        rw [h, show whyOf 4 = 2 from rfl]
        clear h hne HU1 HU2 HR2
        go_wp2_with fail
        ((with_reducible refine (lives_calls _).mono ?_); rintro e w5 ⟨rfl, hb5⟩)
        go_wp2_with fail
        go_ret
        exact ⟨rfl, HB3.out.trans (hb5.mono HB3.out.size)⟩
      · have hne : unf l ≠ 0 := by omega
        obtain ⟨rfl, rfl⟩ := HU1.out hne
        rw [h, show whyOf 5 = 3 from rfl]
        clear h hne HU1 HU2 HR2
        go_wp2_with fail
        ((with_reducible refine (lives_calls _).mono ?_); rintro e w5 ⟨rfl, hb5⟩)
        go_wp2_with fail
        go_ret
        exact ⟨rfl, HB3.out.trans (hb5.mono HB3.out.size)⟩

end Go.Proofs.Ythobpcbiaimccaa
