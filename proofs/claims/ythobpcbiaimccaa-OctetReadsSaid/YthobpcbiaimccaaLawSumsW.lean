/- The walk of the law OctetSums: it returns true, and writes nothing that was there. Conditions: bytes are bytes. -/
import Derived.Test.YthobpcbiaimccaaLives
namespace Go.Proofs.Ythobpcbiaimccaa
open Go.RowKit Go.Proofs.YthobpcbiaimccaaW.PrintWords Go.Proofs.YthobpcbiaimccaaW.PrintLast Go.Proofs.YthobpcbiaimccaaW.PrintMore PRef
set_option linter.unusedVariables false
set_option linter.unusedSimpArgs false

theorem reads_len {w : World} {k : IntKind} {A : Option Addr} {n : Nat} {xs : List Int} (h : ReadsInt w k A n xs) : ReadsInt w k A xs.length xs := by rw [h.1]; exact h
theorem own_empty (W : World) (base : Nat) (hb : base ≤ W.heap.size) : (W.alloc (.cells #[] 5)).ownsRow base 5 1 (.slice (some ⟨W.heap.size, 0, none⟩) 0 0) ([] : List Int).length (nums .u8 []) := own_lit W base 5 .u8 [] hb (by simp)

set_option maxRecDepth 100000 in
set_option maxHeartbeats 1000000 in
theorem sums_law (A B : Option Addr) (n1 c1 n2 c2 : Nat) (xs ys : List Int) (m : Nat) (w : World) (hr1 : ReadsInt w .u8 A n1 xs) (hr2 : ReadsInt w .u8 B n2 ys) (hc1 : n1 ≤ c1) (hc2 : n2 ≤ c2) (hx : IsBytes xs) (hy : IsBytes ys) (hm : m < 4294967296) :
    Calls Try.prog 4 #[.slice A n1 c1, .slice B n2 c2, .int .u32 m] w fun e w' => e = .returned (.bool true) ∧ Below w.heap.size w w' := by
  have HR1 := Lib.hid hr1
  have HR2 := Lib.hid hr2
  clear hr1 hr2
  go_enter Try.func4, Try.ntmps4
  go_wp2_with fail
  ((with_reducible refine (cut_new _ _ _ _ _ HR1.out hc1 hx).mono ?_); rintro e w' ⟨⟨us, rfl, hxa, h1a, HU, HX, HE1⟩, rfl⟩)
  go_wp2_with fail
  ((with_reducible refine (cut_new _ _ _ _ _ HR2.out hc2 hy).mono ?_); rintro e w' ⟨⟨vs, rfl, hya, h2a, HV, HY, HE2⟩, rfl⟩)
  clear HR1 HR2 hc1 hc2 HE1 HE2 hx hy
  have HB0 := Lib.hid ((Below.refl w.heap.size w).alloc (Nat.le_refl _) (.cells #[] 5))
  go_wp2_with (first | ((with_reducible refine gate_builtin (b := .append) (xs := #[.tmp 12, .tmp 13]) rfl ?_); at_builtin; refine print_append_row (w0 := w) w.heap.size rfl (.tmp 12) (.tmp 13) 31 5 .u8 1 rfl Try.underlying31 info5 (by decide) _ [] us A us.length c1 rfl rfl (own_empty w _ (Nat.le_refl _)) (HU.out.below HB0.out) HB0.out (by simp) ?hl ?_; (case hl => simp; omega); intro v1 w1 hown hB hg hat; rw [List.nil_append] at hown; have HO1 := Lib.hid hown; have HB1 := Lib.hid hB; clear hown hB hg hat) | ((with_reducible refine gate_builtin (b := .append) (xs := #[.tmp 14, .tmp 15]) rfl ?_); at_builtin; refine print_append_row (w0 := w) w.heap.size rfl (.tmp 14) (.tmp 15) 31 5 .u8 1 rfl Try.underlying31 info5 (by decide) _ us vs B vs.length c2 rfl rfl HO1.out (HV.out.below HB1.out) HB1.out HB1.out.size ?hl2 ?_; (case hl2 => omega); intro v2 w2 hown hB hg hat; have HO2 := Lib.hid (show OwnB w2 w.heap.size v2 (us ++ vs) from hown); have HB2 := Lib.hid hB; clear hown hB hg hat))
  obtain ⟨C, c3, rfl, hc3, hrw⟩ := HO2.out.reads
  have HW := Lib.hid hrw
  have HZ : Hid (IsBytes (us ++ vs)) := Lib.hid (HX.out.append HY.out)
  have hzl : (us ++ vs).length ≤ 6000 := by rw [List.length_append]; omega
  have hfl : [us, vs].flatten = us ++ vs := by simp
  have hfl1 : [us ++ vs].flatten = us ++ vs := by simp
  have hfl2 : [us].flatten = us := by simp
  have HMA : Hid (Crc.more (Crc.more 0 us) vs = Crc.more 0 (us ++ vs)) := Lib.hid (Crc.more_append 0 us vs HX.out (by omega))
  have HFL := Lib.hid (And.intro hfl (And.intro hfl1 hfl2))
  clear hrw HO1 HO2 HB1 HB0 hfl hfl1 hfl2
  generalize us ++ vs = zs at HW HZ hzl hc3 HFL HMA
  -- Sum(a, b)
  have hk := blk_new w2 (.cells #[.slice A us.length c1, .slice B vs.length c2] 31)
  have HB3 := Lib.hid (HB2.out.alloc HB2.out.size (.cells #[.slice A us.length c1, .slice B vs.length c2] 31))
  have HC3 := Lib.hid ((Below.refl w2.heap.size w2).alloc (Nat.le_refl _) (.cells #[.slice A us.length c1, .slice B vs.length c2] 31))
  generalize w2.alloc (.cells #[.slice A us.length c1, .slice B vs.length c2] 31) = w3 at hk HB3 HC3 ⊢
  have HL := Lib.hid (readsLs_two hk (HU.out.below HB3.out) (HV.out.below HB3.out))
  clear hk
  ((with_reducible refine (sum_calls _ _ _ _ _ HL.out (by rw [HFL.out.1]; exact HZ.out)).mono ?_); rintro e w' ⟨rfl, rfl⟩)
  rw [HFL.out.1]
  clear HL
  go_wp2_with fail
  ((with_reducible refine (rcrc_calls _ _ zs _ (HW.out.below HC3.out) hc3 HZ.out (by omega)).mono ?_); rintro e w4 ⟨rfl, hb4⟩)
  have HB4 := Lib.hid (HB3.out.trans (hb4.mono HB3.out.size))
  have HC4 := Lib.hid (HC3.out.trans (hb4.mono HC3.out.size))
  clear hb4
  go_wp2_with fail
  have hk := blk_new w4 (.cells #[.slice C zs.length c3] 31)
  have HB5 := Lib.hid (HB4.out.alloc HB4.out.size (.cells #[.slice C zs.length c3] 31))
  have HC5 := Lib.hid (HC4.out.alloc HC4.out.size (.cells #[.slice C zs.length c3] 31))
  generalize w4.alloc (.cells #[.slice C zs.length c3] 31) = w5 at hk HB5 HC5 ⊢
  have HL := Lib.hid (readsLs_one hk (HW.out.below HC5.out))
  clear hk
  ((with_reducible refine (sum_calls _ _ _ _ _ HL.out (by rw [HFL.out.2.1]; exact HZ.out)).mono ?_); rintro e w' ⟨rfl, rfl⟩)
  rw [HFL.out.2.1]
  clear HL
  go_wp2_with fail
  ((with_reducible refine (rcrc_calls _ _ zs _ (HW.out.below HC5.out) hc3 HZ.out (by omega)).mono ?_); rintro e w6 ⟨rfl, hb6⟩)
  have HB6 := Lib.hid (HB5.out.trans (hb6.mono HB5.out.size))
  have HC6 := Lib.hid (HC5.out.trans (hb6.mono HC5.out.size))
  clear hb6
  go_wp2_with fail
  have hk := blk_new w6 (.cells #[.slice A us.length c1] 31)
  have HB7 := Lib.hid (HB6.out.alloc HB6.out.size (.cells #[.slice A us.length c1] 31))
  have HC7 := Lib.hid (HC6.out.alloc HC6.out.size (.cells #[.slice A us.length c1] 31))
  generalize w6.alloc (.cells #[.slice A us.length c1] 31) = w7 at hk HB7 HC7 ⊢
  have HL := Lib.hid (readsLs_one hk (HU.out.below HB7.out))
  clear hk
  ((with_reducible refine (sum_calls _ _ _ _ _ HL.out (by rw [HFL.out.2.2]; exact HX.out)).mono ?_); rintro e w' ⟨rfl, rfl⟩)
  rw [HFL.out.2.2]
  clear HL
  go_wp2_with fail
  ((with_reducible refine (more_calls _ _ _ _ vs _ (Crc.more_lt _ _) (HV.out.below HB7.out) HY.out).mono ?_); rintro e w' ⟨rfl, rfl⟩)
  rw [HMA.out]
  go_wp2_with fail
  ((with_reducible refine (rcrc_calls _ _ zs _ (HW.out.below HC7.out) hc3 HZ.out (by omega)).mono ?_); rintro e w8 ⟨rfl, hb8⟩)
  have HB8 := Lib.hid (HB7.out.trans (hb8.mono HB7.out.size))
  have HC8 := Lib.hid (HC7.out.trans (hb8.mono HC7.out.size))
  clear hb8
  go_wp2_with fail
  ((with_reducible refine (more_calls _ _ _ _ vs _ hm (HV.out.below HB8.out) HY.out).mono ?_); rintro e w' ⟨rfl, rfl⟩)
  go_wp2_with fail
  rw [show (4294967295 - (m : Int)) = ((4294967295 - m : Nat) : Int) from by omega]
  ((with_reducible refine (rsum_calls (4294967295 - m) _ _ vs _ (by omega) (HV.out.below HB8.out) h2a HY.out (by omega)).mono ?_); rintro e w9 ⟨rfl, hb9⟩)
  have HB9 := Lib.hid (HB8.out.trans (hb9.mono HB8.out.size))
  clear hb9
  have hrl := Crc.run_lt vs HY.out.lt (4294967295 - m) (by omega)
  have hq : (((Crc.more m vs : Nat) : Int) == 4294967295 - ((Crc.run (4294967295 - m) vs : Nat) : Int)) = true := by
    rw [beq_iff_eq]; unfold Crc.more; omega
  generalize Crc.run (4294967295 - m) vs = rr at hrl hq ⊢
  go_wp2_with fail
  ((with_reducible refine (sum_calls _ _ _ [] _ (readsLs_nil _) (by simp [IsBytes])).mono ?_); rintro e w' ⟨rfl, rfl⟩)
  rw [show Crc.more 0 ([] : List (List Int)).flatten = 0 from by decide]
  go_wp2_with fail
  ((with_reducible refine (lives_calls _).mono ?_); rintro e w10 ⟨rfl, hb10⟩)
  have HB10 := Lib.hid (HB9.out.trans (hb10.mono HB9.out.size))
  clear hb10
  go_wp2_with fail
  go_ret
  exact ⟨rfl, HB10.out⟩

end Go.Proofs.Ythobpcbiaimccaa
