/- The walk of the law OctetWrites: it returns true, and writes nothing that was there. Conditions: the kinds' ranges; the string below 2^47 bytes. -/
import Derived.Test.YthobpcbiaimccaaLawSumsW
import Derived.Test.YthobpcbiaimccaaStr
import Derived.Deep.RegionWith
namespace Go.Proofs.Ythobpcbiaimccaa
open Go.RowKit Go.Proofs.YthobpcbiaimccaaW.PrintWords Go.Proofs.YthobpcbiaimccaaW.PrintLast Go.Proofs.YthobpcbiaimccaaW.PrintMore PRef
set_option linter.unusedVariables false
set_option linter.unusedSimpArgs false

-- The reference: a text is its length as a Num, and its bytes.
set_option maxRecDepth 100000 in
set_option maxHeartbeats 400000 in
theorem rtext_calls (s : ByteArray) (w : World) (hs : s.size ≤ 70368744177664) :
    Calls Try.prog 34 #[.string s] w fun e w' => ∃ v, e = .returned v ∧ OwnB w' w.heap.size v (encText s) ∧ Below w.heap.size w w' := by
  have kb := fun W => print_bytes (P := Try.prog) 9 31 5 Try.underlying9 Try.underlying31 Try.underlying5 s W
  have hel := encNum_length s.size (by omega)
  have HE : Hid (encNum s.size ++ bytesOf s = encText s) := Lib.hid rfl
  go_enter Try.func34, Try.ntmps34
  go_wp2_with fail
  ((with_reducible refine (rnum_calls s.size _ (by omega)).mono ?_); rintro e w1 ⟨v, rfl, hown, hb⟩)
  have HO := Lib.hid hown
  have HB := Lib.hid hb
  clear hown hb
  generalize encNum s.size = ns at HO HE hel
  go_wp2_with (at_builtin; refine print_append_row (w0 := w) w.heap.size rfl (.tmp 6) (.tmp 8) 31 5 .u8 1 rfl Try.underlying31 info5 (by decide) v ns (bytesOf s) _ _ _ rfl rfl (HO.out.below (bytes_below (Below.refl _ _) (Nat.le_refl _) 5 s)) (bytes_reads w1 5 s (by omega)) (bytes_below HB.out HB.out.size 5 s) (by rw [Lib.bytesWorld_size]; have := HB.out.size; omega) ?hl ?_; (case hl => omega); intro v1 w2 hown hB hg hat; clear hg hat; have G := Lib.hid hown; have GB := Lib.hid hB; clear hown hB)
  go_ret
  exact ⟨_, rfl, by rw [← HE.out]; exact G.out, GB.out⟩

theorem encInt_length (n : Int) (h0 : -9223372036854775808 ≤ n) (h1 : n ≤ 9223372036854775807) : (encInt n).length ≤ 11 := by
  unfold encInt
  split
  · have := encNum_length (-n - 1).toNat (by omega)
    rw [List.length_cons]; omega
  · have := encNum_length n.toNat (by omega)
    rw [List.length_cons]; omega
theorem encText_length (s : ByteArray) (h : s.size < 18446744073709551616) : (encText s).length ≤ s.size + 10 := by
  have := encNum_length s.size h
  unfold encText
  rw [List.length_append, bytesOf_length]; omega
theorem bytes_str_calls (w : World) (base g : Nat) (ok : Nat → Prop) (xs : List Int) (hW : Wr w base g ok xs) (hl : xs.length ≤ 140737488355328) :
    Calls Try.prog 35 #[.pointer (some ⟨g, 0, none⟩)] w fun e w' => ∃ A c, e = .returned (.slice A xs.length c) ∧ xs.length ≤ c ∧ Hid (ReadsInt w' .u8 A xs.length xs) ∧ Below w.heap.size w w' :=
  (bytes_calls w base g ok xs hW hl).mono fun e w' ⟨v, h1, h2, h3⟩ => by
    obtain ⟨A, c, rfl, hc, hr⟩ := OwnB.reads (v := v) h2
    exact ⟨A, c, h1, hc, Lib.hid hr, h3⟩

set_option maxRecDepth 100000 in
set_option maxHeartbeats 4000000 in
theorem writes_law (n : Nat) (i : Int) (s : ByteArray) (w : World) (hn : n < 18446744073709551616) (hi0 : -9223372036854775808 ≤ i) (hi1 : i ≤ 9223372036854775807) (hs : s.size ≤ 9223372036854775807) :
    Calls Try.prog 6 #[.int .u64 n, .int .i64 i, .string s] w fun e w' => e = .returned (.bool true) ∧ Below w.heap.size w w' := by
  have kb := fun W => print_bytes (P := Try.prog) 9 31 5 Try.underlying9 Try.underlying31 Try.underlying5 s W
  go_enter Try.func6, Try.ntmps6
  go_wp2_with fail
  have HR1 := Lib.hid (bytes_reads w 5 s (by omega))
  have HB1 := Lib.hid (bytes_below (Below.refl w.heap.size w) (Nat.le_refl _) 5 s)
  have hc1 : s.size ≤ grownCap w s.size 0 5 := grownCap_ge _ _ _ _
  generalize Lib.bytesWorld w 5 s = w1 at HR1 HB1 ⊢
  clear kb
  ((with_reducible refine (cut_new _ _ _ _ _ HR1.out hc1 (isBytes_of s)).mono ?_); rintro e w' ⟨⟨us, rfl, hxa, h1a, HU, HX, HE1⟩, rfl⟩)
  have hcv := string_of_reads (P := Try.prog) (src := 31) (dst := 9) (c := grownCap w s.size 0 5) Try.underlying31 Try.underlying5 Try.underlying9 HU.out
  have hsz : (strOfNums us).size ≤ 3000 := by rw [strOfNums_size]; exact hxa
  generalize grownCap w s.size 0 5 = c1 at hc1 h1a hcv ⊢
  generalize strOfNums us = q at hcv hsz
  have hl1 := encNum_length n hn
  have hl2 := encInt_length i hi0 hi1
  have hl3 := encText_length q (by omega)
  have HW0 := Lib.hid (wr_new w1)
  have HBA := Lib.hid (HB1.out.alloc HB1.out.size (.cells #[.slice none 0 0] 41))
  go_wp2_with fail
  clear hcv
  generalize hw2 : w1.alloc (.cells #[.slice none 0 0] 41) = w2 at HW0 HBA ⊢
  have HS2 : Hid (w1.heap.size ≤ w2.heap.size) := Lib.hid (by rw [← hw2]; simp)
  clear hw2
  ((with_reducible refine (num_calls _ _ _ _ _ n HW0.out (by simp) hn).mono ?_); rintro e w3 ⟨rfl, hW, hC⟩)
  have HW3 := Lib.hid (hW.from_ HS2.out)
  have HC3 := Lib.hid (hC.below_ HS2.out)
  have HS3 := Lib.hid hC.size
  clear hW hC HW0
  go_wp2_with fail
  ((with_reducible refine (int_calls _ _ _ _ _ i HW3.out (by simp; omega) hi0 hi1).mono ?_); rintro e w4 ⟨rfl, hW, hC⟩)
  have HW4 := Lib.hid (hW.from_ (Nat.le_trans HS2.out HS3.out))
  have HS4 := Lib.hid (Nat.le_trans HS3.out hC.size)
  have HC4 := Lib.hid (HC3.out.trans (hC.below_ (Nat.le_trans HS2.out HS3.out)))
  clear hW hC HW3
  go_wp2_with fail
  ((with_reducible refine (text_calls _ _ _ _ _ q HW4.out (by simp; omega) (by omega)).mono ?_); rintro e w5 ⟨rfl, hW, hC⟩)
  have HW5 := Lib.hid (hW.from_ (Nat.le_trans HS2.out HS4.out))
  have HS5 := Lib.hid (Nat.le_trans HS4.out hC.size)
  have HC5 := Lib.hid (HC4.out.trans (hC.below_ (Nat.le_trans HS2.out HS4.out)))
  clear hW hC HW4
  go_wp2_with fail
  obtain ⟨b, hb⟩ : ∃ b : Bool, b = ((n : Int) % 2 == 1) := ⟨_, rfl⟩
  obtain ⟨z, hz⟩ : ∃ z : Int, z = i % 256 := ⟨_, rfl⟩
  rw [← hb]
  have HBb := Lib.hid hb
  have HZ := Lib.hid hz
  clear hb hz
  ((with_reducible refine (bool_calls _ _ _ _ _ b HW5.out (by simp; omega)).mono ?_); rintro e w6 ⟨rfl, hW, hC⟩)
  have HW6 := Lib.hid (hW.from_ (Nat.le_trans HS2.out HS5.out))
  have HS6 := Lib.hid (Nat.le_trans HS5.out hC.size)
  have HC6 := Lib.hid (HC5.out.trans (hC.below_ (Nat.le_trans HS2.out HS5.out)))
  clear hW hC HW5
  go_wp2_with fail
  rw [← HZ.out]
  ((with_reducible refine (byte_calls _ _ _ _ _ z HW6.out (by simp; omega)).mono ?_); rintro e w7 ⟨rfl, hW, hC⟩)
  have HW7 := Lib.hid (hW.from_ (Nat.le_trans HS2.out HS6.out))
  have HS7 := Lib.hid (Nat.le_trans HS6.out hC.size)
  have HC7 := Lib.hid (HC6.out.trans (hC.below_ (Nat.le_trans HS2.out HS6.out)))
  clear hW hC HW6
  go_wp2_with fail
  obtain ⟨L, hL⟩ : ∃ L, L = [] ++ encNum n ++ encInt i ++ encText q ++ [if b = true then 1 else 0] ++ [z] := ⟨_, rfl⟩
  rw [← hL] at HW7
  have hLl : L.length ≤ 4000 := by rw [hL]; simp; omega
  have HL : Hid (L = encNum n ++ encInt i ++ encText q ++ [(n : Int) % 2, i % 256]) := Lib.hid (by
    rw [hL, HZ.out, HBb.out, List.nil_append, List.append_assoc _ [_] [_]]
    have h2 : (if ((n : Int) % 2 == 1) = true then (1 : Int) else 0) = (n : Int) % 2 := by
      by_cases h : ((n : Int) % 2 == 1) = true
      · rw [if_pos h]; rw [beq_iff_eq] at h; omega
      · rw [if_neg h]; rw [beq_iff_eq] at h; omega
    rw [h2]
    rfl)
  clear hL HC4 HC5 HC6 HS3 HS4 HS5 HS6
  have HBW := Lib.hid (HBA.out.trans (HC7.out.mono HB1.out.size))
  ((with_reducible refine (rnum_calls n _ hn).mono ?_); rintro e w8 ⟨v1, rfl, ho, hb⟩)
  have HO1 := Lib.hid ho
  have HD8 := Lib.hid hb
  clear ho hb
  go_wp2_with fail
  ((with_reducible refine (rint_calls i _ hi0 hi1).mono ?_); rintro e w9 ⟨v2, rfl, ho, hb⟩)
  have HO1' := Lib.hid (HO1.out.below hb)
  have HD9 := Lib.hid (HD8.out.trans (hb.mono HD8.out.size))
  obtain ⟨A2, c2, rfl, hc2, hr2⟩ := ho.reads
  have HR2 := Lib.hid hr2
  clear ho hb hr2 HO1
  generalize encNum n = l1 at hl1 HO1' HL
  generalize encInt i = l2 at hl2 HR2 HL hc2 ⊢
  go_wp2_with ((with_reducible refine gate_builtin (b := .append) (xs := #[.tmp 27, .tmp 29]) rfl ?_); at_builtin; refine print_append_row (w0 := w7) w7.heap.size rfl (.tmp 27) (.tmp 29) 31 5 .u8 1 rfl Try.underlying31 info5 (by decide) v1 l1 l2 A2 l2.length c2 rfl rfl HO1'.out HR2.out HD9.out HD9.out.size ?hl ?_; (case hl => omega); intro v3 wA hown hB hg hat; have HO3 := Lib.hid (show OwnB wA w7.heap.size v3 (l1 ++ l2) from hown); have HDA := Lib.hid hB; clear hown hB hg hat)
  ((with_reducible refine (rtext_calls q _ (by omega)).mono ?_); rintro e wB ⟨v4, rfl, ho, hb⟩)
  have HO3' := Lib.hid (HO3.out.below hb)
  have HDB := Lib.hid (HDA.out.trans (hb.mono HDA.out.size))
  obtain ⟨A4, c4, rfl, hc4, hr4⟩ := ho.reads
  have HR4 := Lib.hid hr4
  clear ho hb hr4 HO3
  have hl12 : (l1 ++ l2).length ≤ 21 := by rw [List.length_append]; omega
  generalize l1 ++ l2 = l12 at HO3' hl12 HL
  generalize encText q = l3 at hl3 HR4 HL hc4 ⊢
  go_wp2_with (first | ((with_reducible refine gate_builtin (b := .append) (xs := #[.tmp 30, .tmp 32]) rfl ?_); at_builtin; refine print_append_row (w0 := w7) w7.heap.size rfl (.tmp 30) (.tmp 32) 31 5 .u8 1 rfl Try.underlying31 info5 (by decide) v3 l12 l3 A4 l3.length c4 rfl rfl HO3'.out HR4.out HDB.out HDB.out.size ?hl ?_; (case hl => omega); intro v5 wC hown hB hg hat; have HO5 := Lib.hid (show OwnB wC w7.heap.size v5 (l12 ++ l3) from hown); have HDC := Lib.hid hB; clear hown hB hg hat) | ((with_reducible refine gate_builtin (b := .append) (xs := #[.tmp 33, .tmp 39]) rfl ?_); at_builtin; refine print_append_row (w0 := w7) w7.heap.size rfl (.tmp 33) (.tmp 39) 31 5 .u8 1 rfl Try.underlying31 info5 (by decide) v5 (l12 ++ l3) [(n : Int) % 2, i % 256] _ 2 2 rfl rfl (HO5.out.alloc _) (reads_block (blk_new wC _) rfl (by simp)) (HDC.out.alloc HDC.out.size _) (by simp; have := HDC.out.size; omega) ?hl2 ?_; (case hl2 => rw [List.length_append]; omega); intro v7 wD hown hB hg hat; have HO7 := Lib.hid (show OwnB wD w7.heap.size v7 (l12 ++ l3 ++ [(n : Int) % 2, i % 256]) from hown); have HDD := Lib.hid hB; clear hown hB hg hat))
  have HO8 := HO7.out
  rw [← HL.out] at HO8
  obtain ⟨A7, c7, rfl, hc7, hr7⟩ := HO8.reads
  have HR7 := Lib.hid hr7
  have HWD := Lib.hid (HW7.out.below HDD.out)
  have HBW2 := Lib.hid (HBW.out.trans (HDD.out.mono HBW.out.size))
  clear HO8 hr7 HO7 HL HDD HDC HDB HDA HD9 HD8 HW7 HBW HO5 HO3' HO1' HR2 HR4 HBA HB1
  have HBc : Hid (Below wD.heap.size wD wD.drew) := Lib.hid (below_drew (Below.refl _ _))
  have cvw := string_of_reads (P := Try.prog) (src := 31) (dst := 9) (c := c7) Try.underlying31 Try.underlying5 Try.underlying9 (HR7.out.below HBc.out)
  go_region_with (first | (go_at_call 35; refine (bytes_str_calls _ w1.heap.size w1.heap.size (fun k => w1.heap.size ≤ k) L (HWD.out.below HBc.out) (by omega)).mono ?_; rintro e wx ⟨Ax, cx, rfl, hlx, HRx, hbx⟩; have HBn := Lib.hid (HBc.out.trans (hbx.mono HBc.out.size)); clear hbx HBc; have HBc := HBn; clear HBn; have cvx := string_of_reads (P := Try.prog) (src := 31) (dst := 9) (c := cx) Try.underlying31 Try.underlying5 Try.underlying9 HRx.out; have cvw2 := string_of_reads (P := Try.prog) (src := 31) (dst := 9) (c := c7) Try.underlying31 Try.underlying5 Try.underlying9 (HR7.out.below HBc.out)) | (go_at_call 26; refine (lives_calls _).mono ?_; rintro e wx ⟨rfl, hbx⟩; have HBn := Lib.hid (HBc.out.trans (hbx.mono HBc.out.size)); clear hbx HBc; have HBc := HBn; clear HBn))
  all_goals (go_wp2_with fail; go_ret; exact ⟨rfl, HBW2.out.trans (HBc.out.mono HBW2.out.size)⟩)

end Go.Proofs.Ythobpcbiaimccaa
