/- The walk of the law OctetBursts: it returns true, and writes nothing that was there. Conditions: bytes are bytes. -/
import Derived.Test.YthobpcbiaimccaaLawSumsW
namespace Go.Proofs.Ythobpcbiaimccaa
open Go.RowKit Go.Proofs.YthobpcbiaimccaaW.PrintWords Go.Proofs.YthobpcbiaimccaaW.PrintLast Go.Proofs.YthobpcbiaimccaaW.PrintMore PRef
set_option linter.unusedVariables false
set_option linter.unusedSimpArgs false

theorem pat_bit (p i : Nat) (hp : p < 4294967296) : bits BinOp.and IntKind.u32 ((p : Int) / 2 ^ i) 1 = ((p / 2 ^ i % 2 : Nat) : Int) := by
  have e : ((p : Int) / 2 ^ i) = ((p / 2 ^ i : Nat) : Int) := by simp
  have hle : p / 2 ^ i ≤ p := Nat.div_le_self _ _
  have h := u32_and_nat (p / 2 ^ i) 1 (by omega) (by omega)
  rw [Nat.and_one_is_mod] at h
  rw [e]
  exact h

theorem flip_bits (z : Int) (q : Nat) (h0 : 0 ≤ z) (h1 : z < 256) (hq : q < 8) : bits BinOp.xor IntKind.u8 z ((2 : Int) ^ q % 256) = ((z.toNat ^^^ 2 ^ q : Nat) : Int) := by
  have hlt : (2 : Nat) ^ q < 256 := Nat.pow_lt_pow_right (a := 2) (n := 8) (by omega) hq
  have e : ((2 : Int) ^ q % 256) = ((2 ^ q : Nat) : Int) := by
    have e2 : ((2 : Int) ^ q) = ((2 ^ q : Nat) : Int) := by simp
    rw [e2]
    generalize (2 : Nat) ^ q = m at hlt
    omega
  obtain ⟨a, rfl⟩ := Int.eq_ofNat_of_zero_le h0
  rw [e, u8_xor_nat a _ (by omega) hlt]
  rfl

set_option maxRecDepth 100000 in
set_option maxHeartbeats 1000000 in
theorem bursts_law (A : Option Addr) (n1 c1 : Nat) (xs : List Int) (at_ p : Nat) (w : World) (hr1 : ReadsInt w .u8 A n1 xs) (hc1 : n1 ≤ c1) (hx : IsBytes xs) (hat : at_ < 18446744073709551616) (hp : p < 4294967296) :
    Calls Try.prog 5 #[.slice A n1 c1, .int .u64 at_, .int .u32 p] w fun e w' => e = .returned (.bool true) ∧ Below w.heap.size w w' := by
  have HR1 := Lib.hid hr1
  clear hr1
  go_enter Try.func5, Try.ntmps5
  go_wp2_with fail
  ((with_reducible refine (cut_new _ _ _ _ _ HR1.out hc1 hx).mono ?_); rintro e w' ⟨⟨us, rfl, hxa, h1a, HU, HX, HE1⟩, rfl⟩)
  clear HR1 hc1 HE1 hx
  by_cases h0 : us.length = 0
  · have h0b : ((us.length : Int) == 0) = true := by rw [h0]; rfl
    clear h0
    go_wp2_with fail
    ((with_reducible refine (lives_calls _).mono ?_); rintro e w1 ⟨rfl, hb1⟩)
    go_wp2_with fail
    go_ret
    exact ⟨rfl, hb1⟩
  · have h0b : ((us.length : Int) == 0) = false := by rw [beq_eq_false_iff_ne]; omega
    have hpos : 0 < us.length := by omega
    clear h0
    have HB0 := Lib.hid ((Below.refl w.heap.size w).alloc (Nat.le_refl _) (.cells #[] 5))
    go_wp2_with (first | ((with_reducible refine gate_builtin (b := .append) (xs := #[.tmp 18, .tmp 19]) rfl ?_); at_builtin; refine print_append_row (w0 := w) w.heap.size rfl (.tmp 18) (.tmp 19) 31 5 .u8 1 rfl Try.underlying31 info5 (by decide) _ [] us A us.length c1 rfl rfl (own_empty w _ (Nat.le_refl _)) (HU.out.below HB0.out) HB0.out (by simp) ?hl ?_; (case hl => simp; omega); intro v1 w1 hown hB hg hat; rw [List.nil_append] at hown; have HO1 := Lib.hid hown; have HB1 := Lib.hid hB; clear hown hB hg hat; obtain ⟨g, cap, rfl, hgb, hgl⟩ := HO1.out.form hpos))
    obtain ⟨f, hf⟩ : ∃ f : Nat, f = at_ % (8 * us.length) := ⟨_, rfl⟩
    have hflt : f < 8 * us.length := by rw [hf]; exact Nat.mod_lt _ (by omega)
    rw [show ((at_ : Int) % (8 * (us.length : Int))) = (f : Int) from by rw [hf]; simp]
    clear hf
    go_loopw [10, 11] (fun vt vi wr => ∃ (i D : Nat) (zs : List Int) (t : Bool), vi = .int .u64 i ∧ vt = .bool t ∧ i ≤ 32 ∧ f + i ≤ 8 * us.length ∧ D < 2 ^ i ∧ Hid (t = true ↔ D ≠ 0) ∧ Hid (zs.length = us.length) ∧ Hid (IsBytes zs) ∧ Hid (Crc.num zs = Crc.num us ^^^ 2 ^ f * D) ∧ Hid (wr.ownsRow w.heap.size 5 1 (.slice (some ⟨g, 0, none⟩) us.length cap) us.length (nums .u8 zs)) ∧ Hid (Below w.heap.size w wr)) (fun _ vi _ => 32 - (intOf vi).toNat)
    case atStart => exact ⟨0, 0, us, false, rfl, rfl, by omega, by omega, by simp, Lib.hid (by simp), Lib.hid rfl, HX, Lib.hid (by simp), HO1, HB1⟩
    case round =>
      obtain ⟨i, D, zs, t, rfl, rfl, hi, hfi, hD, HT, HL, HZ, HN, HO, HB⟩ := hrel
      by_cases hc : i < 32 ∧ f + i < 8 * us.length
      · obtain ⟨hlt, hlt2⟩ := hc
        · rcases Nat.mod_two_eq_zero_or_one (p / 2 ^ i) with hbit | hbit
          · have hbt : (bits BinOp.and IntKind.u32 ((p : Int) / 2 ^ i) 1 == 1) = false := by rw [pat_bit p i hp, hbit]; rfl
            have HBIT := Lib.hid hbit
            clear hbit
            go_wp2_with fail
            go_roundw
            case measure => simp [intOf]; omega
            case rel => exact ⟨i + 1, D, zs, t, by go_num, rfl, by omega, by omega, by rw [Nat.pow_succ]; omega, HT, HL, HZ, HN, HO, HB⟩
          · have hbt : (bits BinOp.and IntKind.u32 ((p : Int) / 2 ^ i) 1 == 1) = true := by rw [pat_bit p i hp, hbit]; rfl
            have HBIT := Lib.hid hbit
            clear hbit
            obtain ⟨hcell, hfr⟩ := own_at HO.out (((f + i) / 8 : Nat) : Int) (by omega) (by omega)
            rw [Int.toNat_natCast] at hcell hfr
            have HR : Hid (rd zs (((f + i) / 8 : Nat) : Int) = zs.getD ((f + i) / 8) 0) := Lib.hid (by unfold rd; rw [Int.toNat_natCast])
            generalize rd zs (((f + i) / 8 : Nat) : Int) = z at hcell HR
            go_wp2_with fail
            go_roundw
            case measure => simp [intOf]; omega
            case rel =>
              have hz := HZ.out.getD ((f + i) / 8)
              rw [← HR.out] at hz
              have hfb := flip_bits z ((f + i) % 8) hz.1 hz.2 (by omega)
              have hst := own_store HO.out (((f + i) / 8 : Nat) : Int) (bits BinOp.xor IntKind.u8 z (2 ^ ((f + i) % 8) % 256))
              rw [Int.toNat_natCast] at hst
              have hpw : (2 : Nat) ^ i < 4294967296 := Nat.pow_lt_pow_right (a := 2) (n := 32) (by omega) hlt
              have hzn : zs.length = us.length := HL.out
              refine ⟨i + 1, D + 2 ^ i, zs.set ((f + i) / 8) (bits BinOp.xor IntKind.u8 z (2 ^ ((f + i) % 8) % 256)), true, by go_num, rfl, by omega, by omega, by rw [Nat.pow_succ]; omega, Lib.hid ?_, Lib.hid ?_, Lib.hid ?_, Lib.hid ?_, Lib.hid hst.1, Lib.hid (HB.out.setCell (by exact hgb) _)⟩
              · have := Nat.two_pow_pos i
                exact ⟨fun _ => by omega, fun _ => rfl⟩
              · rw [List.length_set]; exact HL.out
              · intro x hx
                rcases List.mem_or_eq_of_mem_set hx with hx | hx
                · exact HZ.out x hx
                · rw [hx, hfb]
                  have : (z.toNat ^^^ 2 ^ ((f + i) % 8) : Nat) < 2 ^ 8 := Nat.xor_lt_two_pow (by omega) (Nat.pow_lt_pow_right (by omega) (by omega))
                  omega
              · rw [hfb, HR.out, Crc.num_flip zs HZ.out.lt (f + i) (by omega), HN.out, Nat.xor_assoc]
                congr 1
                have := Crc.pow_xor i 1 D hD
                rw [Nat.mul_one] at this
                rw [Nat.add_comm D, this, Crc.mul_xor, ← Nat.pow_add, Nat.xor_comm]
      · have hD32 : D < 4294967296 := Nat.lt_of_lt_of_le hD (Nat.pow_le_pow_right (j := 32) (by omega) hi)
        have hburst := Crc.run_burst us zs HX.out.lt HZ.out.lt HL.out 4294967295 f D hD32 HN.out
        have hmo : Crc.more 0 us = Crc.more 0 zs ↔ D = 0 := by
          have l1 := Crc.run_lt us HX.out.lt 4294967295 (by omega)
          have l2 := Crc.run_lt zs HZ.out.lt 4294967295 (by omega)
          rw [← hburst]
          unfold Crc.more
          rw [Nat.sub_zero]
          omega
        have hq : (((Crc.more 0 us : Nat) : Int) == ((Crc.more 0 zs : Nat) : Int)) = !t := by
          have ht := HT.out
          cases t with
          | true =>
            have : D ≠ 0 := ht.1 rfl
            show _ = false
            rw [beq_eq_false_iff_ne]
            intro h
            exact this (hmo.1 (by omega))
          | false =>
            have : D = 0 := by
              rcases Nat.eq_zero_or_pos D with h | h
              · exact h
              · exact absurd (ht.2 (by omega)) (by simp)
            show _ = true
            rw [beq_iff_eq, hmo.2 this]
        have HQ := Lib.hid hq
        obtain ⟨C, c3, hCv, hc3, hrz⟩ := OwnB.reads (base := w.heap.size) (v := .slice (some ⟨g, 0, none⟩) us.length cap) (xs := zs) (show OwnB wr w.heap.size _ zs from by unfold OwnB; rw [HL.out]; exact HO.out)
        have hCz : ReadsInt wr .u8 (some ⟨g, 0, none⟩) zs.length zs := by
          injection hCv with h1 h2 h3
          rw [h1]; exact hrz
        rw [HL.out] at hCz
        have HZR := Lib.hid hCz
        clear hq hmo hburst hCv hrz hCz HO HN HT hD hD32
        by_cases hlt : i < 32
        all_goals
          go_wp2_with fail
          have hk := blk_new wr (.cells #[.slice A us.length c1] 31)
          have HB3 := Lib.hid (HB.out.alloc HB.out.size (.cells #[.slice A us.length c1] 31))
          have HC3 := Lib.hid ((Below.refl wr.heap.size wr).alloc (Nat.le_refl _) (.cells #[.slice A us.length c1] 31))
          generalize wr.alloc (.cells #[.slice A us.length c1] 31) = w3 at hk HB3 HC3 ⊢
          have HLs := Lib.hid (readsLs_one hk (HU.out.below HB3.out))
          clear hk
          ((with_reducible refine (sum_calls _ _ _ _ _ HLs.out (by simpa using HX.out)).mono ?_); rintro e w' ⟨rfl, rfl⟩)
          rw [show [us].flatten = us from by simp]
          clear HLs
          go_wp2_with fail
          have hk := blk_new w3 (.cells #[.slice (some ⟨g, 0, none⟩) us.length cap] 31)
          have HB4 := Lib.hid (HB3.out.alloc HB3.out.size (.cells #[.slice (some ⟨g, 0, none⟩) us.length cap] 31))
          have HC4 := Lib.hid (HC3.out.alloc HC3.out.size (.cells #[.slice (some ⟨g, 0, none⟩) us.length cap] 31))
          generalize w3.alloc (.cells #[.slice (some ⟨g, 0, none⟩) us.length cap] 31) = w4 at hk HB4 HC4 ⊢
          rw [← HL.out] at hk
          have HLs := Lib.hid (readsLs_one hk (reads_len (HZR.out.below HC4.out)))
          clear hk
          ((with_reducible refine (sum_calls _ _ _ _ _ HLs.out (by simpa using HZ.out)).mono ?_); rintro e w' ⟨rfl, rfl⟩)
          rw [show [zs].flatten = zs from by simp]
          clear HLs
          have hq2 : ((((Crc.more 0 us : Nat) : Int) == ((Crc.more 0 zs : Nat) : Int)) == !t) = true := by rw [HQ.out]; simp
          go_wp2_with fail
          ((with_reducible refine (lives_calls _).mono ?_); rintro e w5 ⟨rfl, hb5⟩)
          have HB5 := Lib.hid (HB4.out.trans (hb5.mono HB4.out.size))
          clear hb5
          go_wp2_with fail
          go_ret
          exact ⟨rfl, HB5.out⟩

end Go.Proofs.Ythobpcbiaimccaa
