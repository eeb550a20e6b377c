/- The walk of the law OctetTurned: it returns true, and writes nothing that was there. Conditions: bytes are bytes; the kinds' ranges. -/
import Derived.Test.YthobpcbiaimccaaTurn
import Derived.Test.YthobpcbiaimccaaLawBurstsW
namespace Go.Proofs.Ythobpcbiaimccaa
open Go.RowKit Go.Proofs.YthobpcbiaimccaaW.PrintWords Go.Proofs.YthobpcbiaimccaaW.PrintLast Go.Proofs.YthobpcbiaimccaaW.PrintMore PRef
set_option linter.unusedVariables false
set_option linter.unusedSimpArgs false

theorem frame_own (A : Option Addr) (c : Nat) (l : List Int) (w : World) (hr : ReadsInt w .u8 A l.length l) (hc : l.length ≤ c) (hb : IsBytes l) (hl : l.length ≤ 1048576) :
    Calls Try.prog 36 #[.slice A l.length c] w fun e w' => ∃ g d, e = .returned (.tuple #[.slice (some ⟨g, 0, none⟩) (l.length + 8) d, .int .i64 0]) ∧ l.length + 8 ≤ d ∧ w.heap.size ≤ g ∧ Hid (w'.ownsRow w.heap.size 5 1 (.slice (some ⟨g, 0, none⟩) (l.length + 8) d) (l.length + 8) (nums .u8 (frameL l))) ∧ Below w.heap.size w w' :=
  (frame_calls A c l w hr hc hb hl).mono fun e w' ⟨v, h1, h2, h3⟩ => by
    unfold OwnB at h2
    rw [frameL_length] at h2
    obtain ⟨g, d, rfl, hg, _⟩ := h2.form (by omega)
    exact ⟨g, d, h1, own_le h2, hg, Lib.hid h2, h3⟩

theorem unframe_zero (A : Option Addr) (n c : Nat) (xs : List Int) (w : World) (hr : ReadsInt w .u8 A n xs) (hc : n ≤ c) (hb : IsBytes xs) :
    Calls Try.prog 38 #[.slice A n c, .int .i64 0] w (UnfPost w xs 0) := unframe_calls A n c 0 xs w hr hc hb (Nat.zero_le _)

set_option maxRecDepth 100000 in
set_option maxHeartbeats 4000000 in
theorem turned_law (A : Option Addr) (n1 c1 : Nat) (xs : List Int) (at_ p keep : Nat) (w : World) (hr1 : ReadsInt w .u8 A n1 xs) (hc1 : n1 ≤ c1) (hx : IsBytes xs) (hat : at_ < 18446744073709551616) (hp : p < 4294967296) (hkp : keep < 18446744073709551616) :
    Calls Try.prog 9 #[.slice A n1 c1, .agg #[.int .u64 at_, .int .u32 p, .int .u64 keep]] w fun e w' => e = .returned (.bool true) ∧ Below w.heap.size w w' := by
  have HR1 := Lib.hid hr1
  clear hr1
  go_enter Try.func9, Try.ntmps9
  go_wp2_with fail
  ((with_reducible refine (cut_new _ _ _ _ _ (HR1.out.below ((Below.refl _ _).alloc (Nat.le_refl _) _)) hc1 hx).mono ?_); rintro e w' ⟨⟨us, rfl, hxa, h1a, HU, HX, HE1⟩, rfl⟩)
  clear HR1 hc1 HE1 hx
  go_wp2_with fail
  have HBa := Lib.hid ((Below.refl w.heap.size w).alloc (Nat.le_refl _) (.cells #[.int .u64 at_, .int .u32 p, .int .u64 keep] 64))
  go_quiet (fail)
  go_wp2_with fail
  have HBn := Lib.hid (pw_below_drewN HBa.out nq)
  have HUn := Lib.hid (HU.out.below (pw_below_drewN (Below.refl _ _) nq))
  generalize (w.alloc (.cells #[.int .u64 at_, .int .u32 p, .int .u64 keep] 64)).drewN nq = w0 at HBn HUn ⊢
  clear HU HBa
  ((with_reducible refine (frame_own _ _ us _ HUn.out h1a HX.out (by omega)).mono ?_); rintro e w1 ⟨g, cap, rfl, hcap, hgb, HO1, hb1⟩)
  have HB1 := Lib.hid (HBn.out.trans (hb1.mono HBn.out.size))
  have HU1 := Lib.hid (HUn.out.below hb1)
  have HGB : Hid (w.heap.size ≤ g) := Lib.hid (Nat.le_trans HBn.out.size hgb)
  have HOw : Hid (w1.ownsRow w.heap.size 5 1 (.slice (some ⟨g, 0, none⟩) (us.length + 8) cap) (us.length + 8) (nums .u8 (frameL us))) := Lib.hid (own_weaken HO1.out HBn.out.size)
  have HGB0 : Hid (w0.heap.size ≤ g) := Lib.hid hgb
  have HC1 := Lib.hid hb1
  clear hb1 hgb HO1
  have HFL : Hid ((frameL us).length = us.length + 8) := Lib.hid (frameL_length us)
  have HFB := Lib.hid (frameL_bytes us HX.out)
  obtain ⟨kk, hkk⟩ : ∃ kk : Nat, kk = keep % (us.length + 8) := ⟨_, rfl⟩
  have hklt : kk < us.length + 8 := by rw [hkk]; exact Nat.mod_lt _ (by omega)
  have hke : ((keep : Int) % ((us.length : Int) + 8)) = (kk : Int) := by rw [hkk]; simp
  clear hkk
  have HR1 : Hid (ReadsInt w1 .u8 (some ⟨g, 0, none⟩) (us.length + 8) (frameL us)) := Lib.hid (by
    obtain ⟨A', c', hv, hr⟩ := own_reads HOw.out
    injection hv with h1 h2 h3
    rw [h1]; exact hr)
  obtain ⟨i0, hi, hzz⟩ := Option.map_eq_some_iff.1 info5
  have hcut := cut_to (P := Try.prog) 31 5 .i64 Try.underlying31 hi (some ⟨g, 0, none⟩) (us.length + 8) cap (kk : Int) (by omega) (by omega) hcap
  rw [Int.toNat_natCast] at hcut
  clear hi hzz
  have HRk := Lib.hid (HR1.out.take_ kk (by omega))
  have HUk := Lib.hid (unf_take us HX.out (by omega) kk hklt)
  have hkc : kk ≤ cap := by omega
  by_cases hk0 : kk = 0
  case' pos =>
    have hkb : ((kk : Int) == 0) = true := by rw [hk0]; rfl
    have hkb2 : ¬ 0 < kk := by omega
    have hu8 : Hid (unf ((frameL us).take kk) = 8) := Lib.hid (by rw [HUk.out, if_pos hk0])
    clear hk0 HUk
    go_wp2_with fail
    ((with_reducible refine (unframe_zero _ kk cap _ _ HRk.out hkc (HFB.out.take kk)).mono ?_); rintro e w2 ⟨v, k2, rfl, hV, _, hb2⟩)
    rw [hu8.out] at hV ⊢
    obtain ⟨rfl, rfl⟩ := hV (by decide)
    have HB2 := Lib.hid (HB1.out.trans (hb2.mono HB1.out.size))
    have HC2 := Lib.hid (HC1.out.trans (hb2.mono HC1.out.size))
    have HO2 := Lib.hid (pw_own_below HOw.out hb2)
    clear hV hb2 HRk HR1 HU1 HOw HB1 HB2 HC1 hu8
    go_wp2_with fail
  case' neg =>
    have hkb : ((kk : Int) == 0) = false := by rw [beq_eq_false_iff_ne]; omega
    have hkb2 : 0 < kk := by omega
    have hu8 : Hid (unf ((frameL us).take kk) = 4) := Lib.hid (by rw [HUk.out, if_neg hk0])
    clear hk0 HUk
    go_wp2_with fail
    ((with_reducible refine (unframe_zero _ kk cap _ _ HRk.out hkc (HFB.out.take kk)).mono ?_); rintro e w2 ⟨v, k2, rfl, hV, _, hb2⟩)
    rw [hu8.out] at hV ⊢
    obtain ⟨rfl, rfl⟩ := hV (by decide)
    have HB2 := Lib.hid (HB1.out.trans (hb2.mono HB1.out.size))
    have HC2 := Lib.hid (HC1.out.trans (hb2.mono HC1.out.size))
    have HO2 := Lib.hid (pw_own_below HOw.out hb2)
    clear hV hb2 HRk HR1 HU1 HOw HB1 HB2 HC1 hu8
    go_wp2_with fail
  all_goals
    clear hkb hkb2 hke hcut hkc hklt
    have HO3 : Hid (w2.ownsRow w.heap.size 5 1 (.slice (some ⟨g, 0, none⟩) (us.length + 8) cap) (us.length + 8) (nums .u8 (frameL us))) := HO2
    clear HO2
    obtain ⟨f, hf⟩ : ∃ f : Nat, f = at_ % (8 * (us.length + 4)) := ⟨_, rfl⟩
    have hflt : f < 8 * (us.length + 4) := by rw [hf]; exact Nat.mod_lt _ (by omega)
    rw [show ((at_ : Int) % (8 * ((us.length : Int) + 8 - 4))) = (f : Int) from by rw [hf]; rw [show ((us.length : Int) + 8 - 4) = ((us.length + 4 : Nat) : Int) from by omega]; simp]
    clear hf
    go_loopw [16, 17] (fun vt vi wr => ∃ (i D : Nat) (zs : List Int) (t : Bool), vi = .int .u64 i ∧ vt = .bool t ∧ i ≤ 32 ∧ f + i ≤ 8 * (us.length + 4) ∧ D < 2 ^ i ∧ Hid (t = true ↔ D ≠ 0) ∧ Hid (zs.length = us.length + 8) ∧ Hid (IsBytes zs) ∧ Hid (Crc.num zs = Crc.num (frameL us) ^^^ 2 ^ (32 + f) * D) ∧ Hid (wr.ownsRow w.heap.size 5 1 (.slice (some ⟨g, 0, none⟩) (us.length + 8) cap) (us.length + 8) (nums .u8 zs)) ∧ Hid (Below w0.heap.size w0 wr)) (fun _ vi _ => 32 - (intOf vi).toNat)
    case atStart => exact ⟨0, 0, frameL us, false, rfl, rfl, by omega, by omega, by simp, Lib.hid (by simp), HFL, HFB, Lib.hid (by simp), HO3, HC2⟩
    case round =>
      obtain ⟨i, D, zs, t, rfl, rfl, hi, hfi, hD, HT, HL, HZ, HN, HO, HB⟩ := hrel
      by_cases hc : i < 32 ∧ f + i < 8 * (us.length + 4)
      · obtain ⟨hlt, hlt2⟩ := hc
        rcases Nat.mod_two_eq_zero_or_one (p / 2 ^ i) with hbit | hbit
        · have hbt : (bits BinOp.and IntKind.u32 ((p : Int) / 2 ^ i) 1 == 1) = false := by rw [pat_bit p i hp, hbit]; rfl
          have HBIT := Lib.hid hbit
          clear hbit
          go_wp2_with fail
          go_roundw
          case measure => simp [intOf]; omega
          case rel => exact ⟨i + 1, D, zs, t, by go_num, rfl, by omega, by omega, by rw [Nat.pow_succ]; omega, HT, HL, HZ, HN, HO, HB⟩
        · have hbt : (bits BinOp.and IntKind.u32 ((p : Int) / 2 ^ i) 1 == 1) = true := by rw [pat_bit p i hp, hbit]; rfl
          have HBIT := Lib.hid hbit
          clear hbit
          obtain ⟨hcell, hfr⟩ := own_at HO.out ((4 + (f + i) / 8 : Nat) : Int) (by omega) (by omega)
          rw [Int.toNat_natCast] at hcell hfr
          have HR : Hid (rd zs ((4 + (f + i) / 8 : Nat) : Int) = zs.getD (4 + (f + i) / 8) 0) := Lib.hid (by unfold rd; rw [Int.toNat_natCast])
          generalize rd zs ((4 + (f + i) / 8 : Nat) : Int) = z at hcell HR
          go_wp2_with fail
          go_roundw
          case measure => simp [intOf]; omega
          case rel =>
            have hz := HZ.out.getD (4 + (f + i) / 8)
            rw [← HR.out] at hz
            have hfb := flip_bits z ((f + i) % 8) hz.1 hz.2 (by omega)
            have hst := own_store HO.out ((4 + (f + i) / 8 : Nat) : Int) (bits BinOp.xor IntKind.u8 z (2 ^ ((f + i) % 8) % 256))
            rw [Int.toNat_natCast] at hst
            have hpw : (2 : Nat) ^ i < 4294967296 := Nat.pow_lt_pow_right (a := 2) (n := 32) (by omega) hlt
            have hzn : zs.length = us.length + 8 := HL.out
            refine ⟨i + 1, D + 2 ^ i, zs.set (4 + (f + i) / 8) (bits BinOp.xor IntKind.u8 z (2 ^ ((f + i) % 8) % 256)), true, by go_num, rfl, by omega, by omega, by rw [Nat.pow_succ]; omega, Lib.hid ?_, Lib.hid ?_, Lib.hid ?_, Lib.hid ?_, Lib.hid hst.1, Lib.hid (HB.out.setCell (by exact HGB0.out) _)⟩
            · have := Nat.two_pow_pos i
              exact ⟨fun _ => by omega, fun _ => rfl⟩
            · rw [List.length_set]; exact HL.out
            · intro x hx
              rcases List.mem_or_eq_of_mem_set hx with hx | hx
              · exact HZ.out x hx
              · rw [hx, hfb]
                have : (z.toNat ^^^ 2 ^ ((f + i) % 8) : Nat) < 2 ^ 8 := Nat.xor_lt_two_pow (by omega) (Nat.pow_lt_pow_right (by omega) (by omega))
                omega
            · have hfl := Crc.num_flip zs HZ.out.lt (32 + (f + i)) (by omega)
              rw [show (32 + (f + i)) / 8 = 4 + (f + i) / 8 from by omega, show (32 + (f + i)) % 8 = (f + i) % 8 from by omega] at hfl
              rw [hfb, HR.out, hfl, HN.out, Nat.xor_assoc]
              congr 1
              have := Crc.pow_xor i 1 D hD
              rw [Nat.mul_one] at this
              rw [Nat.add_comm D, this, Crc.mul_xor, ← Nat.pow_add, Nat.xor_comm, Nat.add_assoc]
      · have hD32 : D < 4294967296 := Nat.lt_of_lt_of_le hD (Nat.pow_le_pow_right (j := 32) (by omega) hi)
        obtain ⟨hT0, hT1⟩ := unf_turned us zs f D HX.out (by omega) HZ.out HL.out hD32 HN.out
        have HT0 := Lib.hid hT0
        have HT1 := Lib.hid hT1
        have HZR : Hid (ReadsInt wr .u8 (some ⟨g, 0, none⟩) (us.length + 8) zs) := Lib.hid (by
          obtain ⟨A', c', hv, hr⟩ := own_reads HO.out
          injection hv with h1 h2 h3
          rw [h1]; exact hr)
        have HBr := Lib.hid (HBn.out.trans (HB.out.mono HBn.out.size))
        have HUr := Lib.hid (HUn.out.below HB.out)
        clear hT0 hT1 HO HN hD hD32
        by_cases hlt : i < 32
        all_goals
          go_wp2_with fail
          ((with_reducible refine (unframe_zero _ _ cap _ _ HZR.out hcap HZ.out).mono ?_); rintro e w3 ⟨v, k3, rfl, hV, hW, hb3⟩)
          have HB3 := Lib.hid (HBr.out.trans (hb3.mono HBr.out.size))
          cases t with
          | true =>
            have hu5 := HT1.out (HT.out.1 rfl)
            rw [hu5] at hV ⊢
            obtain ⟨rfl, rfl⟩ := hV (by decide)
            clear hb3 hu5 hW hV
            go_wp2_with fail
            ((with_reducible refine (lives_calls _).mono ?_); rintro e w6 ⟨rfl, hb6⟩)
            go_wp2_with fail
            go_ret
            exact ⟨rfl, HB3.out.trans (hb6.mono HB3.out.size)⟩
          | false =>
            have hd0 : D = 0 := by
              rcases Nat.eq_zero_or_pos D with h | h
              · exact h
              · exact absurd (HT.out.2 (by omega)) (by simp)
            have hze := HT0.out hd0
            subst hze
            obtain ⟨hu0, hud, hun⟩ := unf_frame us HX.out (by omega)
            obtain ⟨hk5, ho5⟩ := hW hu0
            rw [hud] at ho5
            rw [hu0]
            have cva := own_string (P := Try.prog) (src := 31) (dst := 9) Try.underlying31 Try.underlying5 Try.underlying9 ho5
            have cvb := string_of_reads (P := Try.prog) (src := 31) (dst := 9) (c := c1) Try.underlying31 Try.underlying5 Try.underlying9 (HUr.out.below hb3)
            clear hW hV hb3 hud hun hu0 hk5
            go_wp2_with fail
            ((with_reducible refine (lives_calls _).mono ?_); rintro e w6 ⟨rfl, hb6⟩)
            go_wp2_with fail
            go_ret
            exact ⟨rfl, HB3.out.trans (hb6.mono HB3.out.size)⟩

end Go.Proofs.Ythobpcbiaimccaa
