/- The walk of the law MailTurned: it returns true, and writes nothing that was there. Conditions: the kinds' ranges. -/
import Derived.Test.YtneebjlpeekmbaaAb
namespace Go.Proofs.Ytneebjlpeekmbaa
open Go.RowKit Go.Proofs.YtneebjlpeekmbaaW.PrintWords Go.Proofs.YtneebjlpeekmbaaW.PrintLast Go.Proofs.YtneebjlpeekmbaaW.PrintMore PRef
set_option linter.unusedVariables false
set_option linter.unusedSimpArgs false

set_option maxRecDepth 100000 in
set_option maxHeartbeats 4000000 in
theorem turned_law (cs : Array Value) (x : Mail) (at_ keep p : Nat) (w : World) (hx : InM w cs x) (ht : x.text.size ≤ 9223372036854775807) (hi : MailI x) (hat : at_ < 18446744073709551616) (hp : p < 4294967296) (hkp : keep < 18446744073709551616) :
    Calls Try.prog 6 #[.agg cs, .agg #[.int .u64 at_, .int .u64 keep], .int .u32 p] w fun e w' => e = .returned (.bool true) ∧ Below w.heap.size w w' := by
  have HX := Lib.hid hx
  have HI := Lib.hid hi
  have hinf := hx.info
  have HINF := Lib.hid hinf
  have hu34 := Try.underlying34
  clear hx hi hinf
  go_enter Try.func6, Try.ntmps6
  go_upto_region 1 with fail
  have HBK0 := Lib.hid (blk_alloc (blk_new w (.cells cs 34)) (.cells #[.int .u64 at_, .int .u64 keep] 53))
  have HB0 := Lib.hid (((Below.refl w.heap.size w).alloc (Nat.le_refl _) (.cells cs 34)).alloc (by simp) (.cells #[.int .u64 at_, .int .u64 keep] 53))
  go_quiet (fail)
  have HBK1 := Lib.hid (blk_drewN HBK0.out nq)
  have HB1 := Lib.hid (pw_below_drewN HB0.out nq)
  clear HBK0 HB0
  generalize World.drewN _ nq = w1 at HBK1 HB1 ⊢
  go_wp2_with (refine wpList_load_row rfl 34 (.tmp 3) rfl w.heap.size rfl 34 cs (0, 0) _ HBK1.out Try.underlying34 rfl HINF.out ?_)
  ((with_reducible refine (light_m (HX.out.below HB1.out) ht).mono ?_); rintro e w2 ⟨b, rfl, HLT, hb⟩)
  have HB2 := Lib.hid (HB1.out.trans (hb.mono HB1.out.size))
  have HBK2 := Lib.hid (blk_below HBK1.out hb)
  clear hb HB1 HBK1
  cases b with
  | false =>
    go_wp2_with ((with_reducible refine (lives_calls _).mono ?_); rintro e w6 ⟨rfl, hb6⟩)
    go_ret
    exact ⟨rfl, HB2.out.trans (hb6.mono HB2.out.size)⟩
  | true =>
    have HLG := Lib.hid (HLT.out rfl)
    clear HLT
    by_cases hm : MayOk x
    case neg =>
      have HR := Lib.hid hm
      clear hm
      go_wp2_with (first | (refine gate_guard (by rfl) ?_; dsimp only; refine wpList_load_row rfl 34 (.tmp 3) rfl w.heap.size rfl 34 cs (0, 0) _ HBK2.out Try.underlying34 rfl HINF.out ?_) | ((with_reducible refine (may_f_ (HX.out.below HB2.out) HR.out).mono ?_); rintro e w3 ⟨rfl, hb⟩; have HB3 := Lib.hid (HB2.out.trans (hb.mono HB2.out.size)); clear hb) | ((with_reducible refine (lives_calls _).mono ?_); rintro e w6 ⟨rfl, hb6⟩))
      go_ret
      exact ⟨rfl, HB3.out.trans (hb6.mono HB3.out.size)⟩
    case pos =>
      have HM := Lib.hid hm
      clear hm
      have hlen : (encMail x).length ≤ 1048576 := light_len x HLG.out HI.out HM.out
      have hpos : 0 < (encMail x).length := by unfold encMail; simp only [List.length_append, List.length_cons]; omega
      have HUB := Lib.hid (encMail_bytes x HM.out.op)
      go_wp2_with (first | (refine gate_guard (by rfl) ?_; dsimp only; refine wpList_load_row rfl 34 (.tmp 3) rfl w.heap.size rfl 34 cs (0, 0) _ HBK3.out Try.underlying34 rfl HINF.out ?_) | (refine gate_guard (by rfl) ?_; dsimp only; refine wpList_load_row rfl 34 (.tmp 3) rfl w.heap.size rfl 34 cs (0, 0) _ HBK2.out Try.underlying34 rfl HINF.out ?_) | ((with_reducible refine (may_t (HX.out.below HB2.out) HM.out).mono ?_); rintro e w3 ⟨rfl, hb⟩; have HB3 := Lib.hid (HB2.out.trans (hb.mono HB2.out.size)); have HBK3 := Lib.hid (blk_below HBK2.out hb); clear hb))
      ((with_reducible refine (enc_ok_m (HX.out.below HB3.out) HM.out HI.out hlen).mono ?_); rintro e w4 ⟨g, cap, rfl, hcap, hgb, HO4, hb⟩)
      have HB4 := Lib.hid (HB3.out.trans (hb.mono HB3.out.size))
      have HBK4 := Lib.hid (blk_below HBK3.out hb)
      have HGB : Hid (w.heap.size ≤ g) := Lib.hid (Nat.le_trans HB3.out.size hgb)
      have HNE : Hid (g ≠ w.heap.size) := Lib.hid (by have := blk_lt HBK3.out; omega)
      have HOw : Hid (w4.ownsRow w.heap.size 5 1 (.slice (some ⟨g, 0, none⟩) ((encMail x).length + 8) cap) ((encMail x).length + 8) (nums .u8 (frameL (encMail x)))) := Lib.hid (own_weaken HO4.out HB3.out.size)
      clear hb HO4 HB2 HB3 HBK3 hgb
      obtain ⟨us, hus⟩ : ∃ us, us = encMail x := ⟨_, rfl⟩
      rw [← hus] at hlen hpos HUB hcap HOw ⊢
      have HUS := Lib.hid hus
      clear hus
      have HFL : Hid ((frameL us).length = us.length + 8) := Lib.hid (frameL_length us)
      have HFB := Lib.hid (frameL_bytes us HUB.out)
      obtain ⟨kk, hkk⟩ : ∃ kk : Nat, kk = keep % (us.length + 8) := ⟨_, rfl⟩
      have hklt : kk < us.length + 8 := by rw [hkk]; exact Nat.mod_lt _ (by omega)
      have hke : ((keep : Int) % ((us.length : Int) + 8)) = (kk : Int) := by rw [hkk]; simp
      clear hkk
      have HR1 : Hid (ReadsInt w4 .u8 (some ⟨g, 0, none⟩) (us.length + 8) (frameL us)) := Lib.hid (by
        obtain ⟨A', c', hv, hr⟩ := own_reads HOw.out
        injection hv with h1 h2 h3
        rw [h1]; exact hr)
      obtain ⟨i0, hi, hzz⟩ := Option.map_eq_some_iff.1 info5
      have hcut := cut_to (P := Try.prog) 37 5 .i64 Try.underlying37 hi (some ⟨g, 0, none⟩) (us.length + 8) cap (kk : Int) (by omega) (by omega) hcap
      rw [Int.toNat_natCast] at hcut
      clear hi hzz
      have HRk := Lib.hid (HR1.out.take_ kk (by omega))
      have HE4 := Lib.hid (decE_take us HUB.out (by omega) kk hklt)
      have hkc : kk ≤ cap := by omega
      have hl9 : decide ((us.length : Int) + 8 < 9) = false := by rw [decide_eq_false_iff_not]; omega
      go_wp2_with fail
      ((with_reducible refine (dec_m _ kk cap _ HRk.out hkc (HFB.out.take kk)).mono ?_); rw [HE4.out]; rintro e w5 ⟨ds, rfl, HD, hb⟩)
      have HB5 := Lib.hid (HB4.out.trans (hb.mono HB4.out.size))
      have HBz := Lib.hid (blk_new w5 (.cells #[.int .i64 0, .int .i64 0, .int .i64 0, .int .i64 0, .int .i64 0, .int .i64 0, .int .i64 0, .int .i64 0, .int .i64 0, .int .i64 0, .int .i64 0, .bool false, .int .i64 0, .int .i64 0, .int .i64 0, .int .i64 0, .int .i64 0, .slice none 0 0, .int .i64 0, .slice none 0 0, .bool false, .int .i64 0, .int .i64 0, .int .i64 0, .int .i64 0, .int .i64 0, .slice none 0 0, .string ⟨#[]⟩] 34))
      have hrow := below_row (cs := ds) ((Below.refl w5.heap.size w5).alloc (Nat.le_refl _) (.cells #[.int .i64 0, .int .i64 0, .int .i64 0, .int .i64 0, .int .i64 0, .int .i64 0, .int .i64 0, .int .i64 0, .int .i64 0, .int .i64 0, .int .i64 0, .bool false, .int .i64 0, .int .i64 0, .int .i64 0, .int .i64 0, .int .i64 0, .slice none 0 0, .int .i64 0, .slice none 0 0, .bool false, .int .i64 0, .int .i64 0, .int .i64 0, .int .i64 0, .int .i64 0, .slice none 0 0, .string ⟨#[]⟩] 34)) (Nat.le_refl _)
      have HB6 := Lib.hid (HB5.out.trans (hrow.mono HB5.out.size))
      have hb46 := hb.trans (hrow.mono hb.size)
      have HC6 := Lib.hid hb46
      have HBK6 := Lib.hid (blk_below HBK4.out hb46)
      have HO6 := Lib.hid (pw_own_below HOw.out hb46)
      clear hb46 hb hrow HOw HB5 HRk HR1
      go_upto_region 8 with (refine wpList_store_row rfl 34 (.tmp 11) (.tmp 54) rfl w5.heap.size ds rfl rfl 34 _ HBz.out HD.out.info HD.out.size.symm HD.out.one ?_)
      generalize (w5.alloc (.cells #[.int .i64 0, .int .i64 0, .int .i64 0, .int .i64 0, .int .i64 0, .int .i64 0, .int .i64 0, .int .i64 0, .int .i64 0, .int .i64 0, .int .i64 0, .bool false, .int .i64 0, .int .i64 0, .int .i64 0, .int .i64 0, .int .i64 0, .slice none 0 0, .int .i64 0, .slice none 0 0, .bool false, .int .i64 0, .int .i64 0, .int .i64 0, .int .i64 0, .int .i64 0, .slice none 0 0, .string ⟨#[]⟩] 34)).setRow w5.heap.size ds = w6 at HB6 HC6 HBK6 HO6 ⊢
      clear HBz HD HE4 hcut hke
      obtain ⟨f, hf⟩ : ∃ f : Nat, f = at_ % (8 * (us.length + 4)) := ⟨_, rfl⟩
      have hflt : f < 8 * (us.length + 4) := by rw [hf]; exact Nat.mod_lt _ (by omega)
      have hfe : ((at_ : Int) % (8 * ((us.length : Int) + 8 - 4))) = (f : Int) := by rw [hf]; rw [show ((us.length : Int) + 8 - 4) = ((us.length + 4 : Nat) : Int) from by omega]; simp
      have hnz : ((8 * ((us.length : Int) + 8 - 4)) == 0) = false := by rw [beq_eq_false_iff_ne]; omega
      clear hf hkc hklt hl9
      go_wp2_with fail
      go_loopw [14, 15] (fun vt vi wr => ∃ (i D : Nat) (zs : List Int) (t : Bool), vi = .int .u64 i ∧ vt = .bool t ∧ i ≤ 32 ∧ f + i ≤ 8 * (us.length + 4) ∧ D < 2 ^ i ∧ Hid (t = true ↔ D ≠ 0) ∧ Hid (zs.length = us.length + 8) ∧ Hid (IsBytes zs) ∧ Hid (Crc.num zs = Crc.num (frameL us) ^^^ 2 ^ (32 + f) * D) ∧ Hid (wr.ownsRow w.heap.size 5 1 (.slice (some ⟨g, 0, none⟩) (us.length + 8) cap) (us.length + 8) (nums .u8 zs)) ∧ Hid (Below w.heap.size w wr) ∧ Hid (wr.heap[w.heap.size]? = some (.cells cs 34 (0, 0))) ) (fun _ vi _ => 32 - (intOf vi).toNat)
      case atStart => exact ⟨0, 0, frameL us, false, rfl, rfl, by omega, by omega, by simp, Lib.hid (by simp), HFL, HFB, Lib.hid (by simp), HO6, HB6, HBK6⟩
      case round =>
        obtain ⟨i, D, zs, t, rfl, rfl, hi, hfi, hD, HT, HL, HZ, HN, HO, HB, HBK⟩ := hrel
        clear HO6 HB6 HBK6
        by_cases hc : i < 32 ∧ f + i < 8 * (us.length + 4)
        · obtain ⟨hlt, hlt2⟩ := hc
          rcases Nat.mod_two_eq_zero_or_one (p / 2 ^ i) with hbit | hbit
          · have hbt : (bits BinOp.and IntKind.u32 ((p : Int) / 2 ^ i) 1 == 1) = false := by rw [pat_bit p i hp, hbit]; rfl
            have HBIT := Lib.hid hbit
            clear hbit
            go_wp2_with fail
            go_roundw
            case measure => simp [intOf]; omega
            case rel => exact ⟨i + 1, D, zs, t, by go_num, rfl, by omega, by omega, by rw [Nat.pow_succ]; omega, HT, HL, HZ, HN, HO, HB, HBK⟩
          · have hbt : (bits BinOp.and IntKind.u32 ((p : Int) / 2 ^ i) 1 == 1) = true := by rw [pat_bit p i hp, hbit]; rfl
            have HBIT := Lib.hid hbit
            clear hbit
            obtain ⟨hcell, hfr⟩ := own_at HO.out ((4 + (f + i) / 8 : Nat) : Int) (by omega) (by omega)
            rw [Int.toNat_natCast] at hcell hfr
            have HR : Hid (rd zs ((4 + (f + i) / 8 : Nat) : Int) = zs.getD (4 + (f + i) / 8) 0) := Lib.hid (by unfold rd; rw [Int.toNat_natCast])
            generalize rd zs ((4 + (f + i) / 8 : Nat) : Int) = z at hcell HR
            go_wp2_with fail
            go_roundw
            case measure => simp [intOf]; omega
            case rel =>
              have hz := HZ.out.getD (4 + (f + i) / 8)
              rw [← HR.out] at hz
              have hfb := flip_bits z ((f + i) % 8) hz.1 hz.2 (by omega)
              have hst := own_store HO.out ((4 + (f + i) / 8 : Nat) : Int) (bits BinOp.xor IntKind.u8 z (2 ^ ((f + i) % 8) % 256))
              rw [Int.toNat_natCast] at hst
              have hpw : (2 : Nat) ^ i < 4294967296 := Nat.pow_lt_pow_right (a := 2) (n := 32) (by omega) hlt
              have hzn : zs.length = us.length + 8 := HL.out
              refine ⟨i + 1, D + 2 ^ i, zs.set (4 + (f + i) / 8) (bits BinOp.xor IntKind.u8 z (2 ^ ((f + i) % 8) % 256)), true, by go_num, rfl, by omega, by omega, by rw [Nat.pow_succ]; omega, Lib.hid ?_, Lib.hid ?_, Lib.hid ?_, Lib.hid ?_, Lib.hid hst.1, Lib.hid (HB.out.setCell (by exact HGB.out) _), Lib.hid (blk_far HBK.out (p := ⟨g, _, none⟩) HNE.out.symm _)⟩
              · have := Nat.two_pow_pos i
                exact ⟨fun _ => by omega, fun _ => rfl⟩
              · rw [List.length_set]; exact HL.out
              · intro x hx
                rcases List.mem_or_eq_of_mem_set hx with hx | hx
                · exact HZ.out x hx
                · rw [hx, hfb]
                  have : (z.toNat ^^^ 2 ^ ((f + i) % 8) : Nat) < 2 ^ 8 := Nat.xor_lt_two_pow (by omega) (Nat.pow_lt_pow_right (by omega) (by omega))
                  omega
              · have hfl := Crc.num_flip zs HZ.out.lt (32 + (f + i)) (by omega)
                rw [show (32 + (f + i)) / 8 = 4 + (f + i) / 8 from by omega, show (32 + (f + i)) % 8 = (f + i) % 8 from by omega] at hfl
                rw [hfb, HR.out, hfl, HN.out, Nat.xor_assoc]
                congr 1
                have := Crc.pow_xor i 1 D hD
                rw [Nat.mul_one] at this
                rw [Nat.add_comm D, this, Crc.mul_xor, ← Nat.pow_add, Nat.xor_comm, Nat.add_assoc]
        · have hD32 : D < 4294967296 := Nat.lt_of_lt_of_le hD (Nat.pow_le_pow_right (j := 32) (by omega) hi)
          obtain ⟨hT0, hT1⟩ := unf_turned us zs f D HUB.out (by omega) HZ.out HL.out hD32 HN.out
          have HT0 := Lib.hid hT0
          have HT1 := Lib.hid hT1
          have HZR : Hid (ReadsInt wr .u8 (some ⟨g, 0, none⟩) (us.length + 8) zs) := Lib.hid (by
            obtain ⟨A', c', hv, hr⟩ := own_reads HO.out
            injection hv with h1 h2 h3
            rw [h1]; exact hr)
          clear hT0 hT1 HO HN hD hD32
          by_cases hlt : i < 32
          all_goals
            go_wp2_with fail
            ((with_reducible refine (dec_m _ _ cap _ HZR.out hcap HZ.out).mono ?_); rintro e w7 ⟨ds2, rfl, HD, hb⟩)
            have HB7 := Lib.hid (HB.out.trans (hb.mono HB.out.size))
            have HBz := Lib.hid (blk_new w7 (.cells #[.int .i64 0, .int .i64 0, .int .i64 0, .int .i64 0, .int .i64 0, .int .i64 0, .int .i64 0, .int .i64 0, .int .i64 0, .int .i64 0, .int .i64 0, .bool false, .int .i64 0, .int .i64 0, .int .i64 0, .int .i64 0, .int .i64 0, .slice none 0 0, .int .i64 0, .slice none 0 0, .bool false, .int .i64 0, .int .i64 0, .int .i64 0, .int .i64 0, .int .i64 0, .slice none 0 0, .string ⟨#[]⟩] 34))
            have hrow := below_row (cs := ds2) ((Below.refl w7.heap.size w7).alloc (Nat.le_refl _) (.cells #[.int .i64 0, .int .i64 0, .int .i64 0, .int .i64 0, .int .i64 0, .int .i64 0, .int .i64 0, .int .i64 0, .int .i64 0, .int .i64 0, .int .i64 0, .bool false, .int .i64 0, .int .i64 0, .int .i64 0, .int .i64 0, .int .i64 0, .slice none 0 0, .int .i64 0, .slice none 0 0, .bool false, .int .i64 0, .int .i64 0, .int .i64 0, .int .i64 0, .int .i64 0, .slice none 0 0, .string ⟨#[]⟩] 34)) (Nat.le_refl _)
            have HB8 := Lib.hid (HB7.out.trans (hrow.mono HB7.out.size))
            have hb78 := hb.trans (hrow.mono hb.size)
            have HBK8 := Lib.hid (blk_below HBK.out hb78)
            have HD8 := Lib.hid (HD.out.below hrow)
            have HBX := Lib.hid (setRow_heap (w7.alloc (.cells #[.int .i64 0, .int .i64 0, .int .i64 0, .int .i64 0, .int .i64 0, .int .i64 0, .int .i64 0, .int .i64 0, .int .i64 0, .int .i64 0, .int .i64 0, .bool false, .int .i64 0, .int .i64 0, .int .i64 0, .int .i64 0, .int .i64 0, .slice none 0 0, .int .i64 0, .slice none 0 0, .bool false, .int .i64 0, .int .i64 0, .int .i64 0, .int .i64 0, .int .i64 0, .slice none 0 0, .string ⟨#[]⟩] 34)) w7.heap.size #[.int .i64 0, .int .i64 0, .int .i64 0, .int .i64 0, .int .i64 0, .int .i64 0, .int .i64 0, .int .i64 0, .int .i64 0, .int .i64 0, .int .i64 0, .bool false, .int .i64 0, .int .i64 0, .int .i64 0, .int .i64 0, .int .i64 0, .slice none 0 0, .int .i64 0, .slice none 0 0, .bool false, .int .i64 0, .int .i64 0, .int .i64 0, .int .i64 0, .int .i64 0, .slice none 0 0, .string ⟨#[]⟩] ds2 34 (0, 0) HBz.out)
            clear hb78 hb hrow HB7 HBK HB
            go_upto_region 20 with (refine wpList_store_row rfl 34 (.tmp 17) (.tmp 100) rfl w7.heap.size ds2 rfl rfl 34 _ HBz.out HD.out.info HD.out.size.symm HD.out.one ?_)
            generalize (w7.alloc (.cells #[.int .i64 0, .int .i64 0, .int .i64 0, .int .i64 0, .int .i64 0, .int .i64 0, .int .i64 0, .int .i64 0, .int .i64 0, .int .i64 0, .int .i64 0, .bool false, .int .i64 0, .int .i64 0, .int .i64 0, .int .i64 0, .int .i64 0, .slice none 0 0, .int .i64 0, .slice none 0 0, .bool false, .int .i64 0, .int .i64 0, .int .i64 0, .int .i64 0, .int .i64 0, .slice none 0 0, .string ⟨#[]⟩] 34)).setRow w7.heap.size ds2 = w8 at HB8 HBK8 HBX HD8 ⊢
            have HIN := Lib.hid HD.out.info
            clear HBz HD hfe hnz
            cases t with
            | true =>
              have hu5 := decE_turned zs (HT1.out (HT.out.1 rfl))
              have hmm := decM_bad zs (by rw [hu5]; decide)
              rw [hmm] at HD8
              rw [hu5]
              clear hu5 hmm
              go_wp2_with (first | (refine gate_guard (by rfl) ?_; dsimp only; refine wpList_load_row rfl 34 (.tmp 17) rfl w7.heap.size rfl 34 ds2 (0, 0) _ HBX.out Try.underlying34 rfl HIN.out ?_) | ((with_reducible refine (same15_z HD8.out).mono ?_); rintro e w9 ⟨rfl, hb⟩; have HB9 := Lib.hid (HB8.out.trans (hb.mono HB8.out.size)); clear hb) | ((with_reducible refine (lives_calls _).mono ?_); rintro e w6 ⟨rfl, hb6⟩))
              go_ret
              exact ⟨rfl, HB9.out.trans (hb6.mono HB9.out.size)⟩
            | false =>
              have hd0 : D = 0 := by
                rcases Nat.eq_zero_or_pos D with h | h
                · exact h
                · exact absurd (HT.out.2 (by omega)) (by simp)
              have hze := HT0.out hd0
              obtain ⟨h0, hm⟩ := dec_enc x HI.out HM.out (by rw [← HUS.out]; omega)
              rw [hze, HUS.out, h0]
              rw [hze, HUS.out, hm] at HD8
              have HX8 := Lib.hid (HX.out.below HB8.out)
              clear hd0 hze h0 hm
              go_wp2_with (first | (refine gate_guard (by rfl) ?_; dsimp only; refine wpList_load_row rfl 34 (.tmp 17) rfl w7.heap.size rfl 34 ds2 (0, 0) _ HBX.out Try.underlying34 rfl HIN.out ?_) | (refine gate_guard (by rfl) ?_; dsimp only; refine wpList_load_row rfl 34 (.tmp 3) rfl w.heap.size rfl 34 cs (0, 0) _ HBK8.out Try.underlying34 rfl HINF.out ?_) | ((with_reducible refine (same15_m HD8.out HX8.out).mono ?_); rintro e w9 ⟨rfl, hb⟩; have HB9 := Lib.hid (HB8.out.trans (hb.mono HB8.out.size)); clear hb) | ((with_reducible refine (lives_calls _).mono ?_); rintro e w6 ⟨rfl, hb6⟩))
              go_ret
              exact ⟨rfl, HB9.out.trans (hb6.mono HB9.out.size)⟩

end Go.Proofs.Ytneebjlpeekmbaa
