/- The walk of the law CouncilAlone: it returns true, and writes nothing that was there. Conditions: the kinds' ranges. -/
import Derived.Test.YtfanbhbpmhojaaaCoG
namespace Go.Proofs.Ytfanbhbpmhojaaa
open Go.RowKit Go.Proofs.YtfanbhbpmhojaaaW.PrintWords Go.Proofs.YtfanbhbpmhojaaaW.PrintLast Go.Proofs.YtfanbhbpmhojaaaW.PrintMore PRef
attribute [local go_sem] max2_int min2_int max_two min_two
set_option linter.unusedVariables false
set_option linter.unusedSimpArgs false

/-- What is no entry, offered to a voter alone that leads. -/
theorem offer_bad {w : World} {g : Nat} {S : St} {t : Int} (h : Co w g S) (hl : Led S t) (k : Int) (s : ByteArray) (hs : s.size ≤ 9223372036854775807) (hk : ¬ (0 ≤ k ∧ k ≤ 2 ∧ (k ≠ 2 ∨ 0 < (votV s).length) ∧ s.size ≤ 4096)) :
    Calls Try.prog 11 #[.pointer (some ⟨g, 0, none⟩), .int .i64 k, .string s] w fun e w' => e = .returned (.tuple #[noWord, .int .i64 1]) ∧ Below w.heap.size w w' :=
  offer_arg h (by rw [hl.role]; rfl) k s hs hk
/-- Voters that are not others' by one node, offered to it. -/
theorem offer_same {w : World} {g : Nat} {S : St} {t : Int} (h : Co w g S) (hl : Led S t) (hself : S.self = 3) (s : ByteArray) (l : List Int) (hv : votV s = l) (hv0 : 0 < l.length) (hs : s.size ≤ 4096) (n : Nat) (hst : council_isStep.f n l [3] = some false) :
    Calls Try.prog 11 #[.pointer (some ⟨g, 0, none⟩), .int .i64 2, .string s] w fun e w' => e = .returned (.tuple #[noWord, .int .i64 1]) ∧ Below w.heap.size w w' :=
  offer_voters h (by rw [hl.role]; rfl) 2 s (by omega) ⟨by show (0 : Int) ≤ 2; omega, by show (2 : Int) ≤ 2; omega, .inr (by show 0 < (votV s).length; rw [hv]; exact hv0), hs⟩ rfl (hl.com.trans hl.last.symm) (by rw [hl.last]; exact hl.at1.trans hl.term.symm) n (by rw [hv, hl.lone.voters, hself]; exact hst)
theorem st1 : council_isStep.f 20 [3] [3] = some false := by decide +kernel
theorem st2 : council_isStep.f 20 [0, 1, 3] [3] = some false := by decide +kernel
theorem vot013 : votV ⟨#[0, 1, 3]⟩ = [0, 1, 3] := by decide +kernel
theorem votN : votV ⟨#[]⟩ = [] := by decide +kernel

set_option maxRecDepth 100000 in
set_option maxHeartbeats 4000000 in
theorem alone_law (A : Option Addr) (c : Nat) (ss : List ByteArray) (forget : Nat) (w : World) (hr : ReadsOf Value.string ByteArray.empty w A ss.length ss) (hs : ∀ s ∈ ss, s.size ≤ 9223372036854775807) (hf : forget < 18446744073709551616) :
    Calls Try.prog 3 #[.slice A ss.length c, .int .u64 forget] w fun e w' => e = .returned (.bool true) ∧ Below w.heap.size w w' := by
  have HR := Lib.hid hr
  have HS := Lib.hid hs
  have hlen := hr.2.1
  have HNW := Lib.hid (new_one w 3 ⟨#[3]⟩ text3 vot3 (by decide) (by omega) (by omega))
  clear hr hs
  go_enter Try.func3, Try.ntmps3
  go_upto_region 4 with ((with_reducible refine HNW.out.mono ?_); rintro e w1 ⟨g, rfl, hg, hco, hb⟩; have HC1 := Lib.hid hco; have HB1 := Lib.hid hb; have hgw := hg; clear hco hb hg)
  have hbel : Hid (∀ w1 w2, Chg (fun k => k = g) w1 w2 → Below w.heap.size w w1 → Below w.heap.size w w2) := Lib.hid (fun w1 w2 hc hb => hb.trans (hc.below hb.size (fun i hi hk => by omega)))
  have HO := Lib.hid (offer_none HC1.out rfl 1 ⟨#[101, 97, 114, 108, 121]⟩)
  go_upto_region 5 with ((with_reducible refine HO.out.mono ?_); rintro e w2 ⟨rfl, hb⟩; have HB2 := Lib.hid hb; clear hb)
  have HBy := Lib.hid (HB2.out.trans (((Below.refl w2.heap.size w2).alloc (Nat.le_refl _) (.cells #[.bool false, .slice none 0 0, .slice none 0 0] 32)).mono HB2.out.size))
  generalize w2.alloc (.cells #[.bool false, .slice none 0 0, .slice none 0 0] 32) = w3 at HBy ⊢
  have HC3 := Lib.hid (HC1.out.below HBy.out)
  have HB3 := Lib.hid (HB1.out.trans (HBy.out.mono HB1.out.size))
  clear HBy HB2 HC1 HO HNW HB1
  go_wp2_with fail
  go_loopw [41] (fun vi wr => (∃ i : Nat, i ≤ 18 ∧ vi = .int .i64 i ∧ Hid (Co wr g (St.new 3 ⟨#[3]⟩ i) ∧ Below w.heap.size w wr)) ∨ (vi = .int .i64 19 ∧ ∃ S, Hid (Led S 1 ∧ Co wr g S ∧ Below w.heap.size w wr ∧ S.self = 3 ∧ S.bidx = 0))) (fun vi _ => 19 - (intOf vi).toNat)
  case atStart => exact .inl ⟨0, by omega, rfl, Lib.hid ⟨HC3.out, HB3.out⟩⟩
  case round =>
  rcases hrel with ⟨i, hi, rfl, HT⟩ | ⟨rfl, S, HT⟩
  · by_cases h18 : i < 18
    · have HW := Lib.hid (tick_new HT.out.1 (by omega) (by omega) (by omega) (by omega))
      have hlt : decide ((i : Int) < 19) = true := decide_eq_true (by omega)
      go_wp2_with ((with_reducible refine HW.out.mono ?_); rintro e w4 ⟨rfl, hco, hch⟩; have HC4 := Lib.hid hco; have HB4 := Lib.hid (hbel.out _ _ hch HT.out.2); clear hco hch)
      go_roundw
      case measure => first | (simp [intOf]; done) | (simp [intOf]; omega)
      case rel => exact .inl ⟨i + 1, by omega, by go_num, Lib.hid ⟨by have := HC4.out; rw [show ((i + 1 : Nat) : Int) = (i : Int) + 1 from by omega]; exact this, HB4.out⟩⟩
    · have HW := Lib.hid (tick_lead 3 rfl vot3 HT.out.1 (by omega) (by omega) (by omega) (by omega) (by omega))
      have hlt : decide ((i : Int) < 19) = true := decide_eq_true (by omega)
      have hi18 : i = 18 := by omega
      go_wp2_with ((with_reducible refine HW.out.mono ?_); rintro e w4 ⟨A4, cA, S, rfl, hself, hled, hbi, hco, hch⟩; have HC4 := Lib.hid (And.intro hled (And.intro hco (And.intro (hbel.out _ _ hch HT.out.2) (And.intro hself hbi)))); clear hco hch hled hself hbi)
      go_roundw
      case measure => first | (simp [intOf]; done) | (simp [intOf]; omega)
      case rel => exact .inr ⟨by first | (subst hi18; rfl) | go_num, S, HC4⟩
  · have HLD : Hid (Calls Try.prog 13 #[.pointer (some ⟨g, 0, none⟩)] wr fun e w' => e = .returned (.bool true) ∧ wr = w') := Lib.hid (by
      have := leads_calls HT.out.2.1
      rw [HT.out.1.role] at this
      exact this)
    have HTD : Hid (Calls Try.prog 14 #[.pointer (some ⟨g, 0, none⟩)] wr fun e w' => e = .returned (.int .i64 1) ∧ wr = w') := Lib.hid (by
      have := told_calls HT.out.2.1
      rw [HT.out.1.told] at this
      exact this)
    go_wp2_with (first | ((with_reducible refine HLD.out.mono ?_); rintro e w4 ⟨rfl, rfl⟩) | ((with_reducible refine HTD.out.mono ?_); rintro e w5 ⟨rfl, rfl⟩))
    clear HLD HTD
    have HT0 := HT
    go_loopw [56] (fun vi wr => ∃ i : Nat, i ≤ ss.length ∧ i ≤ 40 ∧ vi = .int .i64 i ∧ ∃ S, Hid (Led S (i + 1) ∧ Co wr g S ∧ Below w.heap.size w wr ∧ S.self = 3 ∧ (S.bidx = 0 ∨ forget % 40 < i) ∧ S.bidx ≤ i)) (fun vi _ => ss.length - (intOf vi).toNat)
    case atStart => exact ⟨0, by omega, by omega, rfl, S, Lib.hid ⟨HT.out.1, HT.out.2.1, HT.out.2.2.1, HT.out.2.2.2.1, .inl HT.out.2.2.2.2, by rw [HT.out.2.2.2.2]; decide⟩⟩
    case round =>
    clear HT HT0
    obtain ⟨i, hil, hi40, rfl, S, HL⟩ := hrel
    have hid : decide ((i : Int) < (ss.length : Int)) = decide (i < ss.length) := by
      by_cases h : i < ss.length
      · rw [decide_eq_true h]; exact decide_eq_true (by omega)
      · rw [decide_eq_false h]; exact decide_eq_false (by omega)
    by_cases hlt : i < ss.length
    · have hltb : decide ((i : Int) < (ss.length : Int)) = true := decide_eq_true (by omega)
      obtain ⟨ad, rfl, hcell⟩ := (HR.out.below HL.out.2.2.1).at_ (i : Int) (by omega) (by omega)
      rw [show rdOf ByteArray.empty ss (i : Int) = ss.getD i ByteArray.empty from by unfold rdOf; rw [Int.toNat_natCast], Int.toNat_natCast] at hcell
      have hmem : ss.getD i ByteArray.empty ∈ ss := by rw [List.getD_eq_getElem?_getD, List.getElem?_eq_getElem hlt]; exact List.getElem_mem _
      have hsz := HS.out _ hmem
      clear hmem
      generalize ss.getD i ByteArray.empty = s at hcell hsz
      by_cases h40 : i < 40
      · have h40b : decide ((40 : Int) ≤ (i : Int)) = false := decide_eq_false (by omega)
        go_upto_region 17 with fail
        by_cases hbig : 4096 < s.size
        · have hbigb : decide ((4096 : Int) < (s.size : Int)) = true := decide_eq_true (by omega)
          have HO := Lib.hid (offer_bad HL.out.2.1 HL.out.1 1 s hsz (fun h => by have := h.2.2.2; omega))
          go_upto_region 18 with ((with_reducible refine HO.out.mono ?_); rintro e w4 ⟨rfl, hb⟩; have HB4 := Lib.hid (HL.out.2.2.1.trans (hb.mono HL.out.2.2.1.size)); clear hb)
          have HB5 := Lib.hid (HB4.out.alloc HB4.out.size (.cells #[.bool false, .slice none 0 0, .slice none 0 0] 32))
          generalize w4.alloc (.cells #[.bool false, .slice none 0 0, .slice none 0 0] 32) = w5 at HB5 ⊢
          have HLIV := Lib.hid (lives_calls w5)
          go_wp2_with ((with_reducible refine HLIV.out.mono ?_); rintro e w6 ⟨rfl, hb⟩; have HB6 := Lib.hid (HB5.out.trans (hb.mono HB5.out.size)); clear hb)
          go_ret
          exact ⟨by rfl, HB6.out⟩
        · have hbigb : decide ((4096 : Int) < (s.size : Int)) = false := decide_eq_false (by omega)
          have HO := Lib.hid (offer_led HL.out.2.1 HL.out.1 (by omega) s (by omega))
          go_upto_region 18 with ((with_reducible refine HO.out.mono ?_); rintro e w4 ⟨A2, cA, S2, rfl, hself, hled, hbi, hco, hch, hnw⟩; have HC4 := Lib.hid hco; have HL4 := Lib.hid hled; have HSB := Lib.hid (And.intro hself hbi); have HB4 := Lib.hid (hbel.out _ _ hch HL.out.2.2.1); have HN4 := Lib.hid hnw; clear hco hch hled hself hbi hnw)
          obtain ⟨na, hA, hn0, hn3, hn4⟩ := HN4.out.cells
          subst hA
          have hb5 := (Below.refl w4.heap.size w4).alloc (Nat.le_refl _) (.cells #[.bool true, .slice S.mA S.mN S.mC, .slice (some na) 1 cA] 32)
          have hk5 := blk_new w4 (.cells #[.bool true, .slice S.mA S.mN S.mC, .slice (some na) 1 cA] 32)
          generalize w4.alloc (.cells #[.bool true, .slice S.mA S.mN S.mC, .slice (some na) 1 cA] 32) = w5 at hb5 hk5 ⊢
          have HB5 := Lib.hid (HB4.out.trans (hb5.mono HB4.out.size))
          have HC5 := Lib.hid (HC4.out.below hb5)
          replace hn0 : w5.cell? na = some (.int .i64 ((i : Int) + 2)) := by rw [show (i : Int) + 2 = (i : Int) + 1 + 1 from by omega]; exact pw_cell_below hb5 hn0
          replace hn3 := pw_cell_below hb5 hn3
          replace hn4 := pw_cell_below hb5 hn4
          have m2 : w5.cell? ⟨w4.heap.size, 2, none⟩ = some (.slice (some na) 1 cA) := by rw [blk_cell hk5]; rfl
          clear hb5 hk5
          go_upto_region 22 with fail
          clear hn0 hn3 hn4 m2
          by_cases hfo : i = forget % 40
          · have hb0 : S2.bidx = 0 := by
              rcases HL.out.2.2.2.2.1 with h0 | h0
              · rw [HSB.out.2]; exact h0
              · omega
            have hll : (S2.log.length : Int) = (i : Int) + 2 := by have := HL4.out.last; rw [hb0] at this; omega
            have HCM : Hid (Calls Try.prog 16 #[.pointer (some ⟨g, 0, none⟩), .int .i64 ((i : Int) + 1), .string ⟨#[115, 116, 97, 116, 101]⟩] w5 fun e w' => ∃ A3 c3, e = .returned (.tuple #[.agg #[.bool true, .slice S2.mA S2.mN S2.mC, .slice S2.nA S2.nN S2.nC], .int .i64 0]) ∧ Co w' g (S2.cut (S2.bidx + ((i + 1 : Nat) : Int)) ⟨#[115, 116, 97, 116, 101]⟩ (i + 1) A3 c3).quit ∧ Chg (fun k => k = g) w5 w') := Lib.hid (by
              have := compact_ok HC5.out (i + 1) ⟨#[115, 116, 97, 116, 101]⟩ (by omega) (by omega) (by rw [HL4.out.told, hb0]; omega) (by rw [HL4.out.told]; omega) (by decide)
              rw [show S2.bidx + ((i + 1 : Nat) : Int) = (i : Int) + 1 from by rw [hb0]; omega] at this ⊢
              exact this)
            have hled3 : ∀ A3 c3, Led (S2.cut (S2.bidx + ((i + 1 : Nat) : Int)) ⟨#[115, 116, 97, 116, 101]⟩ (i + 1) A3 c3).quit ((i : Int) + 1 + 1) := fun A3 c3 => HL4.out.cut (i + 1) ⟨#[115, 116, 97, 116, 101]⟩ (by omega) A3 c3
            have hbi3 : ∀ A3 c3, (S2.cut (S2.bidx + ((i + 1 : Nat) : Int)) ⟨#[115, 116, 97, 116, 101]⟩ (i + 1) A3 c3).quit.bidx = (i : Int) + 1 := fun A3 c3 => by show S2.bidx + ((i + 1 : Nat) : Int) = _; rw [hb0]; omega
            have hse3 : ∀ A3 c3, (S2.cut (S2.bidx + ((i + 1 : Nat) : Int)) ⟨#[115, 116, 97, 116, 101]⟩ (i + 1) A3 c3).quit.self = 3 := fun A3 c3 => HSB.out.1.trans HL.out.2.2.2.1
            have HFA := Lib.hid (And.intro hled3 (And.intro hbi3 hse3))
            have HFO := Lib.hid hfo
            have hfo2 : ((i : Int) == ((forget % 40 : Nat) : Int)) = true := beq_iff_eq.2 (by omega)
            have hfo3 : ((i : Int) == (forget : Int) % 40) = true := beq_iff_eq.2 (by omega)
            clear hb0 hll hled3 hbi3 hse3 hfo
            go_upto_region 24 with ((with_reducible refine HCM.out.mono ?_); rintro e w6 ⟨A3, c3, rfl, hco, hch⟩; have HC6 := Lib.hid hco; have HB6 := Lib.hid (hbel.out _ _ hch HB5.out); clear hco hch)
            obtain ⟨S3, hS3⟩ : ∃ S3, S3 = (S2.cut (S2.bidx + ((i + 1 : Nat) : Int)) ⟨#[115, 116, 97, 116, 101]⟩ (i + 1) A3 c3).quit := ⟨_, rfl⟩
            have HF3 : Hid (Led S3 ((i : Int) + 1 + 1) ∧ S3.bidx = (i : Int) + 1 ∧ S3.self = 3) := Lib.hid (by rw [hS3]; exact ⟨HFA.out.1 A3 c3, HFA.out.2.1 A3 c3, HFA.out.2.2 A3 c3⟩)
            rw [← hS3] at HC6
            clear hS3
            have hb7 := (Below.refl w6.heap.size w6).alloc (Nat.le_refl _) (.cells #[.bool true, .slice S2.mA S2.mN S2.mC, .slice S2.nA S2.nN S2.nC] 32)
            have hk7 := blk_new w6 (.cells #[.bool true, .slice S2.mA S2.mN S2.mC, .slice S2.nA S2.nN S2.nC] 32)
            generalize w6.alloc (.cells #[.bool true, .slice S2.mA S2.mN S2.mC, .slice S2.nA S2.nN S2.nC] 32) = w7 at hb7 hk7 ⊢
            have HB7 := Lib.hid (HB6.out.trans (hb7.mono HB6.out.size))
            have HC7 := Lib.hid (HC6.out.below hb7)
            have HM7 : Hid (w7.cell? ⟨w6.heap.size, 0, none⟩ = some (.bool true)) := Lib.hid (by rw [blk_cell hk7]; rfl)
            clear hb7 hk7
            have HA1 := Lib.hid (compact_arg HC7.out ((i : Int) + 3) ⟨#[115, 116, 97, 116, 101]⟩ (.inr (by rw [HF3.out.1.told]; omega)))
            go_upto_region 25 with ((with_reducible refine HA1.out.mono ?_); rintro e w8 ⟨rfl, hb⟩; have HBx := Lib.hid hb; clear hb)
            have HBy := Lib.hid (HBx.out.trans (((Below.refl w8.heap.size w8).alloc (Nat.le_refl _) (.cells #[.bool false, .slice none 0 0, .slice none 0 0] 32)).mono HBx.out.size))
            generalize w8.alloc (.cells #[.bool false, .slice none 0 0, .slice none 0 0] 32) = w9 at HBy ⊢
            have HC9 := Lib.hid (HC7.out.below HBy.out)
            have HB9 := Lib.hid (HB7.out.trans (HBy.out.mono HB7.out.size))
            have HM9 := Lib.hid (pw_cell_below HBy.out HM7.out)
            clear HBx HBy HA1
            have HA2 := Lib.hid (compact_arg HC9.out ((i : Int) + 1) ⟨#[115, 116, 97, 116, 101]⟩ (.inl (by rw [HF3.out.2.1]; omega)))
            go_upto_region 26 with ((with_reducible refine HA2.out.mono ?_); rintro e wa ⟨rfl, hb⟩; have HBx := Lib.hid hb; clear hb)
            have HBy := Lib.hid (HBx.out.trans (((Below.refl wa.heap.size wa).alloc (Nat.le_refl _) (.cells #[.bool false, .slice none 0 0, .slice none 0 0] 32)).mono HBx.out.size))
            generalize wa.alloc (.cells #[.bool false, .slice none 0 0, .slice none 0 0] 32) = wb at HBy ⊢
            have HCb := Lib.hid (HC9.out.below HBy.out)
            have HBb := Lib.hid (HB9.out.trans (HBy.out.mono HB9.out.size))
            have hmb := pw_cell_below HBy.out HM9.out
            clear HBx HBy HA2
            have HLA : Hid (Calls Try.prog 17 #[.pointer (some ⟨g, 0, none⟩)] wb fun e w' => e = .returned (.int .i64 ((i : Int) + 2)) ∧ Below wb.heap.size wb w') := Lib.hid (by
              have := last_calls HCb.out
              rw [HF3.out.1.last, show (i : Int) + 1 + 1 = (i : Int) + 2 from by omega] at this
              exact this.mono (fun e w' ⟨he, m, hm⟩ => ⟨he, by rw [hm]; exact pw_below_drewN (Below.refl _ _) m⟩))
            go_wp2_with ((with_reducible refine HLA.out.mono ?_); rintro e wc ⟨rfl, hb⟩; have HBc := Lib.hid hb; clear hb)
            go_roundw
            case measure => first | (simp [intOf]; done) | (simp [intOf]; omega)
            case rel => exact ⟨i + 1, by omega, by omega, by go_num, S3, Lib.hid ⟨by rw [show (((i + 1 : Nat) : Int)) = (i : Int) + 1 from by omega]; exact HF3.out.1, HCb.out.below HBc.out, HBb.out.trans (HBc.out.mono HBb.out.size), HF3.out.2.2, .inr (by have := HFO.out; omega), by rw [HF3.out.2.1]; omega⟩⟩
          · have hfo2 : ((i : Int) == ((forget % 40 : Nat) : Int)) = false := beq_eq_false_iff_ne.2 (by omega)
            have hfo3 : ((i : Int) == (forget : Int) % 40) = false := beq_eq_false_iff_ne.2 (by omega)
            go_wp2_with fail
            go_roundw
            case measure => first | (simp [intOf]; done) | (simp [intOf]; omega)
            case rel => exact ⟨i + 1, by omega, by omega, by go_num, S2, Lib.hid ⟨by rw [show (((i + 1 : Nat) : Int)) = (i : Int) + 1 from by omega]; exact HL4.out, HC5.out, HB5.out, HSB.out.1.trans HL.out.2.2.2.1, (by rw [HSB.out.2]; rcases HL.out.2.2.2.2.1 with h0 | h0; exact .inl h0; exact .inr (by omega)), by rw [HSB.out.2]; have := HL.out.2.2.2.2.2; omega⟩⟩
      · have h40b : decide ((40 : Int) ≤ (i : Int)) = true := decide_eq_true (by omega)
        go_upto_region 29 with fail
        have HCf := Lib.hid HL.out.2.1
        have HLf := Lib.hid HL.out.1
        have HBf := Lib.hid HL.out.2.2.1
        have HSf := Lib.hid HL.out.2.2.2.1
        have HO29 := Lib.hid (offer_bad HCf.out HLf.out 2 ⟨#[]⟩ (by decide) (by rw [votN]; decide))
        go_upto_region 30 with ((with_reducible refine HO29.out.mono ?_); rintro e f1 ⟨rfl, hb⟩; have HBx := Lib.hid hb; clear hb)
        have HBy := Lib.hid (HBx.out.trans (((Below.refl f1.heap.size f1).alloc (Nat.le_refl _) (.cells #[.bool false, .slice none 0 0, .slice none 0 0] 32)).mono HBx.out.size))
        generalize f1.alloc (.cells #[.bool false, .slice none 0 0, .slice none 0 0] 32) = f1a at HBy ⊢
        have HCf1 := Lib.hid (HCf.out.below HBy.out)
        have HBf1 := Lib.hid (HBf.out.trans (HBy.out.mono HBf.out.size))
        clear HBx HBy HO29
        have HO30 := Lib.hid (offer_bad HCf1.out HLf.out 3 ⟨#[]⟩ (by decide) (by decide))
        go_upto_region 31 with ((with_reducible refine HO30.out.mono ?_); rintro e f2 ⟨rfl, hb⟩; have HBx := Lib.hid hb; clear hb)
        have HBy := Lib.hid (HBx.out.trans (((Below.refl f2.heap.size f2).alloc (Nat.le_refl _) (.cells #[.bool false, .slice none 0 0, .slice none 0 0] 32)).mono HBx.out.size))
        generalize f2.alloc (.cells #[.bool false, .slice none 0 0, .slice none 0 0] 32) = f2a at HBy ⊢
        have HCf2 := Lib.hid (HCf1.out.below HBy.out)
        have HBf2 := Lib.hid (HBf1.out.trans (HBy.out.mono HBf1.out.size))
        clear HBx HBy HO30
        have HO31 := Lib.hid (offer_same HCf2.out HLf.out HSf.out ⟨#[3]⟩ [3] vot3 (by decide) (by decide) 20 st1)
        go_upto_region 32 with ((with_reducible refine HO31.out.mono ?_); rintro e f3 ⟨rfl, hb⟩; have HBx := Lib.hid hb; clear hb)
        have HBy := Lib.hid (HBx.out.trans (((Below.refl f3.heap.size f3).alloc (Nat.le_refl _) (.cells #[.bool false, .slice none 0 0, .slice none 0 0] 32)).mono HBx.out.size))
        generalize f3.alloc (.cells #[.bool false, .slice none 0 0, .slice none 0 0] 32) = f3a at HBy ⊢
        have HCf3 := Lib.hid (HCf2.out.below HBy.out)
        have HBf3 := Lib.hid (HBf2.out.trans (HBy.out.mono HBf2.out.size))
        clear HBx HBy HO31
        have HO32 := Lib.hid (offer_same HCf3.out HLf.out HSf.out ⟨#[0, 1, 3]⟩ [0, 1, 3] vot013 (by decide) (by decide) 20 st2)
        go_upto_region 33 with ((with_reducible refine HO32.out.mono ?_); rintro e f4 ⟨rfl, hb⟩; have HBx := Lib.hid hb; clear hb)
        have HBy := Lib.hid (HBx.out.trans (((Below.refl f4.heap.size f4).alloc (Nat.le_refl _) (.cells #[.bool false, .slice none 0 0, .slice none 0 0] 32)).mono HBx.out.size))
        generalize f4.alloc (.cells #[.bool false, .slice none 0 0, .slice none 0 0] 32) = f4a at HBy ⊢
        have HCf4 := Lib.hid (HCf3.out.below HBy.out)
        have HBf4 := Lib.hid (HBf3.out.trans (HBy.out.mono HBf3.out.size))
        clear HBx HBy HO32
        have HLIV := Lib.hid (lives_calls f4a)
        go_wp2_with ((with_reducible refine HLIV.out.mono ?_); rintro e f5 ⟨rfl, hb⟩; have HB5 := Lib.hid (HBf4.out.trans (hb.mono HBf4.out.size)); clear hb)
        go_ret
        exact ⟨by rfl, HB5.out⟩
    · have hltb : decide ((i : Int) < (ss.length : Int)) = false := decide_eq_false (by omega)
      go_upto_region 29 with fail
      have HCf := Lib.hid HL.out.2.1
      have HLf := Lib.hid HL.out.1
      have HBf := Lib.hid HL.out.2.2.1
      have HSf := Lib.hid HL.out.2.2.2.1
      have HO29 := Lib.hid (offer_bad HCf.out HLf.out 2 ⟨#[]⟩ (by decide) (by rw [votN]; decide))
      go_upto_region 30 with ((with_reducible refine HO29.out.mono ?_); rintro e f1 ⟨rfl, hb⟩; have HBx := Lib.hid hb; clear hb)
      have HBy := Lib.hid (HBx.out.trans (((Below.refl f1.heap.size f1).alloc (Nat.le_refl _) (.cells #[.bool false, .slice none 0 0, .slice none 0 0] 32)).mono HBx.out.size))
      generalize f1.alloc (.cells #[.bool false, .slice none 0 0, .slice none 0 0] 32) = f1a at HBy ⊢
      have HCf1 := Lib.hid (HCf.out.below HBy.out)
      have HBf1 := Lib.hid (HBf.out.trans (HBy.out.mono HBf.out.size))
      clear HBx HBy HO29
      have HO30 := Lib.hid (offer_bad HCf1.out HLf.out 3 ⟨#[]⟩ (by decide) (by decide))
      go_upto_region 31 with ((with_reducible refine HO30.out.mono ?_); rintro e f2 ⟨rfl, hb⟩; have HBx := Lib.hid hb; clear hb)
      have HBy := Lib.hid (HBx.out.trans (((Below.refl f2.heap.size f2).alloc (Nat.le_refl _) (.cells #[.bool false, .slice none 0 0, .slice none 0 0] 32)).mono HBx.out.size))
      generalize f2.alloc (.cells #[.bool false, .slice none 0 0, .slice none 0 0] 32) = f2a at HBy ⊢
      have HCf2 := Lib.hid (HCf1.out.below HBy.out)
      have HBf2 := Lib.hid (HBf1.out.trans (HBy.out.mono HBf1.out.size))
      clear HBx HBy HO30
      have HO31 := Lib.hid (offer_same HCf2.out HLf.out HSf.out ⟨#[3]⟩ [3] vot3 (by decide) (by decide) 20 st1)
      go_upto_region 32 with ((with_reducible refine HO31.out.mono ?_); rintro e f3 ⟨rfl, hb⟩; have HBx := Lib.hid hb; clear hb)
      have HBy := Lib.hid (HBx.out.trans (((Below.refl f3.heap.size f3).alloc (Nat.le_refl _) (.cells #[.bool false, .slice none 0 0, .slice none 0 0] 32)).mono HBx.out.size))
      generalize f3.alloc (.cells #[.bool false, .slice none 0 0, .slice none 0 0] 32) = f3a at HBy ⊢
      have HCf3 := Lib.hid (HCf2.out.below HBy.out)
      have HBf3 := Lib.hid (HBf2.out.trans (HBy.out.mono HBf2.out.size))
      clear HBx HBy HO31
      have HO32 := Lib.hid (offer_same HCf3.out HLf.out HSf.out ⟨#[0, 1, 3]⟩ [0, 1, 3] vot013 (by decide) (by decide) 20 st2)
      go_upto_region 33 with ((with_reducible refine HO32.out.mono ?_); rintro e f4 ⟨rfl, hb⟩; have HBx := Lib.hid hb; clear hb)
      have HBy := Lib.hid (HBx.out.trans (((Below.refl f4.heap.size f4).alloc (Nat.le_refl _) (.cells #[.bool false, .slice none 0 0, .slice none 0 0] 32)).mono HBx.out.size))
      generalize f4.alloc (.cells #[.bool false, .slice none 0 0, .slice none 0 0] 32) = f4a at HBy ⊢
      have HCf4 := Lib.hid (HCf3.out.below HBy.out)
      have HBf4 := Lib.hid (HBf3.out.trans (HBy.out.mono HBf3.out.size))
      clear HBx HBy HO32
      have HLIV := Lib.hid (lives_calls f4a)
      go_wp2_with ((with_reducible refine HLIV.out.mono ?_); rintro e f5 ⟨rfl, hb⟩; have HB5 := Lib.hid (HBf4.out.trans (hb.mono HBf4.out.size)); clear hb)
      go_ret
      exact ⟨by rfl, HB5.out⟩

theorem alone_row (A : Option Addr) (c n : Nat) (ss : List ByteArray) (forget : Nat) (w : World) (hr : ReadsOf Value.string ByteArray.empty w A n ss) (hs : ∀ s ∈ ss, s.size ≤ 9223372036854775807) (hf : forget < 18446744073709551616) :
    Calls Try.prog 3 #[.slice A n c, .int .u64 forget] w fun e w' => e = .returned (.bool true) ∧ Below w.heap.size w w' := by
  have h := hr.1
  subst h
  exact alone_law A c ss forget w hr hs hf

end Go.Proofs.Ytfanbhbpmhojaaa
