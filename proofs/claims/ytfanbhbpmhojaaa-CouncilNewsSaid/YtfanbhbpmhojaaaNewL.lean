/- The walk of the law CouncilNews: it returns true, and writes nothing that was there. Conditions: the kinds' ranges. -/
import Derived.Test.YtfanbhbpmhojaaaNil2
import Derived.Test.YtfanbhbpmhojaaaNewV
namespace Go.Proofs.Ytfanbhbpmhojaaa
open Go.RowKit Go.Proofs.YtfanbhbpmhojaaaW.PrintWords Go.Proofs.YtfanbhbpmhojaaaW.PrintLast Go.Proofs.YtfanbhbpmhojaaaW.PrintMore PRef
attribute [local go_sem] max2_int min2_int max_two min_two
set_option linter.unusedVariables false
set_option linter.unusedSimpArgs false

theorem ints_C {w : World} {A : Option Addr} {n : Nat} {l : List Int} (h : ReadsInt w .i64 A n l) : Kd.C (Kd.int .i64) w A n l := Kd.C_of_reads h
theorem isNode_no (a : Int) (h : ¬ (0 ≤ a ∧ a < 7)) : council_isNode.f a = some false := by
  unfold council_isNode.f
  by_cases h0 : a ≥ 0
  · rw [if_pos h0, decide_eq_false (by omega)]
  · rw [if_neg h0]
theorem wpList_field32m {ops : Array Oper} {rest : List Oper} {o : Oper} {a : Act} {w : World} {Q : Exit → Act → World → Prop} (hgd : o.guard = none) (x : Operand) (ho : o.op = .field 32 x 1) (u0 u1 : Value) (A : Option Addr) (n c : Nat) (hx : a.eval x = .agg #[u0, .slice A n c, u1])
    (h : wpList Try.prog ops Q rest (a.put o.dst (.slice A n c)) w) : wpList Try.prog ops Q (o :: rest) a w := by
  refine wpList_plain hgd fun K hK => ?_
  have hu := Try.underlying32
  have hu29 := Try.underlying29
  have hrun : (execOp a.eval o).run Try.prog w = .ok (.value (.slice A n c)) w := by
    unfold execOp
    simp only [ho, hx]
    simp [Instr.field, Sem.run_bind, run_underlying hu, Result.andThen, asAgg, part, isAgg, run_underlying hu29]
  unfold Oper.wp
  rw [hrun]
  exact hK _ _ h

theorem R_read2 {w : World} {base : Nat} {v : Value} {l : List Int} (h : Kd.R (Kd.int .i64) 3 w base (fun _ => True) v l) : ∃ A c, v = .slice A l.length c ∧ l.length ≤ c ∧ Kd.C (Kd.int .i64) w A l.length l := by
  obtain ⟨A, c, rfl⟩ := Kd.R_slice h
  obtain ⟨_, hc, hr⟩ := Kd.R_reads' h
  exact ⟨A, c, rfl, hc, hr⟩
theorem R_read3 {w w1 : World} {base : Nat} {v : Value} {l : List Int} (h : Kd.R (Kd.int .i64) 3 w base (fun _ => True) v l) (hb : Below w.heap.size w w1) : ∃ A c, v = .slice A l.length c ∧ l.length ≤ c ∧ Kd.C (Kd.int .i64) w1 A l.length l := by
  obtain ⟨A, c, h1, h2, h3⟩ := R_read2 h
  exact ⟨A, c, h1, h2, Kd.C_below h3 hb⟩
set_option maxRecDepth 100000 in
set_option maxHeartbeats 4000000 in
theorem news_law (self : Int) (A : Option Addr) (c : Nat) (l : List Int) (s : ByteArray) (w : World) (hr : ReadsInt w .i64 A l.length l) (hc : l.length ≤ c) (hs : s.size ≤ 9223372036854775807) (hl : ∀ i, -9223372036854775808 ≤ l.getD i 0 ∧ l.getD i 0 ≤ 9223372036854775807) :
    Calls Try.prog 5 #[.int .i64 self, .slice A l.length c, .string s] w fun e w' => e = .returned (.bool true) ∧ Below w.heap.size w w' := by
  have HR := Lib.hid hr
  have HCC := Lib.hid hc
  have HL := Lib.hid hl
  have hlen := hr.2.1
  clear hr hl hc
  by_cases hb1 : 20 < l.length
  · have HLIV := Lib.hid (lives_calls w)
    have hbb : decide ((20 : Int) < (l.length : Int)) = true := decide_eq_true (by omega)
    go_enter Try.func5, Try.ntmps5
    go_wp2_with ((with_reducible refine HLIV.out.mono ?_); rintro e w6 ⟨rfl, hb⟩; have HB6 := Lib.hid hb; clear hb)
    go_ret
    exact ⟨rfl, HB6.out⟩
  have hbb : decide ((20 : Int) < (l.length : Int)) = false := decide_eq_false (by omega)
  by_cases hb2 : 1000 < s.size
  · have HLIV := Lib.hid (lives_calls w)
    have hbs : decide ((1000 : Int) < (s.size : Int)) = true := decide_eq_true (by omega)
    go_enter Try.func5, Try.ntmps5
    go_wp2_with ((with_reducible refine HLIV.out.mono ?_); rintro e w6 ⟨rfl, hb⟩; have HB6 := Lib.hid hb; clear hb)
    go_ret
    exact ⟨rfl, HB6.out⟩
  have hbs : decide ((1000 : Int) < (s.size : Int)) = false := decide_eq_false (by omega)
  go_enter Try.func5, Try.ntmps5
  go_upto_region 5 with fail
  go_loopw [7, 36] (fun vr vi wr => ∃ (i : Nat) (b : Bool), i ≤ l.length ∧ vi = .int .i64 i ∧ vr = .bool b ∧ Hid (b = true ↔ 0 < l.length ∧ ∀ j, j < i → okL l j) ∧ w = wr) (fun _ vi _ => l.length - (intOf vi).toNat)
  case atStart => exact ⟨0, decide (0 < l.length), by omega, rfl, rfl, Lib.hid ⟨fun h => ⟨of_decide_eq_true h, fun j hj => absurd hj (by omega)⟩, fun h => decide_eq_true h.1⟩, rfl⟩
  case round =>
  obtain ⟨i, b, hil, rfl, rfl, HK, rfl⟩ := hrel
  by_cases hlt : i < l.length
  · have hltb : decide ((i : Int) < (l.length : Int)) = true := decide_eq_true (by omega)
    obtain ⟨ad, rfl, hcell⟩ := HR.out.at_ (i : Int) (by omega) (by omega)
    rw [show rd l (i : Int) = l.getD i 0 from rd_getD l i, Int.toNat_natCast] at hcell
    have hz0 := (HL.out i).1
    have hz1 := (HL.out i).2
    obtain ⟨z, hz⟩ : ∃ z, z = l.getD i 0 := ⟨_, rfl⟩
    have HZ := Lib.hid hz
    rw [← hz] at hcell hz0 hz1
    clear hz
    cases b
    · have HK0 : Hid (¬ (0 < l.length ∧ ∀ j, j < i → okL l j)) := Lib.hid (fun h => absurd (HK.out.2 h) (by decide))
      clear HK
      go_wp2_with fail
      go_roundw
      case measure => first | (simp [intOf]; done) | (simp [intOf]; omega)
      case rel => exact ⟨i + 1, false, by omega, by go_num, by rfl, Lib.hid ⟨fun h => absurd h (by decide), fun h => absurd ⟨h.1, fun j hj => h.2 j (by omega)⟩ HK0.out⟩, by first | rfl | trivial⟩
    · by_cases h0 : 0 ≤ z
      · have h0b : decide (0 ≤ z) = true := decide_eq_true h0
        by_cases h7 : z < 7
        · have h7b : decide (z < 7) = true := decide_eq_true h7
          by_cases hi0 : i = 0
          · have hib : ((i : Int) == 0) = true := beq_iff_eq.2 (by omega)
            have HI := Lib.hid hi0
            clear hi0
            go_wp2_with fail
            go_roundw
            case measure => first | (simp [intOf]; done) | (simp [intOf]; omega)
            case rel => exact ⟨i + 1, true, by omega, by go_num, by rfl, Lib.hid ⟨fun _ => ⟨(HK.out.1 rfl).1, fun j hj => by
                by_cases hji : j = i
                · subst hji; have hZ := HZ.out; unfold okL; rw [← hZ]; exact ⟨by omega, by omega, .inl HI.out⟩
                · exact (HK.out.1 rfl).2 j (by omega)⟩, fun _ => rfl⟩, by first | rfl | trivial⟩
          · have hib : ((i : Int) == 0) = false := beq_eq_false_iff_ne.2 (by omega)
            obtain ⟨ad2, hA2, hcell2⟩ := HR.out.at_ ((i : Int) - 1) (by omega) (by omega)
            cases hA2
            obtain ⟨j, hj⟩ : ∃ j : Nat, (i : Int) - 1 = j := ⟨i - 1, by omega⟩
            rw [hj, rd_getD, Int.toNat_natCast] at hcell2
            have HJ := Lib.hid hj
            have hj0 : (0 : Int) ≤ (j : Int) := by omega
            have hj1 : (j : Int) < (l.length : Int) := by omega
            obtain ⟨y, hy⟩ : ∃ y, y = l.getD j 0 := ⟨_, rfl⟩
            have HY := Lib.hid hy
            rw [← hy] at hcell2
            have HYZ : Hid (l.getD (i - 1) 0 = y) := Lib.hid (by rw [hy, show i - 1 = j from by omega])
            have HI := Lib.hid hi0
            clear hy hi0
            by_cases hp : y < z
            · have hpb : decide (y < z) = true := decide_eq_true hp
              go_wp2_with fail
              go_roundw
              case measure => first | (simp [intOf]; done) | (simp [intOf]; omega)
              case rel => exact ⟨i + 1, true, by omega, by go_num, by rfl, Lib.hid ⟨fun _ => ⟨(HK.out.1 rfl).1, fun j hj => by
                  by_cases hji : j = i
                  · subst hji; have hZ := HZ.out; unfold okL; rw [← hZ]; exact ⟨by omega, by omega, .inr (by rw [HYZ.out]; exact hp)⟩
                  · exact (HK.out.1 rfl).2 j (by omega)⟩, fun _ => rfl⟩, by first | rfl | trivial⟩
            · have hpb : decide (y < z) = false := decide_eq_false hp
              go_wp2_with fail
              go_roundw
              case measure => first | (simp [intOf]; done) | (simp [intOf]; omega)
              case rel => exact ⟨i + 1, false, by omega, by go_num, by rfl, Lib.hid ⟨fun h => absurd h (by decide), fun h => absurd (h.2 i (by omega)) (fun hh => by have hZ := HZ.out; unfold okL at hh; rw [← hZ] at hh; rcases hh.2.2 with h1 | h1; exact HI.out h1; rw [HYZ.out] at h1; exact hp h1)⟩, by first | rfl | trivial⟩
        · have h7b : decide (z < 7) = false := decide_eq_false h7
          go_wp2_with fail
          go_roundw
          case measure => first | (simp [intOf]; done) | (simp [intOf]; omega)
          case rel => exact ⟨i + 1, false, by omega, by go_num, by rfl, Lib.hid ⟨fun h => absurd h (by decide), fun h => absurd (h.2 i (by omega)) (fun hh => by have hZ := HZ.out; unfold okL at hh; rw [← hZ] at hh; exact h7 hh.2.1)⟩, by first | rfl | trivial⟩
      · have h0b : decide (0 ≤ z) = false := decide_eq_false h0
        go_wp2_with fail
        go_roundw
        case measure => first | (simp [intOf]; done) | (simp [intOf]; omega)
        case rel => exact ⟨i + 1, false, by omega, by go_num, by rfl, Lib.hid ⟨fun h => absurd h (by decide), fun h => absurd (h.2 i (by omega)) (fun hh => by have hZ := HZ.out; unfold okL at hh; rw [← hZ] at hh; exact h0 hh.1)⟩, by first | rfl | trivial⟩
  · have hltb : decide ((i : Int) < (l.length : Int)) = false := decide_eq_false (by omega)
    have hil2 : i = l.length := by omega
    subst hil2
    have HTX := Lib.hid (text_f l (by omega))
    have HTS := Lib.hid (text_size l)
    have HTV := Lib.hid (votV_text l)
    obtain ⟨text, htext⟩ : ∃ text, text = (if ∀ x ∈ l, okN x then strOfNums l else ⟨#[]⟩) := ⟨_, rfl⟩
    rw [← htext] at HTX HTS HTV
    clear htext
    have HTZ : Hid (text.size ≤ 9223372036854775807) := Lib.hid (by have := HTS.out; omega)
    have HVC := fun W => Lib.hid (voters_calls s W hs)
    have HVR := fun W => Lib.hid (lamellaref10_Voters.calls (s.size + 1) s _ _ W (lref_f s (by omega)))
    obtain ⟨t, ht⟩ := rtext_f (votV s) (by have := votV_len s; omega)
    have HT := Lib.hid ht
    have HVL := Lib.hid (votV_len s)
    obtain ⟨bv, hbv⟩ : ∃ bv, bv = decide (0 < (votV s).length) := ⟨_, rfl⟩
    rw [← hbv] at HVC HVR
    clear ht hbv
    have htt : (t.toList == t.toList) = true := beq_self_eq_true _
    cases b
    · have HN := Lib.hid (new_bad self (l.length + 1) text (ints_C HR.out) HCC.out HTX.out (fun h => absurd (HK.out.2 (HTV.out.1 h)) (by decide)) HTZ.out)
      go_upto_region 10 with ((with_reducible refine HN.out.mono ?_); rintro e w1 ⟨rfl, hb⟩; have HB1 := Lib.hid hb; clear hb)
      go_upto_region 12 with ((with_reducible refine (HVC _).out.mono ?_); rintro e w2 ⟨v, rfl, ho, hb⟩; have HO2 := Lib.hid ho; have HB2 := Lib.hid (HB1.out.trans (hb.mono HB1.out.size)); clear ho hb)
      go_upto_region 13 with ((with_reducible refine (HVR _).out.mono ?_); rintro e w3 ⟨v3, rfl, ho, hb⟩; have HO3 := Lib.hid ho; have HO2b := Lib.hid (R_read3 HO2.out hb); have HB3 := Lib.hid (HB2.out.trans (hb.mono HB2.out.size)); clear ho hb)
      obtain ⟨A2, c2, rfl, hc2, hr2⟩ := HO2b.out
      obtain ⟨A3, c3, rfl, hc3, hr3⟩ := R_read2 HO3.out
      have HT1 := Lib.hid (fun W (hb : Below w3.heap.size w3 W) => lamellaref10_Text.calls ((votV s).length + 1) A2 c2 (votV s) t W (Kd.C_below hr2 hb) hc2 HT.out)
      have HT2 := Lib.hid (fun W (hb : Below w3.heap.size w3 W) => lamellaref10_Text.calls ((votV s).length + 1) A3 c3 (votV s) t W (Kd.C_below hr3 hb) hc3 HT.out)
      clear hr2 hr3 HO2b HO2 HO3
      go_upto_region 15 with (first | ((with_reducible refine (HT1.out _ (Below.refl _ _)).mono ?_); rintro e w4 ⟨rfl, hb⟩; have HB4 := Lib.hid hb; clear hb) | ((with_reducible refine (HT2.out _ HB4.out).mono ?_); rintro e w5 ⟨rfl, hb⟩; have HB5 := Lib.hid (HB3.out.trans ((HB4.out.trans (hb.mono HB4.out.size)).mono HB3.out.size)); clear hb))
      clear HT1 HT2 HB4
      go_upto_region 17 with ((with_reducible refine (nil_offer _ _ _).mono ?_); rintro e w6 ⟨rfl, hb⟩; have HB6 := Lib.hid (HB5.out.trans (hb.mono HB5.out.size)); clear hb)
      have HB7 := Lib.hid (HB6.out.alloc HB6.out.size (.cells #[.bool false, .slice none 0 0, .slice none 0 0] 32))
      generalize w6.alloc (.cells #[.bool false, .slice none 0 0, .slice none 0 0] 32) = w7 at HB7 ⊢
      clear HB6 HB5
      go_upto_region 18 with ((with_reducible refine (nil_compact _ _ _).mono ?_); rintro e w8 ⟨rfl, hb⟩; have HB8 := Lib.hid (HB7.out.trans (hb.mono HB7.out.size)); clear hb)
      have HB9 := Lib.hid (HB8.out.alloc HB8.out.size (.cells #[.bool false, .slice none 0 0, .slice none 0 0] 32))
      generalize w8.alloc (.cells #[.bool false, .slice none 0 0, .slice none 0 0] 32) = w9 at HB9 ⊢
      clear HB8 HB7
      go_wp2_with (first | (refine gate_guard (by rfl) ?_; dsimp only; refine wpList_field32m rfl (.tmp 163) rfl _ _ _ _ _ rfl ?_) | (refine gate_guard (by rfl) ?_; dsimp only; refine wpList_field32m rfl (.tmp 169) rfl _ _ _ _ _ rfl ?_) | ((with_reducible refine (nil_leader _).mono ?_); rintro e wa ⟨rfl, rfl⟩) | ((with_reducible refine (nil_leads _).mono ?_); rintro e wa ⟨rfl, rfl⟩) | ((with_reducible refine (nil_last _).mono ?_); rintro e wa ⟨rfl, rfl⟩) | ((with_reducible refine (nil_told _).mono ?_); rintro e wa ⟨rfl, rfl⟩) | ((with_reducible refine (nil_term _).mono ?_); rintro e wa ⟨rfl, rfl⟩) | ((with_reducible refine (nil_voters _).mono ?_); rintro e wa ⟨rfl, rfl⟩) | ((with_reducible refine (nil_encode _).mono ?_); rintro e wa ⟨rfl, rfl⟩) | ((with_reducible refine (nil_tick _).mono ?_); rintro e wb ⟨rfl, hb⟩; have HBb := Lib.hid (HB9.out.trans (hb.mono HB9.out.size)); clear hb) | ((with_reducible refine (nil_hear _ _).mono ?_); rintro e wc ⟨rfl, hb⟩; have HBc := Lib.hid (HBb.out.trans (hb.mono HBb.out.size)); clear hb) | ((with_reducible refine (lives_calls _).mono ?_); rintro e wd ⟨rfl, hb⟩; have HBd := Lib.hid (HBc.out.trans (hb.mono HBc.out.size)); clear hb))
      go_ret
      exact ⟨by rfl, HBd.out⟩
    · have hvp : 0 < (votV text).length := HTV.out.2 (HK.out.1 rfl)
      have HVP := Lib.hid hvp
      clear hvp
      by_cases hs0 : 0 ≤ self
      · have hs0b : decide (0 ≤ self) = true := decide_eq_true hs0
        by_cases hs7 : self < 7
        · have hs7b : decide (self < 7) = true := decide_eq_true hs7
          have HN := Lib.hid (new_calls self (l.length + 1) text (ints_C HR.out) HCC.out HTX.out HVP.out HTZ.out hs0 hs7)
          go_upto_region 10 with ((with_reducible refine HN.out.mono ?_); rintro e w1 ⟨g, rfl, _, _, hb⟩; have HB1 := Lib.hid hb; clear hb)
          go_upto_region 12 with ((with_reducible refine (HVC _).out.mono ?_); rintro e w2 ⟨v, rfl, ho, hb⟩; have HO2 := Lib.hid ho; have HB2 := Lib.hid (HB1.out.trans (hb.mono HB1.out.size)); clear ho hb)
          go_upto_region 13 with ((with_reducible refine (HVR _).out.mono ?_); rintro e w3 ⟨v3, rfl, ho, hb⟩; have HO3 := Lib.hid ho; have HO2b := Lib.hid (R_read3 HO2.out hb); have HB3 := Lib.hid (HB2.out.trans (hb.mono HB2.out.size)); clear ho hb)
          obtain ⟨A2, c2, rfl, hc2, hr2⟩ := HO2b.out
          obtain ⟨A3, c3, rfl, hc3, hr3⟩ := R_read2 HO3.out
          have HT1 := Lib.hid (fun W (hb : Below w3.heap.size w3 W) => lamellaref10_Text.calls ((votV s).length + 1) A2 c2 (votV s) t W (Kd.C_below hr2 hb) hc2 HT.out)
          have HT2 := Lib.hid (fun W (hb : Below w3.heap.size w3 W) => lamellaref10_Text.calls ((votV s).length + 1) A3 c3 (votV s) t W (Kd.C_below hr3 hb) hc3 HT.out)
          clear hr2 hr3 HO2b HO2 HO3
          go_upto_region 15 with (first | ((with_reducible refine (HT1.out _ (Below.refl _ _)).mono ?_); rintro e w4 ⟨rfl, hb⟩; have HB4 := Lib.hid hb; clear hb) | ((with_reducible refine (HT2.out _ HB4.out).mono ?_); rintro e w5 ⟨rfl, hb⟩; have HB5 := Lib.hid (HB3.out.trans ((HB4.out.trans (hb.mono HB4.out.size)).mono HB3.out.size)); clear hb))
          clear HT1 HT2 HB4
          go_upto_region 17 with ((with_reducible refine (nil_offer _ _ _).mono ?_); rintro e w6 ⟨rfl, hb⟩; have HB6 := Lib.hid (HB5.out.trans (hb.mono HB5.out.size)); clear hb)
          have HB7 := Lib.hid (HB6.out.alloc HB6.out.size (.cells #[.bool false, .slice none 0 0, .slice none 0 0] 32))
          generalize w6.alloc (.cells #[.bool false, .slice none 0 0, .slice none 0 0] 32) = w7 at HB7 ⊢
          clear HB6 HB5
          go_upto_region 18 with ((with_reducible refine (nil_compact _ _ _).mono ?_); rintro e w8 ⟨rfl, hb⟩; have HB8 := Lib.hid (HB7.out.trans (hb.mono HB7.out.size)); clear hb)
          have HB9 := Lib.hid (HB8.out.alloc HB8.out.size (.cells #[.bool false, .slice none 0 0, .slice none 0 0] 32))
          generalize w8.alloc (.cells #[.bool false, .slice none 0 0, .slice none 0 0] 32) = w9 at HB9 ⊢
          clear HB8 HB7
          go_wp2_with (first | (refine gate_guard (by rfl) ?_; dsimp only; refine wpList_field32m rfl (.tmp 163) rfl _ _ _ _ _ rfl ?_) | (refine gate_guard (by rfl) ?_; dsimp only; refine wpList_field32m rfl (.tmp 169) rfl _ _ _ _ _ rfl ?_) | ((with_reducible refine (nil_leader _).mono ?_); rintro e wa ⟨rfl, rfl⟩) | ((with_reducible refine (nil_leads _).mono ?_); rintro e wa ⟨rfl, rfl⟩) | ((with_reducible refine (nil_last _).mono ?_); rintro e wa ⟨rfl, rfl⟩) | ((with_reducible refine (nil_told _).mono ?_); rintro e wa ⟨rfl, rfl⟩) | ((with_reducible refine (nil_term _).mono ?_); rintro e wa ⟨rfl, rfl⟩) | ((with_reducible refine (nil_voters _).mono ?_); rintro e wa ⟨rfl, rfl⟩) | ((with_reducible refine (nil_encode _).mono ?_); rintro e wa ⟨rfl, rfl⟩) | ((with_reducible refine (nil_tick _).mono ?_); rintro e wb ⟨rfl, hb⟩; have HBb := Lib.hid (HB9.out.trans (hb.mono HB9.out.size)); clear hb) | ((with_reducible refine (nil_hear _ _).mono ?_); rintro e wc ⟨rfl, hb⟩; have HBc := Lib.hid (HBb.out.trans (hb.mono HBb.out.size)); clear hb) | ((with_reducible refine (lives_calls _).mono ?_); rintro e wd ⟨rfl, hb⟩; have HBd := Lib.hid (HBc.out.trans (hb.mono HBc.out.size)); clear hb))
          go_ret
          exact ⟨by rfl, HBd.out⟩
        · have hs7b : decide (self < 7) = false := decide_eq_false hs7
          have HN := Lib.hid (new_self self (l.length + 1) text (ints_C HR.out) HCC.out HTX.out HVP.out HTZ.out (isNode_no self (fun h => hs7 h.2)))
          go_upto_region 10 with ((with_reducible refine HN.out.mono ?_); rintro e w1 ⟨rfl, hb⟩; have HB1 := Lib.hid hb; clear hb)
          go_upto_region 12 with ((with_reducible refine (HVC _).out.mono ?_); rintro e w2 ⟨v, rfl, ho, hb⟩; have HO2 := Lib.hid ho; have HB2 := Lib.hid (HB1.out.trans (hb.mono HB1.out.size)); clear ho hb)
          go_upto_region 13 with ((with_reducible refine (HVR _).out.mono ?_); rintro e w3 ⟨v3, rfl, ho, hb⟩; have HO3 := Lib.hid ho; have HO2b := Lib.hid (R_read3 HO2.out hb); have HB3 := Lib.hid (HB2.out.trans (hb.mono HB2.out.size)); clear ho hb)
          obtain ⟨A2, c2, rfl, hc2, hr2⟩ := HO2b.out
          obtain ⟨A3, c3, rfl, hc3, hr3⟩ := R_read2 HO3.out
          have HT1 := Lib.hid (fun W (hb : Below w3.heap.size w3 W) => lamellaref10_Text.calls ((votV s).length + 1) A2 c2 (votV s) t W (Kd.C_below hr2 hb) hc2 HT.out)
          have HT2 := Lib.hid (fun W (hb : Below w3.heap.size w3 W) => lamellaref10_Text.calls ((votV s).length + 1) A3 c3 (votV s) t W (Kd.C_below hr3 hb) hc3 HT.out)
          clear hr2 hr3 HO2b HO2 HO3
          go_upto_region 15 with (first | ((with_reducible refine (HT1.out _ (Below.refl _ _)).mono ?_); rintro e w4 ⟨rfl, hb⟩; have HB4 := Lib.hid hb; clear hb) | ((with_reducible refine (HT2.out _ HB4.out).mono ?_); rintro e w5 ⟨rfl, hb⟩; have HB5 := Lib.hid (HB3.out.trans ((HB4.out.trans (hb.mono HB4.out.size)).mono HB3.out.size)); clear hb))
          clear HT1 HT2 HB4
          go_upto_region 17 with ((with_reducible refine (nil_offer _ _ _).mono ?_); rintro e w6 ⟨rfl, hb⟩; have HB6 := Lib.hid (HB5.out.trans (hb.mono HB5.out.size)); clear hb)
          have HB7 := Lib.hid (HB6.out.alloc HB6.out.size (.cells #[.bool false, .slice none 0 0, .slice none 0 0] 32))
          generalize w6.alloc (.cells #[.bool false, .slice none 0 0, .slice none 0 0] 32) = w7 at HB7 ⊢
          clear HB6 HB5
          go_upto_region 18 with ((with_reducible refine (nil_compact _ _ _).mono ?_); rintro e w8 ⟨rfl, hb⟩; have HB8 := Lib.hid (HB7.out.trans (hb.mono HB7.out.size)); clear hb)
          have HB9 := Lib.hid (HB8.out.alloc HB8.out.size (.cells #[.bool false, .slice none 0 0, .slice none 0 0] 32))
          generalize w8.alloc (.cells #[.bool false, .slice none 0 0, .slice none 0 0] 32) = w9 at HB9 ⊢
          clear HB8 HB7
          go_wp2_with (first | (refine gate_guard (by rfl) ?_; dsimp only; refine wpList_field32m rfl (.tmp 163) rfl _ _ _ _ _ rfl ?_) | (refine gate_guard (by rfl) ?_; dsimp only; refine wpList_field32m rfl (.tmp 169) rfl _ _ _ _ _ rfl ?_) | ((with_reducible refine (nil_leader _).mono ?_); rintro e wa ⟨rfl, rfl⟩) | ((with_reducible refine (nil_leads _).mono ?_); rintro e wa ⟨rfl, rfl⟩) | ((with_reducible refine (nil_last _).mono ?_); rintro e wa ⟨rfl, rfl⟩) | ((with_reducible refine (nil_told _).mono ?_); rintro e wa ⟨rfl, rfl⟩) | ((with_reducible refine (nil_term _).mono ?_); rintro e wa ⟨rfl, rfl⟩) | ((with_reducible refine (nil_voters _).mono ?_); rintro e wa ⟨rfl, rfl⟩) | ((with_reducible refine (nil_encode _).mono ?_); rintro e wa ⟨rfl, rfl⟩) | ((with_reducible refine (nil_tick _).mono ?_); rintro e wb ⟨rfl, hb⟩; have HBb := Lib.hid (HB9.out.trans (hb.mono HB9.out.size)); clear hb) | ((with_reducible refine (nil_hear _ _).mono ?_); rintro e wc ⟨rfl, hb⟩; have HBc := Lib.hid (HBb.out.trans (hb.mono HBb.out.size)); clear hb) | ((with_reducible refine (lives_calls _).mono ?_); rintro e wd ⟨rfl, hb⟩; have HBd := Lib.hid (HBc.out.trans (hb.mono HBc.out.size)); clear hb))
          go_ret
          exact ⟨by rfl, HBd.out⟩
      · have hs0b : decide (0 ≤ self) = false := decide_eq_false hs0
        have HN := Lib.hid (new_self self (l.length + 1) text (ints_C HR.out) HCC.out HTX.out HVP.out HTZ.out (isNode_no self (fun h => hs0 h.1)))
        go_upto_region 10 with ((with_reducible refine HN.out.mono ?_); rintro e w1 ⟨rfl, hb⟩; have HB1 := Lib.hid hb; clear hb)
        go_upto_region 12 with ((with_reducible refine (HVC _).out.mono ?_); rintro e w2 ⟨v, rfl, ho, hb⟩; have HO2 := Lib.hid ho; have HB2 := Lib.hid (HB1.out.trans (hb.mono HB1.out.size)); clear ho hb)
        go_upto_region 13 with ((with_reducible refine (HVR _).out.mono ?_); rintro e w3 ⟨v3, rfl, ho, hb⟩; have HO3 := Lib.hid ho; have HO2b := Lib.hid (R_read3 HO2.out hb); have HB3 := Lib.hid (HB2.out.trans (hb.mono HB2.out.size)); clear ho hb)
        obtain ⟨A2, c2, rfl, hc2, hr2⟩ := HO2b.out
        obtain ⟨A3, c3, rfl, hc3, hr3⟩ := R_read2 HO3.out
        have HT1 := Lib.hid (fun W (hb : Below w3.heap.size w3 W) => lamellaref10_Text.calls ((votV s).length + 1) A2 c2 (votV s) t W (Kd.C_below hr2 hb) hc2 HT.out)
        have HT2 := Lib.hid (fun W (hb : Below w3.heap.size w3 W) => lamellaref10_Text.calls ((votV s).length + 1) A3 c3 (votV s) t W (Kd.C_below hr3 hb) hc3 HT.out)
        clear hr2 hr3 HO2b HO2 HO3
        go_upto_region 15 with (first | ((with_reducible refine (HT1.out _ (Below.refl _ _)).mono ?_); rintro e w4 ⟨rfl, hb⟩; have HB4 := Lib.hid hb; clear hb) | ((with_reducible refine (HT2.out _ HB4.out).mono ?_); rintro e w5 ⟨rfl, hb⟩; have HB5 := Lib.hid (HB3.out.trans ((HB4.out.trans (hb.mono HB4.out.size)).mono HB3.out.size)); clear hb))
        clear HT1 HT2 HB4
        go_upto_region 17 with ((with_reducible refine (nil_offer _ _ _).mono ?_); rintro e w6 ⟨rfl, hb⟩; have HB6 := Lib.hid (HB5.out.trans (hb.mono HB5.out.size)); clear hb)
        have HB7 := Lib.hid (HB6.out.alloc HB6.out.size (.cells #[.bool false, .slice none 0 0, .slice none 0 0] 32))
        generalize w6.alloc (.cells #[.bool false, .slice none 0 0, .slice none 0 0] 32) = w7 at HB7 ⊢
        clear HB6 HB5
        go_upto_region 18 with ((with_reducible refine (nil_compact _ _ _).mono ?_); rintro e w8 ⟨rfl, hb⟩; have HB8 := Lib.hid (HB7.out.trans (hb.mono HB7.out.size)); clear hb)
        have HB9 := Lib.hid (HB8.out.alloc HB8.out.size (.cells #[.bool false, .slice none 0 0, .slice none 0 0] 32))
        generalize w8.alloc (.cells #[.bool false, .slice none 0 0, .slice none 0 0] 32) = w9 at HB9 ⊢
        clear HB8 HB7
        go_wp2_with (first | (refine gate_guard (by rfl) ?_; dsimp only; refine wpList_field32m rfl (.tmp 163) rfl _ _ _ _ _ rfl ?_) | (refine gate_guard (by rfl) ?_; dsimp only; refine wpList_field32m rfl (.tmp 169) rfl _ _ _ _ _ rfl ?_) | ((with_reducible refine (nil_leader _).mono ?_); rintro e wa ⟨rfl, rfl⟩) | ((with_reducible refine (nil_leads _).mono ?_); rintro e wa ⟨rfl, rfl⟩) | ((with_reducible refine (nil_last _).mono ?_); rintro e wa ⟨rfl, rfl⟩) | ((with_reducible refine (nil_told _).mono ?_); rintro e wa ⟨rfl, rfl⟩) | ((with_reducible refine (nil_term _).mono ?_); rintro e wa ⟨rfl, rfl⟩) | ((with_reducible refine (nil_voters _).mono ?_); rintro e wa ⟨rfl, rfl⟩) | ((with_reducible refine (nil_encode _).mono ?_); rintro e wa ⟨rfl, rfl⟩) | ((with_reducible refine (nil_tick _).mono ?_); rintro e wb ⟨rfl, hb⟩; have HBb := Lib.hid (HB9.out.trans (hb.mono HB9.out.size)); clear hb) | ((with_reducible refine (nil_hear _ _).mono ?_); rintro e wc ⟨rfl, hb⟩; have HBc := Lib.hid (HBb.out.trans (hb.mono HBb.out.size)); clear hb) | ((with_reducible refine (lives_calls _).mono ?_); rintro e wd ⟨rfl, hb⟩; have HBd := Lib.hid (HBc.out.trans (hb.mono HBc.out.size)); clear hb))
        go_ret
        exact ⟨by rfl, HBd.out⟩

theorem news_row (self : Int) (A : Option Addr) (n c : Nat) (zs : List Int) (s : ByteArray) (w : World) (h : (A = none ∧ n = 0 ∧ c = 0 ∧ zs = []) ∨ ∃ x, A = some x ∧ n ≤ c ∧ c ≤ maxLen ∧ zs.length = c ∧ (∀ i, i < zs.length → w.cell? (x.add i) = some (.int .i64 (zs.getD i 0))) ∧ ∀ n ∈ zs, (Lit.int .i64 n).wf = true) (hs : s.size ≤ 9223372036854775807) :
    Calls Try.prog 5 #[.int .i64 self, .slice A n c, .string s] w fun e w' => e = .returned (.bool true) ∧ Below w.heap.size w w' := by
  obtain ⟨h1, h2, h3, h4, h5⟩ := reads_row h
  have hg : ∀ i, -9223372036854775808 ≤ (zs.take n).getD i 0 ∧ (zs.take n).getD i 0 ≤ 9223372036854775807 := fun i => getD_wf (P := fun z => -9223372036854775808 ≤ z ∧ z ≤ 9223372036854775807) h5 (fun z hz => bounds_i64 hz) (by decide) i
  generalize zs.take n = l at h1 h4 h5 hg
  subst h4
  exact news_law self A c l s w h1 h2 hs hg

end Go.Proofs.Ytfanbhbpmhojaaa
