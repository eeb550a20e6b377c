/- The walk of the law OctetReads: it returns true, and writes nothing that was there. Conditions: bytes are bytes. -/
import Derived.Test.YthobpcbiaimccaaRTake2
import Derived.Deep.Cut
import Derived.Deep.CutRange
import Derived.Deep.DeepCutAuto
namespace Go.Proofs.Ythobpcbiaimccaa
open Go.RowKit Go.Proofs.YthobpcbiaimccaaW.PrintWords Go.Proofs.YthobpcbiaimccaaW.PrintLast Go.Proofs.YthobpcbiaimccaaW.PrintMore PRef
set_option linter.unusedVariables false
set_option linter.unusedSimpArgs false

theorem intR_pos (xs : List Int) (k : Nat) (h : (intR xs (some 0)).2 = some k) : 0 < k ∧ k ≤ xs.length := by
  cases xs with
  | nil => cases h
  | cons z cs =>
    rw [intR_intC] at h
    cases hn : takeNum 0 true cs with
    | none => rw [hn] at h; cases h
    | some p =>
      rw [hn] at h
      have := takeNum_le _ _ _ p.1 p.2 hn
      rw [intC_some] at h
      split at h
      · cases h
      · injection h with h
        rw [List.length_cons]
        omega
theorem textR_pos (xs : List Int) (k : Nat) (h : (textR xs (some 0)).2 = some k) : 0 < k ∧ k ≤ xs.length := by
  unfold textR at h
  cases hn : (numR xs (some 0)).2 with
  | none => rw [hn] at h; cases h
  | some a =>
    have h1 := numR_pos xs a hn
    have h2 := numR_le xs (some 0) a hn
    rw [hn] at h
    dsimp only at h
    split at h
    · cases h
    · injection h with h
      omega
theorem numR_pos2 (xs : List Int) (k : Nat) (h : (numR xs (some 0)).2 = some k) : 0 < k ∧ k ≤ xs.length := ⟨numR_pos xs k h, numR_le xs (some 0) k h⟩
theorem boolR_nil : boolR [] (some 0) = (false, none) := rfl
theorem boolR_cons (z : Int) (cs : List Int) : boolR (z :: cs) (some 0) = (z == 1, if 1 < z then none else some 1) := by
  unfold boolR byteR
  simp
theorem byteR_cons (z : Int) (cs : List Int) : byteR (z :: cs) (some 0) = (z, some 1) := by simp [byteR]

set_option maxRecDepth 100000 in
set_option maxHeartbeats 4000000 in
theorem reads_law (A : Option Addr) (n1 c1 : Nat) (xs : List Int) (w : World) (hr1 : ReadsInt w .u8 A n1 xs) (hc1 : n1 ≤ c1) (hx : IsBytes xs) :
    Calls Try.prog 12 #[.slice A n1 c1] w fun e w' => e = .returned (.bool true) ∧ Below w.heap.size w w' := by
  have HR1 := Lib.hid hr1
  clear hr1
  go_enter Try.func12, Try.ntmps12
  go_wp2_with fail
  ((with_reducible refine (cut_new _ _ _ _ _ HR1.out hc1 hx).mono ?_); rintro e w' ⟨⟨us, rfl, hxa, h1a, HU, HX, HE1⟩, rfl⟩)
  clear HR1 hc1 HE1 hx
  have HBS := Lib.hid (Below.refl w.heap.size w)
  generalize hwS : w = wS at HBS ⊢
  have HBS : Hid (Below w.heap.size w wS) := Lib.hid (by rw [← hwS]; exact Below.refl _ _)
  have HW := Lib.hid hwS
  clear hwS
  go_wp2_with fail
  have hpos := numR_pos2 us
  obtain ⟨p, hp⟩ : ∃ p, p = numR us (some 0) := ⟨_, rfl⟩
  rw [← hp] at hpos
  have HP := Lib.hid hp
  clear hp
  ((with_reducible refine (rtakenum_calls _ _ _ _ (HU.out.below HBS.out) h1a HX.out).mono ?_); rw [takeV_numR, ← HP.out]; rintro e w0 ⟨rfl, hb0⟩)
  have HBS0 := Lib.hid (HBS.out.trans (hb0.mono HBS.out.size))
  clear hb0 HBS
  have HBS := HBS0
  clear HBS0
  obtain ⟨m, s⟩ := p
  obtain ⟨kk, hkk⟩ : ∃ kk, kk = posR (m, s) := ⟨_, rfl⟩
  rw [← hkk]
  have HK : Hid (kk = s.getD 0) := Lib.hid hkk
  clear hkk
  dsimp only at hpos ⊢
  go_wp2_with fail
  ((with_reducible refine (reader_new _ _ _ _ (HU.out.below HBS.out) h1a HX.out (by omega)).mono ?_); rintro e w1 ⟨g, A1, d1, rfl, hg, HR, HBr⟩)
  have HB := Lib.hid (HBS.out.trans (HBr.out.mono HBS.out.size))
  have hgw : w.heap.size ≤ g := Nat.le_trans HBS.out.size hg
  clear HBr
  go_upto_region 4 with fail
  go_cut [55] (fun vt wc => vt = .bool false ∧ Hid (Below w.heap.size w wc))
  case first =>
    cases s with
    | none =>
      obtain rfl : kk = 0 := HK.out
      have hlf : leftR us none = 0 := by simp [leftR]
      have HLF := Lib.hid hlf
      have HEN : Hid (decide ((none : Option Nat) = some us.length) = false) := Lib.hid (by simp)
      clear hlf hpos
      go_wp2_with (first | ((with_reducible refine (rdnum_calls HR.out).mono ?_); rw [← HP.out]; rintro e w2 ⟨rfl, hr, hc⟩; have HR2 := Lib.hid hr; have HB2 := Lib.hid (hc.reader HB.out hgw); clear hr hc) | ((with_reducible refine (bad_calls HR2.out).mono ?_); rintro e w' ⟨rfl, rfl⟩) | ((with_reducible refine (left_calls HR2.out).mono ?_); rw [HLF.out]; rintro e w3 ⟨rfl, hb⟩; have HR3 := Lib.hid (HR2.out.below hb); have HB3 := Lib.hid (HB2.out.trans (hb.mono HB2.out.size)); clear hb) | ((with_reducible refine (end_calls HR3.out).mono ?_); rw [HEN.out]; rintro e w4 ⟨rfl, hb⟩; have HB4 := Lib.hid (HB3.out.trans (hb.mono HB3.out.size)); clear hb))
      go_meet
      exact ⟨rfl, by first | exact HB4 | exact HB3 | exact HB2⟩
    | some a =>
      obtain rfl : kk = a := HK.out
      obtain ⟨hp0, hp1⟩ := hpos _ rfl
      have hk0 : (((kk : Nat) : Int) == 0) = false := by rw [beq_eq_false_iff_ne]; omega
      have hlf : ((leftR us (some kk) : Nat) : Int) = (us.length : Int) - (kk : Int) := by simp only [leftR, Option.getD_some]; omega
      have HLF := Lib.hid hlf
      clear hlf hpos
      go_wp2_with (first | ((with_reducible refine (rdnum_calls HR.out).mono ?_); rw [← HP.out]; rintro e w2 ⟨rfl, hr, hc⟩; have HR2 := Lib.hid hr; have HB2 := Lib.hid (hc.reader HB.out hgw); clear hr hc) | ((with_reducible refine (bad_calls HR2.out).mono ?_); rintro e w' ⟨rfl, rfl⟩) | ((with_reducible refine (left_calls HR2.out).mono ?_); rw [HLF.out]; rintro e w3 ⟨rfl, hb⟩; have HB3 := Lib.hid (HB2.out.trans (hb.mono HB2.out.size)); clear hb))
      go_meet
      exact ⟨rfl, by first | exact HB3 | exact HB2⟩
  case rest =>
  obtain ⟨rfl, HBc⟩ := hcut
  clear HR HB HBS HP HK hpos hgw hg
  have HBS := HBc
  clear HBc
  go_wp2_with fail
  generalize wc = wS at HBS ⊢
  go_wp2_with fail
  have hpos := intR_pos us
  obtain ⟨p, hp⟩ : ∃ p, p = intR us (some 0) := ⟨_, rfl⟩
  rw [← hp] at hpos
  have HP := Lib.hid hp
  clear hp
  ((with_reducible refine (rtakeint_calls _ _ _ _ (HU.out.below HBS.out) h1a HX.out).mono ?_); rw [← HP.out]; rintro e w0 ⟨rfl, hb0⟩)
  have HBS0 := Lib.hid (HBS.out.trans (hb0.mono HBS.out.size))
  clear hb0 HBS
  have HBS := HBS0
  clear HBS0
  obtain ⟨m, s⟩ := p
  obtain ⟨kk, hkk⟩ : ∃ kk, kk = posR (m, s) := ⟨_, rfl⟩
  rw [← hkk]
  have HK : Hid (kk = s.getD 0) := Lib.hid hkk
  clear hkk
  dsimp only at hpos ⊢
  go_wp2_with fail
  ((with_reducible refine (reader_new _ _ _ _ (HU.out.below HBS.out) h1a HX.out (by omega)).mono ?_); rintro e w1 ⟨g, A1, d1, rfl, hg, HR, HBr⟩)
  have HB := Lib.hid (HBS.out.trans (HBr.out.mono HBS.out.size))
  have hgw : w.heap.size ≤ g := Nat.le_trans HBS.out.size hg
  clear HBr
  go_upto_region 8 with fail
  go_cut [86] (fun vt wc => vt = .bool false ∧ Hid (Below w.heap.size w wc))
  case first =>
    cases s with
    | none =>
      obtain rfl : kk = 0 := HK.out
      have hlf : leftR us none = 0 := by simp [leftR]
      have HLF := Lib.hid hlf
      have HEN : Hid (decide ((none : Option Nat) = some us.length) = false) := Lib.hid (by simp)
      clear hlf hpos
      go_wp2_with (first | ((with_reducible refine (rdint_calls HR.out).mono ?_); rw [← HP.out]; rintro e w2 ⟨rfl, hr, hc⟩; have HR2 := Lib.hid hr; have HB2 := Lib.hid (hc.reader HB.out hgw); clear hr hc) | ((with_reducible refine (bad_calls HR2.out).mono ?_); rintro e w' ⟨rfl, rfl⟩) | ((with_reducible refine (left_calls HR2.out).mono ?_); rw [HLF.out]; rintro e w3 ⟨rfl, hb⟩; have HR3 := Lib.hid (HR2.out.below hb); have HB3 := Lib.hid (HB2.out.trans (hb.mono HB2.out.size)); clear hb) | ((with_reducible refine (end_calls HR3.out).mono ?_); rw [HEN.out]; rintro e w4 ⟨rfl, hb⟩; have HB4 := Lib.hid (HB3.out.trans (hb.mono HB3.out.size)); clear hb))
      go_meet
      exact ⟨rfl, by first | exact HB4 | exact HB3 | exact HB2⟩
    | some a =>
      obtain rfl : kk = a := HK.out
      obtain ⟨hp0, hp1⟩ := hpos _ rfl
      have hk0 : (((kk : Nat) : Int) == 0) = false := by rw [beq_eq_false_iff_ne]; omega
      have hlf : ((leftR us (some kk) : Nat) : Int) = (us.length : Int) - (kk : Int) := by simp only [leftR, Option.getD_some]; omega
      have HLF := Lib.hid hlf
      clear hlf hpos
      go_wp2_with (first | ((with_reducible refine (rdint_calls HR.out).mono ?_); rw [← HP.out]; rintro e w2 ⟨rfl, hr, hc⟩; have HR2 := Lib.hid hr; have HB2 := Lib.hid (hc.reader HB.out hgw); clear hr hc) | ((with_reducible refine (bad_calls HR2.out).mono ?_); rintro e w' ⟨rfl, rfl⟩) | ((with_reducible refine (left_calls HR2.out).mono ?_); rw [HLF.out]; rintro e w3 ⟨rfl, hb⟩; have HB3 := Lib.hid (HB2.out.trans (hb.mono HB2.out.size)); clear hb))
      go_meet
      exact ⟨rfl, by first | exact HB3 | exact HB2⟩
  case rest =>
  obtain ⟨rfl, HBc⟩ := hcut
  clear HR HB HBS HP HK hpos hgw hg
  have HBS := HBc
  clear HBc
  go_wp2_with fail
  generalize wc = wS at HBS ⊢
  go_wp2_with fail
  have hpos := textR_pos us
  obtain ⟨p, hp⟩ : ∃ p, p = textR us (some 0) := ⟨_, rfl⟩
  rw [← hp] at hpos
  have HP := Lib.hid hp
  clear hp
  ((with_reducible refine (rtaketext_calls _ _ _ _ (HU.out.below HBS.out) h1a HX.out).mono ?_); rw [← HP.out]; rintro e w0 ⟨rfl, hb0⟩)
  have HBS0 := Lib.hid (HBS.out.trans (hb0.mono HBS.out.size))
  clear hb0 HBS
  have HBS := HBS0
  clear HBS0
  obtain ⟨m, s⟩ := p
  obtain ⟨kk, hkk⟩ : ∃ kk, kk = posR (m, s) := ⟨_, rfl⟩
  rw [← hkk]
  have HK : Hid (kk = s.getD 0) := Lib.hid hkk
  clear hkk
  dsimp only at hpos ⊢
  generalize hstr : strOfNums m = ms
  have HSTR := Lib.hid hstr
  clear hstr
  go_wp2_with fail
  ((with_reducible refine (reader_new _ _ _ _ (HU.out.below HBS.out) h1a HX.out (by omega)).mono ?_); rintro e w1 ⟨g, A1, d1, rfl, hg, HR, HBr⟩)
  have HB := Lib.hid (HBS.out.trans (HBr.out.mono HBS.out.size))
  have hgw : w.heap.size ≤ g := Nat.le_trans HBS.out.size hg
  clear HBr
  go_upto_region 12 with fail
  go_cut [117] (fun vt wc => vt = .bool false ∧ Hid (Below w.heap.size w wc))
  case first =>
    cases s with
    | none =>
      obtain rfl : kk = 0 := HK.out
      have hlf : leftR us none = 0 := by simp [leftR]
      have HLF := Lib.hid hlf
      have HEN : Hid (decide ((none : Option Nat) = some us.length) = false) := Lib.hid (by simp)
      clear hlf hpos
      go_wp2_with (first | ((with_reducible refine (rdtext_calls HR.out).mono ?_); rw [← HP.out]; dsimp only; rw [HSTR.out]; rintro e w2 ⟨rfl, hr, hc⟩; have HR2 := Lib.hid hr; have HB2 := Lib.hid (hc.reader HB.out hgw); clear hr hc) | ((with_reducible refine (bad_calls HR2.out).mono ?_); rintro e w' ⟨rfl, rfl⟩) | ((with_reducible refine (left_calls HR2.out).mono ?_); rw [HLF.out]; rintro e w3 ⟨rfl, hb⟩; have HR3 := Lib.hid (HR2.out.below hb); have HB3 := Lib.hid (HB2.out.trans (hb.mono HB2.out.size)); clear hb) | ((with_reducible refine (end_calls HR3.out).mono ?_); rw [HEN.out]; rintro e w4 ⟨rfl, hb⟩; have HB4 := Lib.hid (HB3.out.trans (hb.mono HB3.out.size)); clear hb))
      go_meet
      exact ⟨rfl, by first | exact HB4 | exact HB3 | exact HB2⟩
    | some a =>
      obtain rfl : kk = a := HK.out
      obtain ⟨hp0, hp1⟩ := hpos _ rfl
      have hk0 : (((kk : Nat) : Int) == 0) = false := by rw [beq_eq_false_iff_ne]; omega
      have hlf : ((leftR us (some kk) : Nat) : Int) = (us.length : Int) - (kk : Int) := by simp only [leftR, Option.getD_some]; omega
      have HLF := Lib.hid hlf
      clear hlf hpos
      go_wp2_with (first | ((with_reducible refine (rdtext_calls HR.out).mono ?_); rw [← HP.out]; dsimp only; rw [HSTR.out]; rintro e w2 ⟨rfl, hr, hc⟩; have HR2 := Lib.hid hr; have HB2 := Lib.hid (hc.reader HB.out hgw); clear hr hc) | ((with_reducible refine (bad_calls HR2.out).mono ?_); rintro e w' ⟨rfl, rfl⟩) | ((with_reducible refine (left_calls HR2.out).mono ?_); rw [HLF.out]; rintro e w3 ⟨rfl, hb⟩; have HB3 := Lib.hid (HB2.out.trans (hb.mono HB2.out.size)); clear hb))
      go_meet
      exact ⟨rfl, by first | exact HB3 | exact HB2⟩
  case rest =>
  obtain ⟨rfl, HBc⟩ := hcut
  clear HR HB HBS HP HK hpos hgw hg
  have HBS := HBc
  clear HBc
  go_wp2_with fail
  generalize wc = wS at HBS ⊢
  go_wp2_with fail
  ((with_reducible refine (reader_new _ _ _ _ (HU.out.below HBS.out) h1a HX.out (by omega)).mono ?_); rintro e w1 ⟨g, A1, d1, rfl, hg, HR, HBr⟩)
  have HB := Lib.hid (HBS.out.trans (HBr.out.mono HBS.out.size))
  have hgw : w.heap.size ≤ g := Nat.le_trans HBS.out.size hg
  clear HBr
  go_wp2_with fail
  ((with_reducible refine (rdbool_calls HR.out).mono ?_); rintro e w2 ⟨rfl, hr, hc⟩; have HR2 := Lib.hid hr; have HB2 := Lib.hid (hc.reader HB.out hgw); clear hr hc)
  obtain ⟨q, hq⟩ : ∃ q, q = (boolR us (some 0)).1 := ⟨_, rfl⟩
  obtain ⟨N, hN⟩ : ∃ N, N = us.length := ⟨_, rfl⟩
  rw [← hq]
  rw [← hN]
  have HQ := Lib.hid hq
  have HN := Lib.hid hN
  clear hq hN
  go_upto_region 16 with fail
  go_cut [146] (fun vt wc => vt = .bool false ∧ Hid (Below w.heap.size w wc))
  case first =>
    cases us with
    | nil =>
      have hq := HQ.out
      rw [boolR_nil] at HR2 hq
      obtain rfl := hq
      obtain rfl := HN.out
      go_wp2_with ((with_reducible refine (bad_calls HR2.out).mono ?_); rintro e w' ⟨rfl, rfl⟩)
      go_meet
      exact ⟨rfl, HB2⟩
    | cons z cs =>
      obtain ⟨ad, rfl, hcell⟩ := (HU.out.below HB2.out).at_ (0 : Int) (by omega) (by rw [List.length_cons]; omega)
      have ea : ad.add (0 : Int).toNat = ad := by simp [Addr.add]
      rw [ea] at hcell
      change w2.cell? ad = some (.int .u8 z) at hcell
      have hl0 : (((z :: cs).length : Int) == 0) = false := by rw [beq_eq_false_iff_ne, List.length_cons]; omega
      have hl1 : decide (0 < ((z :: cs).length : Int)) = true := by rw [decide_eq_true_iff, List.length_cons]; omega
      have hq := HQ.out
      rw [boolR_cons] at HR2 hq
      dsimp only at HR2 hq
      have hzq := hq.symm
      rw [← HN.out] at hl0 hl1
      have hN0 : 0 < N := by rw [HN.out, List.length_cons]; omega
      have hN1 : (0 : Int) < (N : Int) := by omega
      clear ea hq hl1
      by_cases h1 : 1 < z
      · have hzb : decide (1 < z) = true := by simpa using h1
        rw [if_pos h1] at HR2
        clear h1
        all_goals cases q
        all_goals
          go_wp2_with ((with_reducible refine (bad_calls HR2.out).mono ?_); rintro e w' ⟨rfl, rfl⟩)
          go_meet
          exact ⟨rfl, HB2⟩
      · have hzb : decide (1 < z) = false := by simpa using h1
        rw [if_neg h1] at HR2
        clear h1
        all_goals cases q
        all_goals
          go_wp2_with ((with_reducible refine (bad_calls HR2.out).mono ?_); rintro e w' ⟨rfl, rfl⟩)
          go_meet
          exact ⟨rfl, HB2⟩
  case rest =>
  obtain ⟨rfl, HBc⟩ := hcut
  clear HR HB HR2 HB2 HBS hgw hg HQ
  obtain rfl := HN.out
  have HBS := HBc
  clear HBc
  go_wp2_with fail
  generalize wc = wS at HBS ⊢
  go_wp2_with fail
  ((with_reducible refine (reader_new _ _ _ _ (HU.out.below HBS.out) h1a HX.out (by omega)).mono ?_); rintro e w1 ⟨g, A1, d1, rfl, hg, HR, HBr⟩)
  have HB := Lib.hid (HBS.out.trans (HBr.out.mono HBS.out.size))
  have hgw : w.heap.size ≤ g := Nat.le_trans HBS.out.size hg
  clear HBr
  go_wp2_with fail
  ((with_reducible refine (rdbyte_calls HR.out).mono ?_); rintro e w2 ⟨rfl, hr, hc⟩; have HR2 := Lib.hid hr; have HB2 := Lib.hid (hc.reader HB.out hgw); clear hr hc)
  cases us with
  | nil =>
    change Hid (Rd w2 _ g A1 d1 [] none) at HR2
    go_wp2_with (first | ((with_reducible refine (bad_calls HR2.out).mono ?_); rintro e w' ⟨rfl, rfl⟩) | ((with_reducible refine (lives_calls _).mono ?_); rintro e w6 ⟨rfl, hb6⟩))
    go_ret
    exact ⟨rfl, HB2.out.trans (hb6.mono HB2.out.size)⟩
  | cons z cs =>
    obtain ⟨ad, rfl, hcell⟩ := (HU.out.below HB2.out).at_ (0 : Int) (by omega) (by rw [List.length_cons]; omega)
    have ea : ad.add (0 : Int).toNat = ad := by simp [Addr.add]
    rw [ea] at hcell
    change w2.cell? ad = some (.int .u8 z) at hcell
    have hl0 : (((z :: cs).length : Int) == 0) = false := by rw [beq_eq_false_iff_ne, List.length_cons]; omega
    rw [byteR_cons] at HR2 ⊢
    dsimp only at HR2 ⊢
    have hlf : ((leftR (z :: cs) (some 1) : Nat) : Int) = ((z :: cs).length : Int) - 1 := by simp only [leftR, Option.getD_some, List.length_cons]; omega
    have HLF := Lib.hid hlf
    have hen : decide ((some 1 : Option Nat) = some (z :: cs).length) = (((z :: cs).length : Int) == 1) := by
      rw [Bool.eq_iff_iff, decide_eq_true_iff, beq_iff_eq, Option.some.injEq]; omega
    have HEN := Lib.hid hen
    clear hlf hen ea
    have hN0 : 0 < (z :: cs).length := by rw [List.length_cons]; omega
    have hN1 : (0 : Int) < ((z :: cs).length : Int) := by omega
    generalize hN : (z :: cs).length = N at hl0 HLF HEN hN0 hN1 hxa ⊢
    have hwr : IntKind.i64.wrap ((N : Int) - 1) = (N : Int) - 1 := IntWalk.i64_in _ (by omega)
    have HNN := Lib.hid hN
    clear hN
    by_cases hone : N = 1
    all_goals
      have hqb : ((N : Int) == 1) = decide (N = 1) := by rw [Bool.eq_iff_iff, decide_eq_true_iff, beq_iff_eq]; omega
      rw [hqb] at HEN
      first | rw [decide_eq_true hone] at hqb HEN | rw [decide_eq_false hone] at hqb HEN
      clear hone
      go_wp2_with (first | ((with_reducible refine (bad_calls HR2.out).mono ?_); rintro e w' ⟨rfl, rfl⟩) | ((with_reducible refine (left_calls HR2.out).mono ?_); rw [HLF.out]; rintro e w3 ⟨rfl, hb⟩; have HR3 := Lib.hid (HR2.out.below hb); have HB3 := Lib.hid (HB2.out.trans (hb.mono HB2.out.size)); clear hb))
      ((with_reducible refine (end_calls HR3.out).mono ?_); rw [HNN.out, HEN.out]; rintro e w4 ⟨rfl, hb⟩; have HB4 := Lib.hid (HB3.out.trans (hb.mono HB3.out.size)); clear hb)
      go_wp2_with (first | ((with_reducible refine (lives_calls _).mono ?_); rintro e w6 ⟨rfl, hb6⟩))
      go_ret
      exact ⟨rfl, HB4.out.trans (hb6.mono HB4.out.size)⟩

end Go.Proofs.Ythobpcbiaimccaa
