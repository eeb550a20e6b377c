/- The walk of the law OctetOnly: it returns true, and writes nothing that was there. Conditions: bytes are bytes. -/
import Derived.Test.YthobpcbiaimccaaTake
import Derived.Test.YthobpcbiaimccaaLawWritesW
import Derived.Deep.Cut
import Derived.Deep.CutRange
import Derived.Deep.DeepCutAuto
namespace Go.Proofs.Ythobpcbiaimccaa
open Go.RowKit Go.Proofs.YthobpcbiaimccaaW.PrintWords Go.Proofs.YthobpcbiaimccaaW.PrintLast Go.Proofs.YthobpcbiaimccaaW.PrintMore PRef
set_option linter.unusedVariables false
set_option linter.unusedSimpArgs false

theorem reader_new (A : Option Addr) (c : Nat) (xs : List Int) (w : World) (hr : ReadsInt w .u8 A xs.length xs) (hc : xs.length ≤ c) (hb : IsBytes xs) (hl : xs.length ≤ 140737488355328) :
    Calls Try.prog 40 #[.slice A xs.length c] w fun e w' => ∃ g A' c', e = .returned (.pointer (some ⟨g, 0, none⟩)) ∧ w.heap.size ≤ g ∧ Hid (Rd w' w.heap.size g A' c' xs (some 0)) ∧ Hid (Below w.heap.size w w') :=
  (newreader_calls A c xs w hr hc hb hl).mono fun e w' ⟨g, A', c', h1, h2, h3, h4⟩ => ⟨g, A', c', h1, h2, Lib.hid h3, Lib.hid h4⟩
/-- A Reader's doings are below. -/
theorem Chg.reader {w w1 w2 : World} {g : Nat} (k : Chg (fun k => k = g) w1 w2) (h : Below w.heap.size w w1) (hg : w.heap.size ≤ g) : Below w.heap.size w w2 := h.trans (k.below h.size fun i hi e => by omega)

theorem numR_enc (xs : List Int) (k : Nat) (hb : IsBytes xs) (h : (numR xs (some 0)).2 = some k) : encNum (numR xs (some 0)).1 = xs.take k ∧ k ≤ xs.length := by
  have hle := numR_le xs (some 0) k h
  have e : numR xs (some 0) = match takeNum 0 true xs with | none => (0, none) | some (m, k) => (m, some (0 + k)) := by
    show (match takeNum 0 true (xs.drop 0) with | none => ((0, none) : Nat × Option Nat) | some (m, k) => (m, some (0 + k))) = _
    rw [List.drop_zero]
  rw [e] at h ⊢
  cases hn : takeNum 0 true xs with
  | none => rw [hn] at h; cases h
  | some p =>
    rw [hn] at h
    injection h with h
    have := takeNum_enc xs 0 true p.1 p.2 hb (.inl ⟨rfl, rfl⟩) hn
    rw [encHi_zero, List.nil_append] at this
    refine ⟨?_, hle⟩
    show encNum p.1 = _
    rw [← this, ← h, Nat.zero_add]

theorem intR_cons (c : Int) (cs : List Int) : intR (c :: cs) (some 0) = match takeNum 0 true cs with | none => (0, none) | some (m, k) => if 1 < c ∨ 9223372036854775808 ≤ m then (0, none) else (if c = 1 then -1 - (m : Int) else (m : Int), some (1 + k)) := by
  have e1 : byteR (c :: cs) (some 0) = (c, some 1) := by simp [byteR]
  have e2 : numR (c :: cs) (some 1) = match takeNum 0 true cs with | none => (0, none) | some (m, k) => (m, some (1 + k)) := rfl
  unfold intR
  rw [e1]
  dsimp only
  rw [e2]
  cases takeNum 0 true cs with
  | none => rfl
  | some p => rfl

theorem intR_enc (xs : List Int) (k : Nat) (hb : IsBytes xs) (h : (intR xs (some 0)).2 = some k) : encInt (intR xs (some 0)).1 = xs.take k ∧ k ≤ xs.length ∧ -9223372036854775808 ≤ (intR xs (some 0)).1 ∧ (intR xs (some 0)).1 ≤ 9223372036854775807 := by
  cases xs with
  | nil => cases h
  | cons c cs =>
    have hc := hb c (by simp)
    rw [intR_cons] at h ⊢
    cases hn : takeNum 0 true cs with
    | none => rw [hn] at h; cases h
    | some p =>
      have hp := takeNum_le _ _ _ p.1 p.2 hn
      have := takeNum_enc cs 0 true p.1 p.2 (fun x hx => hb x (by simp [hx])) (.inl ⟨rfl, rfl⟩) hn
      rw [encHi_zero, List.nil_append] at this
      rw [hn] at h
      dsimp only at h ⊢
      by_cases hbad : 1 < c ∨ 9223372036854775808 ≤ p.1
      · rw [if_pos hbad] at h; cases h
      · rw [if_neg hbad] at h ⊢
        injection h with h
        dsimp only
        subst h
        rw [show 1 + p.2 = p.2 + 1 from by omega, List.take_succ_cons, List.length_cons]
        unfold encInt
        by_cases h1 : c = 1
        · rw [if_pos h1, if_pos (by omega), show (-(-1 - (p.1 : Int)) - 1).toNat = p.1 from by omega, this, h1]
          exact ⟨rfl, by omega, by omega, by omega⟩
        · rw [if_neg h1, if_neg (by omega), Int.toNat_natCast, this, show c = 0 from by omega]
          exact ⟨rfl, by omega, by omega, by omega⟩

theorem textR_enc (xs : List Int) (k : Nat) (hb : IsBytes xs) (hl : xs.length ≤ 3000) (h : (textR xs (some 0)).2 = some k) : encText (strOfNums (textR xs (some 0)).1) = xs.take k ∧ k ≤ xs.length ∧ (strOfNums (textR xs (some 0)).1).size ≤ 3000 := by
  unfold textR at h ⊢
  cases hn : (numR xs (some 0)).2 with
  | none => rw [hn] at h; cases h
  | some a =>
    have hne := numR_enc xs a hb hn
    rw [hn] at h
    dsimp only at h ⊢
    by_cases hbad : 1048576 < (numR xs (some 0)).1 ∨ xs.length - a < (numR xs (some 0)).1
    · rw [if_pos hbad] at h; cases h
    · rw [if_neg hbad] at h ⊢
      generalize (numR xs (some 0)).1 = n at h hne hbad ⊢
      injection h with h
      dsimp only
      subst h
      have hlt : ((xs.drop a).take n).length = n := by rw [List.length_take, List.length_drop]; omega
      have hb2 : IsBytes ((xs.drop a).take n) := (hb.drop a).take n
      unfold encText
      rw [strOfNums_size, hlt, hne.1, bytesOf_str _ hb2]
      refine ⟨?_, by omega, by omega⟩
      rw [← List.take_append_drop a (xs.take (a + n)), List.take_take, Nat.min_eq_left (by omega), List.drop_take, show a + n - a = n from by omega]

set_option maxRecDepth 100000 in
set_option maxHeartbeats 4000000 in
theorem only_law (A : Option Addr) (n1 c1 : Nat) (xs : List Int) (w : World) (hr1 : ReadsInt w .u8 A n1 xs) (hc1 : n1 ≤ c1) (hx : IsBytes xs) :
    Calls Try.prog 11 #[.slice A n1 c1] w fun e w' => e = .returned (.bool true) ∧ Below w.heap.size w w' := by
  have HR1 := Lib.hid hr1
  clear hr1
  go_enter Try.func11, Try.ntmps11
  go_wp2_with fail
  ((with_reducible refine (cut_new _ _ _ _ _ HR1.out hc1 hx).mono ?_); rintro e w' ⟨⟨us, rfl, hxa, h1a, HU, HX, HE1⟩, rfl⟩)
  clear HR1 hc1 HE1 hx
  obtain ⟨i0, hi, hzz⟩ := Option.map_eq_some_iff.1 info5
  have HCt : Hid (∀ k : Nat, k ≤ us.length → ∀ (W : World), (Instr.slice 31 (.slice A us.length c1) none (some (.int .i64 k)) none).run Try.prog W = .ok (.slice A k c1) W) := Lib.hid (fun k hk W => by
    have := cut_to (P := Try.prog) 31 5 .i64 Try.underlying31 hi A us.length c1 (k : Int) (by omega) (by omega) h1a
    rw [Int.toNat_natCast] at this
    exact this W)
  clear hi hzz
  have HBS := Lib.hid (Below.refl w.heap.size w)
  go_wp2_with fail
  ((with_reducible refine (reader_new _ _ _ _ (HU.out.below HBS.out) h1a HX.out (by omega)).mono ?_); rintro e w1 ⟨g, A1, d1, rfl, hg, HR, HBr⟩)
  have HB := Lib.hid (HBS.out.trans (HBr.out.mono HBS.out.size))
  have hgw : w.heap.size ≤ g := Nat.le_trans HBS.out.size hg
  clear HBr
  go_upto_if 18 with (first | ((with_reducible refine (rdnum_calls HR.out).mono ?_); rintro e w2 ⟨rfl, hr, hc⟩; have HR2 := Lib.hid hr; have HB2 := Lib.hid (hc.reader HB.out hgw); clear hr hc) | ((with_reducible refine (bad_calls HR2.out).mono ?_); rintro e w' ⟨rfl, rfl⟩))
  go_cut [] (fun wc => Hid (Below w.heap.size w wc))
  case first =>
    cases hnr : (numR us (some 0)).2 with
    | none =>
      rw [hnr] at HR2
      clear hnr
      go_wp2_with fail
      go_meet
      exact HB2
    | some k =>
      obtain ⟨hen, hk⟩ := numR_enc us k HX.out hnr
      have hml := numR_lt us (some 0)
      generalize hmE : (numR us (some 0)).1 = m at hen hml ⊢
      have HME := Lib.hid hmE
      clear hmE
      rw [hnr] at HR2
      have HEN := Lib.hid hen
      clear hen hnr
      have hlr : ((leftR us (some k) : Nat) : Int) = (us.length : Int) - k := by simp only [leftR, Option.getD_some]; omega
      have HLR := Lib.hid hlr
      clear hlr
      have HW0 := Lib.hid (wr_new w2)
      have HBA := Lib.hid (HB2.out.alloc HB2.out.size (.cells #[.slice none 0 0] 41))
      have HAl := Lib.hid ((Below.refl w2.heap.size w2).alloc (Nat.le_refl _) (.cells #[.slice none 0 0] 41))
      go_wp2_with fail
      generalize hwA : w2.alloc (.cells #[.slice none 0 0] 41) = wA at HW0 HBA HAl ⊢
      have HS2 : Hid (w2.heap.size ≤ wA.heap.size) := Lib.hid (by rw [← hwA]; simp)
      clear hwA
      ((with_reducible refine (num_calls _ _ _ _ _ m HW0.out (by simp) hml).mono ?_); rintro e w3 ⟨rfl, hW, hC⟩)
      rw [HEN.out, List.nil_append] at hW
      have HW3 := Lib.hid (hW.from_ HS2.out)
      have HC3 := Lib.hid (HAl.out.trans (hC.below_ HS2.out))
      have HR3 := Lib.hid (HR2.out.below HC3.out)
      have HB3 := Lib.hid (HB2.out.trans (HC3.out.mono HB2.out.size))
      have hkl : (us.take k).length = k := by rw [List.length_take]; omega
      have HUk : Hid (ReadsInt w3 .u8 A (us.take k).length (us.take k)) := Lib.hid (by rw [hkl]; exact (HU.out.below HB3.out).take_ k hk)
      have hcut : ∀ (W : World), (Instr.slice 31 (.slice A us.length c1) none (some (.int .i64 k)) none).run Try.prog W = .ok (.slice A (us.take k).length c1) W := by rw [hkl]; exact HCt.out k hk
      have hyl : (us.take k).length ≤ 3000 := by omega
      clear hkl
      clear hW hC HW0 HBA HAl HC3
      generalize us.take k = ys at HW3 HUk hcut hyl
      have hlr : IntKind.i64.wrap ((us.length : Int) - ((us.length : Int) - k)) = k := by rw [show (us.length : Int) - ((us.length : Int) - k) = k from by omega]; exact IntWalk.i64_in _ (by omega)
      go_wp2_with fail
      have HBc : Hid (Below w3.heap.size w3 w3.drew) := Lib.hid (below_drew (Below.refl _ _))
      have cvk := string_of_reads (P := Try.prog) (src := 31) (dst := 9) (c := c1) Try.underlying31 Try.underlying5 Try.underlying9 (HUk.out.below HBc.out)
      go_region_with (first | (go_at_call 35; refine (bytes_str_calls _ w2.heap.size w2.heap.size (fun k => w2.heap.size ≤ k) ys (HW3.out.below HBc.out) (by omega)).mono ?_; rintro e wx ⟨Ax, cx, rfl, hlx, HRx, hbx⟩; have HBn := Lib.hid (HBc.out.trans (hbx.mono HBc.out.size)); clear hbx HBc; have HBc := HBn; clear HBn; have cvx := string_of_reads (P := Try.prog) (src := 31) (dst := 9) (c := cx) Try.underlying31 Try.underlying5 Try.underlying9 HRx.out; have cvk2 := string_of_reads (P := Try.prog) (src := 31) (dst := 9) (c := c1) Try.underlying31 Try.underlying5 Try.underlying9 (HUk.out.below HBc.out)) | (go_at_call 44; refine (left_calls (HR3.out.below HBc.out)).mono ?_; rw [HLR.out]; rintro e wx ⟨rfl, hbx⟩; have HBn := Lib.hid (HBc.out.trans (hbx.mono HBc.out.size)); (try have cvx2 := string_of_reads (P := Try.prog) (src := 31) (dst := 9) (c := cx) Try.underlying31 Try.underlying5 Try.underlying9 (HRx.out.below hbx)); clear hbx HBc; have HBc := HBn; clear HBn; have cvk3 := string_of_reads (P := Try.prog) (src := 31) (dst := 9) (c := c1) Try.underlying31 Try.underlying5 Try.underlying9 (HUk.out.below HBc.out)))
      all_goals
        (try clear cvk); (try clear cvx); (try clear cvx2); (try clear cvk2); (try clear cvk3)
        clear hcut hlr
        simp only [Exit.then]
        go_wp2_with fail
        obtain rfl := HME.out
        go_meet
        exact Lib.hid (HB3.out.trans (HBc.out.mono HB3.out.size))
  case rest =>
  clear HR HB HR2 HB2 HBS
  have HBS := hcut
  clear hcut
  generalize wc = wS at HBS ⊢
  go_wp2_with fail
  ((with_reducible refine (reader_new _ _ _ _ (HU.out.below HBS.out) h1a HX.out (by omega)).mono ?_); rintro e w1 ⟨g, A1, d1, rfl, hg, HR, HBr⟩)
  have HB := Lib.hid (HBS.out.trans (HBr.out.mono HBS.out.size))
  have hgw : w.heap.size ≤ g := Nat.le_trans HBS.out.size hg
  clear HBr
  go_upto_if 38 with (first | ((with_reducible refine (rdint_calls HR.out).mono ?_); rintro e w2 ⟨rfl, hr, hc⟩; have HR2 := Lib.hid hr; have HB2 := Lib.hid (hc.reader HB.out hgw); clear hr hc) | ((with_reducible refine (bad_calls HR2.out).mono ?_); rintro e w' ⟨rfl, rfl⟩))
  go_cut [] (fun wc => Hid (Below w.heap.size w wc))
  case first =>
    cases hnr : (intR us (some 0)).2 with
    | none =>
      rw [hnr] at HR2
      clear hnr
      go_wp2_with fail
      go_meet
      exact HB2
    | some k =>
      obtain ⟨hen, hk, hm0, hm1⟩ := intR_enc us k HX.out hnr
      generalize hmE : (intR us (some 0)).1 = m at hen hm0 hm1 ⊢
      have HME := Lib.hid hmE
      clear hmE
      rw [hnr] at HR2
      have HEN := Lib.hid hen
      clear hen hnr
      have hlr : ((leftR us (some k) : Nat) : Int) = (us.length : Int) - k := by simp only [leftR, Option.getD_some]; omega
      have HLR := Lib.hid hlr
      clear hlr
      have HW0 := Lib.hid (wr_new w2)
      have HBA := Lib.hid (HB2.out.alloc HB2.out.size (.cells #[.slice none 0 0] 41))
      have HAl := Lib.hid ((Below.refl w2.heap.size w2).alloc (Nat.le_refl _) (.cells #[.slice none 0 0] 41))
      go_wp2_with fail
      generalize hwA : w2.alloc (.cells #[.slice none 0 0] 41) = wA at HW0 HBA HAl ⊢
      have HS2 : Hid (w2.heap.size ≤ wA.heap.size) := Lib.hid (by rw [← hwA]; simp)
      clear hwA
      ((with_reducible refine (int_calls _ _ _ _ _ m HW0.out (by simp) hm0 hm1).mono ?_); rintro e w3 ⟨rfl, hW, hC⟩)
      rw [HEN.out, List.nil_append] at hW
      have HW3 := Lib.hid (hW.from_ HS2.out)
      have HC3 := Lib.hid (HAl.out.trans (hC.below_ HS2.out))
      have HR3 := Lib.hid (HR2.out.below HC3.out)
      have HB3 := Lib.hid (HB2.out.trans (HC3.out.mono HB2.out.size))
      have hkl : (us.take k).length = k := by rw [List.length_take]; omega
      have HUk : Hid (ReadsInt w3 .u8 A (us.take k).length (us.take k)) := Lib.hid (by rw [hkl]; exact (HU.out.below HB3.out).take_ k hk)
      have hcut : ∀ (W : World), (Instr.slice 31 (.slice A us.length c1) none (some (.int .i64 k)) none).run Try.prog W = .ok (.slice A (us.take k).length c1) W := by rw [hkl]; exact HCt.out k hk
      have hyl : (us.take k).length ≤ 3000 := by omega
      clear hkl
      clear hW hC HW0 HBA HAl HC3
      generalize us.take k = ys at HW3 HUk hcut hyl
      have hlr : IntKind.i64.wrap ((us.length : Int) - ((us.length : Int) - k)) = k := by rw [show (us.length : Int) - ((us.length : Int) - k) = k from by omega]; exact IntWalk.i64_in _ (by omega)
      go_wp2_with fail
      have HBc : Hid (Below w3.heap.size w3 w3.drew) := Lib.hid (below_drew (Below.refl _ _))
      have cvk := string_of_reads (P := Try.prog) (src := 31) (dst := 9) (c := c1) Try.underlying31 Try.underlying5 Try.underlying9 (HUk.out.below HBc.out)
      go_region_with (first | (go_at_call 35; refine (bytes_str_calls _ w2.heap.size w2.heap.size (fun k => w2.heap.size ≤ k) ys (HW3.out.below HBc.out) (by omega)).mono ?_; rintro e wx ⟨Ax, cx, rfl, hlx, HRx, hbx⟩; have HBn := Lib.hid (HBc.out.trans (hbx.mono HBc.out.size)); clear hbx HBc; have HBc := HBn; clear HBn; have cvx := string_of_reads (P := Try.prog) (src := 31) (dst := 9) (c := cx) Try.underlying31 Try.underlying5 Try.underlying9 HRx.out; have cvk2 := string_of_reads (P := Try.prog) (src := 31) (dst := 9) (c := c1) Try.underlying31 Try.underlying5 Try.underlying9 (HUk.out.below HBc.out)) | (go_at_call 44; refine (left_calls (HR3.out.below HBc.out)).mono ?_; rw [HLR.out]; rintro e wx ⟨rfl, hbx⟩; have HBn := Lib.hid (HBc.out.trans (hbx.mono HBc.out.size)); (try have cvx2 := string_of_reads (P := Try.prog) (src := 31) (dst := 9) (c := cx) Try.underlying31 Try.underlying5 Try.underlying9 (HRx.out.below hbx)); clear hbx HBc; have HBc := HBn; clear HBn; have cvk3 := string_of_reads (P := Try.prog) (src := 31) (dst := 9) (c := c1) Try.underlying31 Try.underlying5 Try.underlying9 (HUk.out.below HBc.out)))
      all_goals
        (try clear cvk); (try clear cvx); (try clear cvx2); (try clear cvk2); (try clear cvk3)
        clear hcut hlr
        simp only [Exit.then]
        go_wp2_with fail
        obtain rfl := HME.out
        go_meet
        exact Lib.hid (HB3.out.trans (HBc.out.mono HB3.out.size))
  case rest =>
  clear HR HB HR2 HB2 HBS
  have HBS := hcut
  clear hcut
  generalize wc = wS at HBS ⊢
  go_wp2_with fail
  ((with_reducible refine (reader_new _ _ _ _ (HU.out.below HBS.out) h1a HX.out (by omega)).mono ?_); rintro e w1 ⟨g, A1, d1, rfl, hg, HR, HBr⟩)
  have HB := Lib.hid (HBS.out.trans (HBr.out.mono HBS.out.size))
  have hgw : w.heap.size ≤ g := Nat.le_trans HBS.out.size hg
  clear HBr
  go_upto_if 58 with (first | ((with_reducible refine (rdtext_calls HR.out).mono ?_); rintro e w2 ⟨rfl, hr, hc⟩; have HR2 := Lib.hid hr; have HB2 := Lib.hid (hc.reader HB.out hgw); clear hr hc) | ((with_reducible refine (bad_calls HR2.out).mono ?_); rintro e w' ⟨rfl, rfl⟩))
  go_cut [] (fun wc => Hid (Below w.heap.size w wc))
  case first =>
    cases hnr : (textR us (some 0)).2 with
    | none =>
      rw [hnr] at HR2
      clear hnr
      go_wp2_with fail
      go_meet
      exact HB2
    | some k =>
      obtain ⟨hen, hk, hm⟩ := textR_enc us k HX.out hxa hnr
      generalize hmE : strOfNums (textR us (some 0)).1 = m at hen hm ⊢
      have HME := Lib.hid hmE
      clear hmE
      rw [hnr] at HR2
      have HEN := Lib.hid hen
      clear hen hnr
      have hlr : ((leftR us (some k) : Nat) : Int) = (us.length : Int) - k := by simp only [leftR, Option.getD_some]; omega
      have HLR := Lib.hid hlr
      clear hlr
      have HW0 := Lib.hid (wr_new w2)
      have HBA := Lib.hid (HB2.out.alloc HB2.out.size (.cells #[.slice none 0 0] 41))
      have HAl := Lib.hid ((Below.refl w2.heap.size w2).alloc (Nat.le_refl _) (.cells #[.slice none 0 0] 41))
      go_wp2_with fail
      generalize hwA : w2.alloc (.cells #[.slice none 0 0] 41) = wA at HW0 HBA HAl ⊢
      have HS2 : Hid (w2.heap.size ≤ wA.heap.size) := Lib.hid (by rw [← hwA]; simp)
      clear hwA
      ((with_reducible refine (text_calls _ _ _ _ _ m HW0.out (by simp) (by omega)).mono ?_); rintro e w3 ⟨rfl, hW, hC⟩)
      rw [HEN.out, List.nil_append] at hW
      have HW3 := Lib.hid (hW.from_ HS2.out)
      have HC3 := Lib.hid (HAl.out.trans (hC.below_ HS2.out))
      have HR3 := Lib.hid (HR2.out.below HC3.out)
      have HB3 := Lib.hid (HB2.out.trans (HC3.out.mono HB2.out.size))
      have hkl : (us.take k).length = k := by rw [List.length_take]; omega
      have HUk : Hid (ReadsInt w3 .u8 A (us.take k).length (us.take k)) := Lib.hid (by rw [hkl]; exact (HU.out.below HB3.out).take_ k hk)
      have hcut : ∀ (W : World), (Instr.slice 31 (.slice A us.length c1) none (some (.int .i64 k)) none).run Try.prog W = .ok (.slice A (us.take k).length c1) W := by rw [hkl]; exact HCt.out k hk
      have hyl : (us.take k).length ≤ 3000 := by omega
      clear hkl
      clear hW hC HW0 HBA HAl HC3
      generalize us.take k = ys at HW3 HUk hcut hyl
      have hlr : IntKind.i64.wrap ((us.length : Int) - ((us.length : Int) - k)) = k := by rw [show (us.length : Int) - ((us.length : Int) - k) = k from by omega]; exact IntWalk.i64_in _ (by omega)
      go_wp2_with fail
      have HBc : Hid (Below w3.heap.size w3 w3.drew) := Lib.hid (below_drew (Below.refl _ _))
      have cvk := string_of_reads (P := Try.prog) (src := 31) (dst := 9) (c := c1) Try.underlying31 Try.underlying5 Try.underlying9 (HUk.out.below HBc.out)
      go_region_with (first | (go_at_call 35; refine (bytes_str_calls _ w2.heap.size w2.heap.size (fun k => w2.heap.size ≤ k) ys (HW3.out.below HBc.out) (by omega)).mono ?_; rintro e wx ⟨Ax, cx, rfl, hlx, HRx, hbx⟩; have HBn := Lib.hid (HBc.out.trans (hbx.mono HBc.out.size)); clear hbx HBc; have HBc := HBn; clear HBn; have cvx := string_of_reads (P := Try.prog) (src := 31) (dst := 9) (c := cx) Try.underlying31 Try.underlying5 Try.underlying9 HRx.out; have cvk2 := string_of_reads (P := Try.prog) (src := 31) (dst := 9) (c := c1) Try.underlying31 Try.underlying5 Try.underlying9 (HUk.out.below HBc.out)) | (go_at_call 44; refine (left_calls (HR3.out.below HBc.out)).mono ?_; rw [HLR.out]; rintro e wx ⟨rfl, hbx⟩; have HBn := Lib.hid (HBc.out.trans (hbx.mono HBc.out.size)); (try have cvx2 := string_of_reads (P := Try.prog) (src := 31) (dst := 9) (c := cx) Try.underlying31 Try.underlying5 Try.underlying9 (HRx.out.below hbx)); clear hbx HBc; have HBc := HBn; clear HBn; have cvk3 := string_of_reads (P := Try.prog) (src := 31) (dst := 9) (c := c1) Try.underlying31 Try.underlying5 Try.underlying9 (HUk.out.below HBc.out)))
      all_goals
        (try clear cvk); (try clear cvx); (try clear cvx2); (try clear cvk2); (try clear cvk3)
        clear hcut hlr
        simp only [Exit.then]
        go_wp2_with fail
        obtain rfl := HME.out
        go_meet
        exact Lib.hid (HB3.out.trans (HBc.out.mono HB3.out.size))
  case rest =>
  clear HR HB HR2 HB2 HBS
  have HBS := hcut
  clear hcut
  generalize wc = wS at HBS ⊢
  go_wp2_with fail
  ((with_reducible refine (lives_calls _).mono ?_); rintro e w6 ⟨rfl, hb6⟩)
  go_wp2_with fail
  go_ret
  exact ⟨rfl, HBS.out.trans (hb6.mono HBS.out.size)⟩

end Go.Proofs.Ythobpcbiaimccaa
