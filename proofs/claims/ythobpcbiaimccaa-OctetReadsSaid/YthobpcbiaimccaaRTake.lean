/- The reference's TakeNum, by plain lists. Conditions: bytes are bytes. -/
import Derived.Test.YthobpcbiaimccaaTake
import Derived.Test.YthobpcbiaimccaaLawOnlyW
import Derived.Test.YthobpcbiaimccaaLawListsW
import Derived.Deep.RegionWith
namespace Go.Proofs.Ythobpcbiaimccaa
open Go.RowKit Go.Proofs.YthobpcbiaimccaaW.PrintWords Go.Proofs.YthobpcbiaimccaaW.PrintLast Go.Proofs.YthobpcbiaimccaaW.PrintMore PRef
set_option linter.unusedVariables false
set_option linter.unusedSimpArgs false

/-- The value of digits, behind n. -/
def acc : Nat → List Int → Nat
  | n, [] => n
  | n, c :: cs => acc (128 * n + c.toNat % 128) cs
theorem acc_snoc (c : Int) : ∀ (l : List Int) (n : Nat), acc n (l ++ [c]) = 128 * acc n l + c.toNat % 128
  | [], n => rfl
  | b :: l, n => acc_snoc c l _
theorem acc_ge : ∀ (l : List Int) (n : Nat), n * 128 ^ l.length ≤ acc n l
  | [], n => by simp [acc]
  | c :: l, n => by
    have := acc_ge l (128 * n + c.toNat % 128)
    rw [List.length_cons, Nat.pow_succ, ← Nat.mul_assoc, Nat.mul_right_comm]
    refine Nat.le_trans ?_ this
    exact Nat.mul_le_mul_right _ (by omega)
theorem take_snocD (l : List Int) (i : Nat) (h : i < l.length) : l.take (i + 1) = l.take i ++ [l.getD i 0] := by
  rw [List.take_add_one, List.getElem?_eq_getElem h, List.getD_eq_getElem?_getD, List.getElem?_eq_getElem h]; rfl

theorem takeNum_spec : ∀ (l : List Int) (n : Nat) (f : Bool) (m k : Nat), takeNum n f l = some (m, k) →
    0 < k ∧ k ≤ l.length ∧ m = acc n (l.take k) ∧ (∀ j, j < k → acc n (l.take j) < 2 ^ 57) ∧ (∀ j, j + 1 < k → ¬ l.getD j 0 < 128) ∧ l.getD (k - 1) 0 < 128 ∧ (f = true → l.getD 0 0 ≠ 128)
  | [], n, f, m, k, h => by cases h
  | c :: cs, n, f, m, k, h => by
    rw [takeNum] at h
    by_cases hn : (f = true ∧ c = 128) ∨ 2 ^ 57 ≤ n
    · rw [if_pos hn] at h; cases h
    · rw [if_neg hn] at h
      have h57 : n < 2 ^ 57 := Nat.lt_of_not_le (fun h => hn (.inr h))
      have hf : f = true → c ≠ 128 := fun h e => hn (.inl ⟨h, e⟩)
      by_cases hc : c < 128
      · rw [if_pos hc] at h
        injection h with h
        injection h with h1 h2
        subst h1 h2
        refine ⟨by omega, by simp, rfl, fun j hj => ?_, fun j hj => by omega, hc, hf⟩
        obtain rfl : j = 0 := by omega
        exact h57
      · rw [if_neg hc] at h
        cases hr : takeNum (128 * n + c.toNat % 128) false cs with
        | none => rw [hr] at h; cases h
        | some p =>
          rw [hr] at h
          injection h with h
          injection h with h1 h2
          obtain ⟨q1, q2, q3, q4, q5, q6, _⟩ := takeNum_spec cs _ _ p.1 p.2 hr
          subst h1 h2
          refine ⟨by omega, by rw [List.length_cons]; omega, by rw [List.take_succ_cons]; exact q3, fun j hj => ?_, fun j hj => ?_, ?_, hf⟩
          · cases j with
            | zero => exact h57
            | succ j => rw [List.take_succ_cons]; exact q4 j (by omega)
          · cases j with
            | zero => exact hc
            | succ j => exact q5 j (by omega)
          · obtain ⟨k', hk'⟩ : ∃ k', p.2 = k' + 1 := ⟨p.2 - 1, by omega⟩
            rw [hk'] at q6 ⊢
            exact q6

/-- All digits up to i have the mark, n is their value. -/
theorem take_big (xs : List Int) (i : Nat) (hi : i ≤ xs.length) (hm : ∀ j, j < i → ¬ xs.getD j 0 < 128) (h : 2 ^ 57 ≤ acc 0 (xs.take i)) : takeNum 0 true xs = none := by
  cases hn : takeNum 0 true xs with
  | none => rfl
  | some p =>
    obtain ⟨q1, q2, q3, q4, q5, q6, q7⟩ := takeNum_spec xs 0 true p.1 p.2 hn
    rcases Nat.lt_or_ge i p.2 with h1 | h1
    · exact absurd (q4 i h1) (by omega)
    · exact absurd q6 (hm _ (by omega))
theorem take_end (xs : List Int) (hm : ∀ j, j < xs.length → ¬ xs.getD j 0 < 128) : takeNum 0 true xs = none := by
  cases hn : takeNum 0 true xs with
  | none => rfl
  | some p =>
    obtain ⟨q1, q2, q3, q4, q5, q6, q7⟩ := takeNum_spec xs 0 true p.1 p.2 hn
    exact absurd q6 (hm _ (by omega))
theorem take_ten (xs : List Int) (hb : IsBytes xs) (hl : 10 ≤ xs.length) (hm : ∀ j, j < 10 → ¬ xs.getD j 0 < 128) : takeNum 0 true xs = none := by
  cases hn : takeNum 0 true xs with
  | none => rfl
  | some p =>
    obtain ⟨q1, q2, q3, q4, q5, q6, q7⟩ := takeNum_spec xs 0 true p.1 p.2 hn
    rcases Nat.lt_or_ge 10 p.2 with h1 | h1
    · have h2 := q4 10 h1
      match xs, hl with
      | c :: cs, hl =>
        have hc0 := hm 0 (by omega)
        have hc1 := q7 rfl
        have hcb := hb c (by simp)
        simp only [List.getD_cons_zero] at hc0 hc1
        rw [List.take_succ_cons] at h2
        have h3 := acc_ge (cs.take 9) (128 * 0 + c.toNat % 128)
        have h4 : (cs.take 9).length = 9 := by rw [List.length_take]; rw [List.length_cons] at hl; omega
        rw [h4] at h3
        change acc (128 * 0 + c.toNat % 128) (cs.take 9) < 2 ^ 57 at h2
        have h5 : 1 ≤ 128 * 0 + c.toNat % 128 := by omega
        have h6 : 1 * 128 ^ 9 ≤ (128 * 0 + c.toNat % 128) * 128 ^ 9 := Nat.mul_le_mul_right _ h5
        omega
    · exact absurd q6 (hm _ (by omega))
theorem take_stop (xs : List Int) (i : Nat) (hb : IsBytes xs) (hi : i < xs.length) (hm : ∀ j, j < i → ¬ xs.getD j 0 < 128) (hlow : xs.getD i 0 < 128) (h64 : acc 0 (xs.take (i + 1)) < 18446744073709551616) :
    takeNum 0 true xs = if encNum (acc 0 (xs.take (i + 1))) = xs.take (i + 1) then some (acc 0 (xs.take (i + 1)), i + 1) else none := by
  by_cases he : encNum (acc 0 (xs.take (i + 1))) = xs.take (i + 1)
  · rw [if_pos he]
    have := takeNum_back (acc 0 (xs.take (i + 1))) (xs.drop (i + 1)) h64
    rw [he, List.take_append_drop, List.length_take, Nat.min_eq_left (by omega)] at this
    exact this
  · rw [if_neg he]
    cases hn : takeNum 0 true xs with
    | none => rfl
    | some p =>
      obtain ⟨q1, q2, q3, q4, q5, q6, q7⟩ := takeNum_spec xs 0 true p.1 p.2 hn
      have hk : p.2 = i + 1 := by
        rcases Nat.lt_trichotomy p.2 (i + 1) with h | h | h
        · exact absurd q6 (hm _ (by omega))
        · exact h
        · exact absurd hlow (q5 i h)
      have := takeNum_enc xs 0 true p.1 p.2 hb (.inl ⟨rfl, rfl⟩) hn
      rw [encHi_zero, List.nil_append, hk, q3, hk] at this
      exact absurd this.symm he

def takeV (xs : List Int) : Nat × Nat := (takeNum 0 true xs).getD (0, 0)

set_option maxRecDepth 100000 in
set_option maxHeartbeats 4000000 in
theorem rtakenum_calls (A : Option Addr) (c : Nat) (xs : List Int) (w : World) (hr : ReadsInt w .u8 A xs.length xs) (hc : xs.length ≤ c) (hb : IsBytes xs) :
    Calls Try.prog 48 #[.slice A xs.length c] w fun e w' => e = .returned (.tuple #[.int .u64 (takeV xs).1, .int .i64 (takeV xs).2]) ∧ Below w.heap.size w w' := by
  have hl63 := hr.2.1
  have HR := Lib.hid hr
  have HX := Lib.hid hb
  obtain ⟨R, hR⟩ : ∃ R, R = takeV xs := ⟨_, rfl⟩
  rw [← hR]
  have HV := Lib.hid hR
  clear hr hb hR
  obtain ⟨i0, hi0, hzz⟩ := Option.map_eq_some_iff.1 info5
  have HCt : Hid (∀ k : Nat, k ≤ xs.length → ∀ (W : World), (Instr.slice 31 (.slice A xs.length c) none (some (.int .i64 k)) none).run Try.prog W = .ok (.slice A k c) W) := Lib.hid (fun k hk W => by
    have := cut_to (P := Try.prog) 31 5 .i64 Try.underlying31 hi0 A xs.length c (k : Int) (by omega) (by omega) hc
    rw [Int.toNat_natCast] at this
    exact this W)
  clear hi0 hzz
  go_enter Try.func48, Try.ntmps48
  go_wp2_with fail
  go_loopw [4, 5] (fun vn vi wr => ∃ (n i : Nat), vn = .int .u64 n ∧ vi = .int .i64 i ∧ i ≤ xs.length ∧ i ≤ 10 ∧ n < 18446744073709551616 ∧ w = wr ∧ Hid (n = acc 0 (xs.take i)) ∧ Hid (∀ j, j < i → ¬ xs.getD j 0 < 128)) (fun _ vi _ => xs.length - (intOf vi).toNat)
  case atStart => exact ⟨0, 0, rfl, rfl, by omega, by omega, by omega, rfl, Lib.hid rfl, Lib.hid (fun j hj => by omega)⟩
  case round =>
    obtain ⟨n, i, rfl, rfl, hi, hi10, hn, rfl, HN, HM⟩ := hrel
    by_cases hlt : i < xs.length
    · by_cases hten : i < 10
      · by_cases hbig : 144115188075855872 ≤ n
        · have hv : R = (0, 0) := by rw [HV.out]; unfold takeV; rw [take_big xs i hi HM.out (by rw [← HN.out]; exact hbig)]; rfl
          subst hv
          have hbb : decide ((144115188075855872 : Int) ≤ (n : Int)) = true := by simp; omega
          clear hbig hn
          go_wp2_with fail
          go_ret2
          exact ⟨rfl, Below.refl _ _⟩
        · have hbb : decide ((144115188075855872 : Int) ≤ (n : Int)) = false := by simp; omega
          obtain ⟨ad, rfl, hcell⟩ := HR.out.at_ (i : Int) (by omega) (by omega)
          rw [Int.toNat_natCast] at hcell
          have hrd : rd xs (i : Int) = xs.getD i 0 := by unfold rd; rw [Int.toNat_natCast]
          rw [hrd] at hcell
          have hz := HX.out.getD i
          obtain ⟨z, hze⟩ := Int.eq_ofNat_of_zero_le hz.1
          rw [hze] at hcell hz
          have HZ : Hid (xs.getD i 0 = (z : Int)) := Lib.hid hze
          have hzl : z < 256 := by omega
          clear hrd hz hze
          have hacc : 128 * n + z % 128 = acc 0 (xs.take (i + 1)) := by
            rw [take_snocD xs i hlt, acc_snoc, ← HN.out, HZ.out, Int.toNat_natCast]
          have HAc := Lib.hid hacc
          clear hacc
          have hm64 : 128 * n + z % 128 < 18446744073709551616 := by omega
          obtain ⟨m, hm⟩ : ∃ m, m = 128 * n + z % 128 := ⟨_, rfl⟩
          rw [← hm] at hm64
          have hnm : ((n : Int) * 128 + ((z : Int) % 128)) = (m : Int) := by omega
          by_cases hlow : z < 128
          · have hlb : decide ((z : Int) < 128) = true := by simp; omega
            have hst := take_stop xs i HX.out hlt HM.out (by rw [HZ.out]; omega) (by rw [← HAc.out, ← hm]; exact hm64)
            rw [← HAc.out, ← hm] at hst
            have HST := Lib.hid hst
            have hyl : (xs.take (i + 1)).length = i + 1 := by rw [List.length_take]; omega
            have hcut := HCt.out (i + 1) hlt
            rw [show (((i + 1 : Nat) : Int)) = (i : Int) + 1 from by omega] at hcut
            have hrk : ReadsInt w .u8 (some ad) (i + 1) (xs.take (i + 1)) := HR.out.take_ (i + 1) hlt
            have HRk := Lib.hid hrk
            have HYB := Lib.hid (HX.out.take (i + 1))
            clear hst hm hrk hyl hlow
            generalize xs.take (i + 1) = ys at HST HRk HYB
            by_cases hs : encNum m = ys
            · have hqs : ((strOfNums (encNum m)).toList == (strOfNums ys).toList) = true := by
                rw [str_eq _ _ (encNum_bytes m) HYB.out, decide_eq_true_iff]; exact hs
              have hv : R = (m, i + 1) := by rw [HV.out]; unfold takeV; rw [HST.out, if_pos hs]; rfl
              subst hv
              clear hs HST hbig hn
              have hj : IntKind.i64.wrap ((i : Int) + 1) = (i : Int) + 1 := IntWalk.i64_in _ (by omega)
              go_wp2_with fail
              have HBc : Hid (Below w.heap.size w w.drew) := Lib.hid (below_drew (Below.refl _ _))
              have cvk := string_of_reads (P := Try.prog) (src := 31) (dst := 9) (c := c) Try.underlying31 Try.underlying5 Try.underlying9 (HRk.out.below HBc.out)
              go_region_with (go_at_call 32; refine (rnum_calls m _ hm64).mono ?_; rintro e wx ⟨vx, rfl, hox, hbx⟩; obtain ⟨Ax, cx, rfl, hlx, hrx⟩ := hox.reads; have HBn := Lib.hid (HBc.out.trans (hbx.mono HBc.out.size)); clear hbx hox HBc; have HBc := HBn; clear HBn; have cvx := string_of_reads (P := Try.prog) (src := 31) (dst := 9) (c := cx) Try.underlying31 Try.underlying5 Try.underlying9 hrx; have cvk2 := string_of_reads (P := Try.prog) (src := 31) (dst := 9) (c := c) Try.underlying31 Try.underlying5 Try.underlying9 (HRk.out.below HBc.out); clear hlx hrx)
              all_goals
                (try clear cvk); (try clear cvx); (try clear cvk2)
                simp only [Exit.then]
                go_wp2_with fail
                go_ret2
                exact ⟨rfl, HBc.out⟩
            · have hqs : ((strOfNums (encNum m)).toList == (strOfNums ys).toList) = false := by
                rw [str_eq _ _ (encNum_bytes m) HYB.out, decide_eq_false_iff_not]; exact hs
              have hv : R = (0, 0) := by rw [HV.out]; unfold takeV; rw [HST.out, if_neg hs]; rfl
              subst hv
              clear hs HST hbig hn
              have hj : IntKind.i64.wrap ((i : Int) + 1) = (i : Int) + 1 := IntWalk.i64_in _ (by omega)
              go_wp2_with fail
              have HBc : Hid (Below w.heap.size w w.drew) := Lib.hid (below_drew (Below.refl _ _))
              have cvk := string_of_reads (P := Try.prog) (src := 31) (dst := 9) (c := c) Try.underlying31 Try.underlying5 Try.underlying9 (HRk.out.below HBc.out)
              go_region_with (go_at_call 32; refine (rnum_calls m _ hm64).mono ?_; rintro e wx ⟨vx, rfl, hox, hbx⟩; obtain ⟨Ax, cx, rfl, hlx, hrx⟩ := hox.reads; have HBn := Lib.hid (HBc.out.trans (hbx.mono HBc.out.size)); clear hbx hox HBc; have HBc := HBn; clear HBn; have cvx := string_of_reads (P := Try.prog) (src := 31) (dst := 9) (c := cx) Try.underlying31 Try.underlying5 Try.underlying9 hrx; have cvk2 := string_of_reads (P := Try.prog) (src := 31) (dst := 9) (c := c) Try.underlying31 Try.underlying5 Try.underlying9 (HRk.out.below HBc.out); clear hlx hrx)
              all_goals
                (try clear cvk); (try clear cvx); (try clear cvk2)
                simp only [Exit.then]
                go_wp2_with fail
                go_ret2
                exact ⟨rfl, HBc.out⟩
          · have hlb : decide ((z : Int) < 128) = false := by simp; omega
            have HM2 : Hid (m = acc 0 (xs.take (i + 1)) ∧ ∀ j, j < i + 1 → ¬ xs.getD j 0 < 128) := Lib.hid ⟨by rw [hm]; exact HAc.out, fun j hj => by
              by_cases hji : j = i
              · rw [hji, HZ.out]; omega
              · exact HM.out j (by omega)⟩
            clear hm hbig hn
            go_wp2_with fail
            go_roundw
            case measure => simp [intOf]; omega
            case rel => exact ⟨m, i + 1, rfl, by go_num, by omega, by omega, hm64, by trivial, Lib.hid HM2.out.1, Lib.hid HM2.out.2⟩
      · have hv : R = (0, 0) := by rw [HV.out]; unfold takeV; rw [take_ten xs HX.out (by omega) (fun j hj => HM.out j (by omega))]; rfl
        subst hv
        clear hn
        go_wp2_with fail
        go_ret2
        exact ⟨rfl, Below.refl _ _⟩
    · have hv : R = (0, 0) := by rw [HV.out]; unfold takeV; rw [take_end xs (fun j hj => HM.out j (by omega))]; rfl
      subst hv
      clear hn
      go_wp2_with fail
      go_ret2
      exact ⟨rfl, Below.refl _ _⟩

end Go.Proofs.Ythobpcbiaimccaa
