/- The reference's reader of a state, method by method. Conditions: bytes are bytes. -/
import Derived.Test.YtfanbhbpmhojaaaOcT
import Derived.Deep.RegionWith
namespace Go.Proofs.Ytfanbhbpmhojaaa
open Go.RowKit Go.Proofs.YtfanbhbpmhojaaaW.PrintWords Go.Proofs.YtfanbhbpmhojaaaW.PrintLast Go.Proofs.YtfanbhbpmhojaaaW.PrintMore PRef
set_option linter.unusedVariables false
set_option linter.unusedSimpArgs false
/-- The value of digits, behind n. -/
def acc : Nat → List Int → Nat
  | n, [] => n
  | n, c :: cs => acc (128 * n + c.toNat % 128) cs
theorem acc_snoc (c : Int) : ∀ (l : List Int) (n : Nat), acc n (l ++ [c]) = 128 * acc n l + c.toNat % 128
  | [], n => rfl
  | b :: l, n => acc_snoc c l _
theorem acc_ge : ∀ (l : List Int) (n : Nat), n * 128 ^ l.length ≤ acc n l
  | [], n => by simp [acc]
  | c :: l, n => by
    have := acc_ge l (128 * n + c.toNat % 128)
    rw [List.length_cons, Nat.pow_succ, ← Nat.mul_assoc, Nat.mul_right_comm]
    refine Nat.le_trans ?_ this
    exact Nat.mul_le_mul_right _ (by omega)
theorem take_snocD (l : List Int) (i : Nat) (h : i < l.length) : l.take (i + 1) = l.take i ++ [l.getD i 0] := by
  rw [List.take_add_one, List.getElem?_eq_getElem h, List.getD_eq_getElem?_getD, List.getElem?_eq_getElem h]; rfl

theorem takeNum_spec : ∀ (l : List Int) (n : Nat) (f : Bool) (m k : Nat), takeNum n f l = some (m, k) →
    0 < k ∧ k ≤ l.length ∧ m = acc n (l.take k) ∧ (∀ j, j < k → acc n (l.take j) < 2 ^ 57) ∧ (∀ j, j + 1 < k → ¬ l.getD j 0 < 128) ∧ l.getD (k - 1) 0 < 128 ∧ (f = true → l.getD 0 0 ≠ 128)
  | [], n, f, m, k, h => by cases h
  | c :: cs, n, f, m, k, h => by
    rw [takeNum] at h
    by_cases hn : (f = true ∧ c = 128) ∨ 2 ^ 57 ≤ n
    · rw [if_pos hn] at h; cases h
    · rw [if_neg hn] at h
      have h57 : n < 2 ^ 57 := Nat.lt_of_not_le (fun h => hn (.inr h))
      have hf : f = true → c ≠ 128 := fun h e => hn (.inl ⟨h, e⟩)
      by_cases hc : c < 128
      · rw [if_pos hc] at h
        injection h with h
        injection h with h1 h2
        subst h1 h2
        refine ⟨by omega, by simp, rfl, fun j hj => ?_, fun j hj => by omega, hc, hf⟩
        obtain rfl : j = 0 := by omega
        exact h57
      · rw [if_neg hc] at h
        cases hr : takeNum (128 * n + c.toNat % 128) false cs with
        | none => rw [hr] at h; cases h
        | some p =>
          rw [hr] at h
          injection h with h
          injection h with h1 h2
          obtain ⟨q1, q2, q3, q4, q5, q6, _⟩ := takeNum_spec cs _ _ p.1 p.2 hr
          subst h1 h2
          refine ⟨by omega, by rw [List.length_cons]; omega, by rw [List.take_succ_cons]; exact q3, fun j hj => ?_, fun j hj => ?_, ?_, hf⟩
          · cases j with
            | zero => exact h57
            | succ j => rw [List.take_succ_cons]; exact q4 j (by omega)
          · cases j with
            | zero => exact hc
            | succ j => exact q5 j (by omega)
          · obtain ⟨k', hk'⟩ : ∃ k', p.2 = k' + 1 := ⟨p.2 - 1, by omega⟩
            rw [hk'] at q6 ⊢
            exact q6

/-- All digits up to i have the mark, n is their value. -/
theorem take_big (xs : List Int) (i : Nat) (hi : i ≤ xs.length) (hm : ∀ j, j < i → ¬ xs.getD j 0 < 128) (h : 2 ^ 57 ≤ acc 0 (xs.take i)) : takeNum 0 true xs = none := by
  cases hn : takeNum 0 true xs with
  | none => rfl
  | some p =>
    obtain ⟨q1, q2, q3, q4, q5, q6, q7⟩ := takeNum_spec xs 0 true p.1 p.2 hn
    rcases Nat.lt_or_ge i p.2 with h1 | h1
    · exact absurd (q4 i h1) (by omega)
    · exact absurd q6 (hm _ (by omega))
theorem take_end (xs : List Int) (hm : ∀ j, j < xs.length → ¬ xs.getD j 0 < 128) : takeNum 0 true xs = none := by
  cases hn : takeNum 0 true xs with
  | none => rfl
  | some p =>
    obtain ⟨q1, q2, q3, q4, q5, q6, q7⟩ := takeNum_spec xs 0 true p.1 p.2 hn
    exact absurd q6 (hm _ (by omega))
theorem take_ten (xs : List Int) (hb : IsBytes xs) (hl : 10 ≤ xs.length) (hm : ∀ j, j < 10 → ¬ xs.getD j 0 < 128) : takeNum 0 true xs = none := by
  cases hn : takeNum 0 true xs with
  | none => rfl
  | some p =>
    obtain ⟨q1, q2, q3, q4, q5, q6, q7⟩ := takeNum_spec xs 0 true p.1 p.2 hn
    rcases Nat.lt_or_ge 10 p.2 with h1 | h1
    · have h2 := q4 10 h1
      match xs, hl with
      | c :: cs, hl =>
        have hc0 := hm 0 (by omega)
        have hc1 := q7 rfl
        have hcb := hb c (by simp)
        simp only [List.getD_cons_zero] at hc0 hc1
        rw [List.take_succ_cons] at h2
        have h3 := acc_ge (cs.take 9) (128 * 0 + c.toNat % 128)
        have h4 : (cs.take 9).length = 9 := by rw [List.length_take]; rw [List.length_cons] at hl; omega
        rw [h4] at h3
        change acc (128 * 0 + c.toNat % 128) (cs.take 9) < 2 ^ 57 at h2
        have h5 : 1 ≤ 128 * 0 + c.toNat % 128 := by omega
        have h6 : 1 * 128 ^ 9 ≤ (128 * 0 + c.toNat % 128) * 128 ^ 9 := Nat.mul_le_mul_right _ h5
        omega
    · exact absurd q6 (hm _ (by omega))
theorem take_stop (xs : List Int) (i : Nat) (hb : IsBytes xs) (hi : i < xs.length) (hm : ∀ j, j < i → ¬ xs.getD j 0 < 128) (hlow : xs.getD i 0 < 128) (h64 : acc 0 (xs.take (i + 1)) < 18446744073709551616) :
    takeNum 0 true xs = if encNum (acc 0 (xs.take (i + 1))) = xs.take (i + 1) then some (acc 0 (xs.take (i + 1)), i + 1) else none := by
  by_cases he : encNum (acc 0 (xs.take (i + 1))) = xs.take (i + 1)
  · rw [if_pos he]
    have := takeNum_back (acc 0 (xs.take (i + 1))) (xs.drop (i + 1)) h64
    rw [he, List.take_append_drop, List.length_take, Nat.min_eq_left (by omega)] at this
    exact this
  · rw [if_neg he]
    cases hn : takeNum 0 true xs with
    | none => rfl
    | some p =>
      obtain ⟨q1, q2, q3, q4, q5, q6, q7⟩ := takeNum_spec xs 0 true p.1 p.2 hn
      have hk : p.2 = i + 1 := by
        rcases Nat.lt_trichotomy p.2 (i + 1) with h | h | h
        · exact absurd q6 (hm _ (by omega))
        · exact h
        · exact absurd hlow (q5 i h)
      have := takeNum_enc xs 0 true p.1 p.2 hb (.inl ⟨rfl, rfl⟩) hn
      rw [encHi_zero, List.nil_append, hk, q3, hk] at this
      exact absurd this.symm he

def takeV (xs : List Int) : Nat × Nat := (takeNum 0 true xs).getD (0, 0)

set_option maxRecDepth 100000 in
set_option maxHeartbeats 4000000 in
theorem rtakenum_calls (A : Option Addr) (c : Nat) (xs : List Int) (w : World) (hr : ReadsInt w .u8 A xs.length xs) (hc : xs.length ≤ c) (hb : IsBytes xs) :
    Calls Try.prog 59 #[.slice A xs.length c] w fun e w' => e = .returned (.tuple #[.int .u64 (takeV xs).1, .int .i64 (takeV xs).2]) ∧ Below w.heap.size w w' := by
  have hl63 := hr.2.1
  have HR := Lib.hid hr
  have HX := Lib.hid hb
  obtain ⟨R, hR⟩ : ∃ R, R = takeV xs := ⟨_, rfl⟩
  rw [← hR]
  have HV := Lib.hid hR
  clear hr hb hR
  obtain ⟨i0, hi0, hzz⟩ := Option.map_eq_some_iff.1 info5
  have HCt : Hid (∀ k : Nat, k ≤ xs.length → ∀ (W : World), (Instr.slice 43 (.slice A xs.length c) none (some (.int .i64 k)) none).run Try.prog W = .ok (.slice A k c) W) := Lib.hid (fun k hk W => by
    have := cut_to (P := Try.prog) 43 5 .i64 Try.underlying43 hi0 A xs.length c (k : Int) (by omega) (by omega) hc
    rw [Int.toNat_natCast] at this
    exact this W)
  clear hi0 hzz
  go_enter Try.func59, Try.ntmps59
  go_wp2_with fail
  go_loopw [4, 5] (fun vn vi wr => ∃ (n i : Nat), vn = .int .u64 n ∧ vi = .int .i64 i ∧ i ≤ xs.length ∧ i ≤ 10 ∧ n < 18446744073709551616 ∧ w = wr ∧ Hid (n = acc 0 (xs.take i)) ∧ Hid (∀ j, j < i → ¬ xs.getD j 0 < 128)) (fun _ vi _ => xs.length - (intOf vi).toNat)
  case atStart => exact ⟨0, 0, rfl, rfl, by omega, by omega, by omega, rfl, Lib.hid rfl, Lib.hid (fun j hj => by omega)⟩
  case round =>
    obtain ⟨n, i, rfl, rfl, hi, hi10, hn, rfl, HN, HM⟩ := hrel
    by_cases hlt : i < xs.length
    · by_cases hten : i < 10
      · by_cases hbig : 144115188075855872 ≤ n
        · have hv : R = (0, 0) := by rw [HV.out]; unfold takeV; rw [take_big xs i hi HM.out (by rw [← HN.out]; exact hbig)]; rfl
          subst hv
          have hbb : decide ((144115188075855872 : Int) ≤ (n : Int)) = true := by simp; omega
          clear hbig hn
          go_wp2_with fail
          go_ret2
          exact ⟨rfl, Below.refl _ _⟩
        · have hbb : decide ((144115188075855872 : Int) ≤ (n : Int)) = false := by simp; omega
          obtain ⟨ad, rfl, hcell⟩ := HR.out.at_ (i : Int) (by omega) (by omega)
          rw [Int.toNat_natCast] at hcell
          have hrd : rd xs (i : Int) = xs.getD i 0 := by unfold rd; rw [Int.toNat_natCast]
          rw [hrd] at hcell
          have hz := HX.out.getD i
          obtain ⟨z, hze⟩ := Int.eq_ofNat_of_zero_le hz.1
          rw [hze] at hcell hz
          have HZ : Hid (xs.getD i 0 = (z : Int)) := Lib.hid hze
          have hzl : z < 256 := by omega
          clear hrd hz hze
          have hacc : 128 * n + z % 128 = acc 0 (xs.take (i + 1)) := by
            rw [take_snocD xs i hlt, acc_snoc, ← HN.out, HZ.out, Int.toNat_natCast]
          have HAc := Lib.hid hacc
          clear hacc
          have hm64 : 128 * n + z % 128 < 18446744073709551616 := by omega
          obtain ⟨m, hm⟩ : ∃ m, m = 128 * n + z % 128 := ⟨_, rfl⟩
          rw [← hm] at hm64
          have hnm : ((n : Int) * 128 + ((z : Int) % 128)) = (m : Int) := by omega
          by_cases hlow : z < 128
          · have hlb : decide ((z : Int) < 128) = true := by simp; omega
            have hst := take_stop xs i HX.out hlt HM.out (by rw [HZ.out]; omega) (by rw [← HAc.out, ← hm]; exact hm64)
            rw [← HAc.out, ← hm] at hst
            have HST := Lib.hid hst
            have hyl : (xs.take (i + 1)).length = i + 1 := by rw [List.length_take]; omega
            have hcut := HCt.out (i + 1) hlt
            rw [show (((i + 1 : Nat) : Int)) = (i : Int) + 1 from by omega] at hcut
            have hrk : ReadsInt w .u8 (some ad) (i + 1) (xs.take (i + 1)) := HR.out.take_ (i + 1) hlt
            have HRk := Lib.hid hrk
            have HYB := Lib.hid (HX.out.take (i + 1))
            clear hst hm hrk hyl hlow
            generalize xs.take (i + 1) = ys at HST HRk HYB
            by_cases hs : encNum m = ys
            · have hqs : ((strOfNums (encNum m)).toList == (strOfNums ys).toList) = true := by
                rw [str_eq _ _ (encNum_bytes m) HYB.out, decide_eq_true_iff]; exact hs
              have hv : R = (m, i + 1) := by rw [HV.out]; unfold takeV; rw [HST.out, if_pos hs]; rfl
              subst hv
              clear hs HST hbig hn
              have hj : IntKind.i64.wrap ((i : Int) + 1) = (i : Int) + 1 := IntWalk.i64_in _ (by omega)
              go_wp2_with fail
              have HBc : Hid (Below w.heap.size w w.drew) := Lib.hid (below_drew (Below.refl _ _))
              have cvk := string_of_reads (P := Try.prog) (src := 43) (dst := 9) (c := c) Try.underlying43 Try.underlying5 Try.underlying9 (HRk.out.below HBc.out)
              go_region_with (go_at_call 76; refine (rnum_calls m _ hm64).mono ?_; rintro e wx ⟨vx, rfl, hox, hbx⟩; obtain ⟨Ax, cx, rfl, hlx, hrx⟩ := hox.reads; have HBn := Lib.hid (HBc.out.trans (hbx.mono HBc.out.size)); clear hbx hox HBc; have HBc := HBn; clear HBn; have cvx := string_of_reads (P := Try.prog) (src := 43) (dst := 9) (c := cx) Try.underlying43 Try.underlying5 Try.underlying9 hrx; have cvk2 := string_of_reads (P := Try.prog) (src := 43) (dst := 9) (c := c) Try.underlying43 Try.underlying5 Try.underlying9 (HRk.out.below HBc.out); clear hlx hrx)
              all_goals
                (try clear cvk); (try clear cvx); (try clear cvk2)
                simp only [Exit.then]
                go_wp2_with fail
                go_ret2
                exact ⟨rfl, HBc.out⟩
            · have hqs : ((strOfNums (encNum m)).toList == (strOfNums ys).toList) = false := by
                rw [str_eq _ _ (encNum_bytes m) HYB.out, decide_eq_false_iff_not]; exact hs
              have hv : R = (0, 0) := by rw [HV.out]; unfold takeV; rw [HST.out, if_neg hs]; rfl
              subst hv
              clear hs HST hbig hn
              have hj : IntKind.i64.wrap ((i : Int) + 1) = (i : Int) + 1 := IntWalk.i64_in _ (by omega)
              go_wp2_with fail
              have HBc : Hid (Below w.heap.size w w.drew) := Lib.hid (below_drew (Below.refl _ _))
              have cvk := string_of_reads (P := Try.prog) (src := 43) (dst := 9) (c := c) Try.underlying43 Try.underlying5 Try.underlying9 (HRk.out.below HBc.out)
              go_region_with (go_at_call 76; refine (rnum_calls m _ hm64).mono ?_; rintro e wx ⟨vx, rfl, hox, hbx⟩; obtain ⟨Ax, cx, rfl, hlx, hrx⟩ := hox.reads; have HBn := Lib.hid (HBc.out.trans (hbx.mono HBc.out.size)); clear hbx hox HBc; have HBc := HBn; clear HBn; have cvx := string_of_reads (P := Try.prog) (src := 43) (dst := 9) (c := cx) Try.underlying43 Try.underlying5 Try.underlying9 hrx; have cvk2 := string_of_reads (P := Try.prog) (src := 43) (dst := 9) (c := c) Try.underlying43 Try.underlying5 Try.underlying9 (HRk.out.below HBc.out); clear hlx hrx)
              all_goals
                (try clear cvk); (try clear cvx); (try clear cvk2)
                simp only [Exit.then]
                go_wp2_with fail
                go_ret2
                exact ⟨rfl, HBc.out⟩
          · have hlb : decide ((z : Int) < 128) = false := by simp; omega
            have HM2 : Hid (m = acc 0 (xs.take (i + 1)) ∧ ∀ j, j < i + 1 → ¬ xs.getD j 0 < 128) := Lib.hid ⟨by rw [hm]; exact HAc.out, fun j hj => by
              by_cases hji : j = i
              · rw [hji, HZ.out]; omega
              · exact HM.out j (by omega)⟩
            clear hm hbig hn
            go_wp2_with fail
            go_roundw
            case measure => simp [intOf]; omega
            case rel => exact ⟨m, i + 1, rfl, by go_num, by omega, by omega, hm64, by trivial, Lib.hid HM2.out.1, Lib.hid HM2.out.2⟩
      · have hv : R = (0, 0) := by rw [HV.out]; unfold takeV; rw [take_ten xs HX.out (by omega) (fun j hj => HM.out j (by omega))]; rfl
        subst hv
        clear hn
        go_wp2_with fail
        go_ret2
        exact ⟨rfl, Below.refl _ _⟩
    · have hv : R = (0, 0) := by rw [HV.out]; unfold takeV; rw [take_end xs (fun j hj => HM.out j (by omega))]; rfl
      subst hv
      clear hn
      go_wp2_with fail
      go_ret2
      exact ⟨rfl, Below.refl _ _⟩


/-- How far a read went: 0 if it went bad. -/
def posR {α : Type} (p : α × Option Nat) : Nat := p.2.getD 0
theorem takeV_numR (xs : List Int) : takeV xs = ((numR xs (some 0)).1, posR (numR xs (some 0))) := by
  unfold takeV numR posR
  simp only [List.drop_zero]
  cases takeNum 0 true xs with
  | none => rfl
  | some p => simp
theorem numR_pos (xs : List Int) (k : Nat) (h : (numR xs (some 0)).2 = some k) : 0 < k := by
  unfold numR at h
  simp only [List.drop_zero] at h
  cases hn : takeNum 0 true xs with
  | none => rw [hn] at h; cases h
  | some p =>
    rw [hn] at h
    have := takeNum_le _ _ _ p.1 p.2 hn
    injection h with h
    omega

theorem cell_kept {w w' : World} (h : Below w.heap.size w w') {a : Addr} {v : Value} (hc : w.cell? a = some v) : w'.cell? a = some v := by
  rw [h.cell (World.block_lt_of_cell? w a hc)]; exact hc

/-- TakeInt behind its first byte. -/
def intC (z : Int) : Option (Nat × Nat) → Int × Option Nat
  | none => (0, none)
  | some p => if 1 < z ∨ 9223372036854775808 ≤ p.1 then (0, none) else (if z = 1 then -1 - (p.1 : Int) else (p.1 : Int), some (p.2 + 1))
theorem intR_intC (z : Int) (cs : List Int) : intR (z :: cs) (some 0) = intC z (takeNum 0 true cs) := by
  rw [intR_cons]
  cases takeNum 0 true cs with
  | none => rfl
  | some p => rw [intC, Nat.add_comm p.2 1]
theorem intC_bad (z : Int) (v : Option (Nat × Nat)) (h : 1 < z) : intC z v = (0, none) := by
  cases v with
  | none => rfl
  | some p => exact if_pos (.inl h)
theorem intC_some (z : Int) (m k : Nat) : intC z (some (m, k)) = if 1 < z ∨ 9223372036854775808 ≤ m then (0, none) else (if z = 1 then -1 - (m : Int) else (m : Int), some (k + 1)) := rfl

set_option maxRecDepth 100000 in
set_option maxHeartbeats 4000000 in
theorem rtakeint_calls (A : Option Addr) (c : Nat) (xs : List Int) (w : World) (hr : ReadsInt w .u8 A xs.length xs) (hc : xs.length ≤ c) (hb : IsBytes xs) :
    Calls Try.prog 89 #[.slice A xs.length c] w fun e w' => e = .returned (.tuple #[.int .i64 (intR xs (some 0)).1, .int .i64 (posR (intR xs (some 0)) : Nat)]) ∧ Below w.heap.size w w' := by
  have hl63 := hr.2.1
  have HR := Lib.hid hr
  have HX := Lib.hid hb
  cases xs with
  | nil =>
    clear hr hb
    go_enter Try.func89, Try.ntmps89
    go_wp2_with fail
    go_ret2
    exact ⟨rfl, Below.refl _ _⟩
  | cons z cs =>
    have hzb := hb z (by simp)
    obtain ⟨i0, hi0, hzz⟩ := Option.map_eq_some_iff.1 info5
    have hsz : i0.size = 1 := by simp only [Prod.mk.injEq] at hzz; exact hzz.2.1
    obtain ⟨ad, rfl, hcell⟩ := HR.out.at_ (0 : Int) (by omega) (by rw [List.length_cons]; omega)
    have ea : ad.add (0 : Int).toNat = ad := by simp [Addr.add]
    rw [ea] at hcell
    change w.cell? ad = some (.int .u8 z) at hcell
    have hlb : (((z :: cs).length : Int) == 0) = false := by rw [beq_eq_false_iff_ne, List.length_cons]; omega
    have hcut := cut_from (P := Try.prog) 43 5 .i64 Try.underlying43 hi0 1 hsz (some ad) (z :: cs).length c 1 (by omega) (by rw [List.length_cons]; omega)
    have hrd := HR.out.drop_ 1 (by rw [List.length_cons]; omega) hc
    rw [show (1 : Int).toNat = 1 from rfl] at hcut
    rw [List.drop_one, List.tail_cons] at hrd
    rw [show (z :: cs).length - 1 = cs.length from by rw [List.length_cons]; rfl] at hcut hrd
    rw [Nat.mul_one] at hcut
    have hcs : cs.length ≤ c - 1 := by rw [List.length_cons] at hc; omega
    have HRC := Lib.hid hrd
    have HXC : Hid (IsBytes cs) := Lib.hid (fun x hx => hb x (by simp [hx]))
    rw [intR_intC]
    generalize (if c = 1 then some ad else (some ad).map fun x => x.add 1) = A1 at hcut HRC
    clear hr hb hrd ea hi0 hsz hzz
    obtain ⟨v, hv⟩ : ∃ v, v = takeNum 0 true cs := ⟨_, rfl⟩
    rw [← hv]
    have htv : takeV cs = v.getD (0, 0) := by rw [hv]; rfl
    have hle : ∀ p, v = some p → 0 < p.2 ∧ p.2 ≤ cs.length ∧ p.1 < 18446744073709551616 := fun p hp => takeNum_le cs 0 true p.1 p.2 (by rw [← hv]; exact hp)
    have HTV := Lib.hid htv
    clear hv htv
    generalize hN : (z :: cs).length = N at hlb hcut hc HR hl63 ⊢
    have hNl : cs.length + 1 = N := by rw [← hN, List.length_cons]
    clear hN
    by_cases hz : 1 < z
    · have hzb : decide (1 < z) = true := by simpa using hz
      rw [intC_bad z v hz]
      clear hle hcut
      go_enter Try.func89, Try.ntmps89
      go_wp2_with fail
      go_ret2
      exact ⟨rfl, Below.refl _ _⟩
    · have hzb : decide (1 < z) = false := by simpa using hz
      cases v with
      | none =>
        clear hle
        go_enter Try.func89, Try.ntmps89
        go_wp2_with ((with_reducible refine (rtakenum_calls _ _ _ _ HRC.out hcs HXC.out).mono ?_); rw [HTV.out]; rintro e w1 ⟨rfl, hb1⟩; have HB1 := Lib.hid hb1; clear hb1; have hcell1 := cell_kept HB1.out hcell)
        go_ret2
        exact ⟨rfl, HB1.out⟩
      | some p =>
        obtain ⟨m, k⟩ := p
        obtain ⟨hk0, hk1, hm64⟩ := hle _ rfl
        clear hle
        rw [intC_some]
        dsimp only at hk0 hk1 hm64
        have hkb : (((k : Nat) : Int) == 0) = false := by rw [beq_eq_false_iff_ne]; omega
        by_cases hbig : 9223372036854775808 ≤ m
        · rw [if_pos (.inr hbig)]
          have hbb : decide ((9223372036854775808 : Int) ≤ (m : Int)) = true := by simp; omega
          clear hbig hm64
          go_enter Try.func89, Try.ntmps89
          go_wp2_with ((with_reducible refine (rtakenum_calls _ _ _ _ HRC.out hcs HXC.out).mono ?_); rw [HTV.out]; rintro e w1 ⟨rfl, hb1⟩; have HB1 := Lib.hid hb1; clear hb1; have hcell1 := cell_kept HB1.out hcell)
          go_ret2
          exact ⟨rfl, HB1.out⟩
        · rw [if_neg (by omega)]
          have hbb : decide ((9223372036854775808 : Int) ≤ (m : Int)) = false := by simp; omega
          have hw : IntKind.i64.wrap (m : Int) = (m : Int) := IntWalk.i64_in _ (by omega)
          have hkw : IntKind.i64.wrap ((k : Int) + 1) = (k : Int) + 1 := IntWalk.i64_in _ (by omega)
          by_cases h1 : z = 1
          · rw [if_pos h1]
            subst h1
            have hn1 : IntKind.i64.wrap (-(m : Int)) = -(m : Int) := IntWalk.i64_in _ (by omega)
            have hn2 : IntKind.i64.wrap (-(m : Int) - 1) = -1 - (m : Int) := by rw [IntWalk.i64_in _ (by omega)]; omega
            clear hbig hm64
            go_enter Try.func89, Try.ntmps89
            go_wp2_with ((with_reducible refine (rtakenum_calls _ _ _ _ HRC.out hcs HXC.out).mono ?_); rw [HTV.out]; rintro e w1 ⟨rfl, hb1⟩; have HB1 := Lib.hid hb1; clear hb1; have hcell1 := cell_kept HB1.out hcell)
            go_ret2
            exact ⟨rfl, HB1.out⟩
          · rw [if_neg h1]
            have h1b : (z == 1) = false := by rw [beq_eq_false_iff_ne]; exact h1
            clear hbig hm64
            go_enter Try.func89, Try.ntmps89
            go_wp2_with ((with_reducible refine (rtakenum_calls _ _ _ _ HRC.out hcs HXC.out).mono ?_); rw [HTV.out]; rintro e w1 ⟨rfl, hb1⟩; have HB1 := Lib.hid hb1; clear hb1; have hcell1 := cell_kept HB1.out hcell)
            go_ret2
            exact ⟨rfl, HB1.out⟩

set_option maxRecDepth 100000 in
set_option maxHeartbeats 4000000 in
theorem rtaketext_calls (A : Option Addr) (c : Nat) (xs : List Int) (w : World) (hr : ReadsInt w .u8 A xs.length xs) (hc : xs.length ≤ c) (hb : IsBytes xs) :
    Calls Try.prog 90 #[.slice A xs.length c] w fun e w' => e = .returned (.tuple #[.string (strOfNums (textR xs (some 0)).1), .int .i64 (posR (textR xs (some 0)) : Nat)]) ∧ Below w.heap.size w w' := by
  have hl63 := hr.2.1
  have HR := Lib.hid hr
  have HX := Lib.hid hb
  have HTV := Lib.hid (takeV_numR xs)
  have hpos := numR_pos xs
  have hle := numR_le xs (some 0)
  have hlt := numR_lt xs (some 0)
  have hno := numR_none xs (some 0)
  unfold textR
  obtain ⟨p, hp⟩ : ∃ p, p = numR xs (some 0) := ⟨_, rfl⟩
  rw [← hp] at HTV hpos hle hlt hno ⊢
  clear hr hb hp
  obtain ⟨n, s⟩ := p
  dsimp only at hpos hle hlt hno ⊢
  cases s with
  | none =>
    obtain rfl : n = 0 := hno rfl
    have HTV : Hid (takeV xs = (0, 0)) := HTV
    clear hpos hle hno
    go_enter Try.func90, Try.ntmps90
    go_wp2_with ((with_reducible refine (rtakenum_calls _ _ _ _ HR.out hc HX.out).mono ?_); rw [HTV.out]; rintro e w1 ⟨rfl, hb1⟩; have HB1 := Lib.hid hb1; clear hb1)
    go_ret2
    exact ⟨rfl, HB1.out⟩
  | some a =>
    have hpos := hpos a rfl
    have hle := hle a rfl
    have HTV : Hid (takeV xs = (n, a)) := HTV
    clear hno
    dsimp only
    have hkb : (((a : Nat) : Int) == 0) = false := by rw [beq_eq_false_iff_ne]; omega
    obtain ⟨N, hN⟩ : ∃ N, N = xs.length := ⟨_, rfl⟩
    have hi1 : IntKind.i64.wrap ((N : Int) - (a : Int)) = (N : Int) - (a : Int) := IntWalk.i64_in _ (by omega)
    have hi2 : IntKind.u64.wrap ((N : Int) - (a : Int)) = (N : Int) - (a : Int) := by show ((N : Int) - (a : Int)) % 18446744073709551616 = _; exact Int.emod_eq_of_lt (by omega) (by omega)
    by_cases hbad : 1048576 < n ∨ xs.length - a < n
    · rw [if_pos hbad]
      rw [← hN] at hl63 hle hc HR hbad ⊢
      by_cases h1 : 1048576 < n
      · have hb1 : decide ((1048576 : Int) < (n : Int)) = true := by simp; omega
        clear hbad h1 hi1 hi2
        rw [hN] at hc HR ⊢
        go_enter Try.func90, Try.ntmps90
        go_wp2_with ((with_reducible refine (rtakenum_calls _ _ _ _ HR.out hc HX.out).mono ?_); rw [HTV.out]; rintro e w1 ⟨rfl, hb1⟩; have HB1 := Lib.hid hb1; clear hb1)
        go_ret2
        exact ⟨rfl, HB1.out⟩
      · have hb1 : decide ((1048576 : Int) < (n : Int)) = false := by simp; omega
        have hb2 : decide ((N : Int) - (a : Int) < (n : Int)) = true := by simp; omega
        clear hbad h1
        rw [hN] at hc HR hb2 hi1 hi2 ⊢
        go_enter Try.func90, Try.ntmps90
        go_wp2_with ((with_reducible refine (rtakenum_calls _ _ _ _ HR.out hc HX.out).mono ?_); rw [HTV.out]; rintro e w1 ⟨rfl, hb1⟩; have HB1 := Lib.hid hb1; clear hb1)
        go_ret2
        exact ⟨rfl, HB1.out⟩
    · rw [if_neg hbad]
      have hb1 : decide ((1048576 : Int) < (n : Int)) = false := by simp; omega
      have hb2 : decide ((xs.length : Int) - (a : Int) < (n : Int)) = false := by simp; omega
      obtain ⟨i0, hi0, hzz⟩ := Option.map_eq_some_iff.1 info5
      have hsz : i0.size = 1 := by simp only [Prod.mk.injEq] at hzz; exact hzz.2.1
      obtain ⟨A2, hcut, hrd, _⟩ := print_mid_int (P := Try.prog) (k := .u8) 43 5 Try.underlying43 hi0 hsz A c xs (a : Int) ((a : Int) + (n : Int)) (by omega) (by omega) (by omega) hc
      have em : (xs.take ((a : Int) + (n : Int)).toNat).drop (a : Int).toNat = (xs.drop a).take n := by
        rw [Int.toNat_natCast, show ((a : Int) + (n : Int)).toNat = a + n from by omega, List.take_drop]
      rw [em] at hcut hrd
      have HRD := Lib.hid (hrd w HR.out)
      have hn1 : IntKind.i64.wrap (n : Int) = (n : Int) := IntWalk.i64_in _ (by omega)
      have hn2 : IntKind.i64.wrap ((a : Int) + (n : Int)) = (a : Int) + (n : Int) := IntWalk.i64_in _ (by omega)
      rw [hN] at hi1 hi2
      clear hbad hi0 hsz hzz hrd em hN
      generalize (xs.drop a).take n = ys at hcut HRD
      clear hlt
      go_enter Try.func90, Try.ntmps90
      go_wp2_with ((with_reducible refine (rtakenum_calls _ _ _ _ HR.out hc HX.out).mono ?_); rw [HTV.out]; rintro e w1 ⟨rfl, hb1⟩; have HB1 := Lib.hid hb1; clear hb1; have cvt := string_of_reads (P := Try.prog) (src := 43) (dst := 9) (c := c - a) Try.underlying43 Try.underlying5 Try.underlying9 (HRD.out.below HB1.out))
      go_ret2
      exact ⟨rfl, HB1.out⟩



/-- The reference's Reader at block g: it stands at a; is it bad? The bytes lie in w0. -/
structure Rf (w0 w : World) (g : Nat) (xs : List Int) (a : Nat) (bad : Bool) : Prop where
  row : ∃ A c, w.heap[g]? = some (.cells #[.slice A (xs.drop a).length c, .bool bad] 112 (0, 0)) ∧ ReadsInt w0 .u8 A (xs.drop a).length (xs.drop a) ∧ (xs.drop a).length ≤ c
  low : w0.heap.size ≤ g
  bel : Below w0.heap.size w0 w
  bytes : IsBytes xs
theorem Rf.below {w0 w w1 : World} {g : Nat} {xs : List Int} {a : Nat} {bad : Bool} (h : Rf w0 w g xs a bad) (hb : Below w.heap.size w w1) : Rf w0 w1 g xs a bad := by
  obtain ⟨⟨A, c, h1, h2, h3⟩, h4, h5, h6⟩ := h
  exact ⟨⟨A, c, blk_below h1 hb, h2, h3⟩, h4, h5.trans (hb.mono h5.size), h6⟩
theorem Rf.set {w0 w w1 : World} {g : Nat} {xs : List Int} {a a' : Nat} {bad bad' : Bool} (h : Rf w0 w g xs a bad) {A : Option Addr} {c : Nat} (h1 : w1.heap[g]? = some (.cells #[.slice A (xs.drop a').length c, .bool bad'] 112 (0, 0))) (h2 : ReadsInt w0 .u8 A (xs.drop a').length (xs.drop a')) (h3 : (xs.drop a').length ≤ c) (hc : Chg (fun k => k = g) w w1) : Rf w0 w1 g xs a' bad' :=
  ⟨⟨A, c, h1, h2, h3⟩, h.low, h.bel.trans (hc.below h.bel.size fun i hi hk => by have := h.low; omega), h.bytes⟩
theorem posR_none {α : Type} {p : α × Option Nat} (h : p.2 = none) : posR p = 0 := by unfold posR; rw [h]; rfl
theorem posR_some {α : Type} {p : α × Option Nat} {k : Nat} (h : p.2 = some k) : posR p = k := by unfold posR; rw [h]; rfl
theorem intR_pos (xs : List Int) (k : Nat) (h : (intR xs (some 0)).2 = some k) : 0 < k ∧ k ≤ xs.length := by
  cases xs with
  | nil => cases h
  | cons z cs =>
    rw [intR_intC] at h
    cases hn : takeNum 0 true cs with
    | none => rw [hn] at h; cases h
    | some p =>
      rw [hn] at h
      have := takeNum_le _ _ _ p.1 p.2 hn
      rw [intC_some] at h
      split at h
      · cases h
      · injection h with h
        rw [List.length_cons]
        omega
theorem textR_pos (xs : List Int) (k : Nat) (h : (textR xs (some 0)).2 = some k) : 0 < k ∧ k ≤ xs.length := by
  unfold textR at h
  cases hn : (numR xs (some 0)).2 with
  | none => rw [hn] at h; cases h
  | some a =>
    have h1 := numR_pos xs a hn
    have h2 := numR_le xs (some 0) a hn
    rw [hn] at h
    dsimp only at h
    split at h
    · cases h
    · injection h with h
      omega
theorem numR_pos2 (xs : List Int) (k : Nat) (h : (numR xs (some 0)).2 = some k) : 0 < k ∧ k ≤ xs.length := ⟨numR_pos xs k h, numR_le xs (some 0) k h⟩

set_option maxRecDepth 100000 in
set_option maxHeartbeats 4000000 in
theorem rftext_calls {w0 w : World} {g : Nat} {xs : List Int} {a : Nat} {bad : Bool} (h : Rf w0 w g xs a bad) :
    Calls Try.prog 58 #[.pointer (some ⟨g, 0, none⟩)] w fun e w' => e = .returned (.string (strOfNums (textR (xs.drop a) (some 0)).1)) ∧ Rf w0 w' g xs (a + posR (textR (xs.drop a) (some 0))) (bad || (textR (xs.drop a) (some 0)).2.isNone) ∧ Chg (fun k => k = g) w w' := by
  have H := Lib.hid h
  obtain ⟨⟨A, c, h1, h2, h3⟩, h4, h5, h6⟩ := h
  have hpos := textR_pos (xs.drop a)
  obtain ⟨p, hp⟩ : ∃ p, p = textR (xs.drop a) (some 0) := ⟨_, rfl⟩
  rw [← hp] at hpos ⊢
  have HP := Lib.hid hp
  clear hp
  obtain ⟨ys, hys⟩ : ∃ ys, ys = xs.drop a := ⟨_, rfl⟩
  rw [← hys] at h1 h2 h3 hpos HP
  have HYS := Lib.hid hys
  have HBY : Hid (IsBytes ys) := Lib.hid (by rw [hys]; exact h6.drop a)
  have hc0 : w.cell? ⟨g, 0, none⟩ = some (.slice A ys.length c) := by rw [blk_cell h1]; rfl
  have hr0 := h2.below h5
  have HBK := Lib.hid h1
  have HR0 := Lib.hid h2
  have HR := Lib.hid hr0
  clear hys h1 h2 h4 h5 h6 hr0
  obtain ⟨i0, hi0, hzz⟩ := Option.map_eq_some_iff.1 info5
  have hsz : i0.size = 1 := by simp only [Prod.mk.injEq] at hzz; exact hzz.2.1
  have hl63 := HR.out.2.1
  go_enter Try.func58, Try.ntmps58
  go_wp2_with fail
  ((with_reducible refine (rtaketext_calls _ _ _ _ HR.out h3 HBY.out).mono ?_); rw [← HP.out]; rintro e w1 ⟨rfl, hb⟩)
  have HB1 := Lib.hid hb
  have HBK1 := Lib.hid (blk_below HBK.out hb)
  clear hb hc0
  obtain ⟨v, s⟩ := p
  obtain ⟨kk, hkk⟩ : ∃ kk, kk = posR (v, s) := ⟨_, rfl⟩
  rw [← hkk]
  have hkl : kk ≤ ys.length := by
    cases s with
    | none => rw [hkk, posR_none rfl]; omega
    | some k => rw [hkk, posR_some rfl]; exact (hpos k rfl).2
  have hcut := cut_from (P := Try.prog) 43 5 .i64 Try.underlying43 hi0 1 hsz A ys.length c (kk : Int) (by omega) (by omega)
  have hrd := HR0.out.drop_ kk hkl h3
  rw [Int.toNat_natCast, Nat.mul_one] at hcut
  have hdl : (ys.drop kk).length = ys.length - kk := List.length_drop
  have HDL := Lib.hid hdl
  have hkz : ((kk : Int) == 0) = s.isNone := by
    cases s with
    | none => rw [hkk, posR_none rfl]; rfl
    | some k => rw [hkk, posR_some rfl]; have := (hpos k rfl).1; rw [Option.isNone_some, beq_eq_false_iff_ne]; omega
  have HKK := Lib.hid hkk
  have hdd : ys.drop kk = xs.drop (a + kk) := by rw [HYS.out, List.drop_drop]
  have HDD := Lib.hid hdd
  generalize (if c = kk then A else A.map fun x => x.add kk) = A2 at hcut hrd
  have HRD := Lib.hid hrd
  have HPOS := Lib.hid hpos
  clear hkk hpos hrd hdl hdd hi0 hsz hzz
  dsimp only
  obtain ⟨sn, hsn⟩ : ∃ sn, sn = s.isNone := ⟨_, rfl⟩
  rw [← hsn] at hkz
  have HSN := Lib.hid hsn
  clear hsn
  cases bad with
  | false =>
    have hc1 : w1.cell? ⟨g, 1, none⟩ = some (.bool false) := by rw [blk_cell HBK1.out]; rfl
    have hf1 : w1.frozen? ⟨g, 1, none⟩ = false := blk_frozen HBK1.out 1
    go_upto_region 3 with fail
    have HBK2 : Hid ((w1.setCell ⟨g, 1, none⟩ (.bool sn)).heap[g]? = some (.cells #[.slice A ys.length c, .bool sn] 112 (0, 0))) := Lib.hid (blk_set HBK1.out 1 (.bool sn))
    have HC2 := Lib.hid (((Chg.of_same HB1.out (fun k => k = g)).setCell (p := ⟨g, 1, none⟩) (.inl rfl) (.bool sn)))
    clear hc1 hf1
    generalize w1.setCell ⟨g, 1, none⟩ (.bool sn) = w2 at HBK2 HC2 ⊢
    have hc0 : w2.cell? ⟨g, 0, none⟩ = some (.slice A ys.length c) := by rw [blk_cell HBK2.out]; rfl
    have hf0 : w2.frozen? ⟨g, 0, none⟩ = false := blk_frozen HBK2.out 0
    go_wp2_with fail
    go_ret
    have hl2 : (xs.drop (a + kk)).length = ys.length - kk := by rw [← HDD.out]; exact HDL.out
    have hr2 : ReadsInt w0 .u8 A2 (xs.drop (a + kk)).length (xs.drop (a + kk)) := by rw [hl2, ← HDD.out]; exact HRD.out
    have hb2 := blk_set HBK2.out 0 (.slice A2 (ys.length - kk) (c - kk))
    have hcc := HC2.out.setCell (p := ⟨g, 0, none⟩) (.inl rfl) (.slice A2 (ys.length - kk) (c - kk))
    rw [← hl2] at hb2 hcc ⊢
    refine ⟨rfl, ?_, hcc⟩
    show Rf w0 _ g xs (a + posR (v, s)) (false || s.isNone)
    rw [← HKK.out, ← HSN.out]
    exact H.out.set hb2 hr2 (by rw [hl2]; omega) hcc
  | true =>
    have hc1 : w1.cell? ⟨g, 1, none⟩ = some (.bool true) := by rw [blk_cell HBK1.out]; rfl
    have hf1 : w1.frozen? ⟨g, 1, none⟩ = false := blk_frozen HBK1.out 1
    go_upto_region 3 with fail
    have HBK2 : Hid ((w1.setCell ⟨g, 1, none⟩ (.bool true)).heap[g]? = some (.cells #[.slice A ys.length c, .bool true] 112 (0, 0))) := Lib.hid (blk_set HBK1.out 1 (.bool true))
    have HC2 := Lib.hid (((Chg.of_same HB1.out (fun k => k = g)).setCell (p := ⟨g, 1, none⟩) (.inl rfl) (.bool true)))
    clear hc1 hf1
    generalize w1.setCell ⟨g, 1, none⟩ (.bool true) = w2 at HBK2 HC2 ⊢
    have hc0 : w2.cell? ⟨g, 0, none⟩ = some (.slice A ys.length c) := by rw [blk_cell HBK2.out]; rfl
    have hf0 : w2.frozen? ⟨g, 0, none⟩ = false := blk_frozen HBK2.out 0
    go_wp2_with fail
    go_ret
    have hl2 : (xs.drop (a + kk)).length = ys.length - kk := by rw [← HDD.out]; exact HDL.out
    have hr2 : ReadsInt w0 .u8 A2 (xs.drop (a + kk)).length (xs.drop (a + kk)) := by rw [hl2, ← HDD.out]; exact HRD.out
    have hb2 := blk_set HBK2.out 0 (.slice A2 (ys.length - kk) (c - kk))
    have hcc := HC2.out.setCell (p := ⟨g, 0, none⟩) (.inl rfl) (.slice A2 (ys.length - kk) (c - kk))
    rw [← hl2] at hb2 hcc ⊢
    refine ⟨rfl, ?_, hcc⟩
    show Rf w0 _ g xs (a + posR (v, s)) (true || s.isNone)
    rw [← HKK.out, ← HSN.out]
    exact H.out.set hb2 hr2 (by rw [hl2]; omega) hcc

set_option maxRecDepth 100000 in
set_option maxHeartbeats 4000000 in
theorem rfint_calls {w0 w : World} {g : Nat} {xs : List Int} {a : Nat} {bad : Bool} (h : Rf w0 w g xs a bad) :
    Calls Try.prog 57 #[.pointer (some ⟨g, 0, none⟩)] w fun e w' => e = .returned (.int .i64 (intR (xs.drop a) (some 0)).1) ∧ Rf w0 w' g xs (a + posR (intR (xs.drop a) (some 0))) (bad || (intR (xs.drop a) (some 0)).2.isNone) ∧ Chg (fun k => k = g) w w' := by
  have H := Lib.hid h
  obtain ⟨⟨A, c, h1, h2, h3⟩, h4, h5, h6⟩ := h
  have hpos := intR_pos (xs.drop a)
  obtain ⟨p, hp⟩ : ∃ p, p = intR (xs.drop a) (some 0) := ⟨_, rfl⟩
  rw [← hp] at hpos ⊢
  have HP := Lib.hid hp
  clear hp
  obtain ⟨ys, hys⟩ : ∃ ys, ys = xs.drop a := ⟨_, rfl⟩
  rw [← hys] at h1 h2 h3 hpos HP
  have HYS := Lib.hid hys
  have HBY : Hid (IsBytes ys) := Lib.hid (by rw [hys]; exact h6.drop a)
  have hc0 : w.cell? ⟨g, 0, none⟩ = some (.slice A ys.length c) := by rw [blk_cell h1]; rfl
  have hr0 := h2.below h5
  have HBK := Lib.hid h1
  have HR0 := Lib.hid h2
  have HR := Lib.hid hr0
  clear hys h1 h2 h4 h5 h6 hr0
  obtain ⟨i0, hi0, hzz⟩ := Option.map_eq_some_iff.1 info5
  have hsz : i0.size = 1 := by simp only [Prod.mk.injEq] at hzz; exact hzz.2.1
  have hl63 := HR.out.2.1
  go_enter Try.func57, Try.ntmps57
  go_wp2_with fail
  ((with_reducible refine (rtakeint_calls _ _ _ _ HR.out h3 HBY.out).mono ?_); rw [← HP.out]; rintro e w1 ⟨rfl, hb⟩)
  have HB1 := Lib.hid hb
  have HBK1 := Lib.hid (blk_below HBK.out hb)
  clear hb hc0
  obtain ⟨v, s⟩ := p
  obtain ⟨kk, hkk⟩ : ∃ kk, kk = posR (v, s) := ⟨_, rfl⟩
  rw [← hkk]
  have hkl : kk ≤ ys.length := by
    cases s with
    | none => rw [hkk, posR_none rfl]; omega
    | some k => rw [hkk, posR_some rfl]; exact (hpos k rfl).2
  have hcut := cut_from (P := Try.prog) 43 5 .i64 Try.underlying43 hi0 1 hsz A ys.length c (kk : Int) (by omega) (by omega)
  have hrd := HR0.out.drop_ kk hkl h3
  rw [Int.toNat_natCast, Nat.mul_one] at hcut
  have hdl : (ys.drop kk).length = ys.length - kk := List.length_drop
  have HDL := Lib.hid hdl
  have hkz : ((kk : Int) == 0) = s.isNone := by
    cases s with
    | none => rw [hkk, posR_none rfl]; rfl
    | some k => rw [hkk, posR_some rfl]; have := (hpos k rfl).1; rw [Option.isNone_some, beq_eq_false_iff_ne]; omega
  have HKK := Lib.hid hkk
  have hdd : ys.drop kk = xs.drop (a + kk) := by rw [HYS.out, List.drop_drop]
  have HDD := Lib.hid hdd
  generalize (if c = kk then A else A.map fun x => x.add kk) = A2 at hcut hrd
  have HRD := Lib.hid hrd
  have HPOS := Lib.hid hpos
  clear hkk hpos hrd hdl hdd hi0 hsz hzz
  dsimp only
  obtain ⟨sn, hsn⟩ : ∃ sn, sn = s.isNone := ⟨_, rfl⟩
  rw [← hsn] at hkz
  have HSN := Lib.hid hsn
  clear hsn
  cases bad with
  | false =>
    have hc1 : w1.cell? ⟨g, 1, none⟩ = some (.bool false) := by rw [blk_cell HBK1.out]; rfl
    have hf1 : w1.frozen? ⟨g, 1, none⟩ = false := blk_frozen HBK1.out 1
    go_upto_region 3 with fail
    have HBK2 : Hid ((w1.setCell ⟨g, 1, none⟩ (.bool sn)).heap[g]? = some (.cells #[.slice A ys.length c, .bool sn] 112 (0, 0))) := Lib.hid (blk_set HBK1.out 1 (.bool sn))
    have HC2 := Lib.hid (((Chg.of_same HB1.out (fun k => k = g)).setCell (p := ⟨g, 1, none⟩) (.inl rfl) (.bool sn)))
    clear hc1 hf1
    generalize w1.setCell ⟨g, 1, none⟩ (.bool sn) = w2 at HBK2 HC2 ⊢
    have hc0 : w2.cell? ⟨g, 0, none⟩ = some (.slice A ys.length c) := by rw [blk_cell HBK2.out]; rfl
    have hf0 : w2.frozen? ⟨g, 0, none⟩ = false := blk_frozen HBK2.out 0
    go_wp2_with fail
    go_ret
    have hl2 : (xs.drop (a + kk)).length = ys.length - kk := by rw [← HDD.out]; exact HDL.out
    have hr2 : ReadsInt w0 .u8 A2 (xs.drop (a + kk)).length (xs.drop (a + kk)) := by rw [hl2, ← HDD.out]; exact HRD.out
    have hb2 := blk_set HBK2.out 0 (.slice A2 (ys.length - kk) (c - kk))
    have hcc := HC2.out.setCell (p := ⟨g, 0, none⟩) (.inl rfl) (.slice A2 (ys.length - kk) (c - kk))
    rw [← hl2] at hb2 hcc ⊢
    refine ⟨rfl, ?_, hcc⟩
    show Rf w0 _ g xs (a + posR (v, s)) (false || s.isNone)
    rw [← HKK.out, ← HSN.out]
    exact H.out.set hb2 hr2 (by rw [hl2]; omega) hcc
  | true =>
    have hc1 : w1.cell? ⟨g, 1, none⟩ = some (.bool true) := by rw [blk_cell HBK1.out]; rfl
    have hf1 : w1.frozen? ⟨g, 1, none⟩ = false := blk_frozen HBK1.out 1
    go_upto_region 3 with fail
    have HBK2 : Hid ((w1.setCell ⟨g, 1, none⟩ (.bool true)).heap[g]? = some (.cells #[.slice A ys.length c, .bool true] 112 (0, 0))) := Lib.hid (blk_set HBK1.out 1 (.bool true))
    have HC2 := Lib.hid (((Chg.of_same HB1.out (fun k => k = g)).setCell (p := ⟨g, 1, none⟩) (.inl rfl) (.bool true)))
    clear hc1 hf1
    generalize w1.setCell ⟨g, 1, none⟩ (.bool true) = w2 at HBK2 HC2 ⊢
    have hc0 : w2.cell? ⟨g, 0, none⟩ = some (.slice A ys.length c) := by rw [blk_cell HBK2.out]; rfl
    have hf0 : w2.frozen? ⟨g, 0, none⟩ = false := blk_frozen HBK2.out 0
    go_wp2_with fail
    go_ret
    have hl2 : (xs.drop (a + kk)).length = ys.length - kk := by rw [← HDD.out]; exact HDL.out
    have hr2 : ReadsInt w0 .u8 A2 (xs.drop (a + kk)).length (xs.drop (a + kk)) := by rw [hl2, ← HDD.out]; exact HRD.out
    have hb2 := blk_set HBK2.out 0 (.slice A2 (ys.length - kk) (c - kk))
    have hcc := HC2.out.setCell (p := ⟨g, 0, none⟩) (.inl rfl) (.slice A2 (ys.length - kk) (c - kk))
    rw [← hl2] at hb2 hcc ⊢
    refine ⟨rfl, ?_, hcc⟩
    show Rf w0 _ g xs (a + posR (v, s)) (true || s.isNone)
    rw [← HKK.out, ← HSN.out]
    exact H.out.set hb2 hr2 (by rw [hl2]; omega) hcc

/-- One step: the state behind it, and the value where it is not bad. -/
def Stp {α : Type} (p : α × Option Nat) (v : α) (s : Option Nat) : Prop := s = p.2 ∧ (s ≠ none → v = p.1)
def Rg (w0 w : World) (g : Nat) (xs : List Int) : Option Nat → Prop
  | none => ∃ a, Rf w0 w g xs a true
  | some a => Rf w0 w g xs a false ∧ a ≤ xs.length
def sh (a : Nat) (s : Option Nat) : Option Nat := s.map (a + ·)
theorem sh_none (a : Nat) : sh a none = none := rfl
theorem sh_some (a b : Nat) : sh a (some b) = some (a + b) := rfl
theorem shB (xs : List Int) (a : Nat) (ha : a ≤ xs.length) (s : Option Nat) : byteR xs (sh a s) = ((byteR (xs.drop a) s).1, sh a (byteR (xs.drop a) s).2) := by
  cases s with
  | none => rfl
  | some b =>
    rw [sh_some]
    have hl : (xs.drop a).length = xs.length - a := List.length_drop
    by_cases h : b < (xs.drop a).length
    · simp only [byteR, if_pos h]
      rw [if_pos (by omega)]
      refine Prod.ext ?_ ?_
      · show xs.getD (a + b) 0 = (xs.drop a).getD b 0
        rw [List.getD_eq_getElem?_getD, List.getD_eq_getElem?_getD, List.getElem?_drop]
      · show some (a + b + 1) = sh a (some (b + 1))
        rw [sh_some, Nat.add_assoc]
    · simp only [byteR, if_neg h]
      rw [if_neg (by omega)]
      rfl
theorem shN (xs : List Int) (a : Nat) (s : Option Nat) : numR xs (sh a s) = ((numR (xs.drop a) s).1, sh a (numR (xs.drop a) s).2) := by
  cases s with
  | none => rfl
  | some b =>
    rw [sh_some]
    simp only [numR, List.drop_drop]
    cases takeNum 0 true (xs.drop (a + b)) with
    | none => rfl
    | some p => simp only [sh_some, Nat.add_assoc]
theorem shI (xs : List Int) (a : Nat) (ha : a ≤ xs.length) (s : Option Nat) : intR xs (sh a s) = ((intR (xs.drop a) s).1, sh a (intR (xs.drop a) s).2) := by
  unfold intR
  rw [shB xs a ha, shN]
  dsimp only
  generalize numR (xs.drop a) (byteR (xs.drop a) s).2 = q
  obtain ⟨n, u⟩ := q
  cases u with
  | none => rfl
  | some c =>
    rw [sh_some]
    dsimp only
    split
    · rfl
    · rfl
theorem shT (xs : List Int) (a : Nat) (s : Option Nat) : textR xs (sh a s) = ((textR (xs.drop a) s).1, sh a (textR (xs.drop a) s).2) := by
  unfold textR
  rw [shN]
  dsimp only
  generalize numR (xs.drop a) s = q
  obtain ⟨n, u⟩ := q
  cases u with
  | none => rfl
  | some c =>
    rw [sh_some]
    dsimp only
    have hl : (xs.drop a).length = xs.length - a := List.length_drop
    rw [hl, List.drop_drop, Nat.sub_sub]
    split
    · rfl
    · rw [sh_some, Nat.add_assoc]
theorem shS (xs : List Int) (a : Nat) (s : Option Nat) : textS xs (sh a s) = ((textS (xs.drop a) s).1, sh a (textS (xs.drop a) s).2) := by
  unfold textS
  rw [shT]
theorem leftR_sh (xs : List Int) (a : Nat) (ha : a ≤ xs.length) (s : Option Nat) : leftR xs (sh a s) = leftR (xs.drop a) s := by
  have hl : (xs.drop a).length = xs.length - a := List.length_drop
  cases s with
  | none => simp only [leftR, sh_none, Option.getD_none]; omega
  | some b => simp only [leftR, sh_some, Option.getD_some]; omega
theorem byteR_pos2 (xs : List Int) (k : Nat) (h : (byteR xs (some 0)).2 = some k) : 0 < k ∧ k ≤ xs.length := by
  unfold byteR at h
  dsimp only at h
  split at h
  · injection h with h; omega
  · cases h
/-- What the exact contract says, told as a step. -/
theorem rg_step {α : Type} {w0 w' : World} {g : Nat} {xs : List Int} (f : List Int → Option Nat → α × Option Nat) (hsh : ∀ a, a ≤ xs.length → f xs (sh a (some 0)) = ((f (xs.drop a) (some 0)).1, sh a (f (xs.drop a) (some 0)).2)) (hp : ∀ ys k, (f ys (some 0)).2 = some k → 0 < k ∧ k ≤ ys.length) (hn : (f xs none).2 = none) (s : Option Nat) (a : Nat) (bad : Bool) (ha : s = none → bad = true) (hb : ∀ b, s = some b → bad = false ∧ a = b ∧ b ≤ xs.length) (h : Rf w0 w' g xs (a + posR (f (xs.drop a) (some 0))) (bad || (f (xs.drop a) (some 0)).2.isNone)) : ∃ s', Stp (f xs s) (f (xs.drop a) (some 0)).1 s' ∧ Rg w0 w' g xs s' := by
  cases s with
  | none =>
    obtain rfl := ha rfl
    rw [Bool.true_or] at h
    exact ⟨none, ⟨hn.symm, fun h => absurd rfl h⟩, ⟨_, h⟩⟩
  | some b =>
    obtain ⟨rfl, rfl, hl⟩ := hb b rfl
    have e := hsh a hl
    rw [sh_some, Nat.add_zero] at e
    refine ⟨(f xs (some a)).2, ⟨rfl, fun _ => by rw [e]⟩, ?_⟩
    rw [e]
    have hp' := hp (xs.drop a)
    have hdl : (xs.drop a).length = xs.length - a := List.length_drop
    generalize f (xs.drop a) (some 0) = q at h hp' ⊢
    obtain ⟨v, u⟩ := q
    cases u with
    | none => rw [Bool.false_or, Option.isNone_none] at h; exact ⟨_, h⟩
    | some k =>
      rw [Bool.false_or, Option.isNone_some, posR_some rfl] at h
      have := hp' k rfl
      exact ⟨h, by show a + k ≤ xs.length; omega⟩
theorem Rg.out {w0 w : World} {g : Nat} {xs : List Int} {s : Option Nat} (h : Rg w0 w g xs s) : ∃ a bad, Rf w0 w g xs a bad ∧ (s = none → bad = true) ∧ (∀ b, s = some b → bad = false ∧ a = b ∧ b ≤ xs.length) := by
  cases s with
  | none =>
    obtain ⟨a, h⟩ := h
    exact ⟨a, true, h, fun _ => rfl, fun b hb => by cases hb⟩
  | some a => exact ⟨a, false, h.1, (fun hb => by cases hb), fun b hb => by injection hb with hb; subst hb; exact ⟨rfl, rfl, h.2⟩⟩
theorem textS_pos2 (xs : List Int) (k : Nat) (h : (textS xs (some 0)).2 = some k) : 0 < k ∧ k ≤ xs.length := textR_pos xs k h
section
variable {w0 w : World} {g : Nat} {xs : List Int} {s : Option Nat}
theorem rgint_calls (h : Rg w0 w g xs s) : Calls Try.prog 57 #[.pointer (some ⟨g, 0, none⟩)] w fun e w' => ∃ v s', e = .returned (.int .i64 v) ∧ Hid (Stp (intR xs s) v s') ∧ Rg w0 w' g xs s' ∧ Chg (fun k => k = g) w w' := by
  obtain ⟨a, bad, h, h1, h2⟩ := h.out
  refine (rfint_calls h).mono ?_
  rintro e w' ⟨rfl, hr, hc⟩
  obtain ⟨s', hs, hg⟩ := rg_step intR (fun a ha => shI xs a ha _) intR_pos rfl s a bad h1 h2 hr
  exact ⟨_, s', rfl, Lib.hid hs, hg, hc⟩
theorem rgtext_calls (h : Rg w0 w g xs s) : Calls Try.prog 58 #[.pointer (some ⟨g, 0, none⟩)] w fun e w' => ∃ v s', e = .returned (.string v) ∧ Hid (Stp (textS xs s) v s') ∧ Rg w0 w' g xs s' ∧ Chg (fun k => k = g) w w' := by
  obtain ⟨a, bad, h, h1, h2⟩ := h.out
  refine (rftext_calls h).mono ?_
  rintro e w' ⟨rfl, hr, hc⟩
  obtain ⟨s', hs, hg⟩ := rg_step textS (fun a ha => shS xs a _) textS_pos2 rfl s a bad h1 h2 hr
  exact ⟨_, s', rfl, Lib.hid hs, hg, hc⟩
end
theorem Rg.bad {w0 w : World} {g : Nat} {xs : List Int} {s : Option Nat} (h : Rg w0 w g xs s) : w.cell? ⟨g, 1, none⟩ = some (.bool s.isNone) := by
  cases s with
  | none =>
    obtain ⟨a, h⟩ := h
    obtain ⟨A, c, h1, h2, h3⟩ := h.row
    rw [blk_cell h1]; rfl
  | some a =>
    obtain ⟨A, c, h1, h2, h3⟩ := h.1.row
    rw [blk_cell h1]; rfl
theorem Rg.at0 {w0 w : World} {g : Nat} {xs : List Int} {s : Option Nat} (h : Rg w0 w g xs s) : ∃ (A : Option Addr) (n c : Nat), w.cell? ⟨g, 0, none⟩ = some (.slice A n c) ∧ (∀ a, s = some a → n = xs.length - a ∧ a ≤ xs.length) := by
  cases s with
  | none =>
    obtain ⟨a, h⟩ := h
    obtain ⟨A, c, h1, h2, h3⟩ := h.row
    exact ⟨A, _, c, by rw [blk_cell h1]; rfl, fun a h => by cases h⟩
  | some a =>
    obtain ⟨A, c, h1, h2, h3⟩ := h.1.row
    exact ⟨A, _, c, by rw [blk_cell h1]; rfl, fun b hb => by injection hb with hb; subst hb; exact ⟨List.length_drop, h.2⟩⟩
theorem Rg.below {w0 w w1 : World} {g : Nat} {xs : List Int} {s : Option Nat} (h : Rg w0 w g xs s) (hb : Below w.heap.size w w1) : Rg w0 w1 g xs s := by
  cases s with
  | none => obtain ⟨a, h⟩ := h; exact ⟨a, h.below hb⟩
  | some a => exact ⟨h.1.below hb, h.2⟩
theorem Rf.move {w0 w w1 : World} {g : Nat} {xs : List Int} {a : Nat} {bad : Bool} {ok : Nat → Prop} (h : Rf w0 w g xs a bad) (hc : Chg ok w w1) (hg : ¬ ok g) (h0 : ∀ k, ok k → w0.heap.size ≤ k) : Rf w0 w1 g xs a bad := by
  obtain ⟨⟨A, c, h1, h2, h3⟩, h4, h5, h6⟩ := h
  exact ⟨⟨A, c, hc.get h1 hg, h2, h3⟩, h4, h5.trans (hc.below h5.size fun i hi hk => by have := h0 i hk; omega), h6⟩
theorem Rg.move {w0 w w1 : World} {g : Nat} {xs : List Int} {s : Option Nat} {ok : Nat → Prop} (h : Rg w0 w g xs s) (hc : Chg ok w w1) (hg : ¬ ok g) (h0 : ∀ k, ok k → w0.heap.size ≤ k) : Rg w0 w1 g xs s := by
  cases s with
  | none => obtain ⟨a, h⟩ := h; exact ⟨a, h.move hc hg h0⟩
  | some a => exact ⟨h.1.move hc hg h0, h.2⟩
theorem Rg.bel {w0 w : World} {g : Nat} {xs : List Int} {s : Option Nat} (h : Rg w0 w g xs s) : Below w0.heap.size w0 w := by
  cases s with
  | none => obtain ⟨a, h⟩ := h; exact h.bel
  | some a => exact h.1.bel
/-- A Ref, an Entry: step by step. -/
theorem Stp.nn {α : Type} {p : α × Option Nat} {v : α} {s : Option Nat} (h : Stp p v s) (hs : s ≠ none) : p.2 = s ∧ p.1 = v := ⟨h.1.symm, (h.2 hs).symm⟩
theorem stp_ent {xs : List Int} {s s1 s2 s3 : Option Nat} {v1 v2 : Int} {v3 : ByteArray} (h1 : Stp (intR xs s) v1 s1) (h2 : Stp (intR xs s1) v2 s2) (h3 : Stp (textS xs s2) v3 s3) : Stp (entR xs s) ⟨v1, v2, v3⟩ s3 := by
  obtain ⟨e1, f1⟩ := h1
  obtain ⟨e2, f2⟩ := h2
  obtain ⟨e3, f3⟩ := h3
  unfold entR
  rw [← e1, ← e2, ← e3]
  refine ⟨rfl, fun hs => ?_⟩
  have hs2 : s2 ≠ none := fun h => hs (by rw [e3, h]; rfl)
  have hs1 : s1 ≠ none := fun h => hs2 (by rw [e2, h]; rfl)
  rw [f1 hs1, f2 hs2, f3 hs]
/-- A list under way: l is taken, m are to come. -/
def Lst {α : Type} (each : Option Nat → α × Option Nat) (F : List α × Option Nat) (l : List α) (m : Nat) (u : Option Nat) : Prop :=
  (loopR each m u).2 = F.2 ∧ (F.2 ≠ none → l ++ (loopR each m u).1 = F.1)
theorem Lst.start {α : Type} (each : Option Nat → α × Option Nat) (m : Nat) (u : Option Nat) : Lst each (loopR each m u) [] m u := ⟨rfl, fun _ => rfl⟩
theorem Lst.step {α : Type} {each : Option Nat → α × Option Nat} {F : List α × Option Nat} {l : List α} {m a : Nat} {z : α} {s : Option Nat} (h : Lst each F l (m + 1) (some a)) (hz : Stp (each (some a)) z s) : Lst each F (l ++ [z]) m s := by
  obtain ⟨h1, h2⟩ := h
  obtain ⟨e, f⟩ := hz
  rw [loopR_some, ← e] at h1 h2
  refine ⟨h1, fun hF => ?_⟩
  have hs : s ≠ none := fun h => hF (by rw [← h1, h, loopR_none])
  rw [f hs]
  have := h2 hF
  rw [← this]
  simp
theorem Lst.stop {α : Type} {each : Option Nat → α × Option Nat} {F : List α × Option Nat} {l : List α} {m : Nat} {u : Option Nat} (h : Lst each F l m u) (hm : m = 0 ∨ u = none) : Stp F l u := by
  obtain ⟨h1, h2⟩ := h
  have hl : loopR each m u = ([], u) := by
    rcases hm with rfl | rfl
    · rfl
    · rw [loopR_none]
  rw [hl] at h1 h2
  exact ⟨h1, fun hu => by have := h2 (by rw [← h1]; exact hu); rw [← this]; simp⟩
end Go.Proofs.Ytfanbhbpmhojaaa
