/- What the references' functions Sum, CRC, four, Frame, Num, Int come to, in plain words. Conditions: bytes are bytes, lengths below 2^46. -/
import Derived.Test.YtneebjlpeekmbaaRefA
import Derived.Test.YtneebjlpeekmbaaSum
import Derived.Test.YtneebjlpeekmbaaWrA
namespace Go.Proofs.Ytneebjlpeekmbaa
open Go.RowKit Go.Proofs.YtneebjlpeekmbaaW.PrintWords Go.Proofs.YtneebjlpeekmbaaW.PrintLast Go.Proofs.YtneebjlpeekmbaaW.PrintMore PRef
set_option linter.unusedVariables false
set_option linter.unusedSimpArgs false
theorem wrap64_nat (i : Nat) (h : i + 1 < 9223372036854775808) : wrap64 ((i : Int) + 1) = ((i + 1 : Nat) : Int) := by
  unfold wrap64; omega

theorem sum_l1 (l : List Int) (i : Nat) (r : Int) : ∀ (d j y : Nat), j + d = 8 → y < 4294967296 → i < 4611686018427387904 → Ev (fun k => lamellaref01_Sum.l0 k l ((Crc.it d y : Nat) : Int) ((i + 1 : Nat) : Int)) r →
    Ev (fun k => lamellaref01_Sum.l1 k l (y : Int) (i : Int) (j : Int)) r := by
  intro d
  induction d with
  | zero =>
    intro j y hj hy hi h
    refine Ev.step (f := fun k => lamellaref01_Sum.l0 k l (y : Int) (wrap64 ((i : Int) + 1))) (fun k => ?_) ?_
    · simp only [lamellaref01_Sum.l1]
      rw [if_neg (by omega)]
    · rw [wrap64_nat i (by omega)]
      exact h
  | succ d ih =>
    intro j y hj hy hi h
    have hy2 := Crc.st_lt y hy
    have key := ih (j + 1) (Crc.st y) (by omega) hy2 hi h
    have e1 : Int.tmod (y : Int) 2 = ((y % 2 : Nat) : Int) := by rw [Int.tmod_eq_emod_of_nonneg (by omega)]; simp
    have e2 : (Int.tdiv (y : Int) 2) % 4294967296 = ((y / 2 : Nat) : Int) := by rw [Int.tdiv_eq_ediv_of_nonneg (by omega)]; omega
    refine Ev.step (f := fun k => lamellaref01_Sum.l1 k l ((Crc.st y : Nat) : Int) (i : Int) ((j + 1 : Nat) : Int)) (fun k => ?_) key
    simp only [lamellaref01_Sum.l1]
    rw [if_pos (by omega), e1, e2, wrap64_nat j (by omega)]
    unfold Crc.st Crc.poly
    rcases Nat.mod_two_eq_zero_or_one y with hp | hp
    · rw [hp, if_neg (by omega), if_neg (by omega), Nat.xor_zero]
    · rw [hp, if_pos (by omega), if_pos rfl]
      have := u32_xor_nat (y / 2) 3988292384 (by omega) (by omega)
      rw [← this]
      rfl

theorem sum_l0 (l : List Int) (hb : IsBytes l) (hl : l.length < 4611686018427387904) : ∀ (d i y : Nat), i + d = l.length → y < 4294967296 → Ev (fun k => lamellaref01_Sum.l0 k l (y : Int) (i : Int)) ((Crc.run y (l.drop i) : Nat) : Int) := by
  intro d
  induction d with
  | zero =>
    intro i y hi hy
    refine Ev.step (f := fun _ => some ((Crc.run y (l.drop i) : Nat) : Int)) (fun k => ?_) (Ev.now _)
    simp only [lamellaref01_Sum.l0]
    rw [if_neg (by omega), List.drop_of_length_le (by omega)]
    rfl
  | succ d ih =>
    intro i y hi hy
    have hz := hb.getD i
    have hlt : i < l.length := by omega
    have hd : l.drop i = l.getD i 0 :: l.drop (i + 1) := by
      rw [List.drop_eq_getElem_cons hlt, List.getD_eq_getElem?_getD, List.getElem?_eq_getElem hlt]; rfl
    have key := ih (i + 1) (Crc.upd y (l.getD i 0)) (by omega) (Crc.upd_lt y _ hy hz.2)
    rw [hd]
    have h8 := sum_l1 l i _ 8 0 (y ^^^ (l.getD i 0).toNat) rfl (Nat.xor_lt_two_pow (n := 32) hy (by omega)) (by omega) key
    refine Ev.step (f := fun k => lamellaref01_Sum.l1 k l ((y ^^^ (l.getD i 0).toNat : Nat) : Int) (i : Int) ((0 : Nat) : Int)) (fun k => ?_) h8
    simp only [lamellaref01_Sum.l0]
    rw [if_pos (by omega), if_pos (by omega)]
    have e : rd l (i : Int) = ((l.getD i 0).toNat : Int) := by unfold rd; rw [Int.toNat_natCast]; omega
    rw [e]
    have e2 : (((l.getD i 0).toNat : Int) % 4294967296) = (((l.getD i 0).toNat : Nat) : Int) := by omega
    rw [e2, u32_xor_nat y _ hy (by omega)]
    rfl

theorem crc_f (l : List Int) (hb : IsBytes l) (hl : l.length < 4611686018427387904) : Ev (fun k => lamellaref01_CRC.f k l) ((Crc.more 0 l : Nat) : Int) := by
  unfold lamellaref01_CRC.f lamellaref01_Sum.f
  have h := sum_l0 l hb hl l.length 0 4294967295 (by omega) (by omega)
  have hlt := Crc.run_lt l hb.lt 4294967295 (by omega)
  refine Ev.bind (g := fun k => lamellaref01_Sum.l0 k l 4294967295 0) (f := fun _ t => some ((4294967295 - t) % 4294967296)) h ?_
  refine Ev.congr (f := fun _ => some ((Crc.more 0 l : Nat) : Int)) (fun k => ?_) (Ev.now _)
  rw [List.drop_zero]
  unfold Crc.more
  rw [Nat.sub_zero]
  congr 1
  omega

def fourL (n : Nat) : List Int := [((n % 256 : Nat) : Int), ((n / 256 % 256 : Nat) : Int), ((n / 65536 % 256 : Nat) : Int), ((n / 16777216 % 256 : Nat) : Int)]
theorem fourL_length (n : Nat) : (fourL n).length = 4 := rfl
theorem fourL_bytes (n : Nat) : IsBytes (fourL n) := by
  intro x hx
  simp only [fourL, List.mem_cons, List.not_mem_nil, or_false] at hx
  rcases hx with rfl | rfl | rfl | rfl <;> omega
theorem four_f (n : Nat) (h : n < 4294967296) : lamellaref01_four.f (n : Int) = some (fourL n) := by
  unfold lamellaref01_four.f fourL
  congr 1
  have e : ∀ c : Int, 0 < c → Int.tdiv (n : Int) c = (n : Int) / c := fun c hc => Int.tdiv_eq_ediv_of_nonneg (by omega)
  rw [e _ (by omega), e _ (by omega), e _ (by omega), Int.tmod_eq_emod_of_nonneg (by omega)]
  congr 1
  · omega
  · congr 1
    · omega
    · congr 1
      · omega
      · congr 1
        omega

/-- A frame. -/
def frameL (l : List Int) : List Int := (fourL l.length ++ l) ++ fourL (Crc.more 0 (fourL l.length ++ l))
theorem frameL_length (l : List Int) : (frameL l).length = l.length + 8 := by
  unfold frameL; simp [fourL_length]; omega
theorem frame_f (l : List Int) (hb : IsBytes l) (hl : l.length < 4294967296) : Ev (fun k => lamellaref01_Frame.f k l) (frameL l) := by
  unfold lamellaref01_Frame.f
  have e : ((l.length : Int) % 4294967296) = ((l.length : Nat) : Int) := by omega
  have hbb : IsBytes (fourL l.length ++ l) := (fourL_bytes _).append hb
  refine Ev.congr (f := fun k => (lamellaref01_CRC.f k (fourL l.length ++ l)).bind fun t133 => (lamellaref01_four.f t133).bind fun t134 => if (fourL l.length ++ l).length + t134.length < 140737488355328 then some (fourL l.length ++ l ++ t134) else none) (fun k => ?_) ?_
  · rw [e, four_f _ hl]
    simp only [Option.bind_some]
    rw [if_pos (by rw [fourL_length]; omega)]
  · refine Ev.bind (crc_f _ hbb (by simp [fourL_length]; omega)) ?_
    refine Ev.congr (f := fun _ => some (frameL l)) (fun k => ?_) (Ev.now _)
    rw [four_f _ (Crc.more_lt _ _)]
    simp only [Option.bind_some]
    rw [if_pos (by simp [fourL_length]; omega)]
    rfl

/-! ### Num -/
theorem hi_zero (n k : Nat) : hi n (k + 1) = hi (n / 128) k ++ [((n / 128 % 128 + 128 : Nat) : Int)] := by
  induction k with
  | zero => simp [hi]
  | succ k ih =>
    rw [hi, ih, hi]
    rw [Nat.div_div_eq_div_mul, Nat.pow_succ 128 (k + 1), Nat.mul_comm 128]
    rfl
theorem numLen_small (n : Nat) (h : n < 128) : numLen n = 1 := by
  have : Lib.bitLen n ≤ 7 := Lib.bitLen_le n 7 (by omega) (by omega)
  unfold numLen; omega
theorem numLen_big (n : Nat) (h : 128 ≤ n) (h64 : n < 18446744073709551616) : numLen n = numLen (n / 128) + 1 := by
  have h1 : Lib.bitLen n = 7 + Lib.bitLen (n / 2 ^ 7) := Lib.bitLen_shift 7 n (by omega) (by omega)
  have h2 : n / 2 ^ 7 = n / 128 := rfl
  rw [h2] at h1
  have h3 : Lib.bitLen (n / 128) = 1 + Lib.bitLen (n / 128 / 2) := Lib.bitLen_half _ (by omega) (by omega)
  unfold numLen; omega
theorem encNum_small (n : Nat) (h : n < 128) : encNum n = [(n : Int)] := by
  unfold encNum
  rw [numLen_small n h]
  simp [hi]
  omega
/-- What the digits above the lowest are. -/
theorem encNum_big (n : Nat) (h : 128 ≤ n) (h64 : n < 18446744073709551616) : encNum n = hi n (numLen (n / 128)) ++ [((n % 128 : Nat) : Int)] := by
  unfold encNum
  rw [numLen_big n h h64]
  rfl

/-- The reference's loop: what is still to be laid ahead of t. -/
theorem num_l0 : ∀ (d n : Nat) (t : List Int), n < 128 ^ (d + 1) → n < 18446744073709551616 → t.length + d < 1000 → Ev (fun k => lamellaref01_Num.l0 k (n : Int) t) (hi n (numLen n - 1) ++ t) := by
  intro d
  induction d with
  | zero =>
    intro n t hn h64 ht
    refine Ev.step (f := fun _ => some t) (fun k => ?_) ?_
    · simp only [lamellaref01_Num.l0]
      rw [if_neg (by omega)]
    · rw [numLen_small n (by simpa using hn)]
      exact Ev.now _
  | succ d ih =>
    intro n t hn h64 ht
    by_cases hs : n < 128
    · refine Ev.step (f := fun _ => some t) (fun k => ?_) ?_
      · simp only [lamellaref01_Num.l0]
        rw [if_neg (by omega)]
      · rw [numLen_small n hs]
        exact Ev.now _
    · have e1 : IntKind.u64.wrap (Int.tdiv (n : Int) 128) = ((n / 128 : Nat) : Int) := by rw [Int.tdiv_eq_ediv_of_nonneg (by omega), IntKind.wrap_u64]; omega
      have e2 : (((Int.tmod ((n / 128 : Nat) : Int) 128) % 256) + 128) % 256 = ((n / 128 % 128 + 128 : Nat) : Int) := by rw [Int.tmod_eq_emod_of_nonneg (by omega)]; omega
      have hlt : n / 128 < 128 ^ (d + 1) := by
        rw [Nat.pow_succ] at hn
        exact Nat.div_lt_of_lt_mul (by rw [Nat.mul_comm]; exact hn)
      have key := ih (n / 128) (((n / 128 % 128 + 128 : Nat) : Int) :: t) hlt (by omega) (by simp; omega)
      refine Ev.step (f := fun k => lamellaref01_Num.l0 k ((n / 128 : Nat) : Int) (((n / 128 % 128 + 128 : Nat) : Int) :: t)) (fun k => ?_) ?_
      · simp only [lamellaref01_Num.l0]
        rw [if_pos (by omega), e1, e2]
        simp only [Option.bind_some, List.length_singleton, List.singleton_append]
        rw [if_pos (by omega)]
      · rw [numLen_big n (by omega) h64]
        obtain ⟨m, hm⟩ : ∃ m, numLen (n / 128) = m + 1 := ⟨numLen (n / 128) - 1, by have := (numLen_le (n / 128) (by omega)).1; omega⟩
        rw [hm] at key ⊢
        simp only [Nat.add_sub_cancel] at key ⊢
        rw [hi_zero, List.append_assoc]
        exact key
theorem num_f (n : Nat) (h64 : n < 18446744073709551616) : Ev (fun k => lamellaref01_Num.f k (n : Int)) (encNum n) := by
  unfold lamellaref01_Num.f
  have e : (Int.tmod (n : Int) 128) % 256 = ((n % 128 : Nat) : Int) := by rw [Int.tmod_eq_emod_of_nonneg (by omega)]; omega
  rw [e]
  exact num_l0 9 n _ (by omega) h64 (by simp)
theorem int_f (n : Int) (h0 : -9223372036854775808 ≤ n) (h1 : n ≤ 9223372036854775807) : Ev (fun k => lamellaref01_Int.f k n) (encInt n) := by
  unfold lamellaref01_Int.f encInt
  by_cases hn : n < 0
  · have e : IntKind.u64.wrap (wrap64 (-(wrap64 (n + 1)))) = (((-n - 1).toNat : Nat) : Int) := by rw [IntKind.wrap_u64]; unfold wrap64; omega
    have hl := encNum_length (-n - 1).toNat (by omega)
    rw [if_pos hn]
    refine Ev.congr (f := fun k => (lamellaref01_Num.f k (((-n - 1).toNat : Nat) : Int)).bind fun t119 => if ([1] : List Int).length + t119.length < 140737488355328 then some ([1] ++ t119) else none) (fun k => ?_) ?_
    · rw [if_pos hn, e]; rfl
    · refine Ev.bind (num_f _ (by omega)) ?_
      refine Ev.congr (f := fun _ => some (1 :: encNum (-n - 1).toNat)) (fun k => ?_) (Ev.now _)
      rw [if_pos (by rw [List.length_singleton]; omega)]
      rfl
  · have e : IntKind.u64.wrap n = ((n.toNat : Nat) : Int) := by rw [IntKind.wrap_u64]; omega
    have hl := encNum_length n.toNat (by omega)
    rw [if_neg hn]
    refine Ev.congr (f := fun k => (lamellaref01_Num.f k ((n.toNat : Nat) : Int)).bind fun t119 => if ([0] : List Int).length + t119.length < 140737488355328 then some ([0] ++ t119) else none) (fun k => ?_) ?_
    · rw [if_neg hn, e]; rfl
    · refine Ev.bind (num_f _ (by omega)) ?_
      refine Ev.congr (f := fun _ => some (0 :: encNum n.toNat)) (fun k => ?_) (Ev.now _)
      rw [if_pos (by rw [List.length_singleton]; omega)]
      rfl


end Go.Proofs.Ytneebjlpeekmbaa
