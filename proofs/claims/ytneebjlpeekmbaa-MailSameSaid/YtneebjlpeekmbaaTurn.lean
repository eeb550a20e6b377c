/- Plain lists: a frame with bits turned behind its length is told; no beginning of a frame is one. No program in sight. -/
import Derived.Test.YtneebjlpeekmbaaBack
import Derived.Test.YtneebjlpeekmbaaCrc
namespace Go.Proofs.Ytneebjlpeekmbaa
set_option linter.unusedVariables false
set_option linter.unusedSimpArgs false

namespace Crc
theorem num_take (l : List Int) (h : ∀ c ∈ l, c < 256) : ∀ k, num (l.take k) = num l % 256 ^ k := by
  induction l with
  | nil => intro k; simp [num]
  | cons b bs ih =>
    intro k
    cases k with
    | zero => simp [num, Nat.mod_one]
    | succ k =>
      have hb : b < 256 := h b List.mem_cons_self
      simp only [List.take_succ_cons, num]
      rw [ih (fun c hc => h c (List.mem_cons_of_mem _ hc)) k, Nat.pow_succ, Nat.mul_comm (256 ^ k) 256, Nat.mod_mul]
      have e1 : (b.toNat + 256 * num bs) % 256 = b.toNat := by omega
      have e2 : (b.toNat + 256 * num bs) / 256 = num bs := by omega
      rw [e1, e2]
theorem num_drop (l : List Int) (h : ∀ c ∈ l, c < 256) : ∀ k, num (l.drop k) = num l / 256 ^ k := by
  induction l with
  | nil => intro k; simp [num]
  | cons b bs ih =>
    intro k
    cases k with
    | zero => simp
    | succ k =>
      have hb : b < 256 := h b List.mem_cons_self
      simp only [List.drop_succ_cons, num]
      rw [ih (fun c hc => h c (List.mem_cons_of_mem _ hc)) k, Nat.pow_succ, Nat.mul_comm (256 ^ k) 256, ← Nat.div_div_eq_div_mul]
      congr 1
      omega
theorem num_inj : ∀ (l m : List Int), IsBytes l → IsBytes m → l.length = m.length → num l = num m → l = m
  | [], [], _, _, _, _ => rfl
  | [], _ :: _, _, _, h, _ => by simp at h
  | _ :: _, [], _, _, h, _ => by simp at h
  | a :: l, b :: m, hl, hm, h, hn => by
    have ha := hl a (by simp)
    have hb := hm b (by simp)
    simp only [num] at hn
    have e1 : a = b := by omega
    have e2 : num l = num m := by omega
    rw [e1, num_inj l m (fun x hx => hl x (List.mem_cons_of_mem _ hx)) (fun x hx => hm x (List.mem_cons_of_mem _ hx)) (by simpa using h) e2]
theorem pow256 (k : Nat) : 256 ^ k = 2 ^ (8 * k) := by rw [show (256 : Nat) = 2 ^ 8 from rfl, ← Nat.pow_mul]
theorem xor_mod (a b m : Nat) : (a ^^^ b) % 2 ^ m = a % 2 ^ m ^^^ b % 2 ^ m := Nat.xor_mod_two_pow
theorem xor_div (a b m : Nat) : (a ^^^ b) / 2 ^ m = a / 2 ^ m ^^^ b / 2 ^ m := by
  have := Nat.shiftRight_xor_distrib (a := a) (b := b) (i := m)
  simpa only [Nat.shiftRight_eq_div_pow] using this
theorem split_xor (a m : Nat) : a = a % 2 ^ m ^^^ 2 ^ m * (a / 2 ^ m) := by
  rw [Nat.xor_comm, ← pow_xor m (a / 2 ^ m) (a % 2 ^ m) (Nat.mod_lt _ (Nat.two_pow_pos m)), Nat.add_comm]
  exact (Nat.mod_add_div a (2 ^ m)).symm
theorem comp_xor (x : Nat) (h : x < 4294967296) : 4294967295 - x = 4294967295 ^^^ x := by
  have e : (BitVec.ofNat 32 4294967295 ^^^ BitVec.ofNat 32 x).toNat = 2 ^ 32 - 1 - x := by
    rw [show BitVec.ofNat 32 4294967295 = BitVec.allOnes 32 from by decide, BitVec.allOnes_xor, BitVec.toNat_not, BitVec.toNat_ofNat, Nat.mod_eq_of_lt h]
  rw [BitVec.toNat_xor, BitVec.toNat_ofNat, BitVec.toNat_ofNat, Nat.mod_eq_of_lt h] at e
  rw [show (4294967295 : Nat) % 2 ^ 32 = 4294967295 from by decide] at e
  rw [e]
theorem xor_cancel {a b c : Nat} (h : a ^^^ b = a ^^^ c) : b = c := by
  have := congrArg (fun x => a ^^^ x) h
  simp only [← Nat.xor_assoc, Nat.xor_self, Nat.zero_xor] at this
  exact this
end Crc

theorem unf_frame (x : List Int) (hx : IsBytes x) (hl : x.length ≤ 1048576) : unf (frameL x) = 0 ∧ dataL (frameL x) = x ∧ Crc.num ((frameL x).take 4) = x.length := by
  have := frame_unf x [] hx hl
  rwa [List.append_nil] at this

/-- No beginning of a frame is one. -/
theorem unf_take (x : List Int) (hx : IsBytes x) (hl : x.length ≤ 1048576) (k : Nat) (hk : k < x.length + 8) : unf ((frameL x).take k) = if k = 0 then 8 else 4 := by
  have hlen := frameL_length x
  have hkl : ((frameL x).take k).length = k := by rw [List.length_take]; omega
  by_cases h0 : k = 0
  · subst h0; rw [if_pos rfl]; rfl
  · rw [if_neg h0]
    unfold unf
    rw [hkl, if_neg h0]
    by_cases h4 : k < 4
    · rw [if_pos h4]
    · have e : ((frameL x).take k).take 4 = (frameL x).take 4 := by rw [List.take_take]; congr 1; omega
      rw [if_neg h4, e, (unf_frame x hx hl).2.2, if_pos (by omega)]

/-- Bits turned behind the length, within 32: told, if there are any. -/
theorem unf_turned (x zs : List Int) (f d : Nat) (hx : IsBytes x) (hl : x.length ≤ 1048576) (hz : IsBytes zs) (hlen : zs.length = x.length + 8) (hd : d < 4294967296) (hn : Crc.num zs = Crc.num (frameL x) ^^^ 2 ^ (32 + f) * d) :
    (d = 0 → zs = frameL x) ∧ (d ≠ 0 → unf zs = 5) := by
  have hfb := frameL_bytes x hx
  have hfl := frameL_length x
  refine ⟨fun h => ?_, fun h => ?_⟩
  · subst h
    rw [Nat.mul_zero, Nat.xor_zero] at hn
    exact Crc.num_inj _ _ hz hfb (by rw [hlen, hfl]) hn
  · obtain ⟨_, _, hun⟩ := unf_frame x hx hl
    have ht4 : Crc.num (zs.take 4) = x.length := by
      rw [Crc.num_take zs hz.lt 4, hn, Crc.pow256, Crc.xor_mod, ← hun, Crc.num_take _ hfb.lt 4, Crc.pow256]
      have e0 : (2 ^ (32 + f) * d) % 2 ^ (8 * 4) = 0 := by
        rw [Nat.pow_add, Nat.mul_assoc]
        exact Nat.mul_mod_right _ _
      rw [e0, Nat.xor_zero]
    have m8 : 256 ^ (4 + x.length) = 2 ^ (8 * (4 + x.length)) := Crc.pow256 _
    have hw : Crc.num (zs.take (4 + x.length)) = Crc.num ((frameL x).take (4 + x.length)) ^^^ (2 ^ (32 + f) * d) % 2 ^ (8 * (4 + x.length)) := by
      rw [Crc.num_take zs hz.lt, hn, m8, Crc.xor_mod, Crc.num_take _ hfb.lt, m8]
    have hs : Crc.num (zs.drop (4 + x.length)) = Crc.num ((frameL x).drop (4 + x.length)) ^^^ (2 ^ (32 + f) * d) / 2 ^ (8 * (4 + x.length)) := by
      rw [Crc.num_drop zs hz.lt, hn, m8, Crc.xor_div, Crc.num_drop _ hfb.lt, m8]
    have hzt : (zs.drop (4 + x.length)).take 4 = zs.drop (4 + x.length) := List.take_of_length_le (by rw [List.length_drop]; omega)
    have hft : (frameL x).take (4 + x.length) = fourL x.length ++ x := by
      unfold frameL
      rw [List.take_append_of_le_length (by rw [List.length_append, fourL_length]; omega), List.take_of_length_le (by rw [List.length_append, fourL_length]; omega)]
    have hfd : (frameL x).drop (4 + x.length) = fourL (Crc.more 0 (fourL x.length ++ x)) := by
      unfold frameL
      rw [List.drop_append_of_le_length (by rw [List.length_append, fourL_length]; omega), List.drop_of_length_le (by rw [List.length_append, fourL_length]; omega)]
      rfl
    have hwb : IsBytes (fourL x.length ++ x) := (fourL_bytes _).append hx
    have hwl : (fourL x.length ++ x).length = 4 + x.length := by rw [List.length_append, fourL_length]
    rw [hft] at hw
    rw [hfd, fourL_num' _ (Crc.more_lt _ _)] at hs
    unfold unf
    rw [ht4, if_neg (by omega), if_neg (by omega), if_neg (by omega), hzt, if_pos]
    intro heq
    rw [hs] at heq
    have hzl : (zs.take (4 + x.length)).length = 4 + x.length := by rw [List.length_take]; omega
    have r1 := Crc.run_num (fourL x.length ++ x) hwb.lt 4294967295
    have r2 := Crc.run_num (zs.take (4 + x.length)) (hz.take _).lt 4294967295
    rw [hwl] at r1
    rw [hzl, hw, ← Nat.xor_assoc, Crc.it_xor, ← r1] at r2
    have l1 := Crc.run_lt (fourL x.length ++ x) hwb.lt 4294967295 (by omega)
    have l2 := Crc.run_lt (zs.take (4 + x.length)) (hz.take _).lt 4294967295 (by omega)
    unfold Crc.more at heq
    rw [Nat.sub_zero, Crc.comp_xor _ l1, Crc.comp_xor _ l2, r2, ← Nat.xor_assoc] at heq
    have heq2 := Crc.xor_cancel heq
    have hE : Crc.it (8 * (4 + x.length)) (2 ^ (32 + f) * d) = 0 := by
      rw [Crc.split_xor (2 ^ (32 + f) * d) (8 * (4 + x.length)), Crc.it_xor, Crc.it_shift, heq2, Nat.xor_self]
    exact h (Crc.it_burst _ _ d hd hE)


theorem pat_bit (p i : Nat) (hp : p < 4294967296) : bits BinOp.and IntKind.u32 ((p : Int) / 2 ^ i) 1 = ((p / 2 ^ i % 2 : Nat) : Int) := by
  have e : ((p : Int) / 2 ^ i) = ((p / 2 ^ i : Nat) : Int) := by simp
  have hle : p / 2 ^ i ≤ p := Nat.div_le_self _ _
  have h := u32_and_nat (p / 2 ^ i) 1 (by omega) (by omega)
  rw [Nat.and_one_is_mod] at h
  rw [e]
  exact h

theorem flip_bits (z : Int) (q : Nat) (h0 : 0 ≤ z) (h1 : z < 256) (hq : q < 8) : bits BinOp.xor IntKind.u8 z ((2 : Int) ^ q % 256) = ((z.toNat ^^^ 2 ^ q : Nat) : Int) := by
  have hlt : (2 : Nat) ^ q < 256 := Nat.pow_lt_pow_right (a := 2) (n := 8) (by omega) hq
  have e : ((2 : Int) ^ q % 256) = ((2 ^ q : Nat) : Int) := by
    have e2 : ((2 : Int) ^ q) = ((2 ^ q : Nat) : Int) := by simp
    rw [e2]
    generalize (2 : Nat) ^ q = m at hlt
    omega
  obtain ⟨a, rfl⟩ := Int.eq_ofNat_of_zero_le h0
  rw [e, u8_xor_nat a _ (by omega) hlt]
  rfl


end Go.Proofs.Ytneebjlpeekmbaa
