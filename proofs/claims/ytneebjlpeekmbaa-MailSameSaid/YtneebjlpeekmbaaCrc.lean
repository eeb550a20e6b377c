/- Plain arithmetic: the register of the sum (CRC-32), bit by bit and byte by byte, over natural numbers: it is linear, nothing but 0 goes to 0, and bits turned within 32 change it. No program in sight. -/
import Derived.Laws.BitsAllLaws
namespace Go.Proofs.Ytneebjlpeekmbaa
set_option linter.unusedVariables false
set_option linter.unusedSimpArgs false
namespace Crc

def poly : Nat := 3988292384
/-- The register behind one bit. -/
def st (x : Nat) : Nat := x / 2 ^^^ (if x % 2 = 1 then poly else 0)
def it : Nat → Nat → Nat
  | 0, x => x
  | k + 1, x => it k (st x)
/-- The register behind a byte. -/
def upd (x : Nat) (c : Int) : Nat := it 8 (x ^^^ c.toNat)
def run (x : Nat) (bs : List Int) : Nat := bs.foldl upd x

theorem div2_xor (x y : Nat) : (x ^^^ y) / 2 = x / 2 ^^^ y / 2 := by
  have h := Nat.shiftRight_xor_distrib (a := x) (b := y) (i := 1)
  simpa only [Nat.shiftRight_eq_div_pow, Nat.pow_one] using h
theorem pow_xor (i a b : Nat) (hb : b < 2 ^ i) : 2 ^ i * a + b = 2 ^ i * a ^^^ b := by
  apply Nat.eq_of_testBit_eq
  intro j
  rw [Nat.testBit_two_pow_mul_add a hb j, Nat.testBit_xor, Nat.testBit_two_pow_mul]
  by_cases hj : j < i
  · rw [if_pos hj]
    simp [show ¬ i ≤ j from by omega]
  · rw [if_neg hj, Nat.testBit_lt_two_pow (Nat.lt_of_lt_of_le hb (Nat.pow_le_pow_right (by omega) (by omega)))]
    simp [show i ≤ j from by omega]
theorem mod2_xor (x y : Nat) : (x ^^^ y) % 2 = (x + y) % 2 := by
  have h : (x ^^^ y) % 2 = x % 2 ^^^ y % 2 := Nat.xor_mod_two_pow (n := 1)
  rw [h]
  rcases Nat.mod_two_eq_zero_or_one x with hx | hx <;> rcases Nat.mod_two_eq_zero_or_one y with hy | hy <;> rw [hx, hy] <;> simp <;> omega
theorem st_xor (x y : Nat) : st (x ^^^ y) = st x ^^^ st y := by
  unfold st
  rw [div2_xor, mod2_xor]
  generalize x / 2 = a
  generalize y / 2 = b
  rcases Nat.mod_two_eq_zero_or_one x with hx | hx <;> rcases Nat.mod_two_eq_zero_or_one y with hy | hy
  · rw [if_neg (by omega), if_neg (by omega), if_neg (by omega)]; simp
  · rw [if_pos (by omega), if_neg (by omega), if_pos (by omega)]; simp [Nat.xor_assoc]
  · rw [if_pos (by omega), if_pos (by omega), if_neg (by omega)]
    rw [Nat.xor_zero, Nat.xor_assoc, Nat.xor_assoc, Nat.xor_comm b]
  · rw [if_neg (by omega), if_pos (by omega), if_pos (by omega)]
    simp only [Nat.xor_zero]
    rw [Nat.xor_comm b poly, Nat.xor_assoc a, ← Nat.xor_assoc poly poly, Nat.xor_self, Nat.zero_xor]
theorem st_zero : st 0 = 0 := rfl
theorem it_zero (k : Nat) : it k 0 = 0 := by
  induction k with
  | zero => rfl
  | succ k ih => simp [it, st_zero, ih]
theorem it_xor (k x y : Nat) : it k (x ^^^ y) = it k x ^^^ it k y := by
  induction k generalizing x y with
  | zero => rfl
  | succ k ih => simp only [it]; rw [st_xor, ih]
theorem it_add (j k x : Nat) : it (j + k) x = it k (it j x) := by
  induction j generalizing x with
  | zero => simp [it]
  | succ j ih => rw [Nat.add_right_comm]; simp only [it]; exact ih _
theorem st_two (y : Nat) : st (2 * y) = y := by
  unfold st
  rw [if_neg (by omega)]
  simp
theorem it_shift (k y : Nat) : it k (2 ^ k * y) = y := by
  induction k generalizing y with
  | zero => simp [it]
  | succ k ih =>
    simp only [it]
    rw [Nat.pow_succ, Nat.mul_right_comm, Nat.mul_comm _ 2, st_two, ih]
theorem st_lt (x : Nat) (h : x < 4294967296) : st x < 4294967296 := by
  unfold st
  have h1 : x / 2 < 2 ^ 32 := by omega
  have h2 : (if x % 2 = 1 then poly else 0) < 2 ^ 32 := by unfold poly; split <;> omega
  exact Nat.xor_lt_two_pow h1 h2
theorem it_lt (k x : Nat) (h : x < 4294967296) : it k x < 4294967296 := by
  induction k generalizing x with
  | zero => exact h
  | succ k ih => exact ih _ (st_lt x h)
theorem xor_eq_zero {a b : Nat} (h : a ^^^ b = 0) : a = b := by
  have : a ^^^ b ^^^ b = b := by rw [h, Nat.zero_xor]
  rwa [Nat.xor_assoc, Nat.xor_self, Nat.xor_zero] at this
theorem st_inj (x : Nat) (h : x < 4294967296) (h0 : st x = 0) : x = 0 := by
  unfold st at h0
  have := xor_eq_zero h0
  split at this <;> unfold poly at * <;> omega
theorem it_inj (k x : Nat) (h : x < 4294967296) (h0 : it k x = 0) : x = 0 := by
  induction k generalizing x with
  | zero => exact h0
  | succ k ih => exact st_inj x h (ih _ (st_lt x h) h0)
/-- Bits within 32, wherever they stand, leave a trace. -/
theorem it_burst (k p d : Nat) (hd : d < 4294967296) (h0 : it k (2 ^ p * d) = 0) : d = 0 := by
  by_cases h : p ≤ k
  · obtain ⟨j, rfl⟩ : ∃ j, k = p + j := ⟨k - p, by omega⟩
    rw [it_add, it_shift] at h0
    exact it_inj j d hd h0
  · obtain ⟨j, rfl⟩ : ∃ j, p = k + j := ⟨p - k, by omega⟩
    rw [Nat.pow_add, Nat.mul_assoc, it_shift] at h0
    rcases Nat.mul_eq_zero.1 h0 with h1 | h1
    · exact absurd h1 (Nat.pos_iff_ne_zero.1 (Nat.two_pow_pos j))
    · exact h1

/-- The bytes of a register: the low eight bits are stepped, the others move down. -/
theorem split8 (x : Nat) : it 8 x = x / 256 ^^^ it 8 (x % 256) := by
  have h : x = 2 ^ 8 * (x / 256) ^^^ x % 256 := by
    rw [← pow_xor _ _ _ (by omega)]
    omega
  conv => lhs; rw [h]
  rw [it_xor, it_shift]
theorem upd_split (x : Nat) (c : Int) (h0 : 0 ≤ c) (h1 : c < 256) : upd x c = x / 256 ^^^ it 8 (x % 256 ^^^ c.toNat) := by
  unfold upd
  rw [split8]
  have hc : c.toNat < 256 := by omega
  have e1 : (x ^^^ c.toNat) / 256 = x / 256 := by
    have : (x ^^^ c.toNat) >>> 8 = x >>> 8 ^^^ c.toNat >>> 8 := Nat.shiftRight_xor_distrib ..
    simp only [Nat.shiftRight_eq_div_pow] at this
    rw [show (2 : Nat) ^ 8 = 256 from rfl] at this
    rw [this, Nat.div_eq_of_lt hc, Nat.xor_zero]
  have e2 : (x ^^^ c.toNat) % 256 = x % 256 ^^^ c.toNat := by
    have := Nat.xor_mod_two_pow (a := x) (b := c.toNat) (n := 8)
    rw [show (2 : Nat) ^ 8 = 256 from rfl] at this
    rw [this, Nat.mod_eq_of_lt hc]
  rw [e1, e2]
theorem upd_lt (x : Nat) (c : Int) (h : x < 4294967296) (h1 : c < 256) : upd x c < 4294967296 := by
  unfold upd
  exact it_lt 8 _ (Nat.xor_lt_two_pow (n := 32) h (by omega))
theorem run_lt (bs : List Int) (h : ∀ c ∈ bs, c < 256) : ∀ x, x < 4294967296 → run x bs < 4294967296 := by
  induction bs with
  | nil => exact fun x hx => hx
  | cons b bs ih => exact fun x hx => ih (fun c hc => h c (List.mem_cons_of_mem _ hc)) _ (upd_lt x b hx (h b List.mem_cons_self))
theorem run_append (x : Nat) (as bs : List Int) : run x (as ++ bs) = run (run x as) bs := by unfold run; rw [List.foldl_append]

/-- Bytes as a number, the first the lowest. -/
def num : List Int → Nat
  | [] => 0
  | c :: cs => c.toNat + 256 * num cs
theorem num_xor (c : Int) (cs : List Int) (h1 : c < 256) : num (c :: cs) = c.toNat ^^^ 2 ^ 8 * num cs := by
  rw [Nat.xor_comm, ← pow_xor _ _ _ (by omega)]
  simp only [num]
  omega
theorem run_num (bs : List Int) (h : ∀ c ∈ bs, c < 256) : ∀ x, run x bs = it (8 * bs.length) (x ^^^ num bs) := by
  induction bs with
  | nil => intro x; simp [run, num, it]
  | cons b bs ih =>
    intro x
    have hb : b < 256 := h b List.mem_cons_self
    show run (upd x b) bs = _
    rw [ih (fun c hc => h c (List.mem_cons_of_mem _ hc)), List.length_cons, Nat.mul_add, Nat.mul_one, Nat.add_comm, it_add, num_xor b bs hb, ← Nat.xor_assoc, it_xor 8, it_shift]
    rfl
theorem num_lt (bs : List Int) (h : ∀ c ∈ bs, c < 256) : num bs < 256 ^ bs.length := by
  induction bs with
  | nil => simp [num]
  | cons b bs ih =>
    have hb : b < 256 := h b List.mem_cons_self
    have := ih (fun c hc => h c (List.mem_cons_of_mem _ hc))
    simp only [num, List.length_cons, Nat.pow_succ]
    omega
theorem num_append (as bs : List Int) : num (as ++ bs) = num as + 256 ^ as.length * num bs := by
  induction as with
  | nil => simp [num]
  | cons a as ih =>
    simp only [List.cons_append, num, ih, List.length_cons, Nat.pow_succ]
    rw [Nat.mul_add, Nat.mul_comm (256 ^ as.length) 256, ← Nat.mul_assoc]
    omega
/-- A bit turned in a byte is a bit turned in the number. -/
theorem num_flip (bs : List Int) (h : ∀ c ∈ bs, c < 256) : ∀ p, p < 8 * bs.length → num (bs.set (p / 8) (((bs.getD (p / 8) 0).toNat ^^^ 2 ^ (p % 8) : Nat) : Int)) = num bs ^^^ 2 ^ p := by
  induction bs with
  | nil => intro p hp; simp at hp
  | cons b bs ih =>
    intro p hp
    have hb : b < 256 := h b List.mem_cons_self
    by_cases h8 : p < 8
    · rw [Nat.div_eq_of_lt h8, Nat.mod_eq_of_lt h8]
      simp only [List.set_cons_zero, List.getD_cons_zero]
      have hlt : (b.toNat ^^^ 2 ^ p : Nat) < 2 ^ 8 := Nat.xor_lt_two_pow (by omega) (Nat.pow_lt_pow_right (by omega) h8)
      rw [num_xor _ _ (by omega), num_xor _ _ hb, Int.toNat_natCast]
      rw [Nat.xor_assoc, Nat.xor_comm (2 ^ p), ← Nat.xor_assoc]
    · obtain ⟨q, rfl⟩ : ∃ q, p = q + 8 := ⟨p - 8, by omega⟩
      have e1 : (q + 8) / 8 = q / 8 + 1 := by omega
      have e2 : (q + 8) % 8 = q % 8 := by omega
      rw [e1, e2]
      simp only [List.set_cons_succ, List.getD_cons_succ]
      rw [num_xor _ _ hb, ih (fun c hc => h c (List.mem_cons_of_mem _ hc)) q (by simp at hp; omega), num_xor _ _ hb]
      rw [Nat.xor_assoc]
      congr 1
      have : ∀ a b : Nat, 2 ^ 8 * (a ^^^ b) = 2 ^ 8 * a ^^^ 2 ^ 8 * b := fun a b => by
        rw [Nat.mul_comm, Nat.mul_comm _ a, Nat.mul_comm _ b, ← Nat.shiftLeft_eq, ← Nat.shiftLeft_eq, ← Nat.shiftLeft_eq, Nat.shiftLeft_xor_distrib]
      rw [this, Nat.pow_add, Nat.mul_comm (2 ^ q)]

theorem mul_xor (k a b : Nat) : 2 ^ k * (a ^^^ b) = 2 ^ k * a ^^^ 2 ^ k * b := by
  rw [Nat.mul_comm, Nat.mul_comm _ a, Nat.mul_comm _ b, ← Nat.shiftLeft_eq, ← Nat.shiftLeft_eq, ← Nat.shiftLeft_eq, Nat.shiftLeft_xor_distrib]
/-- Bits turned within 32 change the register. -/
theorem run_burst (us zs : List Int) (h1 : ∀ c ∈ us, c < 256) (h2 : ∀ c ∈ zs, c < 256) (hl : zs.length = us.length) (x f d : Nat) (hd : d < 4294967296) (hn : num zs = num us ^^^ 2 ^ f * d) :
    run x us = run x zs ↔ d = 0 := by
  have e : run x zs = run x us ^^^ it (8 * us.length) (2 ^ f * d) := by
    rw [run_num zs h2, run_num us h1, hl, hn, ← Nat.xor_assoc, it_xor]
  rw [e]
  constructor
  · intro h
    have h0 : it (8 * us.length) (2 ^ f * d) = 0 := by
      have h3 := congrArg (fun a => run x us ^^^ a) h
      simp only [Nat.xor_self, ← Nat.xor_assoc, Nat.zero_xor] at h3
      exact h3.symm
    exact it_burst _ f d hd h0
  · rintro rfl
    rw [Nat.mul_zero, it_zero, Nat.xor_zero]

end Crc

end Go.Proofs.Ytneebjlpeekmbaa
