/- Plain lists: a number, a whole number and a text have one form in bytes. No program in sight. -/
import Derived.Test.YthobpcbiaimccaaRd2
import Derived.Test.YthobpcbiaimccaaRefs
namespace Go.Proofs.Ythobpcbiaimccaa
set_option linter.unusedVariables false
set_option linter.unusedSimpArgs false

/-- The digits of a number, each with the mark. -/
def encHi (q : Nat) : List Int := if h : q = 0 then [] else encHi (q / 128) ++ [((q % 128 + 128 : Nat) : Int)]
termination_by q
decreasing_by omega
theorem encHi_zero : encHi 0 = [] := by unfold encHi; simp
theorem encHi_pos (q : Nat) (h : q ≠ 0) : encHi q = encHi (q / 128) ++ [((q % 128 + 128 : Nat) : Int)] := by rw [encHi]; simp [h]

theorem hi_encHi : ∀ (d n : Nat), n ≤ d → 128 ≤ n → n < 18446744073709551616 → hi n (numLen (n / 128)) = encHi (n / 128) := by
  intro d
  induction d with
  | zero => intro n h1 h2; omega
  | succ d ih =>
    intro n hd hn h64
    have hq : n / 128 ≠ 0 := by omega
    rw [encHi_pos _ hq]
    by_cases hs : n / 128 < 128
    · rw [numLen_small _ hs, hi_zero, show n / 128 / 128 = 0 from by omega, encHi_zero]
      simp [hi]
    · rw [numLen_big _ (by omega) (by omega), hi_zero, ih (n / 128) (by omega) (by omega) (by omega)]

theorem encNum_hi (n : Nat) (h64 : n < 18446744073709551616) : encNum n = encHi (n / 128) ++ [((n % 128 : Nat) : Int)] := by
  by_cases h : n < 128
  · rw [encNum_small n h, show n / 128 = 0 from by omega, encHi_zero, show n % 128 = n from by omega]; rfl
  · rw [encNum_big n (by omega) h64, hi_encHi n n (Nat.le_refl _) (by omega) h64]

/-- What is read is written as the bytes that it was. -/
theorem takeNum_enc : ∀ (l : List Int) (n : Nat) (f : Bool) (m k : Nat), IsBytes l → ((f = true ∧ n = 0) ∨ (f = false ∧ 0 < n)) → takeNum n f l = some (m, k) → encHi n ++ l.take k = encNum m
  | [], _, _, _, _, _, _, h => by simp [takeNum] at h
  | c :: cs, n, f, m, k, hb, hf, h => by
    have h64 := (takeNum_le _ _ _ _ _ h).2.2
    have hc := hb c (by simp)
    obtain ⟨c, rfl⟩ := Int.eq_ofNat_of_zero_le hc.1
    rw [takeNum] at h
    split at h
    · cases h
    · rename_i hn
      have hn57 : ¬ 2 ^ 57 ≤ n := fun h => hn (.inr h)
      have hf128 : ¬ (f = true ∧ (c : Int) = 128) := fun h => hn (.inl h)
      rw [Int.toNat_natCast] at h
      split at h
      · injection h with h
        injection h with h1 h2
        subst h1 h2
        rw [encNum_hi _ h64, show (128 * n + c % 128) / 128 = n from by omega, show (128 * n + c % 128) % 128 = c from by omega]
        rfl
      · rename_i hc128
        cases hr : takeNum (128 * n + c % 128) false cs with
        | none => rw [hr] at h; cases h
        | some p =>
          rw [hr] at h
          injection h with h
          injection h with h1 h2
          subst h1 h2
          have hpos : 0 < 128 * n + c % 128 := by
            rcases hf with ⟨h1, h2⟩ | ⟨h1, h2⟩
            · have : c ≠ 128 := fun e => hf128 ⟨h1, by omega⟩
              omega
            · omega
          have ih := takeNum_enc cs (128 * n + c % 128) false p.1 p.2 (fun x hx => hb x (by simp [hx])) (.inr ⟨rfl, hpos⟩) hr
          rw [encHi_pos _ (by omega), show (128 * n + c % 128) / 128 = n from by omega, show (128 * n + c % 128) % 128 + 128 = c from by omega] at ih
          rw [← ih]
          simp

theorem takeNum_hi : ∀ (d q : Nat) (l : List Int), q ≤ d → 0 < q → q < 2 ^ 57 → takeNum 0 true (encHi q ++ l) = (takeNum q false l).map fun p => (p.1, p.2 + (encHi q).length) := by
  intro d
  induction d with
  | zero => intro q l h1 h2; omega
  | succ d ih =>
    intro q l hd hq h57
    rw [encHi_pos q (by omega), List.append_assoc]
    by_cases hs : q < 128
    · rw [show q / 128 = 0 from by omega, encHi_zero, List.nil_append, List.singleton_append, takeNum, if_neg (by rintro (⟨_, h⟩ | h) <;> omega), if_neg (by omega), Int.toNat_natCast, show 128 * 0 + (q % 128 + 128) % 128 = q from by omega]
      rfl
    · rw [ih (q / 128) _ (by omega) (by omega) (by omega), List.singleton_append, takeNum, if_neg (by rintro (⟨h, _⟩ | h) <;> first | omega | exact absurd h (by decide)), if_neg (by omega), Int.toNat_natCast, show 128 * (q / 128) + (q % 128 + 128) % 128 = q from by omega]
      cases takeNum q false l with
      | none => rfl
      | some p => simp only [Option.map_some, List.length_append, List.length_singleton]; rw [Nat.add_assoc, Nat.add_comm 1]

/-- What is written is read back. -/
theorem takeNum_back (m : Nat) (l : List Int) (h : m < 18446744073709551616) : takeNum 0 true (encNum m ++ l) = some (m, (encNum m).length) := by
  rw [encNum_hi m h, List.append_assoc]
  by_cases hs : m < 128
  · rw [show m / 128 = 0 from by omega, encHi_zero, List.nil_append, List.singleton_append, takeNum, if_neg (by rintro (⟨_, h⟩ | h) <;> omega), if_pos (by omega), Int.toNat_natCast, show 128 * 0 + (m % 128) % 128 = m from by omega]
    rfl
  · rw [takeNum_hi _ (m / 128) _ (Nat.le_refl _) (by omega) (by omega), List.singleton_append, takeNum, if_neg (by rintro (⟨h, _⟩ | h) <;> first | omega | exact absurd h (by decide)), if_pos (by omega), Int.toNat_natCast, show 128 * (m / 128) + (m % 128) % 128 = m from by omega]
    simp only [Option.map_some, List.length_append, List.length_singleton]
    rw [Nat.add_comm 1]

end Go.Proofs.Ythobpcbiaimccaa
