/- What is written is read back, and the other way round, in plain lists. Conditions: bytes are bytes. -/
import Derived.Test.YtneebjlpeekmbaaRd
import Derived.Test.YtneebjlpeekmbaaRefs
namespace Go.Proofs.Ytneebjlpeekmbaa
open Go.RowKit Go.Proofs.YtneebjlpeekmbaaW.PrintWords Go.Proofs.YtneebjlpeekmbaaW.PrintLast Go.Proofs.YtneebjlpeekmbaaW.PrintMore PRef
set_option linter.unusedVariables false
set_option linter.unusedSimpArgs false
/-- The digits of a number, each with the mark. -/
def encHi (q : Nat) : List Int := if h : q = 0 then [] else encHi (q / 128) ++ [((q % 128 + 128 : Nat) : Int)]
termination_by q
decreasing_by omega
theorem encHi_zero : encHi 0 = [] := by unfold encHi; simp
theorem encHi_pos (q : Nat) (h : q ≠ 0) : encHi q = encHi (q / 128) ++ [((q % 128 + 128 : Nat) : Int)] := by rw [encHi]; simp [h]

theorem hi_encHi : ∀ (d n : Nat), n ≤ d → 128 ≤ n → n < 18446744073709551616 → hi n (numLen (n / 128)) = encHi (n / 128) := by
  intro d
  induction d with
  | zero => intro n h1 h2; omega
  | succ d ih =>
    intro n hd hn h64
    have hq : n / 128 ≠ 0 := by omega
    rw [encHi_pos _ hq]
    by_cases hs : n / 128 < 128
    · rw [numLen_small _ hs, hi_zero, show n / 128 / 128 = 0 from by omega, encHi_zero]
      simp [hi]
    · rw [numLen_big _ (by omega) (by omega), hi_zero, ih (n / 128) (by omega) (by omega) (by omega)]

theorem encNum_hi (n : Nat) (h64 : n < 18446744073709551616) : encNum n = encHi (n / 128) ++ [((n % 128 : Nat) : Int)] := by
  by_cases h : n < 128
  · rw [encNum_small n h, show n / 128 = 0 from by omega, encHi_zero, show n % 128 = n from by omega]; rfl
  · rw [encNum_big n (by omega) h64, hi_encHi n n (Nat.le_refl _) (by omega) h64]

/-- What is read is written as the bytes that it was. -/
theorem takeNum_enc : ∀ (l : List Int) (n : Nat) (f : Bool) (m k : Nat), IsBytes l → ((f = true ∧ n = 0) ∨ (f = false ∧ 0 < n)) → takeNum n f l = some (m, k) → encHi n ++ l.take k = encNum m
  | [], _, _, _, _, _, _, h => by simp [takeNum] at h
  | c :: cs, n, f, m, k, hb, hf, h => by
    have h64 := (takeNum_le _ _ _ _ _ h).2.2
    have hc := hb c (by simp)
    obtain ⟨c, rfl⟩ := Int.eq_ofNat_of_zero_le hc.1
    rw [takeNum] at h
    split at h
    · cases h
    · rename_i hn
      have hn57 : ¬ 2 ^ 57 ≤ n := fun h => hn (.inr h)
      have hf128 : ¬ (f = true ∧ (c : Int) = 128) := fun h => hn (.inl h)
      rw [Int.toNat_natCast] at h
      split at h
      · injection h with h
        injection h with h1 h2
        subst h1 h2
        rw [encNum_hi _ h64, show (128 * n + c % 128) / 128 = n from by omega, show (128 * n + c % 128) % 128 = c from by omega]
        rfl
      · rename_i hc128
        cases hr : takeNum (128 * n + c % 128) false cs with
        | none => rw [hr] at h; cases h
        | some p =>
          rw [hr] at h
          injection h with h
          injection h with h1 h2
          subst h1 h2
          have hpos : 0 < 128 * n + c % 128 := by
            rcases hf with ⟨h1, h2⟩ | ⟨h1, h2⟩
            · have : c ≠ 128 := fun e => hf128 ⟨h1, by omega⟩
              omega
            · omega
          have ih := takeNum_enc cs (128 * n + c % 128) false p.1 p.2 (fun x hx => hb x (by simp [hx])) (.inr ⟨rfl, hpos⟩) hr
          rw [encHi_pos _ (by omega), show (128 * n + c % 128) / 128 = n from by omega, show (128 * n + c % 128) % 128 + 128 = c from by omega] at ih
          rw [← ih]
          simp

theorem takeNum_hi : ∀ (d q : Nat) (l : List Int), q ≤ d → 0 < q → q < 2 ^ 57 → takeNum 0 true (encHi q ++ l) = (takeNum q false l).map fun p => (p.1, p.2 + (encHi q).length) := by
  intro d
  induction d with
  | zero => intro q l h1 h2; omega
  | succ d ih =>
    intro q l hd hq h57
    rw [encHi_pos q (by omega), List.append_assoc]
    by_cases hs : q < 128
    · rw [show q / 128 = 0 from by omega, encHi_zero, List.nil_append, List.singleton_append, takeNum, if_neg (by rintro (⟨_, h⟩ | h) <;> omega), if_neg (by omega), Int.toNat_natCast, show 128 * 0 + (q % 128 + 128) % 128 = q from by omega]
      rfl
    · rw [ih (q / 128) _ (by omega) (by omega) (by omega), List.singleton_append, takeNum, if_neg (by rintro (⟨h, _⟩ | h) <;> first | omega | exact absurd h (by decide)), if_neg (by omega), Int.toNat_natCast, show 128 * (q / 128) + (q % 128 + 128) % 128 = q from by omega]
      cases takeNum q false l with
      | none => rfl
      | some p => simp only [Option.map_some, List.length_append, List.length_singleton]; rw [Nat.add_assoc, Nat.add_comm 1]

/-- What is written is read back. -/
theorem takeNum_back (m : Nat) (l : List Int) (h : m < 18446744073709551616) : takeNum 0 true (encNum m ++ l) = some (m, (encNum m).length) := by
  rw [encNum_hi m h, List.append_assoc]
  by_cases hs : m < 128
  · rw [show m / 128 = 0 from by omega, encHi_zero, List.nil_append, List.singleton_append, takeNum, if_neg (by rintro (⟨_, h⟩ | h) <;> omega), if_pos (by omega), Int.toNat_natCast, show 128 * 0 + (m % 128) % 128 = m from by omega]
    rfl
  · rw [takeNum_hi _ (m / 128) _ (Nat.le_refl _) (by omega) (by omega), List.singleton_append, takeNum, if_neg (by rintro (⟨h, _⟩ | h) <;> first | omega | exact absurd h (by decide)), if_pos (by omega), Int.toNat_natCast, show 128 * (m / 128) + (m % 128) % 128 = m from by omega]
    simp only [Option.map_some, List.length_append, List.length_singleton]
    rw [Nat.add_comm 1]


theorem reader_new (A : Option Addr) (c : Nat) (xs : List Int) (w : World) (hr : ReadsInt w .u8 A xs.length xs) (hc : xs.length ≤ c) (hb : IsBytes xs) (hl : xs.length ≤ 140737488355328) :
    Calls Try.prog 33 #[.slice A xs.length c] w fun e w' => ∃ g A' c', e = .returned (.pointer (some ⟨g, 0, none⟩)) ∧ w.heap.size ≤ g ∧ Hid (Rd w' w.heap.size g A' c' xs (some 0)) ∧ Hid (Below w.heap.size w w') :=
  (newreader_calls A c xs w hr hc hb hl).mono fun e w' ⟨g, A', c', h1, h2, h3, h4⟩ => ⟨g, A', c', h1, h2, Lib.hid h3, Lib.hid h4⟩
/-- A Reader's doings are below. -/
theorem Chg.reader {w w1 w2 : World} {g : Nat} (k : Chg (fun k => k = g) w1 w2) (h : Below w.heap.size w w1) (hg : w.heap.size ≤ g) : Below w.heap.size w w2 := h.trans (k.below h.size fun i hi e => by omega)

theorem numR_enc (xs : List Int) (k : Nat) (hb : IsBytes xs) (h : (numR xs (some 0)).2 = some k) : encNum (numR xs (some 0)).1 = xs.take k ∧ k ≤ xs.length := by
  have hle := numR_le xs (some 0) k h
  have e : numR xs (some 0) = match takeNum 0 true xs with | none => (0, none) | some (m, k) => (m, some (0 + k)) := by
    show (match takeNum 0 true (xs.drop 0) with | none => ((0, none) : Nat × Option Nat) | some (m, k) => (m, some (0 + k))) = _
    rw [List.drop_zero]
  rw [e] at h ⊢
  cases hn : takeNum 0 true xs with
  | none => rw [hn] at h; cases h
  | some p =>
    rw [hn] at h
    injection h with h
    have := takeNum_enc xs 0 true p.1 p.2 hb (.inl ⟨rfl, rfl⟩) hn
    rw [encHi_zero, List.nil_append] at this
    refine ⟨?_, hle⟩
    show encNum p.1 = _
    rw [← this, ← h, Nat.zero_add]

theorem intR_cons (c : Int) (cs : List Int) : intR (c :: cs) (some 0) = match takeNum 0 true cs with | none => (0, none) | some (m, k) => if 1 < c ∨ 9223372036854775808 ≤ m then (0, none) else (if c = 1 then -1 - (m : Int) else (m : Int), some (1 + k)) := by
  have e1 : byteR (c :: cs) (some 0) = (c, some 1) := by simp [byteR]
  have e2 : numR (c :: cs) (some 1) = match takeNum 0 true cs with | none => (0, none) | some (m, k) => (m, some (1 + k)) := rfl
  unfold intR
  rw [e1]
  dsimp only
  rw [e2]
  cases takeNum 0 true cs with
  | none => rfl
  | some p => rfl

theorem intR_enc (xs : List Int) (k : Nat) (hb : IsBytes xs) (h : (intR xs (some 0)).2 = some k) : encInt (intR xs (some 0)).1 = xs.take k ∧ k ≤ xs.length ∧ -9223372036854775808 ≤ (intR xs (some 0)).1 ∧ (intR xs (some 0)).1 ≤ 9223372036854775807 := by
  cases xs with
  | nil => cases h
  | cons c cs =>
    have hc := hb c (by simp)
    rw [intR_cons] at h ⊢
    cases hn : takeNum 0 true cs with
    | none => rw [hn] at h; cases h
    | some p =>
      have hp := takeNum_le _ _ _ p.1 p.2 hn
      have := takeNum_enc cs 0 true p.1 p.2 (fun x hx => hb x (by simp [hx])) (.inl ⟨rfl, rfl⟩) hn
      rw [encHi_zero, List.nil_append] at this
      rw [hn] at h
      dsimp only at h ⊢
      by_cases hbad : 1 < c ∨ 9223372036854775808 ≤ p.1
      · rw [if_pos hbad] at h; cases h
      · rw [if_neg hbad] at h ⊢
        injection h with h
        dsimp only
        subst h
        rw [show 1 + p.2 = p.2 + 1 from by omega, List.take_succ_cons, List.length_cons]
        unfold encInt
        by_cases h1 : c = 1
        · rw [if_pos h1, if_pos (by omega), show (-(-1 - (p.1 : Int)) - 1).toNat = p.1 from by omega, this, h1]
          exact ⟨rfl, by omega, by omega, by omega⟩
        · rw [if_neg h1, if_neg (by omega), Int.toNat_natCast, this, show c = 0 from by omega]
          exact ⟨rfl, by omega, by omega, by omega⟩

theorem textR_enc (xs : List Int) (k : Nat) (hb : IsBytes xs) (hl : xs.length ≤ 3000) (h : (textR xs (some 0)).2 = some k) : encText (strOfNums (textR xs (some 0)).1) = xs.take k ∧ k ≤ xs.length ∧ (strOfNums (textR xs (some 0)).1).size ≤ 3000 := by
  unfold textR at h ⊢
  cases hn : (numR xs (some 0)).2 with
  | none => rw [hn] at h; cases h
  | some a =>
    have hne := numR_enc xs a hb hn
    rw [hn] at h
    dsimp only at h ⊢
    by_cases hbad : 1048576 < (numR xs (some 0)).1 ∨ xs.length - a < (numR xs (some 0)).1
    · rw [if_pos hbad] at h; cases h
    · rw [if_neg hbad] at h ⊢
      generalize (numR xs (some 0)).1 = n at h hne hbad ⊢
      injection h with h
      dsimp only
      subst h
      have hlt : ((xs.drop a).take n).length = n := by rw [List.length_take, List.length_drop]; omega
      have hb2 : IsBytes ((xs.drop a).take n) := (hb.drop a).take n
      unfold encText
      rw [strOfNums_size, hlt, hne.1, bytesOf_str _ hb2]
      refine ⟨?_, by omega, by omega⟩
      rw [← List.take_append_drop a (xs.take (a + n)), List.take_take, Nat.min_eq_left (by omega), List.drop_take, show a + n - a = n from by omega]

/-- n things, one behind another, or up to where it is bad. -/
def loopR {α : Type} (each : Option Nat → α × Option Nat) : Nat → Option Nat → List α × Option Nat
  | 0, s => ([], s)
  | n + 1, s => if s = none then ([], none) else ((each s).1 :: (loopR each n (each s).2).1, (loopR each n (each s).2).2)
theorem loopR_none {α : Type} (each : Option Nat → α × Option Nat) (n : Nat) : loopR each n none = ([], none) := by cases n <;> rfl
theorem loopR_some {α : Type} (each : Option Nat → α × Option Nat) (n a : Nat) : loopR each (n + 1) (some a) = ((each (some a)).1 :: (loopR each n (each (some a)).2).1, (loopR each n (each (some a)).2).2) := rfl
/-- A list: nothing where it is bad. -/
def getR {α : Type} (xs : List Int) (each : Option Nat → α × Option Nat) (s : Option Nat) : List α × Option Nat :=
  let t := (numR xs s).2
  let t := if 4096 < (numR xs s).1 ∨ leftR xs t < (numR xs s).1 then none else t
  let r := loopR each (numR xs s).1 t
  if r.2 = none then ([], none) else r

theorem Rd.move {w w1 : World} {base g : Nat} {A : Option Addr} {c : Nat} {xs : List Int} {s : Option Nat} {ok : Nat → Prop} (h : Rd w base g A c xs s) (hc : Chg ok w w1) (hg : ¬ ok g) (hA : ∀ k, (Value.slice A xs.length c).ownBlock = some k → ¬ ok k) : Rd w1 base g A c xs s :=
  ⟨hc.get h.1 hg, own_move h.2.1 (fun k hk => hc.block k (own_lt h.2.1 k hk) (hA k hk)), h.2.2⟩

theorem hi_bytes (n : Nat) : ∀ k, IsBytes (hi n k)
  | 0 => fun x hx => by cases hx
  | k + 1 => fun x hx => by
    rcases List.mem_cons.1 hx with rfl | hx
    · omega
    · exact hi_bytes n k x hx
theorem encNum_bytes (n : Nat) : IsBytes (encNum n) := (hi_bytes n _).append (fun x hx => by
  rw [List.mem_singleton] at hx
  subst hx
  omega)

end Go.Proofs.Ytneebjlpeekmbaa
