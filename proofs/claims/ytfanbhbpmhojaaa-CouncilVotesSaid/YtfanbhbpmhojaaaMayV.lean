/- Which states there may be: the reference's May, its Last, its Now, as plain law. No program in sight. What the reference's reader of a state takes is what the council's takes. No program in sight. -/
import Derived.Test.YtfanbhbpmhojaaaLo3
namespace Go.Proofs.Ytfanbhbpmhojaaa
open Go.RowKit Go.Proofs.YtfanbhbpmhojaaaW.PrintWords Go.Proofs.YtfanbhbpmhojaaaW.PrintLast Go.Proofs.YtfanbhbpmhojaaaW.PrintMore PRef
set_option linter.unusedVariables false
set_option linter.unusedSimpArgs false

theorem rd_getDn (l : List Int) (i : Nat) : rd l (i : Int) = l.getD i 0 := by unfold rd; rw [Int.toNat_natCast]
theorem wrap_nat1 (i : Nat) (h : i < 1000000) : wrap64 ((i : Int) + 1) = ((i + 1 : Nat) : Int) := by rw [IntWalk.wrap64_in _ (by omega)]; omega
theorem vref_l0 (s : ByteArray) (hs : s.size ≤ 9223372036854775807) : ∀ (n i : Nat), i ≤ s.size → 8 - i < n → (∀ j, j < i → okV (bytesOf s) j) → lamellaref10_Voters.l0 n s ((bytesOf s).take i) (i : Int) = some (votV s, decide (0 < (votV s).length))
  | 0, i, hi, hn, hk => by omega
  | n + 1, i, hi, hn, hk => by
    have hlen := bytesOf_length s
    have hi7 := okV_le s i hk
    unfold lamellaref10_Voters.l0
    by_cases h : i < s.size
    · have hbt : bt s (i : Int) = (bytesOf s).getD i 0 := by rw [← rd_bytesOf, rd_getDn]
      have h0 := bytesOf_nonneg s i
      have h255 := (bt_range s (i : Int)).2
      rw [hbt] at h255
      rw [if_pos (by omega), if_pos (by omega), hbt, IntWalk.wrap64_in _ (by omega)]
      have hlt : ((bytesOf s).take i).length = i := by rw [List.length_take]; omega
      have hno : ∀ (hh : ¬ okV (bytesOf s) i), votV s = [] := fun hh => by
        unfold votV
        rw [if_neg (fun hall => hh (hall i (by omega)))]
      have hnx : ∀ (hh : okV (bytesOf s) i), lamellaref10_Voters.l0 n s ((bytesOf s).take (i + 1)) ((i + 1 : Nat) : Int) = some (votV s, decide (0 < (votV s).length)) := fun hh => by
        have hk1 : ∀ j, j < i + 1 → okV (bytesOf s) j := fun j hj => by
          by_cases hji : j = i
          · subst hji; exact hh
          · exact hk j (by omega)
        have := okV_le s (i + 1) hk1
        exact vref_l0 s hs n (i + 1) h (by omega) hk1
      by_cases h6 : (bytesOf s).getD i 0 > 6
      · rw [if_pos h6, hno (fun hh => by have := hh.1; omega)]; rfl
      · rw [if_neg h6, hlt]
        have e1 : (bytesOf s).take i ++ [(bytesOf s).getD i 0] = (bytesOf s).take (i + 1) := take_snoc' (bytesOf s) i (by omega)
        by_cases hi0 : i = 0
        · rw [if_neg (by omega), if_pos (by omega), e1, wrap_nat1 i (by omega)]
          exact hnx ⟨by omega, .inl hi0⟩
        · rw [if_pos (by omega), IntWalk.wrap64_in _ (by omega), if_pos (by omega), if_pos (by omega)]
          have er : rd ((bytesOf s).take i) ((i : Int) - 1) = (bytesOf s).getD (i - 1) 0 := by
            rw [show (i : Int) - 1 = ((i - 1 : Nat) : Int) from by omega, rd_getDn, List.getD_eq_getElem?_getD, List.getD_eq_getElem?_getD, List.getElem?_take_of_lt (by omega)]
          rw [er]
          by_cases hp : (bytesOf s).getD (i - 1) 0 ≥ (bytesOf s).getD i 0
          · rw [if_pos hp, hno (fun hh => by rcases hh.2 with h1 | h1; exact hi0 h1; omega)]; rfl
          · rw [if_neg hp, if_pos (by omega), e1, wrap_nat1 i (by omega)]
            exact hnx ⟨by omega, .inr (by omega)⟩
    · have hall : votV s = bytesOf s := by
        unfold votV
        rw [if_pos (fun j hj => hk j (by omega))]
      rw [if_neg (by omega), List.take_of_length_le (by omega), ← hall]
      congr 3
      exact propext (by omega)
theorem vref_f (s : ByteArray) (hs : s.size ≤ 9223372036854775807) (k : Nat) (hk : 9 ≤ k) : lamellaref10_Voters.f k s = some (votV s, decide (0 < (votV s).length)) := by
  have := vref_l0 s hs k 0 (by omega) (by omega) (fun j hj => absurd hj (by omega))
  unfold lamellaref10_Voters.f
  exact this

def mayS (x : Sta) : Prop := mayL x ∧ x.log.length ≤ 4096

theorem mayS_iff (x : Sta) : mayS x ↔ 0 < (votV x.vot).length ∧ 0 ≤ x.term ∧ x.term ≤ 1099511627776 ∧ -1 ≤ x.vote ∧ x.vote ≤ 6 ∧ 0 ≤ x.idx ∧ x.idx ≤ 1099511627776 ∧ 0 ≤ x.past ∧ x.past ≤ x.term ∧ x.log.length ≤ 4096 ∧ ∀ j, j < x.log.length → okR x.past x.term x.log j := by
  unfold mayS mayL riseS
  constructor
  · rintro ⟨⟨h1, h2, h3, h4, h5, h6, h7, h8, h9, h10⟩, h11⟩
    refine ⟨h1, h2, h3, h4, by omega, h6, h7, h8, ?_, h11, h9⟩
    by_cases h0 : x.log.length = 0
    · rw [h0] at h10; exact h10
    · have := h9 0 (by omega)
      unfold okR at this
      have e : fromAt x.past x.log 0 = x.past := rfl
      rw [e] at this
      omega
  · rintro ⟨h1, h2, h3, h4, h5, h6, h7, h8, h9, h10, h11⟩
    refine ⟨⟨h1, h2, h3, h4, by omega, h6, h7, h8, h11, ?_⟩, h10⟩
    by_cases h0 : x.log.length = 0
    · rw [h0]; exact h9
    · have := (h11 (x.log.length - 1) (by omega)).2.2
      unfold fromAt
      rw [if_neg h0]
      exact this

theorem encEnt_pos (x : S39) : 0 < (encEnt x).length := by
  unfold encEnt
  rw [List.length_append, List.length_append]
  have := encInt_pos x.f0
  omega
theorem encAll_ge (l : List S39) : l.length ≤ (encAll encEnt l).length := by
  induction l with
  | nil => exact Nat.zero_le _
  | cons x l ih =>
    have := encEnt_pos x
    show l.length + 1 ≤ (encEnt x ++ encAll encEnt l).length
    rw [List.length_append]
    omega
end Go.Proofs.Ytfanbhbpmhojaaa
