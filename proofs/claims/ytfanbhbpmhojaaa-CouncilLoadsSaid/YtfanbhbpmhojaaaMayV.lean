/- Which states there may be: the reference's May, its Last, its Now, as plain law. No program in sight. What the reference's reader of a state takes is what the council's takes. No program in sight. -/
import Derived.Test.YtfanbhbpmhojaaaLo3
import Derived.Test.YtfanbhbpmhojaaaRefM
namespace Go.Proofs.Ytfanbhbpmhojaaa
open Go.RowKit Go.Proofs.YtfanbhbpmhojaaaW.PrintWords Go.Proofs.YtfanbhbpmhojaaaW.PrintLast Go.Proofs.YtfanbhbpmhojaaaW.PrintMore PRef
set_option linter.unusedVariables false
set_option linter.unusedSimpArgs false

theorem rd_getDn (l : List Int) (i : Nat) : rd l (i : Int) = l.getD i 0 := by unfold rd; rw [Int.toNat_natCast]
theorem wrap_nat1 (i : Nat) (h : i < 1000000) : wrap64 ((i : Int) + 1) = ((i + 1 : Nat) : Int) := by rw [IntWalk.wrap64_in _ (by omega)]; omega
theorem vref_l0 (s : ByteArray) (hs : s.size ≤ 9223372036854775807) : ∀ (n i : Nat), i ≤ s.size → 8 - i < n → (∀ j, j < i → okV (bytesOf s) j) → lamellaref10_Voters.l0 n s ((bytesOf s).take i) (i : Int) = some (votV s, decide (0 < (votV s).length))
  | 0, i, hi, hn, hk => by omega
  | n + 1, i, hi, hn, hk => by
    have hlen := bytesOf_length s
    have hi7 := okV_le s i hk
    unfold lamellaref10_Voters.l0
    by_cases h : i < s.size
    · have hbt : bt s (i : Int) = (bytesOf s).getD i 0 := by rw [← rd_bytesOf, rd_getDn]
      have h0 := bytesOf_nonneg s i
      have h255 := (bt_range s (i : Int)).2
      rw [hbt] at h255
      rw [if_pos (by omega), if_pos (by omega), hbt, IntWalk.wrap64_in _ (by omega)]
      have hlt : ((bytesOf s).take i).length = i := by rw [List.length_take]; omega
      have hno : ∀ (hh : ¬ okV (bytesOf s) i), votV s = [] := fun hh => by
        unfold votV
        rw [if_neg (fun hall => hh (hall i (by omega)))]
      have hnx : ∀ (hh : okV (bytesOf s) i), lamellaref10_Voters.l0 n s ((bytesOf s).take (i + 1)) ((i + 1 : Nat) : Int) = some (votV s, decide (0 < (votV s).length)) := fun hh => by
        have hk1 : ∀ j, j < i + 1 → okV (bytesOf s) j := fun j hj => by
          by_cases hji : j = i
          · subst hji; exact hh
          · exact hk j (by omega)
        have := okV_le s (i + 1) hk1
        exact vref_l0 s hs n (i + 1) h (by omega) hk1
      by_cases h6 : (bytesOf s).getD i 0 > 6
      · rw [if_pos h6, hno (fun hh => by have := hh.1; omega)]; rfl
      · rw [if_neg h6, hlt]
        have e1 : (bytesOf s).take i ++ [(bytesOf s).getD i 0] = (bytesOf s).take (i + 1) := take_snoc' (bytesOf s) i (by omega)
        by_cases hi0 : i = 0
        · rw [if_neg (by omega), if_pos (by omega), e1, wrap_nat1 i (by omega)]
          exact hnx ⟨by omega, .inl hi0⟩
        · rw [if_pos (by omega), IntWalk.wrap64_in _ (by omega), if_pos (by omega), if_pos (by omega)]
          have er : rd ((bytesOf s).take i) ((i : Int) - 1) = (bytesOf s).getD (i - 1) 0 := by
            rw [show (i : Int) - 1 = ((i - 1 : Nat) : Int) from by omega, rd_getDn, List.getD_eq_getElem?_getD, List.getD_eq_getElem?_getD, List.getElem?_take_of_lt (by omega)]
          rw [er]
          by_cases hp : (bytesOf s).getD (i - 1) 0 ≥ (bytesOf s).getD i 0
          · rw [if_pos hp, hno (fun hh => by rcases hh.2 with h1 | h1; exact hi0 h1; omega)]; rfl
          · rw [if_neg hp, if_pos (by omega), e1, wrap_nat1 i (by omega)]
            exact hnx ⟨by omega, .inr (by omega)⟩
    · have hall : votV s = bytesOf s := by
        unfold votV
        rw [if_pos (fun j hj => hk j (by omega))]
      rw [if_neg (by omega), List.take_of_length_le (by omega), ← hall]
      congr 3
      exact propext (by omega)
theorem vref_f (s : ByteArray) (hs : s.size ≤ 9223372036854775807) (k : Nat) (hk : 9 ≤ k) : lamellaref10_Voters.f k s = some (votV s, decide (0 < (votV s).length)) := by
  have := vref_l0 s hs k 0 (by omega) (by omega) (fun j hj => absurd hj (by omega))
  unfold lamellaref10_Voters.f
  exact this

def mayS (x : Sta) : Prop := mayL x ∧ x.log.length ≤ 4096

theorem may_l0 (x : Sta) (t v i p : Int) (vo tx : ByteArray) (l : List S39) (hs : ∀ y ∈ x.log, y.f2.size ≤ 9223372036854775807) (hl : x.log.length ≤ 4096) :
    ∀ (d k : Nat), k + d = x.log.length → ∀ n, d + 12 ≤ n → (∀ j, j < k → okR x.past t x.log j) → ∃ b, lamellaref10_May.l0 n (fromAt x.past x.log k) x.log (x.log.length : Int) (k : Int) t v i p vo tx l = some b ∧ (b = true ↔ ∀ j, j < x.log.length → okR x.past t x.log j)
  | 0, k, hk, 0, hn, hok => by omega
  | d + 1, k, hk, 0, hn, hok => by omega
  | 0, k, hk, n + 1, hn, hok => by
    unfold lamellaref10_May.l0
    rw [if_neg (by omega)]
    exact ⟨true, rfl, fun _ j hj => hok j (by omega), fun _ => rfl⟩
  | d + 1, k, hk, n + 1, hn, hok => by
    unfold lamellaref10_May.l0
    have hlt : k < x.log.length := by omega
    have hrd : rd_T39 x.log (k : Int) = x.log.getD k z39 := by unfold rd_T39; rw [Int.toNat_natCast]
    have hmem : x.log.getD k z39 ∈ x.log := by rw [List.getD_eq_getElem?_getD, List.getElem?_eq_getElem hlt]; exact List.getElem_mem hlt
    have ih := may_l0 x t v i p vo tx l hs hl d (k + 1) (by omega) n (by omega)
    rw [fromAt_succ] at ih
    rw [if_pos (by omega), if_pos (by omega), if_pos (by omega), hrd, vref_f _ (hs _ hmem) n (by omega), wrap_nat1 k (by omega)]
    have hno : ∀ (hh : ¬ okR x.past t x.log k), ∃ b, some false = some b ∧ (b = true ↔ ∀ j, j < x.log.length → okR x.past t x.log j) := fun hh => ⟨false, rfl, fun h => (by cases h), fun h => absurd (h k hlt) hh⟩
    have hyes : ∀ (hh : okR x.past t x.log k), ∃ b, lamellaref10_May.l0 n (x.log.getD k z39).f0 x.log (x.log.length : Int) ((k + 1 : Nat) : Int) t v i p vo tx l = some b ∧ (b = true ↔ ∀ j, j < x.log.length → okR x.past t x.log j) := fun hh => ih (fun j hj => by
      by_cases hjk : j = k
      · subst hjk; exact hh
      · exact hok j (by omega))
    clear ih
    unfold okR isEnt at hno hyes
    generalize x.log.getD k z39 = y at hno hyes
    simp only [Option.bind_some]
    generalize fromAt x.past x.log k = f at hno hyes ⊢
    by_cases h1 : y.f0 < f
    · rw [if_pos h1]; exact hno (fun h => by omega)
    rw [if_neg h1]
    by_cases h2 : y.f0 > t
    · rw [if_pos h2]; exact hno (fun h => by omega)
    rw [if_neg h2]
    by_cases h3 : y.f1 < 0
    · rw [if_pos h3]; exact hno (fun h => by omega)
    rw [if_neg h3]
    by_cases h4 : y.f1 > 2
    · rw [if_pos h4]; exact hno (fun h => by omega)
    rw [if_neg h4]
    by_cases h5 : y.f1 = 2
    · rw [if_pos h5]
      by_cases h6 : 0 < (votV y.f2).length
      · rw [if_pos (decide_eq_true h6)]
        by_cases h7 : (y.f2.size : Int) > 4096
        · rw [if_pos h7]; exact hno (fun h => by omega)
        · rw [if_neg h7]
          exact hyes ⟨⟨by omega, by omega, .inr h6, by omega⟩, by omega, by omega⟩
      · rw [if_neg (by rw [decide_eq_true_iff]; exact h6)]
        exact hno (fun h => by rcases h.1.2.2.1 with h8 | h8; exact h8 h5; exact h6 h8)
    · rw [if_neg h5]
      by_cases h7 : (y.f2.size : Int) > 4096
      · rw [if_pos h7]; exact hno (fun h => by omega)
      · rw [if_neg h7]
        exact hyes ⟨⟨by omega, by omega, .inl h5, by omega⟩, by omega, by omega⟩

theorem mayS_iff (x : Sta) : mayS x ↔ 0 < (votV x.vot).length ∧ 0 ≤ x.term ∧ x.term ≤ 1099511627776 ∧ -1 ≤ x.vote ∧ x.vote ≤ 6 ∧ 0 ≤ x.idx ∧ x.idx ≤ 1099511627776 ∧ 0 ≤ x.past ∧ x.past ≤ x.term ∧ x.log.length ≤ 4096 ∧ ∀ j, j < x.log.length → okR x.past x.term x.log j := by
  unfold mayS mayL riseS
  constructor
  · rintro ⟨⟨h1, h2, h3, h4, h5, h6, h7, h8, h9, h10⟩, h11⟩
    refine ⟨h1, h2, h3, h4, by omega, h6, h7, h8, ?_, h11, h9⟩
    by_cases h0 : x.log.length = 0
    · rw [h0] at h10; exact h10
    · have := h9 0 (by omega)
      unfold okR at this
      have e : fromAt x.past x.log 0 = x.past := rfl
      rw [e] at this
      omega
  · rintro ⟨h1, h2, h3, h4, h5, h6, h7, h8, h9, h10, h11⟩
    refine ⟨⟨h1, h2, h3, h4, by omega, h6, h7, h8, h11, ?_⟩, h10⟩
    by_cases h0 : x.log.length = 0
    · rw [h0]; exact h9
    · have := (h11 (x.log.length - 1) (by omega)).2.2
      unfold fromAt
      rw [if_neg h0]
      exact this

theorem j0_succ (n : Nat) (a b c d : Int) (e f : ByteArray) (l : List S39) : lamellaref10_May.j0 (n + 1) false a b c d e f l = lamellaref10_May.l0 n d l (l.length : Int) 0 a b c d e f l := by unfold lamellaref10_May.j0; simp
theorem may_f (x : Sta) (hv : x.vot.size ≤ 9223372036854775807) (hs : ∀ y ∈ x.log, y.f2.size ≤ 9223372036854775807) : ∃ b, lamellaref10_May.f 5000 x.term x.vote x.idx x.past x.vot x.text x.log = some b ∧ (b = true ↔ mayS x) := by
  have hj : ∀ (n : Nat), lamellaref10_May.j0 (n + 1) true x.term x.vote x.idx x.past x.vot x.text x.log = some false := fun n => by unfold lamellaref10_May.j0; simp
  have hno : ∀ (hh : ¬ mayS x), ∃ b, lamellaref10_May.j0 5000 true x.term x.vote x.idx x.past x.vot x.text x.log = some b ∧ (b = true ↔ mayS x) := fun hh => ⟨false, hj 4999, fun h => (by cases h), fun h => absurd h hh⟩
  unfold lamellaref10_May.f
  rw [vref_f x.vot hv 5000 (by omega), Option.bind_some]
  rw [mayS_iff] at hno ⊢
  by_cases h0 : 0 < (votV x.vot).length
  · rw [if_pos (decide_eq_true h0)]
    by_cases h1 : x.term < 0
    · rw [if_pos h1]; exact hno (fun h => by omega)
    rw [if_neg h1]
    by_cases h2 : x.term > 1099511627776
    · rw [if_pos h2]; exact hno (fun h => by omega)
    rw [if_neg h2]
    by_cases h3 : x.vote < -1
    · rw [if_pos h3]; exact hno (fun h => by omega)
    rw [if_neg h3]
    by_cases h4 : x.vote > 6
    · rw [if_pos h4]; exact hno (fun h => by omega)
    rw [if_neg h4]
    by_cases h5 : x.idx < 0
    · rw [if_pos h5]; exact hno (fun h => by omega)
    rw [if_neg h5]
    by_cases h6 : x.idx > 1099511627776
    · rw [if_pos h6]; exact hno (fun h => by omega)
    rw [if_neg h6]
    by_cases h7 : x.past < 0
    · rw [if_pos h7]; exact hno (fun h => by omega)
    rw [if_neg h7]
    by_cases h8 : x.past > x.term
    · rw [if_pos h8]; exact hno (fun h => by omega)
    rw [if_neg h8]
    by_cases h9 : (x.log.length : Int) > 4096
    · rw [decide_eq_true h9]; exact hno (fun h => by omega)
    · rw [decide_eq_false h9]
      rw [show lamellaref10_May.j0 5000 false x.term x.vote x.idx x.past x.vot x.text x.log = lamellaref10_May.l0 4999 x.past x.log (x.log.length : Int) 0 x.term x.vote x.idx x.past x.vot x.text x.log from j0_succ 4999 _ _ _ _ _ _ _]
      obtain ⟨b, h10, h11⟩ := may_l0 x x.term x.vote x.idx x.past x.vot x.text x.log hs (by omega) x.log.length 0 (by omega) 4999 (by omega) (fun j hj => absurd hj (by omega))
      refine ⟨b, h10, fun h => ⟨h0, by omega, by omega, by omega, by omega, by omega, by omega, by omega, by omega, by omega, h11.1 h⟩, fun h => h11.2 h.2.2.2.2.2.2.2.2.2.2⟩
  · rw [if_neg (by rw [decide_eq_true_iff]; exact h0)]
    exact hno (fun h => h0 h.1)

end Go.Proofs.Ytfanbhbpmhojaaa

namespace Go.Proofs.Ytfanbhbpmhojaaa
open Go.RowKit Go.Proofs.YtfanbhbpmhojaaaW.PrintWords Go.Proofs.YtfanbhbpmhojaaaW.PrintLast Go.Proofs.YtfanbhbpmhojaaaW.PrintMore PRef
set_option linter.unusedVariables false
set_option linter.unusedSimpArgs false

theorem encEnt_pos (x : S39) : 0 < (encEnt x).length := by
  unfold encEnt
  rw [List.length_append, List.length_append]
  have := encInt_pos x.f0
  omega
theorem encAll_ge (l : List S39) : l.length ≤ (encAll encEnt l).length := by
  induction l with
  | nil => exact Nat.zero_le _
  | cons x l ih =>
    have := encEnt_pos x
    show l.length + 1 ≤ (encEnt x ++ encAll encEnt l).length
    rw [List.length_append]
    omega
theorem loop_far {xs : List Int} (hb : IsBytes xs) (hl : xs.length ≤ 60000) (n a k : Nat) (ha : a ≤ xs.length) (h : (loopR (entR xs) n (some a)).2 = some k) : a + n ≤ k ∧ k ≤ xs.length := by
  have hp : Pre xs (some a) (xs.take a) := ⟨a, rfl, ha, rfl⟩
  obtain ⟨⟨k', h1, h2, h3⟩, h4, _⟩ := pre_loop (bk_ent hb hl) n hp (by rw [h]; simp)
  rw [h] at h1
  injection h1 with h1
  subst h1
  have h5 := congrArg List.length h3
  rw [List.length_append, List.length_take, List.length_take] at h5
  have := encAll_ge (loopR (entR xs) n (some a)).1
  omega
theorem get_loop {xs : List Int} (hb : IsBytes xs) (hl : xs.length ≤ 60000) {a a2 n : Nat} (hn : numR xs (some a) = (n, some a2)) (ha : a2 ≤ xs.length) (h4 : n ≤ 4096) {l : List S39} {u : Option Nat} (h : Stp (loopR (entR xs) n (some a2)) l u) : Stp (getR xs (entR xs) (some a)) l u := by
  obtain ⟨h1, h2⟩ := h
  unfold getR
  rw [hn]
  dsimp only
  by_cases hc : 4096 < n ∨ leftR xs (some a2) < n
  · rw [if_pos hc, loopR_none]
    have hu : u = none := by
      cases hu : u with
      | none => rfl
      | some k =>
        rw [hu] at h1
        have := loop_far hb hl n a2 k ha h1.symm
        have e : leftR xs (some a2) = xs.length - a2 := rfl
        rw [e] at hc
        omega
    subst hu
    exact ⟨rfl, fun h => absurd rfl h⟩
  · rw [if_neg hc]
    by_cases hu : (loopR (entR xs) n (some a2)).2 = none
    · rw [if_pos hu, h1, hu]
      exact ⟨rfl, fun h => absurd rfl h⟩
    · rw [if_neg hu]
      exact ⟨h1, h2⟩
theorem intR_bad (xs : List Int) : (intR xs none).2 = none := rfl
theorem textS_bad (xs : List Int) : (textS xs none).2 = none := rfl
theorem getR_bad (xs : List Int) : (getR xs (entR xs) none).2 = none := by
  cases h : (getR xs (entR xs) none).2 with
  | none => rfl
  | some k => exact absurd rfl (getR_none' (f := entR xs) (xs := xs) (s := none) (by rw [h]; simp))
theorem sta_read {xs : List Int} {s1 s2 s3 s4 s5 s6 u : Option Nat} {v1 v2 v3 v4 : Int} {vo tx : ByteArray} {l : List S39} (h1 : Stp (intR xs (some 0)) v1 s1) (h2 : Stp (intR xs s1) v2 s2) (h3 : Stp (intR xs s2) v3 s3) (h4 : Stp (intR xs s3) v4 s4) (h5 : Stp (textS xs s4) vo s5) (h6 : Stp (textS xs s5) tx s6) (h7 : Stp (getR xs (entR xs) s6) l u) :
    (staR xs (some 0)).2 = u ∧ (u ≠ none → (staR xs (some 0)).1 = ⟨v1, v2, v3, v4, vo, tx, l⟩) := by
  obtain ⟨e1, f1⟩ := h1
  obtain ⟨e2, f2⟩ := h2
  obtain ⟨e3, f3⟩ := h3
  obtain ⟨e4, f4⟩ := h4
  obtain ⟨e5, f5⟩ := h5
  obtain ⟨e6, f6⟩ := h6
  obtain ⟨e7, f7⟩ := h7
  have hi : intsR xs 4 (some 0) = ([(intR xs (some 0)).1, (intR xs s1).1, (intR xs s2).1, (intR xs s3).1], s4) := by
    rw [e4, e3, e2, e1]; rfl
  have hs : staR xs (some 0) = (⟨(intR xs (some 0)).1, (intR xs s1).1, (intR xs s2).1, (intR xs s3).1, (textS xs s4).1, (textS xs s5).1, (getR xs (entR xs) s6).1⟩, (getR xs (entR xs) s6).2) := by
    unfold staR
    rw [hi]
    dsimp only
    rw [← e5, ← e6]
    rfl
  rw [hs]
  refine ⟨e7.symm, fun hu => ?_⟩
  have n6 : s6 ≠ none := fun h => hu (by rw [e7, h, getR_bad])
  have n5 : s5 ≠ none := fun h => n6 (by rw [e6, h, textS_bad])
  have n4 : s4 ≠ none := fun h => n5 (by rw [e5, h, textS_bad])
  have n3 : s3 ≠ none := fun h => n4 (by rw [e4, h, intR_bad])
  have n2 : s2 ≠ none := fun h => n3 (by rw [e3, h, intR_bad])
  have n1 : s1 ≠ none := fun h => n2 (by rw [e2, h, intR_bad])
  rw [← f1 n1, ← f2 n2, ← f3 n3, ← f4 n4, ← f5 n5, ← f6 n6, ← f7 hu]
/-- With the length bad, the whole is. -/
theorem sta_bad {xs : List Int} {s1 s2 s3 s4 s5 s6 : Option Nat} {v1 v2 v3 v4 : Int} {vo tx : ByteArray} (h1 : Stp (intR xs (some 0)) v1 s1) (h2 : Stp (intR xs s1) v2 s2) (h3 : Stp (intR xs s2) v3 s3) (h4 : Stp (intR xs s3) v4 s4) (h5 : Stp (textS xs s4) vo s5) (h6 : Stp (textS xs s5) tx s6) (h : (numR xs s6).2 = none ∨ 4096 < (numR xs s6).1) : (staR xs (some 0)).2 = none := by
  have h7 : Stp (getR xs (entR xs) s6) (getR xs (entR xs) s6).1 none := by
    refine ⟨?_, fun h => absurd rfl h⟩
    unfold getR
    dsimp only
    rcases h with h | h
    · rw [h]
      have e : (if 4096 < (numR xs s6).1 ∨ leftR xs none < (numR xs s6).1 then none else (none : Option Nat)) = none := by split <;> rfl
      rw [e, loopR_none, if_pos rfl]
    · have e : (if 4096 < (numR xs s6).1 ∨ leftR xs (numR xs s6).2 < (numR xs s6).1 then none else (numR xs s6).2) = none := if_pos (Or.inl h)
      rw [e, loopR_none, if_pos rfl]
  exact (sta_read h1 h2 h3 h4 h5 h6 h7).1
theorem sta_len (xs : List Int) (s : Option Nat) : (staR xs s).1.log.length ≤ 4096 := getR_len xs (entR xs) _

end Go.Proofs.Ytfanbhbpmhojaaa
