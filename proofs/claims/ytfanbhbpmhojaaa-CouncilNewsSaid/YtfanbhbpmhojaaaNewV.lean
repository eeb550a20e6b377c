/- Which councils there may be: the plain law of textOf, Voters of the reference, Text. No program. -/
import Derived.Test.YtfanbhbpmhojaaaRefB
import Derived.Test.YtfanbhbpmhojaaaVot
namespace Go.Proofs.Ytfanbhbpmhojaaa
open Go.RowKit Go.Proofs.YtfanbhbpmhojaaaW.PrintWords Go.Proofs.YtfanbhbpmhojaaaW.PrintLast Go.Proofs.YtfanbhbpmhojaaaW.PrintMore PRef
set_option linter.unusedVariables false
set_option linter.unusedSimpArgs false

def isB (xs : List Int) : Prop := ∀ x ∈ xs, 0 ≤ x ∧ x ≤ 255
theorem str_bytes (s : ByteArray) : strOfNums (bytesOf s) = s := by
  unfold strOfNums bytesOf
  rw [List.map_map]
  have : ((fun n : Int => UInt8.ofNat n.toNat) ∘ fun b : UInt8 => (b.toNat : Int)) = id := by
    funext b
    simp
  rw [this, List.map_id]
theorem bytes_str (xs : List Int) (h : isB xs) : bytesOf (strOfNums xs) = xs := by
  unfold bytesOf strOfNums
  simp only [List.map_map]
  have : ∀ x ∈ xs, ((fun b : UInt8 => (b.toNat : Int)) ∘ fun n : Int => UInt8.ofNat n.toNat) x = x := by
    intro x hx
    have := h x hx
    simp only [Function.comp]
    rw [UInt8.toNat_ofNat']
    omega
  rw [List.map_congr_left this]
  simp
theorem rd_getD (l : List Int) (i : Nat) : rd l (i : Int) = l.getD i 0 := by unfold rd; rw [Int.toNat_natCast]
theorem wrap_add1 (i : Nat) (h : i < 1000000) : wrap64 ((i : Int) + 1) = ((i + 1 : Nat) : Int) := by rw [IntWalk.wrap64_in _ (by omega)]; omega

/-- A voter's number. -/
def okN (x : Int) : Prop := 0 ≤ x ∧ x < 7
instance (x : Int) : Decidable (okN x) := inferInstanceAs (Decidable (_ ∧ _))

theorem text_l0 (l : List Int) (hl : l.length ≤ 1000) : ∀ (n i : Nat), i ≤ l.length → l.length - i < n → (∀ j, j < i → okN (l.getD j 0)) → council_textOf.l0 n (l.take i) l (l.length : Int) (i : Int) = some (if ∀ x ∈ l, okN x then strOfNums l else ⟨#[]⟩)
  | 0, i, hi, hn, hk => by omega
  | n + 1, i, hi, hn, hk => by
    unfold council_textOf.l0
    by_cases h : i < l.length
    · rw [if_pos (by omega), if_pos (by omega), if_pos (by omega), rd_getD]
      have hmem : l.getD i 0 ∈ l := by rw [List.getD_eq_getElem?_getD, List.getElem?_eq_getElem h]; exact List.getElem_mem _
      by_cases h0 : l.getD i 0 < 0
      · rw [if_pos h0, if_neg (fun hall => by have := (hall _ hmem).1; omega)]
      · rw [if_neg h0]
        by_cases h7 : l.getD i 0 ≥ 7
        · rw [if_pos h7, if_neg (fun hall => by have := (hall _ hmem).2; omega)]
        · rw [if_neg h7, if_pos (by rw [List.length_take]; omega), show l.getD i 0 % 256 = l.getD i 0 from by omega, take_snoc' l i h, wrap_add1 i (by omega)]
          exact text_l0 l hl n (i + 1) h (by omega) (fun j hj => by
            by_cases hji : j = i
            · subst hji; exact ⟨by omega, by omega⟩
            · exact hk j (by omega))
    · rw [if_neg (by omega), List.take_of_length_le (by omega), if_pos]
      intro x hx
      obtain ⟨j, hj, rfl⟩ := List.mem_iff_getElem.1 hx
      have := hk j (by omega)
      rw [List.getD_eq_getElem?_getD, List.getElem?_eq_getElem hj] at this
      exact this
theorem text_f (l : List Int) (hl : l.length ≤ 1000) : council_textOf.f (l.length + 1) l = some (if ∀ x ∈ l, okN x then strOfNums l else ⟨#[]⟩) := by
  have := text_l0 l hl (l.length + 1) 0 (by omega) (by omega) (fun j hj => absurd hj (by omega))
  unfold council_textOf.f
  exact this

/-- Voters as the law asks for them: some, each a node, rising. -/
def okL (l : List Int) (i : Nat) : Prop := 0 ≤ l.getD i 0 ∧ l.getD i 0 < 7 ∧ (i = 0 ∨ l.getD (i - 1) 0 < l.getD i 0)
def rightL (l : List Int) : Prop := 0 < l.length ∧ ∀ i, i < l.length → okL l i

theorem votV_text (l : List Int) : (0 < (votV (if ∀ x ∈ l, okN x then strOfNums l else ⟨#[]⟩)).length) ↔ rightL l := by
  by_cases h : ∀ x ∈ l, okN x
  · rw [if_pos h]
    have hb : bytesOf (strOfNums l) = l := bytes_str l (fun x hx => by have := h x hx; unfold okN at this; omega)
    unfold votV
    rw [hb]
    constructor
    · intro hp
      split at hp
      · rename_i hall
        exact ⟨hp, fun i hi => ⟨(h _ (by rw [List.getD_eq_getElem?_getD, List.getElem?_eq_getElem hi]; exact List.getElem_mem _)).1, (hall i hi).1, (hall i hi).2⟩⟩
      · exact absurd hp (by decide)
    · intro hr
      rw [if_pos (fun i hi => ⟨(hr.2 i hi).2.1, (hr.2 i hi).2.2⟩)]
      exact hr.1
  · rw [if_neg h]
    constructor
    · intro hp; exact absurd hp (by decide +kernel)
    · intro hr
      exact absurd (fun x hx => by
        obtain ⟨j, hj, rfl⟩ := List.mem_iff_getElem.1 hx
        have := hr.2 j hj
        unfold okL at this
        rw [List.getD_eq_getElem?_getD, List.getElem?_eq_getElem hj] at this
        exact ⟨this.1, this.2.1⟩) h
theorem text_size (l : List Int) : (if ∀ x ∈ l, okN x then strOfNums l else ⟨#[]⟩).size ≤ l.length := by
  split
  · unfold strOfNums; show (List.toArray _).size ≤ _; simp
  · exact Nat.zero_le _

theorem lref_l0 (s : ByteArray) (hs : s.size ≤ 1000) : ∀ (n i : Nat), i ≤ s.size → s.size - i < n → (∀ j, j < i → okV (bytesOf s) j) → lamellaref10_Voters.l0 n s ((bytesOf s).take i) (i : Int) = some (votV s, decide (0 < (votV s).length))
  | 0, i, hi, hn, hk => by omega
  | n + 1, i, hi, hn, hk => by
    have hlen := bytesOf_length s
    unfold lamellaref10_Voters.l0
    by_cases h : i < s.size
    · have hbt : bt s (i : Int) = (bytesOf s).getD i 0 := by rw [← rd_bytesOf, rd_getD]
      have h0 := bytesOf_nonneg s i
      have h255 := (bt_range s (i : Int)).2
      rw [hbt] at h255
      rw [if_pos (by omega), if_pos (by omega), hbt, IntWalk.wrap64_in _ (by omega)]
      have hlt : ((bytesOf s).take i).length = i := by rw [List.length_take]; omega
      have hno : ∀ (hh : ¬ okV (bytesOf s) i), votV s = [] := fun hh => by
        unfold votV
        rw [if_neg (fun hall => hh (hall i (by omega)))]
      have hnx : ∀ (hh : okV (bytesOf s) i), lamellaref10_Voters.l0 n s ((bytesOf s).take (i + 1)) ((i + 1 : Nat) : Int) = some (votV s, decide (0 < (votV s).length)) := fun hh =>
        lref_l0 s hs n (i + 1) h (by omega) (fun j hj => by
          by_cases hji : j = i
          · subst hji; exact hh
          · exact hk j (by omega))
      by_cases h6 : (bytesOf s).getD i 0 > 6
      · rw [if_pos h6, hno (fun hh => by have := hh.1; omega)]; rfl
      · rw [if_neg h6, hlt]
        have e1 : (bytesOf s).take i ++ [(bytesOf s).getD i 0] = (bytesOf s).take (i + 1) := take_snoc' (bytesOf s) i (by omega)
        by_cases hi0 : i = 0
        · rw [if_neg (by omega), if_pos (by omega), e1, wrap_add1 i (by omega)]
          exact hnx ⟨by omega, .inl hi0⟩
        · rw [if_pos (by omega), IntWalk.wrap64_in _ (by omega), if_pos (by omega), if_pos (by omega)]
          have er : rd ((bytesOf s).take i) ((i : Int) - 1) = (bytesOf s).getD (i - 1) 0 := by
            rw [show (i : Int) - 1 = ((i - 1 : Nat) : Int) from by omega, rd_getD, List.getD_eq_getElem?_getD, List.getD_eq_getElem?_getD, List.getElem?_take_of_lt (by omega)]
          rw [er]
          by_cases hp : (bytesOf s).getD (i - 1) 0 ≥ (bytesOf s).getD i 0
          · rw [if_pos hp, hno (fun hh => by rcases hh.2 with h1 | h1; exact hi0 h1; omega)]; rfl
          · rw [if_neg hp, if_pos (by omega), e1, wrap_add1 i (by omega)]
            exact hnx ⟨by omega, .inr (by omega)⟩
    · have hall : votV s = bytesOf s := by
        unfold votV
        rw [if_pos (fun j hj => hk j (by omega))]
      rw [if_neg (by omega), List.take_of_length_le (by omega), ← hall]
      congr 3
      exact propext (by omega)
theorem lref_f (s : ByteArray) (hs : s.size ≤ 1000) : lamellaref10_Voters.f (s.size + 1) s = some (votV s, decide (0 < (votV s).length)) := by
  have := lref_l0 s hs (s.size + 1) 0 (by omega) (by omega) (fun j hj => absurd hj (by omega))
  unfold lamellaref10_Voters.f
  exact this

theorem rtext_l0 (l : List Int) (hl : l.length ≤ 1000) : ∀ (n i : Nat) (x : List Int), i ≤ l.length → l.length - i < n → x.length = i → ∃ t, lamellaref10_Text.l0 n x l (l.length : Int) (i : Int) = some t
  | 0, i, x, hi, hn, hx => by omega
  | n + 1, i, x, hi, hn, hx => by
    unfold lamellaref10_Text.l0
    by_cases h : i < l.length
    · rw [if_pos (by omega), if_pos (by omega), if_pos (by omega), if_pos (by omega), wrap_add1 i (by omega)]
      exact rtext_l0 l hl n (i + 1) _ h (by omega) (by rw [List.length_append, hx]; rfl)
    · rw [if_neg (by omega)]
      exact ⟨_, rfl⟩
theorem rtext_f (l : List Int) (hl : l.length ≤ 1000) : ∃ t, lamellaref10_Text.f (l.length + 1) l = some t := rtext_l0 l hl (l.length + 1) 0 [] (by omega) (by omega) rfl

end Go.Proofs.Ytfanbhbpmhojaaa
