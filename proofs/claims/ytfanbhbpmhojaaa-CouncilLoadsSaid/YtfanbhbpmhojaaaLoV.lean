/- A state that is read whole is laid as the very bytes; what is told of it. No program in sight. -/
import Derived.Test.YtfanbhbpmhojaaaMayV
namespace Go.Proofs.Ytfanbhbpmhojaaa
open Go.RowKit Go.Proofs.YtfanbhbpmhojaaaW.PrintWords Go.Proofs.YtfanbhbpmhojaaaW.PrintLast Go.Proofs.YtfanbhbpmhojaaaW.PrintMore PRef
set_option linter.unusedVariables false
set_option linter.unusedSimpArgs false

theorem sta_uniq {xs : List Int} (hb : IsBytes xs) (hl : xs.length ≤ 60000) (h : (staR xs (some 0)).2 = some xs.length) : encSta (staR xs (some 0)).1 = xs ∧ StaI (staR xs (some 0)).1 := by
  have hi := bk_int (xs := xs) hb
  have ht := bk_text (xs := xs) hb hl
  obtain ⟨s1, e1⟩ : ∃ s1, s1 = (intR xs (some 0)).2 := ⟨_, rfl⟩
  obtain ⟨s2, e2⟩ : ∃ s2, s2 = (intR xs s1).2 := ⟨_, rfl⟩
  obtain ⟨s3, e3⟩ : ∃ s3, s3 = (intR xs s2).2 := ⟨_, rfl⟩
  obtain ⟨s4, e4⟩ : ∃ s4, s4 = (intR xs s3).2 := ⟨_, rfl⟩
  obtain ⟨s5, e5⟩ : ∃ s5, s5 = (textS xs s4).2 := ⟨_, rfl⟩
  obtain ⟨s6, e6⟩ : ∃ s6, s6 = (textS xs s5).2 := ⟨_, rfl⟩
  have hs : staR xs (some 0) = (⟨(intR xs (some 0)).1, (intR xs s1).1, (intR xs s2).1, (intR xs s3).1, (textS xs s4).1, (textS xs s5).1, (getR xs (entR xs) s6).1⟩, (getR xs (entR xs) s6).2) := by
    rw [e6, e5, e4, e3, e2, e1]; rfl
  rw [hs] at h ⊢
  dsimp only at h
  have n7 : (getR xs (entR xs) s6).2 ≠ none := by rw [h]; simp
  have n6 : s6 ≠ none := getR_none' n7
  have n5 : s5 ≠ none := fun h => n6 (by rw [e6, h, textS_bad])
  have n4 : s4 ≠ none := fun h => n5 (by rw [e5, h, textS_bad])
  have n3 : s3 ≠ none := fun h => n4 (by rw [e4, h, intR_bad])
  have n2 : s2 ≠ none := fun h => n3 (by rw [e3, h, intR_bad])
  have n1 : s1 ≠ none := fun h => n2 (by rw [e2, h, intR_bad])
  have p0 : Pre xs (some 0) [] := ⟨0, rfl, Nat.zero_le _, rfl⟩
  have q1 := hi.step p0 (by rw [← e1]; exact n1)
  have q2 := hi.step q1.1 (by rw [← e1, ← e2]; exact n2)
  rw [← e1] at q2
  have q3 := hi.step q2.1 (by rw [← e2, ← e3]; exact n3)
  rw [← e2] at q3
  have q4 := hi.step q3.1 (by rw [← e3, ← e4]; exact n4)
  rw [← e3] at q4
  have q5 := ht.step q4.1 (by rw [← e4, ← e5]; exact n5)
  rw [← e4] at q5
  have q6 := ht.step q5.1 (by rw [← e5, ← e6]; exact n6)
  rw [← e5] at q6
  have q7 := pre_get hb (bk_ent hb hl) q6.1 (by rw [← e6]; exact n7)
  rw [← e6] at q7
  obtain ⟨⟨a, ha, hal, hp⟩, h4, h5⟩ := q7
  rw [h] at ha
  injection ha with ha
  subst ha
  rw [List.take_length] at hp
  refine ⟨?_, q1.2, q2.2, q3.2, q4.2, ?_, ?_, h4, fun y hy => ?_⟩
  · refine Eq.trans ?_ hp.symm
    unfold encSta encAll
    simp
  · have := q5.2; show (textS xs s4).1.size ≤ _; omega
  · have := q6.2; show (textS xs s5).1.size ≤ _; omega
  · have := h5 y hy
    exact ⟨this.1.1, this.1.2, by omega⟩

theorem last_f (t v i p : Int) (vo tx : ByteArray) (l : List S39) (h0 : 0 ≤ i) (h1 : i ≤ 1099511627776) (hl : l.length ≤ 4096) : ∃ r2, lamellaref10_Last.f t v i p vo tx l = some (i + l.length, r2) := by
  unfold lamellaref10_Last.f
  by_cases h : (l.length : Int) = 0
  · rw [if_pos h]
    exact ⟨p, by rw [h, Int.add_zero]⟩
  · rw [if_neg h, IntWalk.wrap64_in _ (by omega), if_pos (by omega), if_pos (by omega), IntWalk.wrap64_in (i + l.length) (by omega)]
    exact ⟨_, rfl⟩

theorem now_l0 (l : List S39) (hl : l.length ≤ 4096) (vo : ByteArray) : ∀ (d k : Nat), k + d = l.length → ∀ n, d < n → lamellaref10_Now.l0 n (nowV vo (l.take k)) l (l.length : Int) (k : Int) = some (nowV vo l)
  | 0, k, hk, 0, hn => by omega
  | d + 1, k, hk, 0, hn => by omega
  | 0, k, hk, n + 1, hn => by
    unfold lamellaref10_Now.l0
    rw [if_neg (by omega), List.take_of_length_le (by omega)]
  | d + 1, k, hk, n + 1, hn => by
    unfold lamellaref10_Now.l0
    have hlt : k < l.length := by omega
    have hrd : rd_T39 l (k : Int) = l.getD k z39 := by unfold rd_T39; rw [Int.toNat_natCast]
    have ih := now_l0 l hl vo d (k + 1) (by omega) n (by omega)
    rw [nowV_snoc vo l k hlt] at ih
    rw [if_pos (by omega), if_pos (by omega), if_pos (by omega), hrd, wrap_nat1 k (by omega)]
    by_cases h2 : (l.getD k z39).f1 = 2
    · rw [if_pos h2] at ih ⊢; exact ih
    · rw [if_neg h2] at ih ⊢; exact ih
theorem now_f (t v i p : Int) (vo tx : ByteArray) (l : List S39) (hl : l.length ≤ 4096) : lamellaref10_Now.f 5000 t v i p vo tx l = some (nowV vo l) := by
  unfold lamellaref10_Now.f
  exact now_l0 l hl vo l.length 0 (by omega) 5000 (by omega)

theorem rtext_m0 (l : List Int) (hl : l.length ≤ 1000) : ∀ (n i : Nat) (x : List Int), i ≤ l.length → l.length - i < n → x.length = i → ∃ t, lamellaref10_Text.l0 n x l (l.length : Int) (i : Int) = some t
  | 0, i, x, hi, hn, hx => by omega
  | n + 1, i, x, hi, hn, hx => by
    unfold lamellaref10_Text.l0
    by_cases h : i < l.length
    · rw [if_pos (by omega), if_pos (by omega), if_pos (by omega), if_pos (by omega), wrap_nat1 i (by omega)]
      exact rtext_m0 l hl n (i + 1) _ h (by omega) (by rw [List.length_append, hx]; rfl)
    · rw [if_neg (by omega)]
      exact ⟨_, rfl⟩
theorem rtext_m (l : List Int) (hl : l.length ≤ 1000) : ∃ t, lamellaref10_Text.f (l.length + 1) l = some t := rtext_m0 l hl (l.length + 1) 0 [] (by omega) (by omega) rfl

end Go.Proofs.Ytfanbhbpmhojaaa
