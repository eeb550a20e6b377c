/- Plain lists: what is written is read back; no beginning of it is read whole. No program in sight. -/
import Derived.Test.YthobpcbiaimccaaGetS
import Derived.Test.YthobpcbiaimccaaPut
import Derived.Test.YthobpcbiaimccaaTake
import Derived.Test.YthobpcbiaimccaaLawListsW
namespace Go.Proofs.Ythobpcbiaimccaa
open Go.Proofs.YthobpcbiaimccaaW.PrintWords
set_option linter.unusedVariables false
set_option linter.unusedSimpArgs false

theorem drop_more {xs p r : List Int} {a : Nat} (h : xs.drop a = p ++ r) : xs.drop (a + p.length) = r := by
  rw [← List.drop_drop, h, List.drop_append_of_le_length (Nat.le_refl _), List.drop_of_length_le (Nat.le_refl _), List.nil_append]
theorem numR_eq (xs : List Int) (a : Nat) : numR xs (some a) = match takeNum 0 true (xs.drop a) with | none => (0, none) | some (m, k) => (m, some (a + k)) := rfl
theorem numR_at {xs r : List Int} {a m : Nat} (hm : m < 18446744073709551616) (h : xs.drop a = encNum m ++ r) : numR xs (some a) = (m, some (a + (encNum m).length)) := by
  rw [numR_eq, h, takeNum_back m _ hm]
theorem byteR_at {xs r : List Int} {a : Nat} {c : Int} (h : xs.drop a = c :: r) : byteR xs (some a) = (c, some (a + 1)) ∧ xs.drop (a + 1) = r := by
  have hlt : a < xs.length := by
    rcases Nat.lt_or_ge a xs.length with h1 | h1
    · exact h1
    · rw [List.drop_of_length_le h1] at h; cases h
  rw [List.drop_eq_getElem_cons hlt] at h
  injection h with h1 h2
  refine ⟨?_, h2⟩
  simp only [byteR, if_pos hlt]
  rw [List.getD_eq_getElem?_getD, List.getElem?_eq_getElem hlt, Option.getD_some, h1]
theorem intR_at {xs r : List Int} {a : Nat} {z : Int} (h0 : -9223372036854775808 ≤ z) (h1 : z ≤ 9223372036854775807) (h : xs.drop a = encInt z ++ r) : intR xs (some a) = (z, some (a + (encInt z).length)) := by
  unfold encInt at h ⊢
  by_cases hz : z < 0
  · rw [if_pos hz] at h ⊢
    obtain ⟨hb, hd⟩ := byteR_at (r := encNum (-z - 1).toNat ++ r) h
    have hn := numR_at (by omega) hd
    unfold intR
    rw [hb]
    dsimp only
    rw [hn]
    dsimp only
    rw [if_neg (by omega), if_pos rfl, List.length_cons]
    congr 1
    · omega
    · congr 1; omega
  · rw [if_neg hz] at h ⊢
    obtain ⟨hb, hd⟩ := byteR_at (r := encNum z.toNat ++ r) h
    have hn := numR_at (by omega) hd
    unfold intR
    rw [hb]
    dsimp only
    rw [hn]
    dsimp only
    rw [if_neg (by omega), if_neg (by omega), List.length_cons]
    congr 1
    · omega
    · congr 1; omega
theorem textS_at {xs r : List Int} {a : Nat} {s : ByteArray} (hs : s.size ≤ 1000) (h : xs.drop a = encText s ++ r) : textS xs (some a) = (s, some (a + (encText s).length)) := by
  unfold encText at h ⊢
  rw [List.append_assoc] at h
  have hn := numR_at (by omega) h
  have hd := drop_more h
  have hl : (xs.drop (a + (encNum s.size).length)).length = s.size + r.length := by rw [hd, List.length_append, bytesOf_length]
  rw [List.length_drop] at hl
  have ht : textR xs (some a) = (bytesOf s, some (a + (encNum s.size).length + s.size)) := by
    unfold textR
    rw [hn]
    dsimp only
    rw [if_neg (by omega), hd]
    congr 1
    rw [List.take_append_of_le_length (by rw [bytesOf_length]; exact Nat.le_refl _), List.take_of_length_le (by rw [bytesOf_length]; exact Nat.le_refl _)]
  unfold textS
  rw [ht, strOfNums_bytes, List.length_append, bytesOf_length, Nat.add_assoc]

theorem loopR_at {α : Type} {xs : List Int} (each : Option Nat → α × Option Nat) (f : α → List Int) : ∀ (l : List α) (a : Nat) (r : List Int), xs.drop a = encAll f l ++ r → (∀ x ∈ l, ∀ a r, xs.drop a = f x ++ r → each (some a) = (x, some (a + (f x).length))) → loopR each l.length (some a) = (l, some (a + (encAll f l).length))
  | [], a, r, h, he => by simp [loopR, encAll]
  | x :: l, a, r, h, he => by
    have e : encAll f (x :: l) = f x ++ encAll f l := by simp [encAll]
    rw [e, List.append_assoc] at h
    have h1 := he x (by simp) a _ h
    have h2 := loopR_at each f l (a + (f x).length) r (drop_more h) (fun y hy => he y (by simp [hy]))
    rw [List.length_cons, loopR_some, h1]
    dsimp only
    rw [h2, e, List.length_append, Nat.add_assoc]
theorem getR_at {α : Type} {xs : List Int} (each : Option Nat → α × Option Nat) (f : α → List Int) (l : List α) (a : Nat) (r : List Int) (hl : l.length ≤ 200) (h : xs.drop a = encNum l.length ++ encAll f l ++ r) (he : ∀ x ∈ l, ∀ a r, xs.drop a = f x ++ r → each (some a) = (x, some (a + (f x).length))) (hf : ∀ x ∈ l, 0 < (f x).length) :
    getR xs each (some a) = (l, some (a + (encNum l.length ++ encAll f l).length)) := by
  rw [List.append_assoc] at h
  have hn := numR_at (by omega) h
  have hd := drop_more h
  have hge : l.length ≤ (encAll f l).length := by
    clear hn hd h he hl
    induction l with
    | nil => simp
    | cons x l ih =>
      have h1 := hf x (by simp)
      have h2 := ih (fun y hy => hf y (by simp [hy]))
      have e : encAll f (x :: l) = f x ++ encAll f l := by simp [encAll]
      rw [e, List.length_append, List.length_cons]
      omega
  have hlen : (xs.drop (a + (encNum l.length).length)).length = (encAll f l).length + r.length := by rw [hd, List.length_append]
  rw [List.length_drop] at hlen
  unfold getR
  rw [hn]
  dsimp only
  rw [if_neg (show ¬ (4096 < l.length ∨ leftR xs (some (a + (encNum l.length).length)) < l.length) from by unfold leftR; rw [Option.getD_some]; omega), loopR_at each f l _ r hd he, if_neg (by simp), List.length_append, Nat.add_assoc]

/-! ### beginnings -/
theorem takeNum_mono : ∀ (p q : List Int) (n : Nat) (f : Bool) (r : Nat × Nat), takeNum n f p = some r → takeNum n f (p ++ q) = some r
  | [], q, n, f, r, h => by cases h
  | c :: cs, q, n, f, r, h => by
    rw [List.cons_append, takeNum]
    rw [takeNum] at h
    split at h
    · cases h
    · rename_i hn
      rw [if_neg hn]
      split at h
      · rename_i hc
        rw [if_pos hc]; exact h
      · rename_i hc
        rw [if_neg hc]
        cases hr : takeNum (128 * n + c.toNat % 128) false cs with
        | none => rw [hr] at h; cases h
        | some p => rw [takeNum_mono cs q _ _ _ hr]; rw [hr] at h; exact h
theorem numR_mono (p q : List Int) (s : Option Nat) (a : Nat) (h : (numR p s).2 = some a) : numR (p ++ q) s = numR p s := by
  cases s with
  | none => rfl
  | some b =>
    rw [numR_eq] at h
    rw [numR_eq, numR_eq]
    cases hn : takeNum 0 true (p.drop b) with
    | none => rw [hn] at h; cases h
    | some m =>
      have hb : b ≤ p.length := by
        rcases Nat.lt_or_ge p.length b with h1 | h1
        · rw [List.drop_of_length_le (by omega)] at hn; cases hn
        · exact h1
      rw [List.drop_append_of_le_length hb, takeNum_mono _ q _ _ _ hn]
theorem textS_mono (p q : List Int) (s : Option Nat) (a : Nat) (h : (textS p s).2 = some a) : textS (p ++ q) s = textS p s := by
  unfold textS at h ⊢
  have e : textR (p ++ q) s = textR p s := by
    change (textR p s).2 = some a at h
    unfold textR at h ⊢
    cases hn : (numR p s).2 with
    | none => rw [hn] at h; cases h
    | some b =>
      have hm := numR_mono p q s b hn
      have hle := numR_le p s b hn
      rw [hm, hn]
      rw [hn] at h
      dsimp only at h ⊢
      by_cases hbad : 1048576 < (numR p s).1 ∨ p.length - b < (numR p s).1
      · rw [if_pos hbad] at h; cases h
      · rw [if_neg hbad, if_neg (by rw [List.length_append]; omega), List.drop_append_of_le_length hle, List.take_append_of_le_length (by rw [List.length_drop]; omega)]
  rw [e]
theorem loopR_mono {α : Type} (e1 e2 : Option Nat → α × Option Nat) (he : ∀ s a, (e1 s).2 = some a → e2 s = e1 s) : ∀ (n : Nat) (s : Option Nat) (a : Nat), (loopR e1 n s).2 = some a → loopR e2 n s = loopR e1 n s
  | 0, s, a, h => rfl
  | n + 1, none, a, h => rfl
  | n + 1, some b, a, h => by
    rw [loopR_some] at h
    rw [loopR_some, loopR_some]
    cases ht : (e1 (some b)).2 with
    | none => rw [ht, loopR_none] at h; cases h
    | some t =>
      rw [he (some b) t ht, ht]
      rw [ht] at h
      rw [loopR_mono e1 e2 he n (some t) a h]
theorem getR_mono {α : Type} (p q : List Int) (e1 e2 : Option Nat → α × Option Nat) (he : ∀ s a, (e1 s).2 = some a → e2 s = e1 s) (s : Option Nat) (a : Nat) (h : (getR p e1 s).2 = some a) : getR (p ++ q) e2 s = getR p e1 s := by
  unfold getR at h ⊢
  dsimp only at h ⊢
  cases hn : (numR p s).2 with
  | none =>
    rw [hn] at h
    simp only [ite_self] at h
    rw [loopR_none, if_pos rfl] at h
    cases h
  | some b =>
    have hm := numR_mono p q s b hn
    have hle := numR_le p s b hn
    rw [hm, hn]
    rw [hn] at h
    by_cases hbad : 4096 < (numR p s).1 ∨ leftR p (some b) < (numR p s).1
    · rw [if_pos hbad, loopR_none, if_pos rfl] at h; cases h
    · have hbad2 : ¬ (4096 < (numR p s).1 ∨ leftR (p ++ q) (some b) < (numR p s).1) := by
        unfold leftR at hbad ⊢
        rw [Option.getD_some] at hbad ⊢
        rw [List.length_append]
        omega
      rw [if_neg hbad] at h ⊢
      rw [if_neg hbad2]
      cases hl : (loopR e1 (numR p s).1 (some b)).2 with
      | none => rw [if_pos hl] at h; cases h
      | some t => rw [loopR_mono e1 e2 he _ _ t hl, hl]
theorem loopR_le {α : Type} (xs : List Int) (each : Option Nat → α × Option Nat) (he : ∀ s a, (∀ b, s = some b → b ≤ xs.length) → (each s).2 = some a → a ≤ xs.length) : ∀ (n : Nat) (s : Option Nat) (a : Nat), (∀ b, s = some b → b ≤ xs.length) → (loopR each n s).2 = some a → a ≤ xs.length
  | 0, s, a, hs, h => hs a h
  | n + 1, none, a, hs, h => by cases h
  | n + 1, some b, a, hs, h => by
    rw [loopR_some] at h
    exact loopR_le xs each he n _ a (fun c hc => he (some b) c hs hc) h
theorem textS_le (xs : List Int) (s : Option Nat) (a : Nat) (h : (textS xs s).2 = some a) : a ≤ xs.length := by
  change (textR xs s).2 = some a at h
  unfold textR at h
  cases hn : (numR xs s).2 with
  | none => rw [hn] at h; cases h
  | some b =>
    have hle := numR_le xs s b hn
    rw [hn] at h
    dsimp only at h
    by_cases hbad : 1048576 < (numR xs s).1 ∨ xs.length - b < (numR xs s).1
    · rw [if_pos hbad] at h; cases h
    · rw [if_neg hbad] at h
      injection h with h
      omega
theorem getR_form {α : Type} (xs : List Int) (each : Option Nat → α × Option Nat) (s : Option Nat) : ∃ t, (∀ c, t = some c → c ≤ xs.length) ∧ getR xs each s = if (loopR each (numR xs s).1 t).2 = none then ([], none) else loopR each (numR xs s).1 t := by
  refine ⟨if 4096 < (numR xs s).1 ∨ leftR xs (numR xs s).2 < (numR xs s).1 then none else (numR xs s).2, fun c hc => ?_, rfl⟩
  split at hc
  · cases hc
  · exact numR_le _ _ _ hc
/-- No beginning of a row of texts is read whole. -/
theorem cuts_plain (ss : List ByteArray) (k : Nat) (hl : ss.length ≤ 200) (hs : ∀ s ∈ ss, s.size ≤ 1000) (hk : k < (encNum ss.length ++ encAll encText ss).length) :
    getR ((encNum ss.length ++ encAll encText ss).take k) (textS ((encNum ss.length ++ encAll encText ss).take k)) (some 0) = ([], none) := by
  generalize hb : encNum ss.length ++ encAll encText ss = b at hk ⊢
  have hfull : getR b (textS b) (some 0) = (ss, some b.length) := by
    have := getR_at (xs := b) (textS b) encText ss 0 [] hl (by rw [List.drop_zero, List.append_nil, hb]) (fun x hx a r h => textS_at (hs x hx) h) (fun x hx => by unfold encText; rw [List.length_append, encNum]; simp; omega)
    rw [hb, Nat.zero_add] at this
    exact this
  cases hg : (getR (b.take k) (textS (b.take k)) (some 0)).2 with
  | none =>
    obtain ⟨t, _, e⟩ := getR_form (b.take k) (textS (b.take k)) (some 0)
    rw [e] at hg ⊢
    by_cases h : (loopR (textS (b.take k)) (numR (b.take k) (some 0)).1 t).2 = none
    · rw [if_pos h]
    · rw [if_neg h] at hg; exact absurd hg h
  | some p =>
    have hm := getR_mono (b.take k) (b.drop k) (textS (b.take k)) (textS b) (fun s a h => by
      have := textS_mono (b.take k) (b.drop k) s a h
      rwa [List.take_append_drop] at this) (some 0) p hg
    rw [List.take_append_drop, hfull] at hm
    rw [← hm] at hg
    injection hg with hg
    have hple : p ≤ (b.take k).length := by
      have hg2 : (getR (b.take k) (textS (b.take k)) (some 0)).2 = some p := by rw [← hm, hg]
      obtain ⟨t, ht, e⟩ := getR_form (b.take k) (textS (b.take k)) (some 0)
      rw [e] at hg2
      by_cases h : (loopR (textS (b.take k)) (numR (b.take k) (some 0)).1 t).2 = none
      · rw [if_pos h] at hg2; cases hg2
      · rw [if_neg h] at hg2
        exact loopR_le _ _ (fun s a _ h => textS_le _ s a h) _ _ p ht hg2
    rw [List.length_take] at hple
    omega

end Go.Proofs.Ythobpcbiaimccaa
