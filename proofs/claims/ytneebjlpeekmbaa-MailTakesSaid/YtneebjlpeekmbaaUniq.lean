/- Plain lists: a mail that bytes are read as whole is laid as these very bytes; and it may be laid. No program in sight. Conditions: bytes are bytes, at most 3000. -/
import Derived.Test.YtneebjlpeekmbaaRefG
namespace Go.Proofs.Ytneebjlpeekmbaa
open Go.Proofs.YtneebjlpeekmbaaW.PrintWords PRef
set_option linter.unusedVariables false
set_option linter.unusedSimpArgs false

/-- A step that takes what e lays. -/
structure Bk {α : Type} (xs : List Int) (f : Option Nat → α × Option Nat) (e : α → List Int) (P : α → Prop) : Prop where
  bad : (f none).2 = none
  good : ∀ a b, a ≤ xs.length → (f (some a)).2 = some b → b ≤ xs.length ∧ xs.take b = xs.take a ++ e (f (some a)).1 ∧ P (f (some a)).1
/-- Where one stands: behind p. -/
def Pre (xs : List Int) (s : Option Nat) (p : List Int) : Prop := ∃ a, s = some a ∧ a ≤ xs.length ∧ xs.take a = p
namespace Bk
variable {α β : Type} {xs : List Int} {f : Option Nat → α × Option Nat} {e : α → List Int} {P : α → Prop} {s : Option Nat} {p : List Int}
theorem ne (h : Bk xs f e P) (hn : (f s).2 ≠ none) : s ≠ none := fun hs => hn (by rw [hs]; exact h.bad)
theorem step (h : Bk xs f e P) (hp : Pre xs s p) (hn : (f s).2 ≠ none) : Pre xs (f s).2 (p ++ e (f s).1) ∧ P (f s).1 := by
  obtain ⟨a, rfl, ha, rfl⟩ := hp
  obtain ⟨b, hb⟩ : ∃ b, (f (some a)).2 = some b := by
    cases hq : (f (some a)).2 with
    | none => exact absurd hq hn
    | some b => exact ⟨b, rfl⟩
  obtain ⟨h1, h2, h3⟩ := h.good a b ha hb
  exact ⟨⟨b, hb, h1, h2⟩, h3⟩
/-- Out of the step at the row's head. -/
theorem of_head (F : List Int → Option Nat → α × Option Nat) (hn : (F xs none).2 = none) (hsh : ∀ a, a ≤ xs.length → F xs (sh a (some 0)) = ((F (xs.drop a) (some 0)).1, sh a (F (xs.drop a) (some 0)).2))
    (hh : ∀ a k, (F (xs.drop a) (some 0)).2 = some k → k ≤ (xs.drop a).length ∧ e (F (xs.drop a) (some 0)).1 = (xs.drop a).take k ∧ P (F (xs.drop a) (some 0)).1) : Bk xs (F xs) e P := by
  refine ⟨hn, fun a b ha hb => ?_⟩
  have e1 := hsh a ha
  rw [sh_some, Nat.add_zero] at e1
  rw [e1] at hb ⊢
  cases hq : (F (xs.drop a) (some 0)).2 with
  | none => rw [hq] at hb; cases hb
  | some k =>
    rw [hq, sh_some] at hb
    injection hb with hb
    obtain ⟨h1, h2, h3⟩ := hh a k hq
    rw [List.length_drop] at h1
    refine ⟨by omega, ?_, h3⟩
    dsimp only
    rw [h2, ← hb, List.take_add]
end Bk

section
variable {xs : List Int} (hb : IsBytes xs) (hl : xs.length ≤ 3000)
include hb
theorem bk_int : Bk xs (intR xs) encInt I64 :=
  Bk.of_head intR rfl (fun a ha => shI xs a ha _) (fun a k h => by
    obtain ⟨h1, h2, h3, h4⟩ := intR_enc (xs.drop a) k (hb.drop a) h
    exact ⟨h2, h1, h3, h4⟩)
theorem bk_num : Bk xs (numR xs) encNum (fun n => n < 18446744073709551616) :=
  Bk.of_head numR rfl (fun a ha => shN xs a _) (fun a k h => by
    obtain ⟨h1, h2⟩ := numR_enc (xs.drop a) k (hb.drop a) h
    refine ⟨h2, h1, ?_⟩
    have e : numR (xs.drop a) (some 0) = match takeNum 0 true ((xs.drop a).drop 0) with | none => (0, none) | some (m, k) => (m, some (0 + k)) := rfl
    rw [e] at h ⊢
    cases hn : takeNum 0 true ((xs.drop a).drop 0) with
    | none => rw [hn] at h; cases h
    | some p => exact (takeNum_le _ _ _ p.1 p.2 hn).2.2)
include hl in
theorem bk_text : Bk xs (textS xs) encText (fun t => t.size ≤ 1048576) :=
  Bk.of_head textS rfl (fun a ha => shS xs a _) (fun a k h => by
    obtain ⟨h1, h2, h3⟩ := textR_enc (xs.drop a) k (hb.drop a) (by rw [List.length_drop]; omega) h
    exact ⟨h2, h1, by show (strOfNums (textR (xs.drop a) (some 0)).1).size ≤ 1048576; omega⟩)
theorem bk_byte : Bk xs (byteR xs) (fun z => [z]) (fun z => 0 ≤ z ∧ z ≤ 255) := by
  refine ⟨rfl, fun a b ha h => ?_⟩
  unfold byteR at h ⊢
  dsimp only at h ⊢
  by_cases hlt : a < xs.length
  · rw [if_pos hlt] at h ⊢
    injection h with h
    subst h
    have := hb.getD a
    exact ⟨hlt, take_snoc xs a hlt, by dsimp only; omega⟩
  · rw [if_neg hlt] at h; cases h
theorem bk_bool : Bk xs (boolR xs) (fun b => [if b = true then 1 else 0]) (fun _ => True) := by
  refine ⟨rfl, fun a b ha h => ?_⟩
  unfold boolR at h ⊢
  dsimp only at h ⊢
  by_cases h1 : 1 < (byteR xs (some a)).1
  · rw [if_pos h1] at h; cases h
  · rw [if_neg h1] at h
    obtain ⟨q1, q2, q3⟩ := (bk_byte hb).good a b ha h
    refine ⟨q1, ?_, trivial⟩
    rw [q2]
    have : (byteR xs (some a)).1 = 0 ∨ (byteR xs (some a)).1 = 1 := by omega
    rcases this with e | e <;> rw [e] <;> rfl
theorem bk_ref : Bk xs (refR xs) encRef (fun r => I64 r.f0 ∧ I64 r.f1) := by
  have hi := bk_int hb
  refine ⟨rfl, fun a b ha h => ?_⟩
  have h2 : (intR xs (intR xs (some a)).2).2 ≠ none := fun hq => by
    have : (refR xs (some a)).2 = (intR xs (intR xs (some a)).2).2 := rfl
    rw [this, hq] at h; cases h
  have h1 := hi.ne h2
  obtain ⟨p1, i1⟩ := hi.step ⟨a, rfl, ha, rfl⟩ h1
  obtain ⟨⟨c, hc, hcl, ht⟩, i2⟩ := hi.step p1 h2
  have hbc : b = c := by
    have : (refR xs (some a)).2 = (intR xs (intR xs (some a)).2).2 := rfl
    rw [this, hc] at h
    injection h with h
    exact h.symm
  subst hbc
  exact ⟨hcl, by rw [ht, List.append_assoc]; rfl, i1, i2⟩
include hl in
theorem bk_ent : Bk xs (entR xs) encEnt (fun r => (I64 r.f0 ∧ I64 r.f1) ∧ r.f2.size ≤ 1048576) := by
  have hi := bk_int hb
  have hs := bk_text hb hl
  refine ⟨rfl, fun a b ha h => ?_⟩
  have e0 : (entR xs (some a)).2 = (textS xs (intR xs (intR xs (some a)).2).2).2 := rfl
  have h3 : (textS xs (intR xs (intR xs (some a)).2).2).2 ≠ none := fun hq => by rw [e0, hq] at h; cases h
  have h2 := hs.ne h3
  have h1 := hi.ne h2
  obtain ⟨p1, i1⟩ := hi.step ⟨a, rfl, ha, rfl⟩ h1
  obtain ⟨p2, i2⟩ := hi.step p1 h2
  obtain ⟨⟨c, hc, hcl, ht⟩, i3⟩ := hs.step p2 h3
  have hbc : b = c := by rw [e0, hc] at h; injection h with h; exact h.symm
  subst hbc
  exact ⟨hcl, by rw [ht]; unfold encEnt entR; simp only [List.append_assoc], ⟨i1, i2⟩, i3⟩
theorem pre_ints : ∀ (n : Nat) {s : Option Nat} {p : List Int}, Pre xs s p → (intsR xs n s).2 ≠ none → Pre xs (intsR xs n s).2 (p ++ encAll encInt (intsR xs n s).1) ∧ ∀ z ∈ (intsR xs n s).1, I64 z
  | 0, s, p, hp, hn => ⟨by show Pre xs s (p ++ encAll encInt []); rw [show encAll encInt [] = [] from rfl, List.append_nil]; exact hp, fun z hz => by cases hz⟩
  | n + 1, s, p, hp, hn => by
    have hi := bk_int hb
    rw [intsR_succ] at hn ⊢
    have h1 := hi.ne hn
    obtain ⟨p1, i1⟩ := pre_ints n hp h1
    obtain ⟨p2, i2⟩ := hi.step p1 hn
    refine ⟨?_, fun z hz => ?_⟩
    · rw [List.append_assoc] at p2
      have e : encAll encInt ((intsR xs n s).1 ++ [(intR xs (intsR xs n s).2).1]) = encAll encInt (intsR xs n s).1 ++ encInt (intR xs (intsR xs n s).2).1 := by
        unfold encAll
        simp
      rw [e]
      exact p2
    · rw [List.mem_append] at hz
      rcases hz with hz | hz
      · exact i1 z hz
      · rw [List.mem_singleton] at hz
        rw [hz]; exact i2
end
theorem intsR_none (xs : List Int) : ∀ n, (intsR xs n none).2 = none
  | 0 => rfl
  | n + 1 => by rw [intsR_succ]; dsimp only; rw [intsR_none xs n]; rfl
theorem intsR_ne {xs : List Int} {n : Nat} {s : Option Nat} (h : (intsR xs n s).2 ≠ none) : s ≠ none := fun hs => h (by rw [hs]; exact intsR_none xs n)
section
variable {α : Type} {xs : List Int} {f : Option Nat → α × Option Nat} {e : α → List Int} {P : α → Prop}
theorem pre_loop (h : Bk xs f e P) : ∀ (n : Nat) {s : Option Nat} {p : List Int}, Pre xs s p → (loopR f n s).2 ≠ none → Pre xs (loopR f n s).2 (p ++ encAll e (loopR f n s).1) ∧ (loopR f n s).1.length = n ∧ ∀ z ∈ (loopR f n s).1, P z
  | 0, s, p, hp, hn => ⟨by show Pre xs s (p ++ encAll e []); rw [show encAll e [] = [] from rfl, List.append_nil]; exact hp, rfl, fun z hz => by cases hz⟩
  | n + 1, s, p, hp, hn => by
    obtain ⟨a, rfl, ha, rfl⟩ := hp
    rw [loopR_some] at hn ⊢
    have h1 : (f (some a)).2 ≠ none := fun hq => hn (by dsimp only; rw [hq, loopR_none])
    obtain ⟨p1, i1⟩ := h.step ⟨a, rfl, ha, rfl⟩ h1
    obtain ⟨p2, i2, i3⟩ := pre_loop h n p1 hn
    refine ⟨?_, by dsimp only; rw [List.length_cons, i2], fun z hz => ?_⟩
    · rw [List.append_assoc] at p2
      exact p2
    · rcases List.mem_cons.1 hz with rfl | hz
      · exact i1
      · exact i3 z hz
theorem getR_none' {s : Option Nat} (hn : (getR xs f s).2 ≠ none) : s ≠ none := fun hs => hn (by
  rw [hs]
  unfold getR
  simp [numR, loopR_none])
theorem pre_get (hb : IsBytes xs) (h : Bk xs f e P) {s : Option Nat} {p : List Int} (hp : Pre xs s p) (hn : (getR xs f s).2 ≠ none) : Pre xs (getR xs f s).2 (p ++ (encNum (getR xs f s).1.length ++ encAll e (getR xs f s).1)) ∧ (getR xs f s).1.length ≤ 4096 ∧ ∀ z ∈ (getR xs f s).1, P z := by
  have hg : getR xs f s = if (loopR f (numR xs s).1 (if 4096 < (numR xs s).1 ∨ leftR xs (numR xs s).2 < (numR xs s).1 then none else (numR xs s).2)).2 = none then ([], none) else loopR f (numR xs s).1 (if 4096 < (numR xs s).1 ∨ leftR xs (numR xs s).2 < (numR xs s).1 then none else (numR xs s).2) := rfl
  by_cases hc : 4096 < (numR xs s).1 ∨ leftR xs (numR xs s).2 < (numR xs s).1
  · rw [hg, if_pos hc, loopR_none, if_pos rfl] at hn
    exact absurd rfl hn
  · rw [if_neg hc] at hg
    by_cases hd : (loopR f (numR xs s).1 (numR xs s).2).2 = none
    · rw [hg, if_pos hd] at hn
      exact absurd rfl hn
    · rw [if_neg hd] at hg
      have hnn : (numR xs s).2 ≠ none := fun hq => hd (by rw [hq, loopR_none])
      obtain ⟨p1, _⟩ := (bk_num hb).step hp hnn
      obtain ⟨p2, i2, i3⟩ := pre_loop h _ p1 hd
      rw [hg, i2]
      rw [List.append_assoc] at p2
      exact ⟨p2, by omega, i3⟩
end
section
variable {xs : List Int} (hb : IsBytes xs) (hl : xs.length ≤ 3000)
include hb hl
theorem pre_cmd {s : Option Nat} {p : List Int} (hp : Pre xs s p) (hn : (cmdR xs s).2 ≠ none) : Pre xs (cmdR xs s).2 (p ++ encCmd (cmdR xs s).1) ∧ CmdR (cmdR xs s).1 := by
  have hc : cmdR xs s = if (getR xs (textS xs) (intsR xs 4 (byteR xs s).2).2).2 = none then (cmd0, none) else (⟨(byteR xs s).1, (intsR xs 4 (byteR xs s).2).1.getD 0 0, (intsR xs 4 (byteR xs s).2).1.getD 1 0, (intsR xs 4 (byteR xs s).2).1.getD 2 0, (intsR xs 4 (byteR xs s).2).1.getD 3 0, (getR xs (textS xs) (intsR xs 4 (byteR xs s).2).2).1⟩, (getR xs (textS xs) (intsR xs 4 (byteR xs s).2).2).2) := rfl
  by_cases h3 : (getR xs (textS xs) (intsR xs 4 (byteR xs s).2).2).2 = none
  · rw [hc, if_pos h3] at hn; exact absurd rfl hn
  · rw [if_neg h3] at hc
    rw [hc]
    have h2 := getR_none' h3
    have h1 := intsR_ne h2
    obtain ⟨p1, i1⟩ := (bk_byte hb).step hp h1
    obtain ⟨p2, i2⟩ := pre_ints hb 4 p1 h2
    obtain ⟨p3, i3, i4⟩ := pre_get hb (bk_text hb hl) p2 h3
    have hlen := intsR_len xs (byteR xs s).2 4
    generalize intsR xs 4 (byteR xs s).2 = q at p2 p3 i2 i3 i4 hlen ⊢
    obtain ⟨l, t⟩ := q
    dsimp only at *
    match l, hlen with
    | [a, b, c, d], _ =>
      refine ⟨?_, ?_⟩
      · rw [List.append_assoc, List.append_assoc] at p3
        exact p3
      · exact ⟨i1, i2 a (by simp), i2 b (by simp), i2 c (by simp), i2 d (by simp), i3, i4⟩
theorem pre_inst {s : Option Nat} {p : List Int} (hp : Pre xs s p) (hn : (instR xs s).2 ≠ none) : Pre xs (instR xs s).2 (p ++ encInst (instR xs s).1) ∧ InstR (instR xs s).1 := by
  have hc : instR xs s = if (getR xs (refR xs) (intR xs (cmdR xs (boolR xs (intsR xs 7 s).2).2).2).2).2 = none then (inst0, none) else (⟨(intsR xs 7 s).1.getD 0 0, (intsR xs 7 s).1.getD 1 0, (intsR xs 7 s).1.getD 2 0, (intsR xs 7 s).1.getD 3 0, (intsR xs 7 s).1.getD 4 0, (intsR xs 7 s).1.getD 5 0, (intsR xs 7 s).1.getD 6 0, (boolR xs (intsR xs 7 s).2).1, (cmdR xs (boolR xs (intsR xs 7 s).2).2).1, (intR xs (cmdR xs (boolR xs (intsR xs 7 s).2).2).2).1, (getR xs (refR xs) (intR xs (cmdR xs (boolR xs (intsR xs 7 s).2).2).2).2).1⟩, (getR xs (refR xs) (intR xs (cmdR xs (boolR xs (intsR xs 7 s).2).2).2).2).2) := rfl
  by_cases h5 : (getR xs (refR xs) (intR xs (cmdR xs (boolR xs (intsR xs 7 s).2).2).2).2).2 = none
  · rw [hc, if_pos h5] at hn; exact absurd rfl hn
  · rw [if_neg h5] at hc
    rw [hc]
    have h4 := getR_none' h5
    have h3 := (bk_int hb).ne h4
    have h2 : (boolR xs (intsR xs 7 s).2).2 ≠ none := fun hq => h3 (by
      rw [hq]
      have e : (cmdR xs none).2 = none := by
        unfold cmdR
        dsimp only
        rw [show (byteR xs none).2 = none from rfl, intsR_none, show (getR xs (textS xs) none).2 = none from by unfold getR; simp [numR, loopR_none], if_pos rfl]
      exact e)
    have h1 := (bk_bool hb).ne h2
    obtain ⟨p1, i1⟩ := pre_ints hb 7 hp h1
    obtain ⟨p2, _⟩ := (bk_bool hb).step p1 h2
    obtain ⟨p3, i3⟩ := pre_cmd hb hl p2 h3
    obtain ⟨p4, i4⟩ := (bk_int hb).step p3 h4
    obtain ⟨p5, i5, i6⟩ := pre_get hb (bk_ref hb) p4 h5
    have hlen := intsR_len xs s 7
    generalize intsR xs 7 s = q at p2 p3 p4 p5 i1 i3 i4 i5 i6 hlen ⊢
    obtain ⟨l, t⟩ := q
    dsimp only at *
    match l, hlen with
    | [a, b, c, d, e, f, g], _ =>
      refine ⟨?_, ⟨i1, i3, i4, i5, i6⟩⟩
      simp only [List.append_assoc] at p5
      exact p5
theorem mail_uniq (h : (mailR xs (some 0)).2 = some xs.length) : encMail (mailR xs (some 0)).1 = xs ∧ MayOk (mailR xs (some 0)).1 ∧ MailI (mailR xs (some 0)).1 := by
  have hc : mailR xs (some 0) = (⟨(intsR xs 4 (some 0)).1.getD 0 0, (intsR xs 4 (some 0)).1.getD 1 0, (intsR xs 4 (some 0)).1.getD 2 0, (intsR xs 4 (some 0)).1.getD 3 0, (instR xs (intsR xs 4 (some 0)).2).1, (boolR xs (instR xs (intsR xs 4 (some 0)).2).2).1, (intsR xs 5 (boolR xs (instR xs (intsR xs 4 (some 0)).2).2).2).1.getD 0 0, (intsR xs 5 (boolR xs (instR xs (intsR xs 4 (some 0)).2).2).2).1.getD 1 0, (intsR xs 5 (boolR xs (instR xs (intsR xs 4 (some 0)).2).2).2).1.getD 2 0, (intsR xs 5 (boolR xs (instR xs (intsR xs 4 (some 0)).2).2).2).1.getD 3 0, (intsR xs 5 (boolR xs (instR xs (intsR xs 4 (some 0)).2).2).2).1.getD 4 0, (getR xs (entR xs) (intsR xs 5 (boolR xs (instR xs (intsR xs 4 (some 0)).2).2).2).2).1, (textS xs (getR xs (entR xs) (intsR xs 5 (boolR xs (instR xs (intsR xs 4 (some 0)).2).2).2).2).2).1⟩, (textS xs (getR xs (entR xs) (intsR xs 5 (boolR xs (instR xs (intsR xs 4 (some 0)).2).2).2).2).2).2) := rfl
  rw [hc] at h ⊢
  dsimp only at h
  have h6 : (textS xs (getR xs (entR xs) (intsR xs 5 (boolR xs (instR xs (intsR xs 4 (some 0)).2).2).2).2).2).2 ≠ none := fun hq => by rw [hq] at h; cases h
  have h5 := (bk_text hb hl).ne h6
  have h4 := getR_none' h5
  have h3 := intsR_ne h4
  have h2 := (bk_bool hb).ne h3
  have h1 : (intsR xs 4 (some 0)).2 ≠ none := fun hq => h2 (by
    rw [hq]
    have e : (instR xs none).2 = none := by
      unfold instR
      dsimp only
      have e2 : (cmdR xs none).2 = none := by
        unfold cmdR
        dsimp only
        rw [show (byteR xs none).2 = none from rfl, intsR_none, show (getR xs (textS xs) none).2 = none from by unfold getR; simp [numR, loopR_none], if_pos rfl]
      rw [intsR_none, show (boolR xs none).2 = none from rfl, e2, show (intR xs none).2 = none from rfl, show (getR xs (refR xs) none).2 = none from by unfold getR; simp [numR, loopR_none], if_pos rfl]
    exact e)
  obtain ⟨p1, i1⟩ := pre_ints hb 4 (⟨0, rfl, Nat.zero_le _, rfl⟩ : Pre xs (some 0) []) h1
  obtain ⟨p2, i2⟩ := pre_inst hb hl p1 h2
  obtain ⟨p3, _⟩ := (bk_bool hb).step p2 h3
  obtain ⟨p4, i4⟩ := pre_ints hb 5 p3 h4
  obtain ⟨p5, i5, i6⟩ := pre_get hb (bk_ent hb hl) p4 h5
  obtain ⟨⟨b, hbb, hbl, ht⟩, i7⟩ := (bk_text hb hl).step p5 h6
  rw [h] at hbb
  injection hbb with hbb
  rw [← hbb, List.take_length] at ht
  have hlen4 := intsR_len xs (some 0) 4
  have hlen5 := intsR_len xs (boolR xs (instR xs (intsR xs 4 (some 0)).2).2).2 5
  clear h hc h1 h2 h3 h4 h5 h6 p1 p2 p3 p4 p5 hbb hbl
  generalize intsR xs 4 (some 0) = q at *
  obtain ⟨l, t⟩ := q
  dsimp only at *
  generalize instR xs t = im at *
  obtain ⟨im, t2⟩ := im
  dsimp only at *
  generalize intsR xs 5 (boolR xs t2).2 = q2 at *
  obtain ⟨l2, t3⟩ := q2
  dsimp only at *
  match l, hlen4, l2, hlen5 with
  | [a, b, c, d], _, [e, f, g, k, m], _ =>
    refine ⟨?_, ?_, ?_⟩
    · simp only [List.append_assoc, List.nil_append] at ht
      exact ht.symm
    · exact ⟨i2.cmd.op, i7, i2.cmd.data, i2.deps.1, i5, fun s hs => (i6 s hs).2⟩
    · exact ⟨i1 a (by simp), i1 b (by simp), i1 c (by simp), i1 d (by simp), ⟨i2.ints _ (by simp), i2.ints _ (by simp), i2.ints _ (by simp), i2.ints _ (by simp), i2.ints _ (by simp), i2.ints _ (by simp), i2.ints _ (by simp), i2.cmd.client, i2.cmd.seq, i2.cmd.cfrom, i2.cmd.cto, i2.iseq, i2.deps.2⟩, i4 e (by simp), i4 f (by simp), i4 g (by simp), i4 k (by simp), i4 m (by simp), fun r hr => (i6 r hr).1⟩
end
end Go.Proofs.Ytneebjlpeekmbaa
