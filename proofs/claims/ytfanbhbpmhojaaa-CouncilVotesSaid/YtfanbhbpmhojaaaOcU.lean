/- Plain lists of octets: what was laid is taken again, and what is taken whole is laid as the very bytes. No program in sight. Whole numbers taken one behind the other into cells. No program in sight. -/
import Derived.Test.YtfanbhbpmhojaaaOcP
import Derived.Test.YtfanbhbpmhojaaaOcS
namespace Go.Proofs.Ytfanbhbpmhojaaa
open Go.RowKit Go.Proofs.YtfanbhbpmhojaaaW.PrintWords Go.Proofs.YtfanbhbpmhojaaaW.PrintLast Go.Proofs.YtfanbhbpmhojaaaW.PrintMore PRef
set_option linter.unusedVariables false
set_option linter.unusedSimpArgs false
theorem bytesAll {α : Type} (f : α → List Int) (l : List α) (h : ∀ x ∈ l, IsBytes (f x)) : IsBytes (encAll f l) := by
  unfold encAll
  intro z hz
  obtain ⟨s, hs, hz⟩ := List.mem_flatten.1 hz
  obtain ⟨x, hx, rfl⟩ := List.mem_map.1 hs
  exact h x hx z hz
theorem encInt_bytes (n : Int) : IsBytes (encInt n) := by
  unfold encInt
  split
  · intro x hx
    rcases List.mem_cons.1 hx with rfl | hx
    · exact ⟨by decide, by decide⟩
    · exact encNum_bytes _ x hx
  · intro x hx
    rcases List.mem_cons.1 hx with rfl | hx
    · exact ⟨by decide, by decide⟩
    · exact encNum_bytes _ x hx
theorem encText_bytes (s : ByteArray) : IsBytes (encText s) := by
  unfold encText
  exact (encNum_bytes _).append (isBytes_of s)
theorem IsBytes.cons {x : Int} {l : List Int} (hx : 0 ≤ x ∧ x < 256) (hl : IsBytes l) : IsBytes (x :: l) := fun z hz => by
  rcases List.mem_cons.1 hz with rfl | hz
  · exact hx
  · exact hl z hz
theorem own_base_le {w : World} {b0 b1 : Nat} {v : Value} {xs : List Int} (h : OwnB w b1 v xs) (hb : b0 ≤ b1) : OwnB w b0 v xs := by
  obtain ⟨h1, h2⟩ := h
  refine ⟨h1, ?_⟩
  rcases h2 with h | ⟨g, cap, cur, e, hg, r⟩
  · exact .inl h
  · exact .inr ⟨g, cap, cur, e, Nat.le_trans hb hg, r⟩

theorem drop_more {xs p r : List Int} {a : Nat} (h : xs.drop a = p ++ r) : xs.drop (a + p.length) = r := by
  rw [← List.drop_drop, h, List.drop_append_of_le_length (Nat.le_refl _), List.drop_of_length_le (Nat.le_refl _), List.nil_append]
theorem numR_eq (xs : List Int) (a : Nat) : numR xs (some a) = match takeNum 0 true (xs.drop a) with | none => (0, none) | some (m, k) => (m, some (a + k)) := rfl
theorem numR_at {xs r : List Int} {a m : Nat} (hm : m < 18446744073709551616) (h : xs.drop a = encNum m ++ r) : numR xs (some a) = (m, some (a + (encNum m).length)) := by
  rw [numR_eq, h, takeNum_back m _ hm]
theorem byteR_at {xs r : List Int} {a : Nat} {c : Int} (h : xs.drop a = c :: r) : byteR xs (some a) = (c, some (a + 1)) ∧ xs.drop (a + 1) = r := by
  have hlt : a < xs.length := by
    rcases Nat.lt_or_ge a xs.length with h1 | h1
    · exact h1
    · rw [List.drop_of_length_le h1] at h; cases h
  rw [List.drop_eq_getElem_cons hlt] at h
  injection h with h1 h2
  refine ⟨?_, h2⟩
  simp only [byteR, if_pos hlt]
  rw [List.getD_eq_getElem?_getD, List.getElem?_eq_getElem hlt, Option.getD_some, h1]
theorem intR_at {xs r : List Int} {a : Nat} {z : Int} (h0 : -9223372036854775808 ≤ z) (h1 : z ≤ 9223372036854775807) (h : xs.drop a = encInt z ++ r) : intR xs (some a) = (z, some (a + (encInt z).length)) := by
  unfold encInt at h ⊢
  by_cases hz : z < 0
  · rw [if_pos hz] at h ⊢
    obtain ⟨hb, hd⟩ := byteR_at (r := encNum (-z - 1).toNat ++ r) h
    have hn := numR_at (by omega) hd
    unfold intR
    rw [hb]
    dsimp only
    rw [hn]
    dsimp only
    rw [if_neg (by omega), if_pos rfl, List.length_cons]
    congr 1
    · omega
    · congr 1; omega
  · rw [if_neg hz] at h ⊢
    obtain ⟨hb, hd⟩ := byteR_at (r := encNum z.toNat ++ r) h
    have hn := numR_at (by omega) hd
    unfold intR
    rw [hb]
    dsimp only
    rw [hn]
    dsimp only
    rw [if_neg (by omega), if_neg (by omega), List.length_cons]
    congr 1
    · omega
    · congr 1; omega
theorem textS_at {xs r : List Int} {a : Nat} {s : ByteArray} (hs : s.size ≤ 1048576) (h : xs.drop a = encText s ++ r) : textS xs (some a) = (s, some (a + (encText s).length)) := by
  unfold encText at h ⊢
  rw [List.append_assoc] at h
  have hn := numR_at (by omega) h
  have hd := drop_more h
  have hl : (xs.drop (a + (encNum s.size).length)).length = s.size + r.length := by rw [hd, List.length_append, bytesOf_length]
  rw [List.length_drop] at hl
  have ht : textR xs (some a) = (bytesOf s, some (a + (encNum s.size).length + s.size)) := by
    unfold textR
    rw [hn]
    dsimp only
    rw [if_neg (by omega), hd]
    congr 1
    rw [List.take_append_of_le_length (by rw [bytesOf_length]; exact Nat.le_refl _), List.take_of_length_le (by rw [bytesOf_length]; exact Nat.le_refl _)]
  unfold textS
  rw [ht, strOfNums_bytes, List.length_append, bytesOf_length, Nat.add_assoc]

theorem loopR_at {α : Type} {xs : List Int} (each : Option Nat → α × Option Nat) (f : α → List Int) : ∀ (l : List α) (a : Nat) (r : List Int), xs.drop a = encAll f l ++ r → (∀ x ∈ l, ∀ a r, xs.drop a = f x ++ r → each (some a) = (x, some (a + (f x).length))) → loopR each l.length (some a) = (l, some (a + (encAll f l).length))
  | [], a, r, h, he => by simp [loopR, encAll]
  | x :: l, a, r, h, he => by
    have e : encAll f (x :: l) = f x ++ encAll f l := by simp [encAll]
    rw [e, List.append_assoc] at h
    have h1 := he x (by simp) a _ h
    have h2 := loopR_at each f l (a + (f x).length) r (drop_more h) (fun y hy => he y (by simp [hy]))
    rw [List.length_cons, loopR_some, h1]
    dsimp only
    rw [h2, e, List.length_append, Nat.add_assoc]
theorem getR_at {α : Type} {xs : List Int} (each : Option Nat → α × Option Nat) (f : α → List Int) (l : List α) (a : Nat) (r : List Int) (hl : l.length ≤ 4096) (h : xs.drop a = encNum l.length ++ encAll f l ++ r) (he : ∀ x ∈ l, ∀ a r, xs.drop a = f x ++ r → each (some a) = (x, some (a + (f x).length))) (hf : ∀ x ∈ l, 0 < (f x).length) :
    getR xs each (some a) = (l, some (a + (encNum l.length ++ encAll f l).length)) := by
  rw [List.append_assoc] at h
  have hn := numR_at (by omega) h
  have hd := drop_more h
  have hge : l.length ≤ (encAll f l).length := by
    clear hn hd h he hl
    induction l with
    | nil => simp
    | cons x l ih =>
      have h1 := hf x (by simp)
      have h2 := ih (fun y hy => hf y (by simp [hy]))
      have e : encAll f (x :: l) = f x ++ encAll f l := by simp [encAll]
      rw [e, List.length_append, List.length_cons]
      omega
  have hlen : (xs.drop (a + (encNum l.length).length)).length = (encAll f l).length + r.length := by rw [hd, List.length_append]
  rw [List.length_drop] at hlen
  unfold getR
  rw [hn]
  dsimp only
  rw [if_neg (show ¬ (4096 < l.length ∨ leftR xs (some (a + (encNum l.length).length)) < l.length) from by unfold leftR; rw [Option.getD_some]; omega), loopR_at each f l _ r hd he, if_neg (by simp), List.length_append, Nat.add_assoc]

/-! ### beginnings -/
theorem entR_at {xs r : List Int} {a : Nat} (x : S39) (h0 : I64 x.f0) (h1 : I64 x.f1) (h2 : x.f2.size ≤ 1048576) (h : xs.drop a = encEnt x ++ r) : entR xs (some a) = (x, some (a + (encEnt x).length)) := by
  unfold encEnt at h ⊢
  rw [List.append_assoc, List.append_assoc] at h
  have e1 := intR_at h0.1 h0.2 h
  have hd := drop_more h
  have e2 := intR_at h1.1 h1.2 hd
  have e3 := textS_at h2 (drop_more hd)
  unfold entR
  rw [e1]
  dsimp only
  rw [e2]
  dsimp only
  rw [e3, List.length_append, List.length_append, Nat.add_assoc, Nat.add_assoc, Nat.add_assoc]
theorem encNum_pos (n : Nat) : 0 < (encNum n).length := by
  unfold encNum
  simp
theorem encInt_pos (z : Int) : 0 < (encInt z).length := by
  unfold encInt
  split <;> simp
theorem encText_pos (s : ByteArray) : 0 < (encText s).length := by
  unfold encText
  rw [List.length_append]
  have := encNum_pos s.size
  omega
/-- A step that takes what e lays. -/
structure Bk {α : Type} (xs : List Int) (f : Option Nat → α × Option Nat) (e : α → List Int) (P : α → Prop) : Prop where
  bad : (f none).2 = none
  good : ∀ a b, a ≤ xs.length → (f (some a)).2 = some b → b ≤ xs.length ∧ xs.take b = xs.take a ++ e (f (some a)).1 ∧ P (f (some a)).1
/-- Where one stands: behind p. -/
def Pre (xs : List Int) (s : Option Nat) (p : List Int) : Prop := ∃ a, s = some a ∧ a ≤ xs.length ∧ xs.take a = p
namespace Bk
variable {α β : Type} {xs : List Int} {f : Option Nat → α × Option Nat} {e : α → List Int} {P : α → Prop} {s : Option Nat} {p : List Int}
theorem ne (h : Bk xs f e P) (hn : (f s).2 ≠ none) : s ≠ none := fun hs => hn (by rw [hs]; exact h.bad)
theorem step (h : Bk xs f e P) (hp : Pre xs s p) (hn : (f s).2 ≠ none) : Pre xs (f s).2 (p ++ e (f s).1) ∧ P (f s).1 := by
  obtain ⟨a, rfl, ha, rfl⟩ := hp
  obtain ⟨b, hb⟩ : ∃ b, (f (some a)).2 = some b := by
    cases hq : (f (some a)).2 with
    | none => exact absurd hq hn
    | some b => exact ⟨b, rfl⟩
  obtain ⟨h1, h2, h3⟩ := h.good a b ha hb
  exact ⟨⟨b, hb, h1, h2⟩, h3⟩
/-- Out of the step at the row's head. -/
theorem of_head (F : List Int → Option Nat → α × Option Nat) (hn : (F xs none).2 = none) (hsh : ∀ a, a ≤ xs.length → F xs (sh a (some 0)) = ((F (xs.drop a) (some 0)).1, sh a (F (xs.drop a) (some 0)).2))
    (hh : ∀ a k, (F (xs.drop a) (some 0)).2 = some k → k ≤ (xs.drop a).length ∧ e (F (xs.drop a) (some 0)).1 = (xs.drop a).take k ∧ P (F (xs.drop a) (some 0)).1) : Bk xs (F xs) e P := by
  refine ⟨hn, fun a b ha hb => ?_⟩
  have e1 := hsh a ha
  rw [sh_some, Nat.add_zero] at e1
  rw [e1] at hb ⊢
  cases hq : (F (xs.drop a) (some 0)).2 with
  | none => rw [hq] at hb; cases hb
  | some k =>
    rw [hq, sh_some] at hb
    injection hb with hb
    obtain ⟨h1, h2, h3⟩ := hh a k hq
    rw [List.length_drop] at h1
    refine ⟨by omega, ?_, h3⟩
    dsimp only
    rw [h2, ← hb, List.take_add]
end Bk

section
variable {xs : List Int} (hb : IsBytes xs) (hl : xs.length ≤ 60000)
include hb
theorem bk_int : Bk xs (intR xs) encInt I64 :=
  Bk.of_head intR rfl (fun a ha => shI xs a ha _) (fun a k h => by
    obtain ⟨h1, h2, h3, h4⟩ := intR_enc (xs.drop a) k (hb.drop a) h
    exact ⟨h2, h1, h3, h4⟩)
theorem bk_num : Bk xs (numR xs) encNum (fun n => n < 18446744073709551616) :=
  Bk.of_head numR rfl (fun a ha => shN xs a _) (fun a k h => by
    obtain ⟨h1, h2⟩ := numR_enc (xs.drop a) k (hb.drop a) h
    refine ⟨h2, h1, ?_⟩
    have e : numR (xs.drop a) (some 0) = match takeNum 0 true ((xs.drop a).drop 0) with | none => (0, none) | some (m, k) => (m, some (0 + k)) := rfl
    rw [e] at h ⊢
    cases hn : takeNum 0 true ((xs.drop a).drop 0) with
    | none => rw [hn] at h; cases h
    | some p => exact (takeNum_le _ _ _ p.1 p.2 hn).2.2)
include hl in
theorem bk_text : Bk xs (textS xs) encText (fun t => t.size ≤ 1048576) :=
  Bk.of_head textS rfl (fun a ha => shS xs a _) (fun a k h => by
    obtain ⟨h1, h2, h3⟩ := textR_enc (xs.drop a) k (hb.drop a) (by rw [List.length_drop]; omega) h
    exact ⟨h2, h1, by show (strOfNums (textR (xs.drop a) (some 0)).1).size ≤ 1048576; omega⟩)
include hl in
theorem bk_ent : Bk xs (entR xs) encEnt (fun r => (I64 r.f0 ∧ I64 r.f1) ∧ r.f2.size ≤ 1048576) := by
  have hi := bk_int hb
  have hs := bk_text hb hl
  refine ⟨rfl, fun a b ha h => ?_⟩
  have e0 : (entR xs (some a)).2 = (textS xs (intR xs (intR xs (some a)).2).2).2 := rfl
  have h3 : (textS xs (intR xs (intR xs (some a)).2).2).2 ≠ none := fun hq => by rw [e0, hq] at h; cases h
  have h2 := hs.ne h3
  have h1 := hi.ne h2
  obtain ⟨p1, i1⟩ := hi.step ⟨a, rfl, ha, rfl⟩ h1
  obtain ⟨p2, i2⟩ := hi.step p1 h2
  obtain ⟨⟨c, hc, hcl, ht⟩, i3⟩ := hs.step p2 h3
  have hbc : b = c := by rw [e0, hc] at h; injection h with h; exact h.symm
  subst hbc
  exact ⟨hcl, by rw [ht]; unfold encEnt entR; simp only [List.append_assoc], ⟨i1, i2⟩, i3⟩
end
section
variable {α : Type} {xs : List Int} {f : Option Nat → α × Option Nat} {e : α → List Int} {P : α → Prop}
theorem pre_loop (h : Bk xs f e P) : ∀ (n : Nat) {s : Option Nat} {p : List Int}, Pre xs s p → (loopR f n s).2 ≠ none → Pre xs (loopR f n s).2 (p ++ encAll e (loopR f n s).1) ∧ (loopR f n s).1.length = n ∧ ∀ z ∈ (loopR f n s).1, P z
  | 0, s, p, hp, hn => ⟨by show Pre xs s (p ++ encAll e []); rw [show encAll e [] = [] from rfl, List.append_nil]; exact hp, rfl, fun z hz => by cases hz⟩
  | n + 1, s, p, hp, hn => by
    obtain ⟨a, rfl, ha, rfl⟩ := hp
    rw [loopR_some] at hn ⊢
    have h1 : (f (some a)).2 ≠ none := fun hq => hn (by dsimp only; rw [hq, loopR_none])
    obtain ⟨p1, i1⟩ := h.step ⟨a, rfl, ha, rfl⟩ h1
    obtain ⟨p2, i2, i3⟩ := pre_loop h n p1 hn
    refine ⟨?_, by dsimp only; rw [List.length_cons, i2], fun z hz => ?_⟩
    · rw [List.append_assoc] at p2
      exact p2
    · rcases List.mem_cons.1 hz with rfl | hz
      · exact i1
      · exact i3 z hz
theorem getR_none' {s : Option Nat} (hn : (getR xs f s).2 ≠ none) : s ≠ none := fun hs => hn (by
  rw [hs]
  unfold getR
  simp [numR, loopR_none])
theorem pre_get (hb : IsBytes xs) (h : Bk xs f e P) {s : Option Nat} {p : List Int} (hp : Pre xs s p) (hn : (getR xs f s).2 ≠ none) : Pre xs (getR xs f s).2 (p ++ (encNum (getR xs f s).1.length ++ encAll e (getR xs f s).1)) ∧ (getR xs f s).1.length ≤ 4096 ∧ ∀ z ∈ (getR xs f s).1, P z := by
  have hg : getR xs f s = if (loopR f (numR xs s).1 (if 4096 < (numR xs s).1 ∨ leftR xs (numR xs s).2 < (numR xs s).1 then none else (numR xs s).2)).2 = none then ([], none) else loopR f (numR xs s).1 (if 4096 < (numR xs s).1 ∨ leftR xs (numR xs s).2 < (numR xs s).1 then none else (numR xs s).2) := rfl
  by_cases hc : 4096 < (numR xs s).1 ∨ leftR xs (numR xs s).2 < (numR xs s).1
  · rw [hg, if_pos hc, loopR_none, if_pos rfl] at hn
    exact absurd rfl hn
  · rw [if_neg hc] at hg
    by_cases hd : (loopR f (numR xs s).1 (numR xs s).2).2 = none
    · rw [hg, if_pos hd] at hn
      exact absurd rfl hn
    · rw [if_neg hd] at hg
      have hnn : (numR xs s).2 ≠ none := fun hq => hd (by rw [hq, loopR_none])
      obtain ⟨p1, _⟩ := (bk_num hb).step hp hnn
      obtain ⟨p2, i2, i3⟩ := pre_loop h _ p1 hd
      rw [hg, i2]
      rw [List.append_assoc] at p2
      exact ⟨p2, by omega, i3⟩
end
section
variable {xs : List Int} (hb : IsBytes xs) (hl : xs.length ≤ 60000)
include hb hl
end

end Go.Proofs.Ytfanbhbpmhojaaa

namespace Go.Proofs.Ytfanbhbpmhojaaa
open Go.RowKit Go.Proofs.YtfanbhbpmhojaaaW.PrintWords Go.Proofs.YtfanbhbpmhojaaaW.PrintLast Go.Proofs.YtfanbhbpmhojaaaW.PrintMore PRef
set_option linter.unusedVariables false
set_option linter.unusedSimpArgs false
namespace Ts
variable {w wr w2 : World} {base g : Nat} {A : Option Addr} {c : Nat} {xs : List Int} {s s' : Option Nat} {b : Nat} {t : TypeId} {cs cs' : Array Value}
end Ts

end Go.Proofs.Ytfanbhbpmhojaaa

namespace Go.Proofs.Ytfanbhbpmhojaaa
open Go.RowKit Go.Proofs.YtfanbhbpmhojaaaW.PrintWords Go.Proofs.YtfanbhbpmhojaaaW.PrintLast Go.Proofs.YtfanbhbpmhojaaaW.PrintMore PRef
set_option linter.unusedVariables false
set_option linter.unusedSimpArgs false

section
variable {α : Type} {R : α → List Value → Prop} {e : TypeId} {size : Nat} {w w1 : World} {base : Nat} {v : Value} {l : List α}
end
end Go.Proofs.Ytfanbhbpmhojaaa

namespace Go.Proofs.Ytfanbhbpmhojaaa
open Go.RowKit Go.Proofs.YtfanbhbpmhojaaaW.PrintWords Go.Proofs.YtfanbhbpmhojaaaW.PrintLast Go.Proofs.YtfanbhbpmhojaaaW.PrintMore PRef
set_option linter.unusedVariables false
set_option linter.unusedSimpArgs false

/-- Whole numbers, one behind the other. -/
def intsR (xs : List Int) : Nat → Option Nat → List Int × Option Nat
  | 0, s => ([], s)
  | n + 1, s => ((intsR xs n s).1 ++ [(intR xs (intsR xs n s).2).1], (intR xs (intsR xs n s).2).2)
theorem intsR_succ (xs : List Int) (n : Nat) (s : Option Nat) : intsR xs (n + 1) s = ((intsR xs n s).1 ++ [(intR xs (intsR xs n s).2).1], (intR xs (intsR xs n s).2).2) := rfl
theorem intsR_len (xs : List Int) (s : Option Nat) : ∀ n, (intsR xs n s).1.length = n
  | 0 => rfl
  | n + 1 => by rw [intsR_succ, List.length_append, intsR_len xs s n]; rfl
/-- Cells from off on, filled. -/
def fill (cs : Array Value) (off : Nat) : List Int → Array Value
  | [] => cs
  | v :: vs => fill (cs.setIfInBounds off (.int .i64 v)) (off + 1) vs
theorem fill_snoc : ∀ (l : List Int) (cs : Array Value) (off : Nat) (v : Int), fill cs off (l ++ [v]) = (fill cs off l).setIfInBounds (off + l.length) (.int .i64 v)
  | [], cs, off, v => rfl
  | a :: l, cs, off, v => by
    show fill _ (off + 1) (l ++ [v]) = _
    rw [fill_snoc l, List.length_cons, Nat.add_assoc, Nat.add_comm 1 l.length]
    rfl
theorem fill_size : ∀ (l : List Int) (cs : Array Value) (off : Nat), (fill cs off l).size = cs.size
  | [], cs, off => rfl
  | a :: l, cs, off => by
    show (fill _ (off + 1) l).size = _
    rw [fill_size l, Array.size_setIfInBounds]

end Go.Proofs.Ytfanbhbpmhojaaa

namespace Go.Proofs.Ytfanbhbpmhojaaa
open Go.RowKit Go.Proofs.YtfanbhbpmhojaaaW.PrintWords Go.Proofs.YtfanbhbpmhojaaaW.PrintLast Go.Proofs.YtfanbhbpmhojaaaW.PrintMore PRef
set_option linter.unusedVariables false
set_option linter.unusedSimpArgs false

end Go.Proofs.Ytfanbhbpmhojaaa
