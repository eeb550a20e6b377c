/- The reference's Reader beside the program's: where neither is bad they stand alike. Conditions: bytes are bytes. -/
import Derived.Test.YtneebjlpeekmbaaRefR
namespace Go.Proofs.Ytneebjlpeekmbaa
open Go.RowKit Go.Proofs.YtneebjlpeekmbaaW.PrintWords Go.Proofs.YtneebjlpeekmbaaW.PrintLast Go.Proofs.YtneebjlpeekmbaaW.PrintMore PRef
set_option linter.unusedVariables false
set_option linter.unusedSimpArgs false

/-- One step: the state behind it, and the value where it is not bad. -/
def Stp {α : Type} (p : α × Option Nat) (v : α) (s : Option Nat) : Prop := s = p.2 ∧ (s ≠ none → v = p.1)
def Rg (w0 w : World) (g : Nat) (xs : List Int) : Option Nat → Prop
  | none => ∃ a, Rf w0 w g xs a true
  | some a => Rf w0 w g xs a false ∧ a ≤ xs.length
def sh (a : Nat) (s : Option Nat) : Option Nat := s.map (a + ·)
theorem sh_none (a : Nat) : sh a none = none := rfl
theorem sh_some (a b : Nat) : sh a (some b) = some (a + b) := rfl
theorem shB (xs : List Int) (a : Nat) (ha : a ≤ xs.length) (s : Option Nat) : byteR xs (sh a s) = ((byteR (xs.drop a) s).1, sh a (byteR (xs.drop a) s).2) := by
  cases s with
  | none => rfl
  | some b =>
    rw [sh_some]
    have hl : (xs.drop a).length = xs.length - a := List.length_drop
    by_cases h : b < (xs.drop a).length
    · simp only [byteR, if_pos h]
      rw [if_pos (by omega)]
      refine Prod.ext ?_ ?_
      · show xs.getD (a + b) 0 = (xs.drop a).getD b 0
        rw [List.getD_eq_getElem?_getD, List.getD_eq_getElem?_getD, List.getElem?_drop]
      · show some (a + b + 1) = sh a (some (b + 1))
        rw [sh_some, Nat.add_assoc]
    · simp only [byteR, if_neg h]
      rw [if_neg (by omega)]
      rfl
theorem shN (xs : List Int) (a : Nat) (s : Option Nat) : numR xs (sh a s) = ((numR (xs.drop a) s).1, sh a (numR (xs.drop a) s).2) := by
  cases s with
  | none => rfl
  | some b =>
    rw [sh_some]
    simp only [numR, List.drop_drop]
    cases takeNum 0 true (xs.drop (a + b)) with
    | none => rfl
    | some p => simp only [sh_some, Nat.add_assoc]
theorem shI (xs : List Int) (a : Nat) (ha : a ≤ xs.length) (s : Option Nat) : intR xs (sh a s) = ((intR (xs.drop a) s).1, sh a (intR (xs.drop a) s).2) := by
  unfold intR
  rw [shB xs a ha, shN]
  dsimp only
  generalize numR (xs.drop a) (byteR (xs.drop a) s).2 = q
  obtain ⟨n, u⟩ := q
  cases u with
  | none => rfl
  | some c =>
    rw [sh_some]
    dsimp only
    split
    · rfl
    · rfl
theorem shBo (xs : List Int) (a : Nat) (ha : a ≤ xs.length) (s : Option Nat) : boolR xs (sh a s) = ((boolR (xs.drop a) s).1, sh a (boolR (xs.drop a) s).2) := by
  unfold boolR
  rw [shB xs a ha]
  dsimp only
  split <;> rfl
theorem shT (xs : List Int) (a : Nat) (s : Option Nat) : textR xs (sh a s) = ((textR (xs.drop a) s).1, sh a (textR (xs.drop a) s).2) := by
  unfold textR
  rw [shN]
  dsimp only
  generalize numR (xs.drop a) s = q
  obtain ⟨n, u⟩ := q
  cases u with
  | none => rfl
  | some c =>
    rw [sh_some]
    dsimp only
    have hl : (xs.drop a).length = xs.length - a := List.length_drop
    rw [hl, List.drop_drop, Nat.sub_sub]
    split
    · rfl
    · rw [sh_some, Nat.add_assoc]
theorem shS (xs : List Int) (a : Nat) (s : Option Nat) : textS xs (sh a s) = ((textS (xs.drop a) s).1, sh a (textS (xs.drop a) s).2) := by
  unfold textS
  rw [shT]
/-- A list's length, as both take it. -/
def cntR (xs : List Int) (s : Option Nat) : Nat × Option Nat :=
  let t := (numR xs s).2
  ((numR xs s).1, if 4096 < (numR xs s).1 ∨ leftR xs t < (numR xs s).1 then none else t)
theorem leftR_sh (xs : List Int) (a : Nat) (ha : a ≤ xs.length) (s : Option Nat) : leftR xs (sh a s) = leftR (xs.drop a) s := by
  have hl : (xs.drop a).length = xs.length - a := List.length_drop
  cases s with
  | none => simp only [leftR, sh_none, Option.getD_none]; omega
  | some b => simp only [leftR, sh_some, Option.getD_some]; omega
theorem cnt_sh (xs : List Int) (a : Nat) (ha : a ≤ xs.length) : (cntR xs (some a)).2 = sh a (countR (xs.drop a)).2 ∧ ((cntR xs (some a)).2 ≠ none → (countR (xs.drop a)).1 = (cntR xs (some a)).1) := by
  have e : (some a : Option Nat) = sh a (some 0) := by rw [sh_some, Nat.add_zero]
  unfold cntR countR
  rw [e, shN]
  dsimp only
  rw [leftR_sh xs a ha]
  have hz := numR_none (xs.drop a) (some 0)
  have hle := numR_le (xs.drop a) (some 0)
  generalize numR (xs.drop a) (some 0) = q at hz hle ⊢
  obtain ⟨n, u⟩ := q
  cases u with
  | none =>
    have e1 : ∀ (p : Prop) [Decidable p], (if p then (none : Option Nat) else none) = none := fun p _ => by split <;> rfl
    rw [if_pos (show (none : Option Nat) = none ∨ _ from .inl rfl)]
    exact ⟨e1 _, fun h => absurd (e1 _) h⟩
  | some k =>
    have hk : k ≤ (xs.drop a).length := hle k rfl
    change (if 4096 < n ∨ (xs.drop a).length - k < n then none else some (a + k)) = sh a (if (some k : Option Nat) = none ∨ 4096 < n ∨ (xs.drop a).length - k < n then (0, none) else (n, some k)).2 ∧ ((if 4096 < n ∨ (xs.drop a).length - k < n then none else some (a + k)) ≠ none → (if (some k : Option Nat) = none ∨ 4096 < n ∨ (xs.drop a).length - k < n then (0, none) else (n, some k)).1 = n)
    by_cases h : 4096 < n ∨ (xs.drop a).length - k < n
    · rw [if_pos h, if_pos (.inr h)]
      exact ⟨rfl, fun hh => absurd rfl hh⟩
    · rw [if_neg h, if_neg (by rintro (h2 | h2); · cases h2
                               · exact h h2)]
      exact ⟨rfl, fun _ => rfl⟩
theorem byteR_pos2 (xs : List Int) (k : Nat) (h : (byteR xs (some 0)).2 = some k) : 0 < k ∧ k ≤ xs.length := by
  unfold byteR at h
  dsimp only at h
  split at h
  · injection h with h; omega
  · cases h
/-- What the exact contract says, told as a step. -/
theorem rg_step {α : Type} {w0 w' : World} {g : Nat} {xs : List Int} (f : List Int → Option Nat → α × Option Nat) (hsh : ∀ a, a ≤ xs.length → f xs (sh a (some 0)) = ((f (xs.drop a) (some 0)).1, sh a (f (xs.drop a) (some 0)).2)) (hp : ∀ ys k, (f ys (some 0)).2 = some k → 0 < k ∧ k ≤ ys.length) (hn : (f xs none).2 = none) (s : Option Nat) (a : Nat) (bad : Bool) (ha : s = none → bad = true) (hb : ∀ b, s = some b → bad = false ∧ a = b ∧ b ≤ xs.length) (h : Rf w0 w' g xs (a + posR (f (xs.drop a) (some 0))) (bad || (f (xs.drop a) (some 0)).2.isNone)) : ∃ s', Stp (f xs s) (f (xs.drop a) (some 0)).1 s' ∧ Rg w0 w' g xs s' := by
  cases s with
  | none =>
    obtain rfl := ha rfl
    rw [Bool.true_or] at h
    exact ⟨none, ⟨hn.symm, fun h => absurd rfl h⟩, ⟨_, h⟩⟩
  | some b =>
    obtain ⟨rfl, rfl, hl⟩ := hb b rfl
    have e := hsh a hl
    rw [sh_some, Nat.add_zero] at e
    refine ⟨(f xs (some a)).2, ⟨rfl, fun _ => by rw [e]⟩, ?_⟩
    rw [e]
    have hp' := hp (xs.drop a)
    have hdl : (xs.drop a).length = xs.length - a := List.length_drop
    generalize f (xs.drop a) (some 0) = q at h hp' ⊢
    obtain ⟨v, u⟩ := q
    cases u with
    | none => rw [Bool.false_or, Option.isNone_none] at h; exact ⟨_, h⟩
    | some k =>
      rw [Bool.false_or, Option.isNone_some, posR_some rfl] at h
      have := hp' k rfl
      exact ⟨h, by show a + k ≤ xs.length; omega⟩
theorem Rg.out {w0 w : World} {g : Nat} {xs : List Int} {s : Option Nat} (h : Rg w0 w g xs s) : ∃ a bad, Rf w0 w g xs a bad ∧ (s = none → bad = true) ∧ (∀ b, s = some b → bad = false ∧ a = b ∧ b ≤ xs.length) := by
  cases s with
  | none =>
    obtain ⟨a, h⟩ := h
    exact ⟨a, true, h, fun _ => rfl, fun b hb => by cases hb⟩
  | some a => exact ⟨a, false, h.1, (fun hb => by cases hb), fun b hb => by injection hb with hb; subst hb; exact ⟨rfl, rfl, h.2⟩⟩
theorem textS_pos2 (xs : List Int) (k : Nat) (h : (textS xs (some 0)).2 = some k) : 0 < k ∧ k ≤ xs.length := textR_pos xs k h
theorem boolR_pos2 (xs : List Int) (k : Nat) (h : (boolR xs (some 0)).2 = some k) : 0 < k ∧ k ≤ xs.length := by
  unfold boolR at h
  dsimp only at h
  split at h
  · cases h
  · exact byteR_pos2 xs k h

section
variable {w0 w : World} {g : Nat} {xs : List Int} {s : Option Nat}
theorem rgint_calls (h : Rg w0 w g xs s) : Calls Try.prog 48 #[.pointer (some ⟨g, 0, none⟩)] w fun e w' => ∃ v s', e = .returned (.int .i64 v) ∧ Hid (Stp (intR xs s) v s') ∧ Rg w0 w' g xs s' ∧ Chg (fun k => k = g) w w' := by
  obtain ⟨a, bad, h, h1, h2⟩ := h.out
  refine (rfint_calls h).mono ?_
  rintro e w' ⟨rfl, hr, hc⟩
  obtain ⟨s', hs, hg⟩ := rg_step intR (fun a ha => shI xs a ha _) intR_pos rfl s a bad h1 h2 hr
  exact ⟨_, s', rfl, Lib.hid hs, hg, hc⟩
theorem rgtext_calls (h : Rg w0 w g xs s) : Calls Try.prog 52 #[.pointer (some ⟨g, 0, none⟩)] w fun e w' => ∃ v s', e = .returned (.string v) ∧ Hid (Stp (textS xs s) v s') ∧ Rg w0 w' g xs s' ∧ Chg (fun k => k = g) w w' := by
  obtain ⟨a, bad, h, h1, h2⟩ := h.out
  refine (rftext_calls h).mono ?_
  rintro e w' ⟨rfl, hr, hc⟩
  obtain ⟨s', hs, hg⟩ := rg_step textS (fun a ha => shS xs a _) textS_pos2 rfl s a bad h1 h2 hr
  exact ⟨_, s', rfl, Lib.hid hs, hg, hc⟩
theorem rgbyte_calls (h : Rg w0 w g xs s) : Calls Try.prog 50 #[.pointer (some ⟨g, 0, none⟩)] w fun e w' => ∃ v s', e = .returned (.int .u8 v) ∧ (0 ≤ v ∧ v < 256) ∧ Hid (Stp (byteR xs s) v s') ∧ Rg w0 w' g xs s' ∧ Chg (fun k => k = g) w w' := by
  obtain ⟨a, bad, h, h1, h2⟩ := h.out
  refine (rfbyte_calls h).mono ?_
  rintro e w' ⟨rfl, hr, hc⟩
  obtain ⟨s', hs, hg⟩ := rg_step byteR (fun a ha => shB xs a ha _) byteR_pos2 rfl s a bad h1 h2 hr
  exact ⟨_, s', rfl, byteR_range _ _ (h.bytes.drop a), Lib.hid hs, hg, hc⟩
theorem rgbool_calls (h : Rg w0 w g xs s) : Calls Try.prog 49 #[.pointer (some ⟨g, 0, none⟩)] w fun e w' => ∃ v s', e = .returned (.bool v) ∧ Hid (Stp (boolR xs s) v s') ∧ Rg w0 w' g xs s' ∧ Chg (fun k => k = g) w w' := by
  obtain ⟨a, bad, h, h1, h2⟩ := h.out
  refine (rfbool_calls h).mono ?_
  rintro e w' ⟨rfl, hr, hc⟩
  have hr' : ∃ b, Rf w0 w' g xs b (bad || (boolR (xs.drop a) (some 0)).2.isNone) ∧ ((boolR (xs.drop a) (some 0)).2.isNone = false → b = a + posR (boolR (xs.drop a) (some 0))) := by
    refine ⟨_, hr, fun hh => ?_⟩
    congr 1
    unfold posR boolR at *
    dsimp only at hh ⊢
    split at hh
    · cases hh
    · rename_i h3; rw [if_neg h3]
  clear hr
  obtain ⟨b, hr, hbe⟩ := hr'
  by_cases hnn : (boolR (xs.drop a) (some 0)).2.isNone = false
  · rw [hbe hnn] at hr
    obtain ⟨s', hs, hg⟩ := rg_step boolR (fun a ha => shBo xs a ha _) boolR_pos2 rfl s a bad h1 h2 hr
    exact ⟨_, s', rfl, Lib.hid hs, hg, hc⟩
  · have hnt : (boolR (xs.drop a) (some 0)).2.isNone = true := by simpa using hnn
    rw [hnt, Bool.or_true] at hr
    refine ⟨_, none, rfl, Lib.hid ⟨?_, fun h => absurd rfl h⟩, ⟨_, hr⟩, hc⟩
    cases s with
    | none => rfl
    | some c =>
      obtain ⟨rfl, rfl, hl⟩ := h2 c rfl
      have e := shBo xs a hl (some 0)
      rw [sh_some, Nat.add_zero] at e
      rw [e]
      rw [Option.isNone_iff_eq_none] at hnt
      rw [hnt]
      rfl
theorem countR_le (ys : List Int) : (countR ys).1 ≤ 4096 := by
  unfold countR
  split
  · exact Nat.zero_le _
  · rename_i h
    dsimp only
    exact Nat.le_of_not_lt fun h2 => h (.inr (.inl h2))
theorem countR_pos (ys : List Int) (k : Nat) (h : (countR ys).2 = some k) : k ≤ ys.length := by
  unfold countR at h
  split at h
  · cases h
  · exact numR_le ys (some 0) k h
theorem rgcount_calls (h : Rg w0 w g xs s) : Calls Try.prog 51 #[.pointer (some ⟨g, 0, none⟩)] w fun e w' => ∃ (n : Nat) (s' : Option Nat), e = .returned (.int .i64 n) ∧ n ≤ 4096 ∧ Hid (Stp (cntR xs s) n s') ∧ Rg w0 w' g xs s' ∧ Chg (fun k => k = g) w w' := by
  obtain ⟨a, bad, h, h1, h2⟩ := h.out
  refine (rfcount_calls h).mono ?_
  rintro e w' ⟨rfl, hr, hc⟩
  cases s with
  | none =>
    obtain rfl := h1 rfl
    rw [Bool.true_or] at hr
    refine ⟨_, none, rfl, countR_le _, Lib.hid ⟨?_, fun h => absurd rfl h⟩, ⟨_, hr⟩, hc⟩
    unfold cntR
    dsimp only [numR]
    simp
  | some c =>
    obtain ⟨rfl, rfl, hl⟩ := h2 c rfl
    obtain ⟨e1, e2⟩ := cnt_sh xs a hl
    refine ⟨_, (cntR xs (some a)).2, rfl, countR_le _, Lib.hid ⟨rfl, e2⟩, ?_, hc⟩
    rw [e1]
    have hp := countR_pos (xs.drop a)
    have hdl : (xs.drop a).length = xs.length - a := List.length_drop
    generalize countR (xs.drop a) = q at hr hp ⊢
    obtain ⟨v, u⟩ := q
    cases u with
    | none => rw [Bool.false_or, Option.isNone_none] at hr; exact ⟨_, hr⟩
    | some k =>
      rw [Bool.false_or, Option.isNone_some, posR_some rfl] at hr
      have := hp k rfl
      exact ⟨hr, by show a + k ≤ xs.length; omega⟩
end
theorem Rg.bad {w0 w : World} {g : Nat} {xs : List Int} {s : Option Nat} (h : Rg w0 w g xs s) : w.cell? ⟨g, 1, none⟩ = some (.bool s.isNone) := by
  cases s with
  | none =>
    obtain ⟨a, h⟩ := h
    obtain ⟨A, c, h1, h2, h3⟩ := h.row
    rw [blk_cell h1]; rfl
  | some a =>
    obtain ⟨A, c, h1, h2, h3⟩ := h.1.row
    rw [blk_cell h1]; rfl
theorem Rg.at0 {w0 w : World} {g : Nat} {xs : List Int} {s : Option Nat} (h : Rg w0 w g xs s) : ∃ (A : Option Addr) (n c : Nat), w.cell? ⟨g, 0, none⟩ = some (.slice A n c) ∧ (∀ a, s = some a → n = xs.length - a ∧ a ≤ xs.length) := by
  cases s with
  | none =>
    obtain ⟨a, h⟩ := h
    obtain ⟨A, c, h1, h2, h3⟩ := h.row
    exact ⟨A, _, c, by rw [blk_cell h1]; rfl, fun a h => by cases h⟩
  | some a =>
    obtain ⟨A, c, h1, h2, h3⟩ := h.1.row
    exact ⟨A, _, c, by rw [blk_cell h1]; rfl, fun b hb => by injection hb with hb; subst hb; exact ⟨List.length_drop, h.2⟩⟩
theorem Rg.below {w0 w w1 : World} {g : Nat} {xs : List Int} {s : Option Nat} (h : Rg w0 w g xs s) (hb : Below w.heap.size w w1) : Rg w0 w1 g xs s := by
  cases s with
  | none => obtain ⟨a, h⟩ := h; exact ⟨a, h.below hb⟩
  | some a => exact ⟨h.1.below hb, h.2⟩
theorem Rf.move {w0 w w1 : World} {g : Nat} {xs : List Int} {a : Nat} {bad : Bool} {ok : Nat → Prop} (h : Rf w0 w g xs a bad) (hc : Chg ok w w1) (hg : ¬ ok g) (h0 : ∀ k, ok k → w0.heap.size ≤ k) : Rf w0 w1 g xs a bad := by
  obtain ⟨⟨A, c, h1, h2, h3⟩, h4, h5, h6⟩ := h
  exact ⟨⟨A, c, hc.get h1 hg, h2, h3⟩, h4, h5.trans (hc.below h5.size fun i hi hk => by have := h0 i hk; omega), h6⟩
theorem Rg.move {w0 w w1 : World} {g : Nat} {xs : List Int} {s : Option Nat} {ok : Nat → Prop} (h : Rg w0 w g xs s) (hc : Chg ok w w1) (hg : ¬ ok g) (h0 : ∀ k, ok k → w0.heap.size ≤ k) : Rg w0 w1 g xs s := by
  cases s with
  | none => obtain ⟨a, h⟩ := h; exact ⟨a, h.move hc hg h0⟩
  | some a => exact ⟨h.1.move hc hg h0, h.2⟩
theorem Rg.bel {w0 w : World} {g : Nat} {xs : List Int} {s : Option Nat} (h : Rg w0 w g xs s) : Below w0.heap.size w0 w := by
  cases s with
  | none => obtain ⟨a, h⟩ := h; exact h.bel
  | some a => exact h.1.bel
/-- A Ref, an Entry: step by step. -/
theorem Stp.nn {α : Type} {p : α × Option Nat} {v : α} {s : Option Nat} (h : Stp p v s) (hs : s ≠ none) : p.2 = s ∧ p.1 = v := ⟨h.1.symm, (h.2 hs).symm⟩
theorem stp_ref {xs : List Int} {s s1 s2 : Option Nat} {v1 v2 : Int} (h1 : Stp (intR xs s) v1 s1) (h2 : Stp (intR xs s1) v2 s2) : Stp (refR xs s) ⟨v1, v2⟩ s2 := by
  obtain ⟨e1, f1⟩ := h1
  obtain ⟨e2, f2⟩ := h2
  unfold refR
  rw [← e1, ← e2]
  refine ⟨rfl, fun hs => ?_⟩
  have hs1 : s1 ≠ none := fun h => hs (by rw [e2, h]; rfl)
  rw [f1 hs1, f2 hs]
theorem stp_ent {xs : List Int} {s s1 s2 s3 : Option Nat} {v1 v2 : Int} {v3 : ByteArray} (h1 : Stp (intR xs s) v1 s1) (h2 : Stp (intR xs s1) v2 s2) (h3 : Stp (textS xs s2) v3 s3) : Stp (entR xs s) ⟨v1, v2, v3⟩ s3 := by
  obtain ⟨e1, f1⟩ := h1
  obtain ⟨e2, f2⟩ := h2
  obtain ⟨e3, f3⟩ := h3
  unfold entR
  rw [← e1, ← e2, ← e3]
  refine ⟨rfl, fun hs => ?_⟩
  have hs2 : s2 ≠ none := fun h => hs (by rw [e3, h]; rfl)
  have hs1 : s1 ≠ none := fun h => hs2 (by rw [e2, h]; rfl)
  rw [f1 hs1, f2 hs2, f3 hs]
/-- A list under way: l is taken, m are to come. -/
def Lst {α : Type} (each : Option Nat → α × Option Nat) (F : List α × Option Nat) (l : List α) (m : Nat) (u : Option Nat) : Prop :=
  (loopR each m u).2 = F.2 ∧ (F.2 ≠ none → l ++ (loopR each m u).1 = F.1)
theorem Lst.start {α : Type} (each : Option Nat → α × Option Nat) (m : Nat) (u : Option Nat) : Lst each (loopR each m u) [] m u := ⟨rfl, fun _ => rfl⟩
theorem Lst.step {α : Type} {each : Option Nat → α × Option Nat} {F : List α × Option Nat} {l : List α} {m a : Nat} {z : α} {s : Option Nat} (h : Lst each F l (m + 1) (some a)) (hz : Stp (each (some a)) z s) : Lst each F (l ++ [z]) m s := by
  obtain ⟨h1, h2⟩ := h
  obtain ⟨e, f⟩ := hz
  rw [loopR_some, ← e] at h1 h2
  refine ⟨h1, fun hF => ?_⟩
  have hs : s ≠ none := fun h => hF (by rw [← h1, h, loopR_none])
  rw [f hs]
  have := h2 hF
  rw [← this]
  simp
theorem Lst.stop {α : Type} {each : Option Nat → α × Option Nat} {F : List α × Option Nat} {l : List α} {m : Nat} {u : Option Nat} (h : Lst each F l m u) (hm : m = 0 ∨ u = none) : Stp F l u := by
  obtain ⟨h1, h2⟩ := h
  have hl : loopR each m u = ([], u) := by
    rcases hm with rfl | rfl
    · rfl
    · rw [loopR_none]
  rw [hl] at h1 h2
  exact ⟨h1, fun hu => by have := h2 (by rw [← h1]; exact hu); rw [← this]; simp⟩
theorem stp_get {α : Type} {xs : List Int} {each : Option Nat → α × Option Nat} {s t u : Option Nat} {n : Nat} {l : List α} (h1 : Stp (cntR xs s) n t) (h2 : Stp (loopR each n t) l u) : Stp (getR xs each s) l u := by
  obtain ⟨e1, f1⟩ := h1
  obtain ⟨e2, f2⟩ := h2
  have hg : getR xs each s = if (loopR each (cntR xs s).1 (cntR xs s).2).2 = none then ([], none) else loopR each (cntR xs s).1 (cntR xs s).2 := rfl
  rw [hg, ← e1]
  cases t with
  | none =>
    rw [loopR_none, if_pos rfl]
    rw [loopR_none] at e2
    exact ⟨e2, fun h => absurd e2 h⟩
  | some a =>
    rw [← f1 (by simp)]
    by_cases hn : (loopR each n (some a)).2 = none
    · rw [if_pos hn]
      rw [hn] at e2
      exact ⟨e2, fun h => absurd e2 h⟩
    · rw [if_neg hn]
      exact ⟨e2, f2⟩

end Go.Proofs.Ytneebjlpeekmbaa
