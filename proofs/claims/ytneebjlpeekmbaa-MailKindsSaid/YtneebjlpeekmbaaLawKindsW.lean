/- The walk of the law MailKinds: it returns true, and writes nothing that was there. Conditions: the kinds' ranges. -/
import Derived.Test.YtneebjlpeekmbaaLive
namespace Go.Proofs.Ytneebjlpeekmbaa
open Go.RowKit Go.Proofs.YtneebjlpeekmbaaW.PrintWords Go.Proofs.YtneebjlpeekmbaaW.PrintLast Go.Proofs.YtneebjlpeekmbaaW.PrintMore PRef
set_option linter.unusedVariables false
set_option linter.unusedSimpArgs false

def wordsL : List ByteArray := [⟨#[112, 114, 101]⟩, ⟨#[112, 114, 101, 111, 107]⟩, ⟨#[116, 97, 107, 101]⟩, ⟨#[116, 97, 107, 101, 111, 107]⟩, ⟨#[99, 111, 109, 109, 105, 116]⟩, ⟨#[97, 115, 107]⟩, ⟨#[116, 101, 108, 108]⟩, ⟨#[110, 111]⟩, ⟨#[110, 101, 120, 116]⟩, ⟨#[]⟩, ⟨#[118, 111, 116, 101]⟩, ⟨#[118, 111, 116, 101, 100]⟩, ⟨#[97, 112, 112, 101, 110, 100]⟩, ⟨#[97, 112, 112, 101, 110, 100, 101, 100]⟩, ⟨#[115, 110, 97, 112]⟩, ⟨#[115, 110, 97, 112, 112, 101, 100]⟩, ⟨#[]⟩, ⟨#[]⟩, ⟨#[]⟩, ⟨#[]⟩, ⟨#[102, 101, 116, 99, 104]⟩, ⟨#[115, 116, 97, 116, 101]⟩, ⟨#[109, 97, 112]⟩, ⟨#[105, 110, 115, 116, 97, 108, 108, 101, 100]⟩, ⟨#[99, 104, 97, 110, 103, 101]⟩, ⟨#[108, 111, 97, 100]⟩, ⟨#[]⟩, ⟨#[]⟩, ⟨#[]⟩, ⟨#[]⟩, ⟨#[114, 101, 113, 117, 101, 115, 116]⟩, ⟨#[114, 101, 112, 108, 121]⟩, ⟨#[119, 114, 111, 110, 103]⟩]
theorem kinds_words : ∀ i, i < 33 → kindWord ((i : Nat) + 1 : Int) = wordsL.getD i ⟨#[]⟩ := by decide +kernel
theorem kinds_range : ∀ p ∈ kinds, 1 ≤ p.1 ∧ p.1 ≤ 33 := by decide +kernel
theorem kinds_inj : ∀ p ∈ kinds, ∀ q ∈ kinds, p.2.data = q.2.data → p.1 = q.1 := by decide +kernel
theorem kindWord_out (k : Int) (h : ¬ (1 ≤ k ∧ k ≤ 33)) : kindWord k = ⟨#[]⟩ := by
  unfold kindWord
  cases hf : kinds.find? (fun p => p.1 == k) with
  | none => rfl
  | some p =>
    have h1 := List.find?_some hf
    have h2 := kinds_range p (List.mem_of_find?_eq_some hf)
    rw [beq_iff_eq] at h1
    omega
theorem kindWord_inj (k l : Int) (hne : k ≠ l) (hk : kindWord k ≠ ⟨#[]⟩) : kindWord l ≠ kindWord k := by
  intro e
  unfold kindWord at e hk
  cases hf : kinds.find? (fun p => p.1 == k) with
  | none => rw [hf] at hk; exact hk rfl
  | some p =>
    cases hg : kinds.find? (fun p => p.1 == l) with
    | none => rw [hf, hg] at e; rw [hf] at hk; exact hk e.symm
    | some q =>
      rw [hf, hg] at e
      have h1 := List.find?_some hf
      have h2 := List.find?_some hg
      rw [beq_iff_eq] at h1 h2
      have e2 : q.2 = p.2 := e
      have := kinds_inj p (List.mem_of_find?_eq_some hf) q (List.mem_of_find?_eq_some hg) (by rw [e2])
      omega

set_option maxRecDepth 100000 in
set_option maxHeartbeats 4000000 in
theorem kinds_law (k l : Int) (w : World) (hk : I64 k) : Calls Try.prog 8 #[.int .i64 k, .int .i64 l] w fun e w' => e = .returned (.bool true) ∧ Below w.heap.size w w' := by
  have HBK := Lib.hid (blk_new w (.cells #[.string ⟨#[112, 114, 101]⟩, .string ⟨#[112, 114, 101, 111, 107]⟩, .string ⟨#[116, 97, 107, 101]⟩, .string ⟨#[116, 97, 107, 101, 111, 107]⟩, .string ⟨#[99, 111, 109, 109, 105, 116]⟩, .string ⟨#[97, 115, 107]⟩, .string ⟨#[116, 101, 108, 108]⟩, .string ⟨#[110, 111]⟩, .string ⟨#[110, 101, 120, 116]⟩, .string ⟨#[]⟩, .string ⟨#[118, 111, 116, 101]⟩, .string ⟨#[118, 111, 116, 101, 100]⟩, .string ⟨#[97, 112, 112, 101, 110, 100]⟩, .string ⟨#[97, 112, 112, 101, 110, 100, 101, 100]⟩, .string ⟨#[115, 110, 97, 112]⟩, .string ⟨#[115, 110, 97, 112, 112, 101, 100]⟩, .string ⟨#[]⟩, .string ⟨#[]⟩, .string ⟨#[]⟩, .string ⟨#[]⟩, .string ⟨#[102, 101, 116, 99, 104]⟩, .string ⟨#[115, 116, 97, 116, 101]⟩, .string ⟨#[109, 97, 112]⟩, .string ⟨#[105, 110, 115, 116, 97, 108, 108, 101, 100]⟩, .string ⟨#[99, 104, 97, 110, 103, 101]⟩, .string ⟨#[108, 111, 97, 100]⟩, .string ⟨#[]⟩, .string ⟨#[]⟩, .string ⟨#[]⟩, .string ⟨#[]⟩, .string ⟨#[114, 101, 113, 117, 101, 115, 116]⟩, .string ⟨#[114, 101, 112, 108, 121]⟩, .string ⟨#[119, 114, 111, 110, 103]⟩] 9))
  have HB := Lib.hid ((Below.refl w.heap.size w).alloc (Nat.le_refl _) (.cells #[.string ⟨#[112, 114, 101]⟩, .string ⟨#[112, 114, 101, 111, 107]⟩, .string ⟨#[116, 97, 107, 101]⟩, .string ⟨#[116, 97, 107, 101, 111, 107]⟩, .string ⟨#[99, 111, 109, 109, 105, 116]⟩, .string ⟨#[97, 115, 107]⟩, .string ⟨#[116, 101, 108, 108]⟩, .string ⟨#[110, 111]⟩, .string ⟨#[110, 101, 120, 116]⟩, .string ⟨#[]⟩, .string ⟨#[118, 111, 116, 101]⟩, .string ⟨#[118, 111, 116, 101, 100]⟩, .string ⟨#[97, 112, 112, 101, 110, 100]⟩, .string ⟨#[97, 112, 112, 101, 110, 100, 101, 100]⟩, .string ⟨#[115, 110, 97, 112]⟩, .string ⟨#[115, 110, 97, 112, 112, 101, 100]⟩, .string ⟨#[]⟩, .string ⟨#[]⟩, .string ⟨#[]⟩, .string ⟨#[]⟩, .string ⟨#[102, 101, 116, 99, 104]⟩, .string ⟨#[115, 116, 97, 116, 101]⟩, .string ⟨#[109, 97, 112]⟩, .string ⟨#[105, 110, 115, 116, 97, 108, 108, 101, 100]⟩, .string ⟨#[99, 104, 97, 110, 103, 101]⟩, .string ⟨#[108, 111, 97, 100]⟩, .string ⟨#[]⟩, .string ⟨#[]⟩, .string ⟨#[]⟩, .string ⟨#[]⟩, .string ⟨#[114, 101, 113, 117, 101, 115, 116]⟩, .string ⟨#[114, 101, 112, 108, 121]⟩, .string ⟨#[119, 114, 111, 110, 103]⟩] 9))
  obtain ⟨wk, hwk⟩ : ∃ wk, wk = kindWord k := ⟨_, rfl⟩
  obtain ⟨wl, hwl⟩ : ∃ wl, wl = kindWord l := ⟨_, rfl⟩
  have hinj := kindWord_inj k l
  rw [← hwk, ← hwl] at hinj
  have HK := Lib.hid hwk
  have HL := Lib.hid hwl
  have HI := Lib.hid hinj
  have hst : ∀ a b : ByteArray, a ≠ b → (a.toList == b.toList) = false := fun a b h => by rw [beq_eq_false_iff_ne]; exact fun e => h (ba_ext e)
  have HST := Lib.hid hst
  clear hwl hinj hst
  by_cases hin : 1 ≤ k ∧ k ≤ 33
  · obtain ⟨i, hi⟩ : ∃ i : Nat, k = (i : Int) + 1 := ⟨(k - 1).toNat, by omega⟩
    have hi33 : i < 33 := by omega
    have hc : (w.alloc (.cells #[.string ⟨#[112, 114, 101]⟩, .string ⟨#[112, 114, 101, 111, 107]⟩, .string ⟨#[116, 97, 107, 101]⟩, .string ⟨#[116, 97, 107, 101, 111, 107]⟩, .string ⟨#[99, 111, 109, 109, 105, 116]⟩, .string ⟨#[97, 115, 107]⟩, .string ⟨#[116, 101, 108, 108]⟩, .string ⟨#[110, 111]⟩, .string ⟨#[110, 101, 120, 116]⟩, .string ⟨#[]⟩, .string ⟨#[118, 111, 116, 101]⟩, .string ⟨#[118, 111, 116, 101, 100]⟩, .string ⟨#[97, 112, 112, 101, 110, 100]⟩, .string ⟨#[97, 112, 112, 101, 110, 100, 101, 100]⟩, .string ⟨#[115, 110, 97, 112]⟩, .string ⟨#[115, 110, 97, 112, 112, 101, 100]⟩, .string ⟨#[]⟩, .string ⟨#[]⟩, .string ⟨#[]⟩, .string ⟨#[]⟩, .string ⟨#[102, 101, 116, 99, 104]⟩, .string ⟨#[115, 116, 97, 116, 101]⟩, .string ⟨#[109, 97, 112]⟩, .string ⟨#[105, 110, 115, 116, 97, 108, 108, 101, 100]⟩, .string ⟨#[99, 104, 97, 110, 103, 101]⟩, .string ⟨#[108, 111, 97, 100]⟩, .string ⟨#[]⟩, .string ⟨#[]⟩, .string ⟨#[]⟩, .string ⟨#[]⟩, .string ⟨#[114, 101, 113, 117, 101, 115, 116]⟩, .string ⟨#[114, 101, 112, 108, 121]⟩, .string ⟨#[119, 114, 111, 110, 103]⟩] 9)).cell? ⟨w.heap.size, i, none⟩ = some (.string wk) := by
      rw [blk_cell HBK.out, hwk, hi, kinds_words i hi33]
      have e : (#[Value.string ⟨#[112, 114, 101]⟩, .string ⟨#[112, 114, 101, 111, 107]⟩, .string ⟨#[116, 97, 107, 101]⟩, .string ⟨#[116, 97, 107, 101, 111, 107]⟩, .string ⟨#[99, 111, 109, 109, 105, 116]⟩, .string ⟨#[97, 115, 107]⟩, .string ⟨#[116, 101, 108, 108]⟩, .string ⟨#[110, 111]⟩, .string ⟨#[110, 101, 120, 116]⟩, .string ⟨#[]⟩, .string ⟨#[118, 111, 116, 101]⟩, .string ⟨#[118, 111, 116, 101, 100]⟩, .string ⟨#[97, 112, 112, 101, 110, 100]⟩, .string ⟨#[97, 112, 112, 101, 110, 100, 101, 100]⟩, .string ⟨#[115, 110, 97, 112]⟩, .string ⟨#[115, 110, 97, 112, 112, 101, 100]⟩, .string ⟨#[]⟩, .string ⟨#[]⟩, .string ⟨#[]⟩, .string ⟨#[]⟩, .string ⟨#[102, 101, 116, 99, 104]⟩, .string ⟨#[115, 116, 97, 116, 101]⟩, .string ⟨#[109, 97, 112]⟩, .string ⟨#[105, 110, 115, 116, 97, 108, 108, 101, 100]⟩, .string ⟨#[99, 104, 97, 110, 103, 101]⟩, .string ⟨#[108, 111, 97, 100]⟩, .string ⟨#[]⟩, .string ⟨#[]⟩, .string ⟨#[]⟩, .string ⟨#[]⟩, .string ⟨#[114, 101, 113, 117, 101, 115, 116]⟩, .string ⟨#[114, 101, 112, 108, 121]⟩, .string ⟨#[119, 114, 111, 110, 103]⟩] : Array Value) = (wordsL.map Value.string).toArray := rfl
      have hw : i < wordsL.length := hi33
      rw [e, List.getElem?_toArray, List.getElem?_map, List.getElem?_eq_getElem hw, List.getD_eq_getElem?_getD, List.getElem?_eq_getElem hw]
      rfl
    have hb1 : decide (1 ≤ k) = true := decide_eq_true hin.1
    have hb2 : decide (k ≤ 33) = true := decide_eq_true hin.2
    have hks : IntKind.i64.wrap (k - 1) = (i : Int) := by rw [IntWalk.i64_in _ (by omega)]; omega
    have hq : (0 : Int) ≤ (i : Int) := by omega
    have hq2 : (i : Int) < 33 := by omega
    clear hwk hin hi
    go_enter Try.func8, Try.ntmps8
    go_upto_region 3 with fail
    generalize w.alloc (.cells #[.string ⟨#[112, 114, 101]⟩, .string ⟨#[112, 114, 101, 111, 107]⟩, .string ⟨#[116, 97, 107, 101]⟩, .string ⟨#[116, 97, 107, 101, 111, 107]⟩, .string ⟨#[99, 111, 109, 109, 105, 116]⟩, .string ⟨#[97, 115, 107]⟩, .string ⟨#[116, 101, 108, 108]⟩, .string ⟨#[110, 111]⟩, .string ⟨#[110, 101, 120, 116]⟩, .string ⟨#[]⟩, .string ⟨#[118, 111, 116, 101]⟩, .string ⟨#[118, 111, 116, 101, 100]⟩, .string ⟨#[97, 112, 112, 101, 110, 100]⟩, .string ⟨#[97, 112, 112, 101, 110, 100, 101, 100]⟩, .string ⟨#[115, 110, 97, 112]⟩, .string ⟨#[115, 110, 97, 112, 112, 101, 100]⟩, .string ⟨#[]⟩, .string ⟨#[]⟩, .string ⟨#[]⟩, .string ⟨#[]⟩, .string ⟨#[102, 101, 116, 99, 104]⟩, .string ⟨#[115, 116, 97, 116, 101]⟩, .string ⟨#[109, 97, 112]⟩, .string ⟨#[105, 110, 115, 116, 97, 108, 108, 101, 100]⟩, .string ⟨#[99, 104, 97, 110, 103, 101]⟩, .string ⟨#[108, 111, 97, 100]⟩, .string ⟨#[]⟩, .string ⟨#[]⟩, .string ⟨#[]⟩, .string ⟨#[]⟩, .string ⟨#[114, 101, 113, 117, 101, 115, 116]⟩, .string ⟨#[114, 101, 112, 108, 121]⟩, .string ⟨#[119, 114, 111, 110, 103]⟩] 9) = w1 at HBK HB hc ⊢
    go_upto_region 5 with fail
    clear hc hb1 hb2 hks hq hq2 hi33
    by_cases hkl : k = l
    · have hklb : (k == l) = true := by rw [beq_iff_eq]; exact hkl
      clear hkl
      go_wp2_with (first | ((with_reducible refine (kind_calls k _).mono ?_); rw [← HK.out]; rintro e w3 ⟨rfl, hb⟩; have HB3 := Lib.hid (HB.out.trans (hb.mono HB.out.size)); clear hb) | ((with_reducible refine (lives_calls _).mono ?_); rintro e w6 ⟨rfl, hb6⟩))
      go_ret
      exact ⟨rfl, HB3.out.trans (hb6.mono HB3.out.size)⟩
    · have hklb : (k == l) = false := by rw [beq_eq_false_iff_ne]; exact hkl
      by_cases hw : wk = ⟨#[]⟩
      · subst hw
        clear hkl
        go_wp2_with (first | ((with_reducible refine (kind_calls k _).mono ?_); rw [← HK.out]; rintro e w3 ⟨rfl, hb⟩; have HB3 := Lib.hid (HB.out.trans (hb.mono HB.out.size)); clear hb) | ((with_reducible refine (lives_calls _).mono ?_); rintro e w6 ⟨rfl, hb6⟩))
        go_ret
        exact ⟨rfl, HB3.out.trans (hb6.mono HB3.out.size)⟩
      · have hwb := HST.out wk ⟨#[]⟩ hw
        have hwl := HST.out wl wk (HI.out hkl hw)
        clear hkl hw
        go_wp2_with (first | ((with_reducible refine (kind_calls k _).mono ?_); rw [← HK.out]; rintro e w3 ⟨rfl, hb⟩; have HB3 := Lib.hid (HB.out.trans (hb.mono HB.out.size)); clear hb) | ((with_reducible refine (kind_calls l _).mono ?_); rw [← HL.out]; rintro e w4 ⟨rfl, hb⟩; have HB4 := Lib.hid (HB3.out.trans (hb.mono HB3.out.size)); clear hb) | ((with_reducible refine (lives_calls _).mono ?_); rintro e w6 ⟨rfl, hb6⟩))
        all_goals
          go_ret
          first | exact ⟨rfl, HB4.out.trans (hb6.mono HB4.out.size)⟩ | exact ⟨rfl, HB3.out.trans (hb6.mono HB3.out.size)⟩
  · have hke := kindWord_out k hin
    rw [← hwk] at hke
    subst hke
    clear hwk
    have hb : decide (1 ≤ k) = false ∨ (decide (1 ≤ k) = true ∧ decide (k ≤ 33) = false) := by
      by_cases h1 : 1 ≤ k
      · exact .inr ⟨decide_eq_true h1, decide_eq_false (fun h2 => hin ⟨h1, h2⟩)⟩
      · exact .inl (decide_eq_false h1)
    clear hin
    by_cases hkl : k = l
    · have hklb : (k == l) = true := by rw [beq_iff_eq]; exact hkl
      clear hkl
      rcases hb with hb1 | ⟨hb1, hb2⟩
      all_goals
        go_enter Try.func8, Try.ntmps8
        go_upto_region 3 with fail
        generalize w.alloc (.cells #[.string ⟨#[112, 114, 101]⟩, .string ⟨#[112, 114, 101, 111, 107]⟩, .string ⟨#[116, 97, 107, 101]⟩, .string ⟨#[116, 97, 107, 101, 111, 107]⟩, .string ⟨#[99, 111, 109, 109, 105, 116]⟩, .string ⟨#[97, 115, 107]⟩, .string ⟨#[116, 101, 108, 108]⟩, .string ⟨#[110, 111]⟩, .string ⟨#[110, 101, 120, 116]⟩, .string ⟨#[]⟩, .string ⟨#[118, 111, 116, 101]⟩, .string ⟨#[118, 111, 116, 101, 100]⟩, .string ⟨#[97, 112, 112, 101, 110, 100]⟩, .string ⟨#[97, 112, 112, 101, 110, 100, 101, 100]⟩, .string ⟨#[115, 110, 97, 112]⟩, .string ⟨#[115, 110, 97, 112, 112, 101, 100]⟩, .string ⟨#[]⟩, .string ⟨#[]⟩, .string ⟨#[]⟩, .string ⟨#[]⟩, .string ⟨#[102, 101, 116, 99, 104]⟩, .string ⟨#[115, 116, 97, 116, 101]⟩, .string ⟨#[109, 97, 112]⟩, .string ⟨#[105, 110, 115, 116, 97, 108, 108, 101, 100]⟩, .string ⟨#[99, 104, 97, 110, 103, 101]⟩, .string ⟨#[108, 111, 97, 100]⟩, .string ⟨#[]⟩, .string ⟨#[]⟩, .string ⟨#[]⟩, .string ⟨#[]⟩, .string ⟨#[114, 101, 113, 117, 101, 115, 116]⟩, .string ⟨#[114, 101, 112, 108, 121]⟩, .string ⟨#[119, 114, 111, 110, 103]⟩] 9) = w1 at HBK HB ⊢
        go_wp2_with (first | ((with_reducible refine (kind_calls k _).mono ?_); rw [← HK.out]; rintro e w3 ⟨rfl, hb⟩; have HB3 := Lib.hid (HB.out.trans (hb.mono HB.out.size)); clear hb) | ((with_reducible refine (lives_calls _).mono ?_); rintro e w6 ⟨rfl, hb6⟩))
        go_ret
        exact ⟨rfl, HB3.out.trans (hb6.mono HB3.out.size)⟩
    · have hklb : (k == l) = false := by rw [beq_eq_false_iff_ne]; exact hkl
      clear hkl
      rcases hb with hb1 | ⟨hb1, hb2⟩
      all_goals
        go_enter Try.func8, Try.ntmps8
        go_upto_region 3 with fail
        generalize w.alloc (.cells #[.string ⟨#[112, 114, 101]⟩, .string ⟨#[112, 114, 101, 111, 107]⟩, .string ⟨#[116, 97, 107, 101]⟩, .string ⟨#[116, 97, 107, 101, 111, 107]⟩, .string ⟨#[99, 111, 109, 109, 105, 116]⟩, .string ⟨#[97, 115, 107]⟩, .string ⟨#[116, 101, 108, 108]⟩, .string ⟨#[110, 111]⟩, .string ⟨#[110, 101, 120, 116]⟩, .string ⟨#[]⟩, .string ⟨#[118, 111, 116, 101]⟩, .string ⟨#[118, 111, 116, 101, 100]⟩, .string ⟨#[97, 112, 112, 101, 110, 100]⟩, .string ⟨#[97, 112, 112, 101, 110, 100, 101, 100]⟩, .string ⟨#[115, 110, 97, 112]⟩, .string ⟨#[115, 110, 97, 112, 112, 101, 100]⟩, .string ⟨#[]⟩, .string ⟨#[]⟩, .string ⟨#[]⟩, .string ⟨#[]⟩, .string ⟨#[102, 101, 116, 99, 104]⟩, .string ⟨#[115, 116, 97, 116, 101]⟩, .string ⟨#[109, 97, 112]⟩, .string ⟨#[105, 110, 115, 116, 97, 108, 108, 101, 100]⟩, .string ⟨#[99, 104, 97, 110, 103, 101]⟩, .string ⟨#[108, 111, 97, 100]⟩, .string ⟨#[]⟩, .string ⟨#[]⟩, .string ⟨#[]⟩, .string ⟨#[]⟩, .string ⟨#[114, 101, 113, 117, 101, 115, 116]⟩, .string ⟨#[114, 101, 112, 108, 121]⟩, .string ⟨#[119, 114, 111, 110, 103]⟩] 9) = w1 at HBK HB ⊢
        go_wp2_with (first | ((with_reducible refine (kind_calls k _).mono ?_); rw [← HK.out]; rintro e w3 ⟨rfl, hb⟩; have HB3 := Lib.hid (HB.out.trans (hb.mono HB.out.size)); clear hb) | ((with_reducible refine (lives_calls _).mono ?_); rintro e w6 ⟨rfl, hb6⟩))
        go_ret
        exact ⟨rfl, HB3.out.trans (hb6.mono HB3.out.size)⟩

end Go.Proofs.Ytneebjlpeekmbaa
