/- Get of package octet, at texts. Conditions: bytes are bytes. -/
import Derived.Test.YtneebjlpeekmbaaRdA
import Derived.Deep.Cut
import Derived.Deep.CutRange
import Derived.Deep.DeepCutAuto
namespace Go.Proofs.Ytneebjlpeekmbaa
open Go.RowKit Go.Proofs.YtneebjlpeekmbaaW.PrintWords Go.Proofs.YtneebjlpeekmbaaW.PrintLast Go.Proofs.YtneebjlpeekmbaaW.PrintMore PRef
set_option linter.unusedVariables false
set_option linter.unusedSimpArgs false

theorem info9 : (Try.prog.info? 9).map (fun i => (i.zero, i.size, i.bytes)) = some (some (.string ⟨#[]⟩), 1, 16) := by kernel_rfl
def OwnS (w : World) (base : Nat) (v : Value) (xs : List ByteArray) : Prop := w.ownsRow base 9 1 v xs.length (encs Value.string xs)
theorem OwnS.reads {w : World} {base : Nat} {v : Value} {xs : List ByteArray} (h : OwnS w base v xs) : ∃ A c, v = .slice A xs.length c ∧ xs.length ≤ c ∧ ReadsOf Value.string ByteArray.empty w A xs.length xs := by
  obtain ⟨A, c, rfl, hr⟩ := own_reads_of (d := ByteArray.empty) h
  exact ⟨A, c, rfl, own_le h, hr⟩
/-- A text, as a string. -/
def textS (xs : List Int) (s : Option Nat) : ByteArray × Option Nat := (strOfNums (textR xs s).1, (textR xs s).2)
theorem rdtextS_calls {w : World} {base g : Nat} {A : Option Addr} {c : Nat} {xs : List Int} {s : Option Nat} (h : Rd w base g A c xs s) :
    Calls Try.prog 39 #[.pointer (some ⟨g, 0, none⟩)] w fun e w' => e = .returned (.string (textS xs s).1) ∧ Rd w' base g A c xs (textS xs s).2 ∧ Chg (fun k => k = g) w w' := rdtext_calls h

set_option maxRecDepth 100000 in
set_option maxHeartbeats 1000000 in
theorem gettext_calls {w : World} {base g : Nat} {A : Option Addr} {c : Nat} {xs : List Int} {s : Option Nat} (h : Rd w base g A c xs s) :
    Calls Try.prog 87 #[.pointer (some ⟨g, 0, none⟩), .func (.func 39) #[] #[]] w fun e w' => ∃ v, e = .returned v ∧ OwnS w' w.heap.size v (getR xs (textS xs) s).1 ∧ Rd w' base g A c xs (getR xs (textS xs) s).2 ∧ Chg (fun k => k = g) w w' := by
  have hll := h.len
  have H := Lib.hid h
  clear h
  have hn := numR_lt xs s
  obtain ⟨L, hL⟩ : ∃ L, L = getR xs (textS xs) s := ⟨_, rfl⟩
  rw [← hL]
  unfold getR at hL
  generalize hm : numR xs s = m at hn hL
  have HM := Lib.hid hm
  clear hm
  obtain ⟨n, u⟩ := m
  dsimp only at hn hL
  have HG0 := Lib.hid hL
  clear hL
  go_enter Try.func87, Try.ntmps87
  go_wp2_with fail
  ((with_reducible refine (rdnum_calls H.out).mono ?_); rw [HM.out]; rintro e w2 ⟨rfl, hr, hc⟩; have HR2 := Lib.hid hr; have HC2 := Lib.hid hc; clear hr hc)
  go_upto_region 2 with fail
  have hlf : leftR xs u < 9223372036854775808 := by unfold leftR; omega
  go_cut [18] (fun v wc => v = .bool (decide (4096 < n ∨ leftR xs u < n)) ∧ Hid (Rd wc base g A c xs u) ∧ Hid (Chg (fun k => k = g) w wc))
  case first =>
    by_cases hbig : 4096 < n
    · go_wp2_with fail
      go_meet
      exact ⟨by simp [hbig], HR2, HC2⟩
    · go_wp2_with fail
      ((with_reducible refine (left_calls HR2.out).mono ?_); rintro e w3 ⟨rfl, hb⟩; have HB := Lib.hid hb; clear hb)
      go_wp2_with fail
      go_meet
      refine ⟨?_, Lib.hid (HR2.out.below HB.out), Lib.hid (HC2.out.trans (Chg.of_same HB.out _) (fun _ _ h => h))⟩
      congr 1
      rw [Bool.eq_iff_iff]
      simp only [Bool.or_eq_true, decide_eq_true_iff]
      omega
  case rest =>
  obtain ⟨rfl, HR3, HC3⟩ := hcut
  clear HR2 HC2
  generalize wc = w3 at HR3 HC3 ⊢
  obtain ⟨t, ht⟩ : ∃ t, t = if 4096 < n ∨ leftR xs u < n then none else u := ⟨_, rfl⟩
  have hG := HG0.out
  rw [← ht] at hG
  have HG := Lib.hid hG
  have HT := Lib.hid ht
  clear ht hG HG0
  go_upto_if 18 with fail
  go_cut [] (fun wc => Hid (Rd wc base g A c xs t) ∧ Hid (Chg (fun k => k = g) w wc))
  case first =>
    by_cases hbad : 4096 < n ∨ leftR xs u < n
    · have hd : decide (4096 < n ∨ leftR xs u < n) = true := by simpa using hbad
      have HTn := HT.out
      rw [if_pos hbad] at HTn
      subst HTn
      go_wp2_with ((with_reducible refine (fail_calls HR3.out).mono ?_); rintro e w4 ⟨rfl, hr, hc⟩; have HR4 := Lib.hid hr; have HC4 := Lib.hid hc; clear hr hc)
      go_meet
      exact ⟨HR4, Lib.hid (chg_trans HC3.out HC4.out)⟩
    · have hd : decide (4096 < n ∨ leftR xs u < n) = false := by simpa using hbad
      have HTn := HT.out
      rw [if_neg hbad] at HTn
      subst HTn
      go_wp2_with fail
      go_meet
      exact ⟨HR3, HC3⟩
  case rest =>
  obtain ⟨HR4, HC4⟩ := hcut
  clear HR3 HC3
  generalize wc = w4 at HR4 HC4 ⊢
  go_wp2_with fail
  have hT4 : t ≠ none → n ≤ 4096 := by
    intro h
    by_cases hbad : 4096 < n ∨ leftR xs u < n
    · exact absurd (by rw [HT.out, if_pos hbad]) h
    · omega
  have HT4 := Lib.hid hT4
  have hgl := H.out.lt
  clear hT4
  go_loopw [6, 7] (fun vl vi wr => ∃ (i : Nat) (l : List ByteArray) (t' : Option Nat), vi = .int .u64 i ∧ i ≤ n ∧ l.length = i ∧ Hid (OwnS wr w.heap.size vl l) ∧ Hid (l ++ (loopR (textS xs) (n - i) t').1 = (loopR (textS xs) n t).1) ∧ Hid ((loopR (textS xs) (n - i) t').2 = (loopR (textS xs) n t).2) ∧ Hid (t' ≠ none → n ≤ 4096) ∧ Hid (Rd wr base g A c xs t') ∧ Hid (Chg (fun k => k = g) w wr)) (fun _ vi _ => n - (intOf vi).toNat)
  case atStart => exact ⟨0, [], t, rfl, by omega, rfl, Lib.hid (own_nil _ _ _ _), Lib.hid (by simp), Lib.hid (by simp), HT4, HR4, HC4⟩
  case round =>
    obtain ⟨i, l, t', rfl, hi, hl, HO, HE1, HE2, HN, HR, HC⟩ := hrel
    subst hl
    cases t' with
    | none =>
      have HZ : Hid ((loopR (textS xs) n t).2 = none) := Lib.hid (by rw [← HE2.out, loopR_none])
      by_cases hlt : l.length < n
      all_goals
        go_wp2_with ((with_reducible refine (bad_calls HR.out).mono ?_); rintro e w' ⟨rfl, rfl⟩)
        go_ret
        obtain rfl : L = ([], none) := by rw [HG.out, if_pos HZ.out]
        exact ⟨_, rfl, own_nil _ _ _ _, HR.out, HC.out⟩
    | some a =>
      have hn4 := HN.out (by simp)
      by_cases hlt : l.length < n
      · obtain ⟨B, d, rfl, hd, _⟩ := HO.out.reads
        go_wp2_with ((with_reducible refine (bad_calls HR.out).mono ?_); rintro e w' ⟨rfl, rfl⟩)
        ((with_reducible refine (rdtextS_calls HR.out).mono ?_); rintro e w5 ⟨rfl, hr, hc⟩)
        have HR5 := Lib.hid hr
        have HC5 := Lib.hid (chg_trans HC.out hc)
        have hne : ∀ k, (Value.slice B l.length d).ownBlock = some k → k ≠ g := fun k hk => by have := own_base HO.out k hk; omega
        have HO5 := Lib.hid (show OwnS w5 w.heap.size (.slice B l.length d) l from own_move HO.out (fun k hk => hc.block k (own_lt HO.out k hk) (hne k hk)))
        have hE1 : (l ++ [(textS xs (some a)).1]) ++ (loopR (textS xs) (n - (l.length + 1)) (textS xs (some a)).2).1 = (loopR (textS xs) n t).1 := by
          rw [← HE1.out, show n - l.length = (n - (l.length + 1)) + 1 from by omega, loopR_some]; simp
        have hE2 : (loopR (textS xs) (n - (l.length + 1)) (textS xs (some a)).2).2 = (loopR (textS xs) n t).2 := by
          rw [← HE2.out, show n - l.length = (n - (l.length + 1)) + 1 from by omega, loopR_some]
        have HE1' := Lib.hid hE1
        have HE2' := Lib.hid hE2
        clear hr hc hE1 hE2
        generalize textS xs (some a) = q at HR5 HE1' HE2' ⊢
        obtain ⟨z, t2⟩ := q
        go_wp2_with ((with_reducible refine gate_builtin (b := .append) (xs := #[.tmp 31, .tmp 35]) rfl ?_); at_builtin; refine print_append_of (w0 := w5) Value.string w.heap.size rfl (.tmp 31) (.tmp 35) 26 9 (.string ⟨#[]⟩) 16 rfl Try.underlying26 info9 rfl (by decide) _ l z rfl rfl rfl HO5.out (Below.refl _ _) HC5.out.size ?hl ?_; (case hl => omega); intro v1 w6 hown hB hg hat; have HO6 := Lib.hid hown; have HG6 := Lib.hid hg; clear hown hB hg hat)
        have hcg : Chg (fun k => w.heap.size ≤ k) w5 w6 := Chg.of_grown HG6.out (fun k hk => own_base HO5.out k hk)
        have hA : ∀ k, (Value.slice A xs.length c).ownBlock = some k → ¬ w.heap.size ≤ k := fun k hk => by have := own_lt H.out.2.1 k hk; omega
        have HR6 := Lib.hid (HR5.out.move hcg (by omega) hA)
        have HC6 := Lib.hid (HC5.out.trans hcg (fun i hi hk => absurd hk (by omega)))
        clear hcg hA hne
        go_roundw
        case measure => simp [intOf]; omega
        case rel =>
          refine ⟨l.length + 1, l ++ [z], t2, by go_num, by omega, by simp, ?_, HE1', HE2', Lib.hid (fun _ => hn4), HR6, HC6⟩
          exact HO6
      · have hin : l.length = n := by omega
        have hz : (loopR (textS xs) n t).2 = some a := by rw [← HE2.out, hin, Nat.sub_self]; rfl
        have hl2 : l = (loopR (textS xs) n t).1 := by rw [← HE1.out, hin, Nat.sub_self]; simp [loopR]
        have HZ := Lib.hid hz
        have HL := Lib.hid hl2
        clear hin hz hl2
        go_wp2_with ((with_reducible refine (bad_calls HR.out).mono ?_); rintro e w' ⟨rfl, rfl⟩)
        go_ret
        obtain rfl : L = (l, some a) := by rw [HG.out, if_neg (by rw [HZ.out]; simp), ← HZ.out, HL.out]
        exact ⟨_, rfl, HO.out, HR.out, HC.out⟩


end Go.Proofs.Ytneebjlpeekmbaa
