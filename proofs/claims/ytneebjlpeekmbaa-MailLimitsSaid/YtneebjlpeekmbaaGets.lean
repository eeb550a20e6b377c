/- Get of package octet, at Refs and Entries. Conditions: bytes are bytes. -/
import Derived.Test.YtneebjlpeekmbaaTakR
namespace Go.Proofs.Ytneebjlpeekmbaa
open Go.RowKit Go.Proofs.YtneebjlpeekmbaaW.PrintWords Go.Proofs.YtneebjlpeekmbaaW.PrintLast Go.Proofs.YtneebjlpeekmbaaW.PrintMore PRef
set_option linter.unusedVariables false
set_option linter.unusedSimpArgs false

theorem zinfo23 : (Try.prog.info? 23).map (fun i => (i.zero, i.size, i.bytes)) = some (some (.agg #[.int .i64 0, .int .i64 0]), 2, 16) := by kernel_rfl
theorem zinfo60 : (Try.prog.info? 60).map (fun i => (i.zero, i.size, i.bytes)) = some (some (.agg #[.int .i64 0, .int .i64 0, .string ⟨#[]⟩]), 3, 32) := by kernel_rfl
def cells23 (p : S23) (cs : List Value) : Prop := cs = [.int .i64 p.f0, .int .i64 p.f1]
def cells60 (p : S60) (cs : List Value) : Prop := cs = [.int .i64 p.f0, .int .i64 p.f1, .string p.f2]
def OwnR (w : World) (base : Nat) (v : Value) (l : List S23) : Prop := OwnRow cells23 23 2 w base v l
def OwnE (w : World) (base : Nat) (v : Value) (l : List S60) : Prop := OwnRow cells60 60 3 w base v l
section
variable {α : Type} {R : α → List Value → Prop} {e : TypeId} {size : Nat} {w w1 : World} {base : Nat} {v : Value} {l : List α}
theorem orow_base (h : OwnRow R e size w base v l) : ∀ k, v.ownBlock = some k → base ≤ k := by
  obtain ⟨inner, ho, hr⟩ := h
  exact own_base ho
theorem orow_lt (h : OwnRow R e size w base v l) : ∀ k, v.ownBlock = some k → k < w.heap.size := by
  obtain ⟨inner, ho, hr⟩ := h
  exact own_lt ho
theorem orow_move (h : OwnRow R e size w base v l) (hm : ∀ k, v.ownBlock = some k → w1.heap[k]? = w.heap[k]?) : OwnRow R e size w1 base v l := by
  obtain ⟨inner, ho, hr⟩ := h
  exact ⟨inner, own_move ho hm, hr⟩
end
theorem OwnR.reads {w : World} {base : Nat} {v : Value} {l : List S23} (h : OwnR w base v l) : ∃ A c, v = .slice A l.length c ∧ InR w A c l := by
  obtain ⟨A, c, rfl, hc, hr⟩ := OwnRow.reads h
  exact ⟨A, c, rfl, hr.imp_ (Below.refl _ _) (fun p cs hp => by rw [show cs = _ from hp]; exact k23_mk w p), hc⟩
theorem OwnE.reads {w : World} {base : Nat} {v : Value} {l : List S60} (h : OwnE w base v l) : ∃ A c, v = .slice A l.length c ∧ InE w A c l := by
  obtain ⟨A, c, rfl, hc, hr⟩ := OwnRow.reads h
  exact ⟨A, c, rfl, hr.imp_ (Below.refl _ _) (fun p cs hp => by rw [show cs = _ from hp]; exact k60_mk w p), hc⟩
theorem OwnS.readsC {w : World} {base : Nat} {v : Value} {l : List ByteArray} (h : OwnS w base v l) : ∃ A c, v = .slice A l.length c ∧ InC w A c l := by
  obtain ⟨A, c, rfl, hc, hr⟩ := OwnS.reads h
  refine ⟨A, c, rfl, ⟨hr.1, hr.2.1, fun h0 => ?_⟩, hc⟩
  obtain ⟨ad, e, hcell⟩ := hr.2.2 h0
  refine ⟨ad, e, fun j p hj => ⟨[.string p], rfl, rfl, fun i u hu => ?_⟩⟩
  have hlt := (List.getElem?_eq_some_iff.1 hj).1
  have h1 := hcell j hlt
  rw [List.getD_eq_getElem?_getD, hj] at h1
  cases i with
  | zero =>
    obtain rfl : Value.string p = u := by simpa using hu
    rw [show j * Kd.string.sz + 0 = j from by show j * 1 + 0 = j; omega]
    exact h1
  | succ i => simp at hu

set_option maxRecDepth 100000 in
set_option maxHeartbeats 1000000 in
theorem getref_calls {w : World} {base g : Nat} {A : Option Addr} {c : Nat} {xs : List Int} {s : Option Nat} (h : Rd w base g A c xs s) :
    Calls Try.prog 71 #[.pointer (some ⟨g, 0, none⟩), .func (.func 72) #[] #[]] w fun e w' => ∃ v, e = .returned v ∧ OwnR w' w.heap.size v (getR xs (refR xs) s).1 ∧ Rd w' base g A c xs (getR xs (refR xs) s).2 ∧ Chg (fun k => k = g) w w' := by
  have hll := h.len
  have H := Lib.hid h
  clear h
  have hn := numR_lt xs s
  obtain ⟨L, hL⟩ : ∃ L, L = getR xs (refR xs) s := ⟨_, rfl⟩
  rw [← hL]
  unfold getR at hL
  generalize hm : numR xs s = m at hn hL
  have HM := Lib.hid hm
  clear hm
  obtain ⟨n, u⟩ := m
  dsimp only at hn hL
  have HG0 := Lib.hid hL
  clear hL
  go_enter Try.func71, Try.ntmps71
  go_wp2_with fail
  ((with_reducible refine (rdnum_calls H.out).mono ?_); rw [HM.out]; rintro e w2 ⟨rfl, hr, hc⟩; have HR2 := Lib.hid hr; have HC2 := Lib.hid hc; clear hr hc)
  go_upto_region 2 with fail
  have hlf : leftR xs u < 9223372036854775808 := by unfold leftR; omega
  go_cut [18] (fun v wc => v = .bool (decide (4096 < n ∨ leftR xs u < n)) ∧ Hid (Rd wc base g A c xs u) ∧ Hid (Chg (fun k => k = g) w wc))
  case first =>
    by_cases hbig : 4096 < n
    · go_wp2_with fail
      go_meet
      exact ⟨by simp [hbig], HR2, HC2⟩
    · go_wp2_with fail
      ((with_reducible refine (left_calls HR2.out).mono ?_); rintro e w3 ⟨rfl, hb⟩; have HB := Lib.hid hb; clear hb)
      go_wp2_with fail
      go_meet
      refine ⟨?_, Lib.hid (HR2.out.below HB.out), Lib.hid (HC2.out.trans (Chg.of_same HB.out _) (fun _ _ h => h))⟩
      congr 1
      rw [Bool.eq_iff_iff]
      simp only [Bool.or_eq_true, decide_eq_true_iff]
      omega
  case rest =>
  obtain ⟨rfl, HR3, HC3⟩ := hcut
  clear HR2 HC2
  generalize wc = w3 at HR3 HC3 ⊢
  obtain ⟨t, ht⟩ : ∃ t, t = if 4096 < n ∨ leftR xs u < n then none else u := ⟨_, rfl⟩
  have hG := HG0.out
  rw [← ht] at hG
  have HG := Lib.hid hG
  have HT := Lib.hid ht
  clear ht hG HG0
  go_upto_if 18 with fail
  go_cut [] (fun wc => Hid (Rd wc base g A c xs t) ∧ Hid (Chg (fun k => k = g) w wc))
  case first =>
    by_cases hbad : 4096 < n ∨ leftR xs u < n
    · have hd : decide (4096 < n ∨ leftR xs u < n) = true := by simpa using hbad
      have HTn := HT.out
      rw [if_pos hbad] at HTn
      subst HTn
      go_wp2_with ((with_reducible refine (fail_calls HR3.out).mono ?_); rintro e w4 ⟨rfl, hr, hc⟩; have HR4 := Lib.hid hr; have HC4 := Lib.hid hc; clear hr hc)
      go_meet
      exact ⟨HR4, Lib.hid (chg_trans HC3.out HC4.out)⟩
    · have hd : decide (4096 < n ∨ leftR xs u < n) = false := by simpa using hbad
      have HTn := HT.out
      rw [if_neg hbad] at HTn
      subst HTn
      go_wp2_with fail
      go_meet
      exact ⟨HR3, HC3⟩
  case rest =>
  obtain ⟨HR4, HC4⟩ := hcut
  clear HR3 HC3
  generalize wc = w4 at HR4 HC4 ⊢
  go_wp2_with fail
  have hT4 : t ≠ none → n ≤ 4096 := by
    intro h
    by_cases hbad : 4096 < n ∨ leftR xs u < n
    · exact absurd (by rw [HT.out, if_pos hbad]) h
    · omega
  have HT4 := Lib.hid hT4
  have hgl := H.out.lt
  clear hT4
  go_loopw [6, 7] (fun vl vi wr => ∃ (i : Nat) (l : List S23) (t' : Option Nat), vi = .int .u64 i ∧ i ≤ n ∧ l.length = i ∧ Hid (OwnR wr w.heap.size vl l) ∧ Hid (l ++ (loopR (refR xs) (n - i) t').1 = (loopR (refR xs) n t).1) ∧ Hid ((loopR (refR xs) (n - i) t').2 = (loopR (refR xs) n t).2) ∧ Hid (t' ≠ none → n ≤ 4096) ∧ Hid (Rd wr base g A c xs t') ∧ Hid (Chg (fun k => k = g) w wr)) (fun _ vi _ => n - (intOf vi).toNat)
  case atStart => exact ⟨0, [], t, rfl, by omega, rfl, Lib.hid (OwnRow.none_ _ _ _ _ _), Lib.hid (by simp), Lib.hid (by simp), HT4, HR4, HC4⟩
  case round =>
    obtain ⟨i, l, t', rfl, hi, hl, HO, HE1, HE2, HN, HR, HC⟩ := hrel
    subst hl
    cases t' with
    | none =>
      have HZ : Hid ((loopR (refR xs) n t).2 = none) := Lib.hid (by rw [← HE2.out, loopR_none])
      by_cases hlt : l.length < n
      all_goals
        go_wp2_with ((with_reducible refine (bad_calls HR.out).mono ?_); rintro e w' ⟨rfl, rfl⟩)
        go_ret
        obtain rfl : L = ([], none) := by rw [HG.out, if_pos HZ.out]
        exact ⟨_, rfl, OwnRow.none_ _ _ _ _ _, HR.out, HC.out⟩
    | some a =>
      have hn4 := HN.out (by simp)
      by_cases hlt : l.length < n
      · obtain ⟨B, d, rfl, _⟩ := HO.out.reads
        go_wp2_with ((with_reducible refine (bad_calls HR.out).mono ?_); rintro e w' ⟨rfl, rfl⟩)
        ((with_reducible refine (takeref_calls HR.out).mono ?_); rintro e w5 ⟨rfl, hr, hc⟩)
        have HR5 := Lib.hid hr
        have HC5 := Lib.hid (chg_trans HC.out hc)
        have hne : ∀ k, (Value.slice B l.length d).ownBlock = some k → k ≠ g := fun k hk => by have := orow_base HO.out k hk; omega
        have HO5 := Lib.hid (show OwnR w5 w.heap.size (.slice B l.length d) l from orow_move HO.out (fun k hk => hc.block k (orow_lt HO.out k hk) (hne k hk)))
        have hE1 : (l ++ [(refR xs (some a)).1]) ++ (loopR (refR xs) (n - (l.length + 1)) (refR xs (some a)).2).1 = (loopR (refR xs) n t).1 := by
          rw [← HE1.out, show n - l.length = (n - (l.length + 1)) + 1 from by omega, loopR_some]; simp
        have hE2 : (loopR (refR xs) (n - (l.length + 1)) (refR xs (some a)).2).2 = (loopR (refR xs) n t).2 := by
          rw [← HE2.out, show n - l.length = (n - (l.length + 1)) + 1 from by omega, loopR_some]
        have HE1' := Lib.hid hE1
        have HE2' := Lib.hid hE2
        clear hr hc hE1 hE2
        generalize refR xs (some a) = q at HR5 HE1' HE2' ⊢
        obtain ⟨z, t2⟩ := q
        go_wp2_with ((with_reducible refine gate_builtin (b := .append) (xs := #[.tmp 31, .tmp 35]) rfl ?_); at_builtin; refine OwnRow.append (w0 := w5) w.heap.size rfl (.tmp 31) (.tmp 35) 29 23 (.agg #[.int .i64 0, .int .i64 0]) 2 16 rfl Try.underlying29 zinfo23 rfl (by decide) (by decide) _ l z [.int .i64 z.f0, .int .i64 z.f1] rfl rfl rfl rfl (by simp [Value.oneCell']) HO5.out (Below.refl _ _) HC5.out.size ?hl ?_; (case hl => omega); intro v1 w6 hown hB hg hat; have HO6 := Lib.hid hown; have HG6 := Lib.hid hg; clear hown hB hg hat)
        have hcg : Chg (fun k => w.heap.size ≤ k) w5 w6 := Chg.of_grown HG6.out (fun k hk => orow_base HO5.out k hk)
        have hA : ∀ k, (Value.slice A xs.length c).ownBlock = some k → ¬ w.heap.size ≤ k := fun k hk => by have := own_lt H.out.2.1 k hk; omega
        have HR6 := Lib.hid (HR5.out.move hcg (by omega) hA)
        have HC6 := Lib.hid (HC5.out.trans hcg (fun i hi hk => absurd hk (by omega)))
        clear hcg hA hne
        go_roundw
        case measure => simp [intOf]; omega
        case rel =>
          refine ⟨l.length + 1, l ++ [z], t2, by go_num, by omega, by simp, ?_, HE1', HE2', Lib.hid (fun _ => hn4), HR6, HC6⟩
          exact HO6
      · have hin : l.length = n := by omega
        have hz : (loopR (refR xs) n t).2 = some a := by rw [← HE2.out, hin, Nat.sub_self]; rfl
        have hl2 : l = (loopR (refR xs) n t).1 := by rw [← HE1.out, hin, Nat.sub_self]; simp [loopR]
        have HZ := Lib.hid hz
        have HL := Lib.hid hl2
        clear hin hz hl2
        go_wp2_with ((with_reducible refine (bad_calls HR.out).mono ?_); rintro e w' ⟨rfl, rfl⟩)
        go_ret
        obtain rfl : L = (l, some a) := by rw [HG.out, if_neg (by rw [HZ.out]; simp), ← HZ.out, HL.out]
        exact ⟨_, rfl, HO.out, HR.out, HC.out⟩


set_option maxRecDepth 100000 in
set_option maxHeartbeats 1000000 in
theorem getent_calls {w : World} {base g : Nat} {A : Option Addr} {c : Nat} {xs : List Int} {s : Option Nat} (h : Rd w base g A c xs s) :
    Calls Try.prog 37 #[.pointer (some ⟨g, 0, none⟩), .func (.func 38) #[] #[]] w fun e w' => ∃ v, e = .returned v ∧ OwnE w' w.heap.size v (getR xs (entR xs) s).1 ∧ Rd w' base g A c xs (getR xs (entR xs) s).2 ∧ Chg (fun k => k = g) w w' := by
  have hll := h.len
  have H := Lib.hid h
  clear h
  have hn := numR_lt xs s
  obtain ⟨L, hL⟩ : ∃ L, L = getR xs (entR xs) s := ⟨_, rfl⟩
  rw [← hL]
  unfold getR at hL
  generalize hm : numR xs s = m at hn hL
  have HM := Lib.hid hm
  clear hm
  obtain ⟨n, u⟩ := m
  dsimp only at hn hL
  have HG0 := Lib.hid hL
  clear hL
  go_enter Try.func37, Try.ntmps37
  go_wp2_with fail
  ((with_reducible refine (rdnum_calls H.out).mono ?_); rw [HM.out]; rintro e w2 ⟨rfl, hr, hc⟩; have HR2 := Lib.hid hr; have HC2 := Lib.hid hc; clear hr hc)
  go_upto_region 2 with fail
  have hlf : leftR xs u < 9223372036854775808 := by unfold leftR; omega
  go_cut [18] (fun v wc => v = .bool (decide (4096 < n ∨ leftR xs u < n)) ∧ Hid (Rd wc base g A c xs u) ∧ Hid (Chg (fun k => k = g) w wc))
  case first =>
    by_cases hbig : 4096 < n
    · go_wp2_with fail
      go_meet
      exact ⟨by simp [hbig], HR2, HC2⟩
    · go_wp2_with fail
      ((with_reducible refine (left_calls HR2.out).mono ?_); rintro e w3 ⟨rfl, hb⟩; have HB := Lib.hid hb; clear hb)
      go_wp2_with fail
      go_meet
      refine ⟨?_, Lib.hid (HR2.out.below HB.out), Lib.hid (HC2.out.trans (Chg.of_same HB.out _) (fun _ _ h => h))⟩
      congr 1
      rw [Bool.eq_iff_iff]
      simp only [Bool.or_eq_true, decide_eq_true_iff]
      omega
  case rest =>
  obtain ⟨rfl, HR3, HC3⟩ := hcut
  clear HR2 HC2
  generalize wc = w3 at HR3 HC3 ⊢
  obtain ⟨t, ht⟩ : ∃ t, t = if 4096 < n ∨ leftR xs u < n then none else u := ⟨_, rfl⟩
  have hG := HG0.out
  rw [← ht] at hG
  have HG := Lib.hid hG
  have HT := Lib.hid ht
  clear ht hG HG0
  go_upto_if 18 with fail
  go_cut [] (fun wc => Hid (Rd wc base g A c xs t) ∧ Hid (Chg (fun k => k = g) w wc))
  case first =>
    by_cases hbad : 4096 < n ∨ leftR xs u < n
    · have hd : decide (4096 < n ∨ leftR xs u < n) = true := by simpa using hbad
      have HTn := HT.out
      rw [if_pos hbad] at HTn
      subst HTn
      go_wp2_with ((with_reducible refine (fail_calls HR3.out).mono ?_); rintro e w4 ⟨rfl, hr, hc⟩; have HR4 := Lib.hid hr; have HC4 := Lib.hid hc; clear hr hc)
      go_meet
      exact ⟨HR4, Lib.hid (chg_trans HC3.out HC4.out)⟩
    · have hd : decide (4096 < n ∨ leftR xs u < n) = false := by simpa using hbad
      have HTn := HT.out
      rw [if_neg hbad] at HTn
      subst HTn
      go_wp2_with fail
      go_meet
      exact ⟨HR3, HC3⟩
  case rest =>
  obtain ⟨HR4, HC4⟩ := hcut
  clear HR3 HC3
  generalize wc = w4 at HR4 HC4 ⊢
  go_wp2_with fail
  have hT4 : t ≠ none → n ≤ 4096 := by
    intro h
    by_cases hbad : 4096 < n ∨ leftR xs u < n
    · exact absurd (by rw [HT.out, if_pos hbad]) h
    · omega
  have HT4 := Lib.hid hT4
  have hgl := H.out.lt
  clear hT4
  go_loopw [6, 7] (fun vl vi wr => ∃ (i : Nat) (l : List S60) (t' : Option Nat), vi = .int .u64 i ∧ i ≤ n ∧ l.length = i ∧ Hid (OwnE wr w.heap.size vl l) ∧ Hid (l ++ (loopR (entR xs) (n - i) t').1 = (loopR (entR xs) n t).1) ∧ Hid ((loopR (entR xs) (n - i) t').2 = (loopR (entR xs) n t).2) ∧ Hid (t' ≠ none → n ≤ 4096) ∧ Hid (Rd wr base g A c xs t') ∧ Hid (Chg (fun k => k = g) w wr)) (fun _ vi _ => n - (intOf vi).toNat)
  case atStart => exact ⟨0, [], t, rfl, by omega, rfl, Lib.hid (OwnRow.none_ _ _ _ _ _), Lib.hid (by simp), Lib.hid (by simp), HT4, HR4, HC4⟩
  case round =>
    obtain ⟨i, l, t', rfl, hi, hl, HO, HE1, HE2, HN, HR, HC⟩ := hrel
    subst hl
    cases t' with
    | none =>
      have HZ : Hid ((loopR (entR xs) n t).2 = none) := Lib.hid (by rw [← HE2.out, loopR_none])
      by_cases hlt : l.length < n
      all_goals
        go_wp2_with ((with_reducible refine (bad_calls HR.out).mono ?_); rintro e w' ⟨rfl, rfl⟩)
        go_ret
        obtain rfl : L = ([], none) := by rw [HG.out, if_pos HZ.out]
        exact ⟨_, rfl, OwnRow.none_ _ _ _ _ _, HR.out, HC.out⟩
    | some a =>
      have hn4 := HN.out (by simp)
      by_cases hlt : l.length < n
      · obtain ⟨B, d, rfl, _⟩ := HO.out.reads
        go_wp2_with ((with_reducible refine (bad_calls HR.out).mono ?_); rintro e w' ⟨rfl, rfl⟩)
        ((with_reducible refine (takeent_calls HR.out).mono ?_); rintro e w5 ⟨rfl, hr, hc⟩)
        have HR5 := Lib.hid hr
        have HC5 := Lib.hid (chg_trans HC.out hc)
        have hne : ∀ k, (Value.slice B l.length d).ownBlock = some k → k ≠ g := fun k hk => by have := orow_base HO.out k hk; omega
        have HO5 := Lib.hid (show OwnE w5 w.heap.size (.slice B l.length d) l from orow_move HO.out (fun k hk => hc.block k (orow_lt HO.out k hk) (hne k hk)))
        have hE1 : (l ++ [(entR xs (some a)).1]) ++ (loopR (entR xs) (n - (l.length + 1)) (entR xs (some a)).2).1 = (loopR (entR xs) n t).1 := by
          rw [← HE1.out, show n - l.length = (n - (l.length + 1)) + 1 from by omega, loopR_some]; simp
        have hE2 : (loopR (entR xs) (n - (l.length + 1)) (entR xs (some a)).2).2 = (loopR (entR xs) n t).2 := by
          rw [← HE2.out, show n - l.length = (n - (l.length + 1)) + 1 from by omega, loopR_some]
        have HE1' := Lib.hid hE1
        have HE2' := Lib.hid hE2
        clear hr hc hE1 hE2
        generalize entR xs (some a) = q at HR5 HE1' HE2' ⊢
        obtain ⟨z, t2⟩ := q
        go_wp2_with ((with_reducible refine gate_builtin (b := .append) (xs := #[.tmp 31, .tmp 35]) rfl ?_); at_builtin; refine OwnRow.append (w0 := w5) w.heap.size rfl (.tmp 31) (.tmp 35) 32 60 (.agg #[.int .i64 0, .int .i64 0, .string ⟨#[]⟩]) 3 32 rfl Try.underlying32 zinfo60 rfl (by decide) (by decide) _ l z [.int .i64 z.f0, .int .i64 z.f1, .string z.f2] rfl rfl rfl rfl (by simp [Value.oneCell']) HO5.out (Below.refl _ _) HC5.out.size ?hl ?_; (case hl => omega); intro v1 w6 hown hB hg hat; have HO6 := Lib.hid hown; have HG6 := Lib.hid hg; clear hown hB hg hat)
        have hcg : Chg (fun k => w.heap.size ≤ k) w5 w6 := Chg.of_grown HG6.out (fun k hk => orow_base HO5.out k hk)
        have hA : ∀ k, (Value.slice A xs.length c).ownBlock = some k → ¬ w.heap.size ≤ k := fun k hk => by have := own_lt H.out.2.1 k hk; omega
        have HR6 := Lib.hid (HR5.out.move hcg (by omega) hA)
        have HC6 := Lib.hid (HC5.out.trans hcg (fun i hi hk => absurd hk (by omega)))
        clear hcg hA hne
        go_roundw
        case measure => simp [intOf]; omega
        case rel =>
          refine ⟨l.length + 1, l ++ [z], t2, by go_num, by omega, by simp, ?_, HE1', HE2', Lib.hid (fun _ => hn4), HR6, HC6⟩
          exact HO6
      · have hin : l.length = n := by omega
        have hz : (loopR (entR xs) n t).2 = some a := by rw [← HE2.out, hin, Nat.sub_self]; rfl
        have hl2 : l = (loopR (entR xs) n t).1 := by rw [← HE1.out, hin, Nat.sub_self]; simp [loopR]
        have HZ := Lib.hid hz
        have HL := Lib.hid hl2
        clear hin hz hl2
        go_wp2_with ((with_reducible refine (bad_calls HR.out).mono ?_); rintro e w' ⟨rfl, rfl⟩)
        go_ret
        obtain rfl : L = (l, some a) := by rw [HG.out, if_neg (by rw [HZ.out]; simp), ← HZ.out, HL.out]
        exact ⟨_, rfl, HO.out, HR.out, HC.out⟩


end Go.Proofs.Ytneebjlpeekmbaa
