/- The reference's Reader of mails, method by method. Conditions: bytes are bytes. -/
import Derived.Test.YtneebjlpeekmbaaBack
namespace Go.Proofs.Ytneebjlpeekmbaa
open Go.RowKit Go.Proofs.YtneebjlpeekmbaaW.PrintWords Go.Proofs.YtneebjlpeekmbaaW.PrintLast Go.Proofs.YtneebjlpeekmbaaW.PrintMore PRef
set_option linter.unusedVariables false
set_option linter.unusedSimpArgs false

/-- The reference's Reader at block g: it stands at a; is it bad? The bytes lie in w0. -/
structure Rf (w0 w : World) (g : Nat) (xs : List Int) (a : Nat) (bad : Bool) : Prop where
  row : ∃ A c, w.heap[g]? = some (.cells #[.slice A (xs.drop a).length c, .bool bad] 95 (0, 0)) ∧ ReadsInt w0 .u8 A (xs.drop a).length (xs.drop a) ∧ (xs.drop a).length ≤ c
  low : w0.heap.size ≤ g
  bel : Below w0.heap.size w0 w
  bytes : IsBytes xs
theorem Rf.below {w0 w w1 : World} {g : Nat} {xs : List Int} {a : Nat} {bad : Bool} (h : Rf w0 w g xs a bad) (hb : Below w.heap.size w w1) : Rf w0 w1 g xs a bad := by
  obtain ⟨⟨A, c, h1, h2, h3⟩, h4, h5, h6⟩ := h
  exact ⟨⟨A, c, blk_below h1 hb, h2, h3⟩, h4, h5.trans (hb.mono h5.size), h6⟩
theorem Rf.set {w0 w w1 : World} {g : Nat} {xs : List Int} {a a' : Nat} {bad bad' : Bool} (h : Rf w0 w g xs a bad) {A : Option Addr} {c : Nat} (h1 : w1.heap[g]? = some (.cells #[.slice A (xs.drop a').length c, .bool bad'] 95 (0, 0))) (h2 : ReadsInt w0 .u8 A (xs.drop a').length (xs.drop a')) (h3 : (xs.drop a').length ≤ c) (hc : Chg (fun k => k = g) w w1) : Rf w0 w1 g xs a' bad' :=
  ⟨⟨A, c, h1, h2, h3⟩, h.low, h.bel.trans (hc.below h.bel.size fun i hi hk => by have := h.low; omega), h.bytes⟩
theorem posR_none {α : Type} {p : α × Option Nat} (h : p.2 = none) : posR p = 0 := by unfold posR; rw [h]; rfl
theorem posR_some {α : Type} {p : α × Option Nat} {k : Nat} (h : p.2 = some k) : posR p = k := by unfold posR; rw [h]; rfl
theorem intR_pos (xs : List Int) (k : Nat) (h : (intR xs (some 0)).2 = some k) : 0 < k ∧ k ≤ xs.length := by
  cases xs with
  | nil => cases h
  | cons z cs =>
    rw [intR_intC] at h
    cases hn : takeNum 0 true cs with
    | none => rw [hn] at h; cases h
    | some p =>
      rw [hn] at h
      have := takeNum_le _ _ _ p.1 p.2 hn
      rw [intC_some] at h
      split at h
      · cases h
      · injection h with h
        rw [List.length_cons]
        omega
theorem textR_pos (xs : List Int) (k : Nat) (h : (textR xs (some 0)).2 = some k) : 0 < k ∧ k ≤ xs.length := by
  unfold textR at h
  cases hn : (numR xs (some 0)).2 with
  | none => rw [hn] at h; cases h
  | some a =>
    have h1 := numR_pos xs a hn
    have h2 := numR_le xs (some 0) a hn
    rw [hn] at h
    dsimp only at h
    split at h
    · cases h
    · injection h with h
      omega
theorem numR_pos2 (xs : List Int) (k : Nat) (h : (numR xs (some 0)).2 = some k) : 0 < k ∧ k ≤ xs.length := ⟨numR_pos xs k h, numR_le xs (some 0) k h⟩

set_option maxRecDepth 100000 in
set_option maxHeartbeats 4000000 in
theorem rftext_calls {w0 w : World} {g : Nat} {xs : List Int} {a : Nat} {bad : Bool} (h : Rf w0 w g xs a bad) :
    Calls Try.prog 52 #[.pointer (some ⟨g, 0, none⟩)] w fun e w' => e = .returned (.string (strOfNums (textR (xs.drop a) (some 0)).1)) ∧ Rf w0 w' g xs (a + posR (textR (xs.drop a) (some 0))) (bad || (textR (xs.drop a) (some 0)).2.isNone) ∧ Chg (fun k => k = g) w w' := by
  have H := Lib.hid h
  obtain ⟨⟨A, c, h1, h2, h3⟩, h4, h5, h6⟩ := h
  have hpos := textR_pos (xs.drop a)
  obtain ⟨p, hp⟩ : ∃ p, p = textR (xs.drop a) (some 0) := ⟨_, rfl⟩
  rw [← hp] at hpos ⊢
  have HP := Lib.hid hp
  clear hp
  obtain ⟨ys, hys⟩ : ∃ ys, ys = xs.drop a := ⟨_, rfl⟩
  rw [← hys] at h1 h2 h3 hpos HP
  have HYS := Lib.hid hys
  have HBY : Hid (IsBytes ys) := Lib.hid (by rw [hys]; exact h6.drop a)
  have hc0 : w.cell? ⟨g, 0, none⟩ = some (.slice A ys.length c) := by rw [blk_cell h1]; rfl
  have hr0 := h2.below h5
  have HBK := Lib.hid h1
  have HR0 := Lib.hid h2
  have HR := Lib.hid hr0
  clear hys h1 h2 h4 h5 h6 hr0
  obtain ⟨i0, hi0, hzz⟩ := Option.map_eq_some_iff.1 info5
  have hsz : i0.size = 1 := by simp only [Prod.mk.injEq] at hzz; exact hzz.2.1
  have hl63 := HR.out.2.1
  go_enter Try.func52, Try.ntmps52
  go_wp2_with fail
  ((with_reducible refine (rtaketext_calls _ _ _ _ HR.out h3 HBY.out).mono ?_); rw [← HP.out]; rintro e w1 ⟨rfl, hb⟩)
  have HB1 := Lib.hid hb
  have HBK1 := Lib.hid (blk_below HBK.out hb)
  clear hb hc0
  obtain ⟨v, s⟩ := p
  obtain ⟨kk, hkk⟩ : ∃ kk, kk = posR (v, s) := ⟨_, rfl⟩
  rw [← hkk]
  have hkl : kk ≤ ys.length := by
    cases s with
    | none => rw [hkk, posR_none rfl]; omega
    | some k => rw [hkk, posR_some rfl]; exact (hpos k rfl).2
  have hcut := cut_from (P := Try.prog) 37 5 .i64 Try.underlying37 hi0 1 hsz A ys.length c (kk : Int) (by omega) (by omega)
  have hrd := HR0.out.drop_ kk hkl h3
  rw [Int.toNat_natCast, Nat.mul_one] at hcut
  have hdl : (ys.drop kk).length = ys.length - kk := List.length_drop
  have HDL := Lib.hid hdl
  have hkz : ((kk : Int) == 0) = s.isNone := by
    cases s with
    | none => rw [hkk, posR_none rfl]; rfl
    | some k => rw [hkk, posR_some rfl]; have := (hpos k rfl).1; rw [Option.isNone_some, beq_eq_false_iff_ne]; omega
  have HKK := Lib.hid hkk
  have hdd : ys.drop kk = xs.drop (a + kk) := by rw [HYS.out, List.drop_drop]
  have HDD := Lib.hid hdd
  generalize (if c = kk then A else A.map fun x => x.add kk) = A2 at hcut hrd
  have HRD := Lib.hid hrd
  have HPOS := Lib.hid hpos
  clear hkk hpos hrd hdl hdd hi0 hsz hzz
  dsimp only
  obtain ⟨sn, hsn⟩ : ∃ sn, sn = s.isNone := ⟨_, rfl⟩
  rw [← hsn] at hkz
  have HSN := Lib.hid hsn
  clear hsn
  cases bad with
  | false =>
    have hc1 : w1.cell? ⟨g, 1, none⟩ = some (.bool false) := by rw [blk_cell HBK1.out]; rfl
    have hf1 : w1.frozen? ⟨g, 1, none⟩ = false := blk_frozen HBK1.out 1
    go_upto_region 3 with fail
    have HBK2 : Hid ((w1.setCell ⟨g, 1, none⟩ (.bool sn)).heap[g]? = some (.cells #[.slice A ys.length c, .bool sn] 95 (0, 0))) := Lib.hid (blk_set HBK1.out 1 (.bool sn))
    have HC2 := Lib.hid (((Chg.of_same HB1.out (fun k => k = g)).setCell (p := ⟨g, 1, none⟩) (.inl rfl) (.bool sn)))
    clear hc1 hf1
    generalize w1.setCell ⟨g, 1, none⟩ (.bool sn) = w2 at HBK2 HC2 ⊢
    have hc0 : w2.cell? ⟨g, 0, none⟩ = some (.slice A ys.length c) := by rw [blk_cell HBK2.out]; rfl
    have hf0 : w2.frozen? ⟨g, 0, none⟩ = false := blk_frozen HBK2.out 0
    go_wp2_with fail
    go_ret
    have hl2 : (xs.drop (a + kk)).length = ys.length - kk := by rw [← HDD.out]; exact HDL.out
    have hr2 : ReadsInt w0 .u8 A2 (xs.drop (a + kk)).length (xs.drop (a + kk)) := by rw [hl2, ← HDD.out]; exact HRD.out
    have hb2 := blk_set HBK2.out 0 (.slice A2 (ys.length - kk) (c - kk))
    have hcc := HC2.out.setCell (p := ⟨g, 0, none⟩) (.inl rfl) (.slice A2 (ys.length - kk) (c - kk))
    rw [← hl2] at hb2 hcc ⊢
    refine ⟨rfl, ?_, hcc⟩
    show Rf w0 _ g xs (a + posR (v, s)) (false || s.isNone)
    rw [← HKK.out, ← HSN.out]
    exact H.out.set hb2 hr2 (by rw [hl2]; omega) hcc
  | true =>
    have hc1 : w1.cell? ⟨g, 1, none⟩ = some (.bool true) := by rw [blk_cell HBK1.out]; rfl
    have hf1 : w1.frozen? ⟨g, 1, none⟩ = false := blk_frozen HBK1.out 1
    go_upto_region 3 with fail
    have HBK2 : Hid ((w1.setCell ⟨g, 1, none⟩ (.bool true)).heap[g]? = some (.cells #[.slice A ys.length c, .bool true] 95 (0, 0))) := Lib.hid (blk_set HBK1.out 1 (.bool true))
    have HC2 := Lib.hid (((Chg.of_same HB1.out (fun k => k = g)).setCell (p := ⟨g, 1, none⟩) (.inl rfl) (.bool true)))
    clear hc1 hf1
    generalize w1.setCell ⟨g, 1, none⟩ (.bool true) = w2 at HBK2 HC2 ⊢
    have hc0 : w2.cell? ⟨g, 0, none⟩ = some (.slice A ys.length c) := by rw [blk_cell HBK2.out]; rfl
    have hf0 : w2.frozen? ⟨g, 0, none⟩ = false := blk_frozen HBK2.out 0
    go_wp2_with fail
    go_ret
    have hl2 : (xs.drop (a + kk)).length = ys.length - kk := by rw [← HDD.out]; exact HDL.out
    have hr2 : ReadsInt w0 .u8 A2 (xs.drop (a + kk)).length (xs.drop (a + kk)) := by rw [hl2, ← HDD.out]; exact HRD.out
    have hb2 := blk_set HBK2.out 0 (.slice A2 (ys.length - kk) (c - kk))
    have hcc := HC2.out.setCell (p := ⟨g, 0, none⟩) (.inl rfl) (.slice A2 (ys.length - kk) (c - kk))
    rw [← hl2] at hb2 hcc ⊢
    refine ⟨rfl, ?_, hcc⟩
    show Rf w0 _ g xs (a + posR (v, s)) (true || s.isNone)
    rw [← HKK.out, ← HSN.out]
    exact H.out.set hb2 hr2 (by rw [hl2]; omega) hcc

set_option maxRecDepth 100000 in
set_option maxHeartbeats 4000000 in
theorem rfint_calls {w0 w : World} {g : Nat} {xs : List Int} {a : Nat} {bad : Bool} (h : Rf w0 w g xs a bad) :
    Calls Try.prog 48 #[.pointer (some ⟨g, 0, none⟩)] w fun e w' => e = .returned (.int .i64 (intR (xs.drop a) (some 0)).1) ∧ Rf w0 w' g xs (a + posR (intR (xs.drop a) (some 0))) (bad || (intR (xs.drop a) (some 0)).2.isNone) ∧ Chg (fun k => k = g) w w' := by
  have H := Lib.hid h
  obtain ⟨⟨A, c, h1, h2, h3⟩, h4, h5, h6⟩ := h
  have hpos := intR_pos (xs.drop a)
  obtain ⟨p, hp⟩ : ∃ p, p = intR (xs.drop a) (some 0) := ⟨_, rfl⟩
  rw [← hp] at hpos ⊢
  have HP := Lib.hid hp
  clear hp
  obtain ⟨ys, hys⟩ : ∃ ys, ys = xs.drop a := ⟨_, rfl⟩
  rw [← hys] at h1 h2 h3 hpos HP
  have HYS := Lib.hid hys
  have HBY : Hid (IsBytes ys) := Lib.hid (by rw [hys]; exact h6.drop a)
  have hc0 : w.cell? ⟨g, 0, none⟩ = some (.slice A ys.length c) := by rw [blk_cell h1]; rfl
  have hr0 := h2.below h5
  have HBK := Lib.hid h1
  have HR0 := Lib.hid h2
  have HR := Lib.hid hr0
  clear hys h1 h2 h4 h5 h6 hr0
  obtain ⟨i0, hi0, hzz⟩ := Option.map_eq_some_iff.1 info5
  have hsz : i0.size = 1 := by simp only [Prod.mk.injEq] at hzz; exact hzz.2.1
  have hl63 := HR.out.2.1
  go_enter Try.func48, Try.ntmps48
  go_wp2_with fail
  ((with_reducible refine (rtakeint_calls _ _ _ _ HR.out h3 HBY.out).mono ?_); rw [← HP.out]; rintro e w1 ⟨rfl, hb⟩)
  have HB1 := Lib.hid hb
  have HBK1 := Lib.hid (blk_below HBK.out hb)
  clear hb hc0
  obtain ⟨v, s⟩ := p
  obtain ⟨kk, hkk⟩ : ∃ kk, kk = posR (v, s) := ⟨_, rfl⟩
  rw [← hkk]
  have hkl : kk ≤ ys.length := by
    cases s with
    | none => rw [hkk, posR_none rfl]; omega
    | some k => rw [hkk, posR_some rfl]; exact (hpos k rfl).2
  have hcut := cut_from (P := Try.prog) 37 5 .i64 Try.underlying37 hi0 1 hsz A ys.length c (kk : Int) (by omega) (by omega)
  have hrd := HR0.out.drop_ kk hkl h3
  rw [Int.toNat_natCast, Nat.mul_one] at hcut
  have hdl : (ys.drop kk).length = ys.length - kk := List.length_drop
  have HDL := Lib.hid hdl
  have hkz : ((kk : Int) == 0) = s.isNone := by
    cases s with
    | none => rw [hkk, posR_none rfl]; rfl
    | some k => rw [hkk, posR_some rfl]; have := (hpos k rfl).1; rw [Option.isNone_some, beq_eq_false_iff_ne]; omega
  have HKK := Lib.hid hkk
  have hdd : ys.drop kk = xs.drop (a + kk) := by rw [HYS.out, List.drop_drop]
  have HDD := Lib.hid hdd
  generalize (if c = kk then A else A.map fun x => x.add kk) = A2 at hcut hrd
  have HRD := Lib.hid hrd
  have HPOS := Lib.hid hpos
  clear hkk hpos hrd hdl hdd hi0 hsz hzz
  dsimp only
  obtain ⟨sn, hsn⟩ : ∃ sn, sn = s.isNone := ⟨_, rfl⟩
  rw [← hsn] at hkz
  have HSN := Lib.hid hsn
  clear hsn
  cases bad with
  | false =>
    have hc1 : w1.cell? ⟨g, 1, none⟩ = some (.bool false) := by rw [blk_cell HBK1.out]; rfl
    have hf1 : w1.frozen? ⟨g, 1, none⟩ = false := blk_frozen HBK1.out 1
    go_upto_region 3 with fail
    have HBK2 : Hid ((w1.setCell ⟨g, 1, none⟩ (.bool sn)).heap[g]? = some (.cells #[.slice A ys.length c, .bool sn] 95 (0, 0))) := Lib.hid (blk_set HBK1.out 1 (.bool sn))
    have HC2 := Lib.hid (((Chg.of_same HB1.out (fun k => k = g)).setCell (p := ⟨g, 1, none⟩) (.inl rfl) (.bool sn)))
    clear hc1 hf1
    generalize w1.setCell ⟨g, 1, none⟩ (.bool sn) = w2 at HBK2 HC2 ⊢
    have hc0 : w2.cell? ⟨g, 0, none⟩ = some (.slice A ys.length c) := by rw [blk_cell HBK2.out]; rfl
    have hf0 : w2.frozen? ⟨g, 0, none⟩ = false := blk_frozen HBK2.out 0
    go_wp2_with fail
    go_ret
    have hl2 : (xs.drop (a + kk)).length = ys.length - kk := by rw [← HDD.out]; exact HDL.out
    have hr2 : ReadsInt w0 .u8 A2 (xs.drop (a + kk)).length (xs.drop (a + kk)) := by rw [hl2, ← HDD.out]; exact HRD.out
    have hb2 := blk_set HBK2.out 0 (.slice A2 (ys.length - kk) (c - kk))
    have hcc := HC2.out.setCell (p := ⟨g, 0, none⟩) (.inl rfl) (.slice A2 (ys.length - kk) (c - kk))
    rw [← hl2] at hb2 hcc ⊢
    refine ⟨rfl, ?_, hcc⟩
    show Rf w0 _ g xs (a + posR (v, s)) (false || s.isNone)
    rw [← HKK.out, ← HSN.out]
    exact H.out.set hb2 hr2 (by rw [hl2]; omega) hcc
  | true =>
    have hc1 : w1.cell? ⟨g, 1, none⟩ = some (.bool true) := by rw [blk_cell HBK1.out]; rfl
    have hf1 : w1.frozen? ⟨g, 1, none⟩ = false := blk_frozen HBK1.out 1
    go_upto_region 3 with fail
    have HBK2 : Hid ((w1.setCell ⟨g, 1, none⟩ (.bool true)).heap[g]? = some (.cells #[.slice A ys.length c, .bool true] 95 (0, 0))) := Lib.hid (blk_set HBK1.out 1 (.bool true))
    have HC2 := Lib.hid (((Chg.of_same HB1.out (fun k => k = g)).setCell (p := ⟨g, 1, none⟩) (.inl rfl) (.bool true)))
    clear hc1 hf1
    generalize w1.setCell ⟨g, 1, none⟩ (.bool true) = w2 at HBK2 HC2 ⊢
    have hc0 : w2.cell? ⟨g, 0, none⟩ = some (.slice A ys.length c) := by rw [blk_cell HBK2.out]; rfl
    have hf0 : w2.frozen? ⟨g, 0, none⟩ = false := blk_frozen HBK2.out 0
    go_wp2_with fail
    go_ret
    have hl2 : (xs.drop (a + kk)).length = ys.length - kk := by rw [← HDD.out]; exact HDL.out
    have hr2 : ReadsInt w0 .u8 A2 (xs.drop (a + kk)).length (xs.drop (a + kk)) := by rw [hl2, ← HDD.out]; exact HRD.out
    have hb2 := blk_set HBK2.out 0 (.slice A2 (ys.length - kk) (c - kk))
    have hcc := HC2.out.setCell (p := ⟨g, 0, none⟩) (.inl rfl) (.slice A2 (ys.length - kk) (c - kk))
    rw [← hl2] at hb2 hcc ⊢
    refine ⟨rfl, ?_, hcc⟩
    show Rf w0 _ g xs (a + posR (v, s)) (true || s.isNone)
    rw [← HKK.out, ← HSN.out]
    exact H.out.set hb2 hr2 (by rw [hl2]; omega) hcc

theorem byteR_nil0 : byteR [] (some 0) = (0, none) := rfl
theorem byteR_cons0 (z : Int) (cs : List Int) : byteR (z :: cs) (some 0) = (z, some 1) := by simp [byteR]

set_option maxRecDepth 100000 in
set_option maxHeartbeats 4000000 in
theorem rfbyte_calls {w0 w : World} {g : Nat} {xs : List Int} {a : Nat} {bad : Bool} (h : Rf w0 w g xs a bad) :
    Calls Try.prog 50 #[.pointer (some ⟨g, 0, none⟩)] w fun e w' => e = .returned (.int .u8 (byteR (xs.drop a) (some 0)).1) ∧ Rf w0 w' g xs (a + posR (byteR (xs.drop a) (some 0))) (bad || (byteR (xs.drop a) (some 0)).2.isNone) ∧ Chg (fun k => k = g) w w' := by
  have H := Lib.hid h
  obtain ⟨⟨A, c, h1, h2, h3⟩, h4, h5, h6⟩ := h
  obtain ⟨ys, hys⟩ : ∃ ys, ys = xs.drop a := ⟨_, rfl⟩
  rw [← hys] at h1 h2 h3
  have HYS := Lib.hid hys
  have HBY : Hid (IsBytes ys) := Lib.hid (by rw [hys]; exact h6.drop a)
  have hc0 : w.cell? ⟨g, 0, none⟩ = some (.slice A ys.length c) := by rw [blk_cell h1]; rfl
  have hf0 : w.frozen? ⟨g, 0, none⟩ = false := blk_frozen h1 0
  have hc1 : w.cell? ⟨g, 1, none⟩ = some (.bool bad) := by rw [blk_cell h1]; rfl
  have hf1 : w.frozen? ⟨g, 1, none⟩ = false := blk_frozen h1 1
  have hr0 := h2.below h5
  have HBK := Lib.hid h1
  have HR0 := Lib.hid h2
  have HR := Lib.hid hr0
  clear h1 h2 h4 h5 h6 hr0
  obtain ⟨i0, hi0, hzz⟩ := Option.map_eq_some_iff.1 info5
  have hsz : i0.size = 1 := by simp only [Prod.mk.injEq] at hzz; exact hzz.2.1
  have hl63 := HR.out.2.1
  rw [← hys]
  clear hys
  cases ys with
  | nil =>
    rw [byteR_nil0]
    clear hi0 hsz hzz
    go_enter Try.func50, Try.ntmps50
    go_wp2_with fail
    go_ret
    have hb2 := blk_set HBK.out 1 (.bool true)
    have hcc := (Chg.refl (fun k => k = g) w).setCell (p := ⟨g, 1, none⟩) (.inl rfl) (.bool true)
    refine ⟨rfl, ?_, hcc⟩
    show Rf w0 _ g xs (a + 0) (bad || true)
    rw [Bool.or_true]
    have hn : xs.drop (a + 0) = [] := HYS.out.symm
    refine H.out.set (A := A) (c := c) ?_ ?_ ?_ hcc
    · rw [hn]; exact hb2
    · rw [hn]; exact HR0.out
    · rw [hn]; exact h3
  | cons z cs =>
    rw [byteR_cons0]
    obtain ⟨ad, rfl, hcell⟩ := HR.out.at_ (0 : Int) (by omega) (by rw [List.length_cons]; omega)
    have ea : ad.add (0 : Int).toNat = ad := by simp [Addr.add]
    rw [ea] at hcell
    change w.cell? ad = some (.int .u8 z) at hcell
    have hlb : (((z :: cs).length : Int) == 0) = false := by rw [beq_eq_false_iff_ne, List.length_cons]; omega
    have hlt : (0 : Int) < ((z :: cs).length : Int) := by rw [List.length_cons]; omega
    have hcut := cut_from (P := Try.prog) 37 5 .i64 Try.underlying37 hi0 1 hsz (some ad) (z :: cs).length c 1 (by omega) (by omega)
    have hrd := HR0.out.drop_ 1 (by omega) h3
    rw [show (1 : Int).toNat = 1 from rfl, Nat.mul_one] at hcut
    have hdl : ((z :: cs).drop 1).length = (z :: cs).length - 1 := List.length_drop
    have hdd : (z :: cs).drop 1 = xs.drop (a + 1) := by rw [HYS.out, List.drop_drop]
    have HDD := Lib.hid hdd
    have HDL := Lib.hid hdl
    generalize (if c = 1 then some ad else (some ad).map fun x => x.add 1) = A2 at hcut hrd
    have HRD := Lib.hid hrd
    clear hrd hdl hdd hi0 hsz hzz ea
    generalize hN : (z :: cs).length = n at hc0 hlb hlt hcut h3 HBK HDL HRD hl63 ⊢
    clear hN
    go_enter Try.func50, Try.ntmps50
    go_wp2_with fail
    go_ret
    have hl2 : (xs.drop (a + 1)).length = n - 1 := by rw [← HDD.out]; exact HDL.out
    have hr2 : ReadsInt w0 .u8 A2 (xs.drop (a + 1)).length (xs.drop (a + 1)) := by rw [hl2, ← HDD.out]; exact HRD.out
    have hb2 := blk_set HBK.out 0 (.slice A2 (n - 1) (c - 1))
    have hcc := (Chg.refl (fun k => k = g) w).setCell (p := ⟨g, 0, none⟩) (.inl rfl) (.slice A2 (n - 1) (c - 1))
    rw [← hl2] at hb2 hcc ⊢
    refine ⟨rfl, ?_, hcc⟩
    show Rf w0 _ g xs (a + 1) (bad || false)
    rw [Bool.or_false]
    exact H.out.set hb2 hr2 (by rw [hl2]; omega) hcc

set_option maxRecDepth 100000 in
set_option maxHeartbeats 4000000 in
theorem rfbool_calls {w0 w : World} {g : Nat} {xs : List Int} {a : Nat} {bad : Bool} (h : Rf w0 w g xs a bad) :
    Calls Try.prog 49 #[.pointer (some ⟨g, 0, none⟩)] w fun e w' => e = .returned (.bool (boolR (xs.drop a) (some 0)).1) ∧ Rf w0 w' g xs (a + posR (byteR (xs.drop a) (some 0))) (bad || (boolR (xs.drop a) (some 0)).2.isNone) ∧ Chg (fun k => k = g) w w' := by
  have H := Lib.hid h
  have hzr := byteR_range (xs.drop a) (some 0) (h.bytes.drop a)
  unfold boolR
  obtain ⟨p, hp⟩ : ∃ p, p = byteR (xs.drop a) (some 0) := ⟨_, rfl⟩
  rw [← hp] at hzr ⊢
  have HP := Lib.hid hp
  clear hp h
  obtain ⟨z, s⟩ := p
  dsimp only at hzr ⊢
  obtain ⟨kk, hkk⟩ : ∃ kk, kk = posR (z, s) := ⟨_, rfl⟩
  rw [← hkk]
  have HKK := Lib.hid hkk
  clear hkk
  obtain ⟨b1, hb1⟩ : ∃ b1, b1 = (bad || s.isNone) := ⟨_, rfl⟩
  have hbf : (bad || (if 1 < z then none else s).isNone) = (b1 || decide (1 < z)) := by
    rw [hb1]
    by_cases hz : 1 < z
    · rw [if_pos hz, decide_eq_true hz]; simp
    · rw [if_neg hz, decide_eq_false hz]; simp
  rw [hbf]
  have HB1 := Lib.hid hb1
  clear hbf hb1
  go_enter Try.func49, Try.ntmps49
  go_wp2_with fail
  ((with_reducible refine (rfbyte_calls H.out).mono ?_); rw [← HP.out]; dsimp only; rw [← HKK.out, ← HB1.out]; rintro e w1 ⟨rfl, hr, hc⟩)
  obtain ⟨A, c, h1, h2, h3⟩ := hr.row
  have HR1 := Lib.hid hr
  have HC1 := Lib.hid hc
  have HBK := Lib.hid h1
  have H2 := Lib.hid h2
  have hc1 : w1.cell? ⟨g, 1, none⟩ = some (.bool b1) := by rw [blk_cell h1]; rfl
  have hf1 : w1.frozen? ⟨g, 1, none⟩ = false := blk_frozen h1 1
  clear hr hc h1 h2
  by_cases hz : 1 < z
  all_goals
    first
    | (have hzd : decide (1 < z) = true := decide_eq_true hz)
    | (have hzd : decide (1 < z) = false := decide_eq_false hz)
    clear hz
    cases b1
    all_goals
      go_wp2_with fail
      go_ret
      refine ⟨rfl, by rw [hzd]; exact HR1.out.set (blk_set HBK.out 1 _) H2.out h3 ((Chg.refl (fun k => k = g) w1).setCell (p := ⟨g, 1, none⟩) (.inl rfl) _), HC1.out.trans ((Chg.refl (fun k => k = g) w1).setCell (p := ⟨g, 1, none⟩) (.inl rfl) _) (fun _ _ h => h)⟩

/-- A list's length, as the reference takes it. -/
def countR (ys : List Int) : Nat × Option Nat :=
  if (numR ys (some 0)).2 = none ∨ 4096 < (numR ys (some 0)).1 ∨ ys.length - posR (numR ys (some 0)) < (numR ys (some 0)).1 then (0, none) else ((numR ys (some 0)).1, (numR ys (some 0)).2)

set_option maxRecDepth 100000 in
set_option maxHeartbeats 4000000 in
theorem rfcount_calls {w0 w : World} {g : Nat} {xs : List Int} {a : Nat} {bad : Bool} (h : Rf w0 w g xs a bad) :
    Calls Try.prog 51 #[.pointer (some ⟨g, 0, none⟩)] w fun e w' => e = .returned (.int .i64 (countR (xs.drop a)).1) ∧ Rf w0 w' g xs (a + posR (countR (xs.drop a))) (bad || (countR (xs.drop a)).2.isNone) ∧ Chg (fun k => k = g) w w' := by
  have H := Lib.hid h
  obtain ⟨⟨A, c, h1, h2, h3⟩, h4, h5, h6⟩ := h
  obtain ⟨ys, hys⟩ : ∃ ys, ys = xs.drop a := ⟨_, rfl⟩
  rw [← hys] at h1 h2 h3
  have HYS := Lib.hid hys
  have HBY : Hid (IsBytes ys) := Lib.hid (by rw [hys]; exact h6.drop a)
  have hc0 : w.cell? ⟨g, 0, none⟩ = some (.slice A ys.length c) := by rw [blk_cell h1]; rfl
  have hf0 : w.frozen? ⟨g, 0, none⟩ = false := blk_frozen h1 0
  have hc1 : w.cell? ⟨g, 1, none⟩ = some (.bool bad) := by rw [blk_cell h1]; rfl
  have hf1 : w.frozen? ⟨g, 1, none⟩ = false := blk_frozen h1 1
  have hr0 := h2.below h5
  have HBK := Lib.hid h1
  have HR0 := Lib.hid h2
  have HR := Lib.hid hr0
  clear h1 h2 h4 h5 h6 hr0
  obtain ⟨i0, hi0, hzz⟩ := Option.map_eq_some_iff.1 info5
  have hsz : i0.size = 1 := by simp only [Prod.mk.injEq] at hzz; exact hzz.2.1
  have hl63 := HR.out.2.1
  rw [← hys]
  clear hys hc1 hf1 hf0
  unfold countR
  have hpos := numR_pos2 ys
  have hlt := numR_lt ys (some 0)
  have HTV := Lib.hid (takeV_numR ys)
  obtain ⟨p, hp⟩ : ∃ p, p = numR ys (some 0) := ⟨_, rfl⟩
  rw [← hp] at hpos hlt HTV ⊢
  obtain ⟨n, s⟩ := p
  clear hp
  obtain ⟨kk, hkk⟩ : ∃ kk, kk = posR (n, s) := ⟨_, rfl⟩
  rw [← hkk] at HTV ⊢
  dsimp only at hlt HTV ⊢
  have hkl : kk ≤ ys.length := by
    cases s with
    | none => rw [hkk, posR_none rfl]; omega
    | some k => rw [hkk, posR_some rfl]; exact (hpos k rfl).2
  have hkz : ((kk : Int) == 0) = s.isNone := by
    cases s with
    | none => rw [hkk, posR_none rfl]; rfl
    | some k => rw [hkk, posR_some rfl]; have := (hpos k rfl).1; rw [Option.isNone_some, beq_eq_false_iff_ne]; omega
  have hi1 : IntKind.i64.wrap ((ys.length : Int) - (kk : Int)) = (ys.length : Int) - (kk : Int) := IntWalk.i64_in _ (by omega)
  have hi2 : IntKind.u64.wrap ((ys.length : Int) - (kk : Int)) = (ys.length : Int) - (kk : Int) := by show ((ys.length : Int) - (kk : Int)) % 18446744073709551616 = _; exact Int.emod_eq_of_lt (by omega) (by omega)
  have HKK := Lib.hid hkk
  by_cases hbad : s = none ∨ 4096 < n ∨ ys.length - kk < n
  · rw [if_pos hbad]
    have hcl : s = none ∨ (s.isNone = false ∧ 4096 < n) ∨ (s.isNone = false ∧ ¬ 4096 < n ∧ ys.length - kk < n) := by
      cases s with
      | none => exact .inl rfl
      | some k =>
        rcases hbad with h | h | h
        · cases h
        · exact .inr (.inl ⟨rfl, h⟩)
        · by_cases h2 : 4096 < n
          · exact .inr (.inl ⟨rfl, h2⟩)
          · exact .inr (.inr ⟨rfl, h2, h⟩)
    clear hbad hpos hkk
    rcases hcl with h | ⟨h, h2⟩ | ⟨h, h2, h3b⟩
    · subst h
      rw [Option.isNone_none] at hkz
      clear hi1 hi2 hlt hi0 hsz hzz
      go_enter Try.func51, Try.ntmps51
      go_wp2_with fail
      ((with_reducible refine (rtakenum_calls _ _ _ _ HR.out h3 HBY.out).mono ?_); rw [HTV.out]; rintro e w1 ⟨rfl, hb⟩)
      have HBK1 := Lib.hid (blk_below HBK.out hb)
      have HC1 := Lib.hid (Chg.of_same hb (fun k => k = g))
      have hd1 : w1.cell? ⟨g, 1, none⟩ = some (.bool bad) := by rw [blk_cell HBK1.out]; rfl
      have hg1 : w1.frozen? ⟨g, 1, none⟩ = false := blk_frozen HBK1.out 1
      have hd0 : w1.cell? ⟨g, 0, none⟩ = some (.slice A ys.length c) := by rw [blk_cell HBK1.out]; rfl
      clear hb
      go_wp2_with fail
      go_ret
      have hb3 := blk_set HBK1.out 1 (.bool true)
      have hcc := HC1.out.setCell (p := ⟨g, 1, none⟩) (.inl rfl) (.bool true)
      refine ⟨rfl, ?_, hcc⟩
      show Rf w0 _ g xs (a + 0) (bad || true)
      rw [Bool.or_true]
      have hn : xs.drop (a + 0) = ys := HYS.out.symm
      refine H.out.set (A := A) (c := c) ?_ ?_ ?_ hcc
      · rw [hn]; exact hb3
      · rw [hn]; exact HR0.out
      · rw [hn]; exact h3
    · rw [h] at hkz
      have hb1 : decide ((4096 : Int) < (n : Int)) = true := by rw [decide_eq_true_iff]; omega
      clear h h2 hi1 hi2 hlt hi0 hsz hzz
      go_enter Try.func51, Try.ntmps51
      go_wp2_with fail
      ((with_reducible refine (rtakenum_calls _ _ _ _ HR.out h3 HBY.out).mono ?_); rw [HTV.out]; rintro e w1 ⟨rfl, hb⟩)
      have HBK1 := Lib.hid (blk_below HBK.out hb)
      have HC1 := Lib.hid (Chg.of_same hb (fun k => k = g))
      have hd1 : w1.cell? ⟨g, 1, none⟩ = some (.bool bad) := by rw [blk_cell HBK1.out]; rfl
      have hg1 : w1.frozen? ⟨g, 1, none⟩ = false := blk_frozen HBK1.out 1
      have hd0 : w1.cell? ⟨g, 0, none⟩ = some (.slice A ys.length c) := by rw [blk_cell HBK1.out]; rfl
      clear hb
      go_wp2_with fail
      go_ret
      have hb3 := blk_set HBK1.out 1 (.bool true)
      have hcc := HC1.out.setCell (p := ⟨g, 1, none⟩) (.inl rfl) (.bool true)
      refine ⟨rfl, ?_, hcc⟩
      show Rf w0 _ g xs (a + 0) (bad || true)
      rw [Bool.or_true]
      have hn : xs.drop (a + 0) = ys := HYS.out.symm
      refine H.out.set (A := A) (c := c) ?_ ?_ ?_ hcc
      · rw [hn]; exact hb3
      · rw [hn]; exact HR0.out
      · rw [hn]; exact h3
    · rw [h] at hkz
      have hb1 : decide ((4096 : Int) < (n : Int)) = false := by rw [decide_eq_false_iff_not]; omega
      have hb2 : decide ((ys.length : Int) - (kk : Int) < (n : Int)) = true := by rw [decide_eq_true_iff]; omega
      clear h h2 h3b hlt hi0 hsz hzz
      go_enter Try.func51, Try.ntmps51
      go_wp2_with fail
      ((with_reducible refine (rtakenum_calls _ _ _ _ HR.out h3 HBY.out).mono ?_); rw [HTV.out]; rintro e w1 ⟨rfl, hb⟩)
      have HBK1 := Lib.hid (blk_below HBK.out hb)
      have HC1 := Lib.hid (Chg.of_same hb (fun k => k = g))
      have hd1 : w1.cell? ⟨g, 1, none⟩ = some (.bool bad) := by rw [blk_cell HBK1.out]; rfl
      have hg1 : w1.frozen? ⟨g, 1, none⟩ = false := blk_frozen HBK1.out 1
      have hd0 : w1.cell? ⟨g, 0, none⟩ = some (.slice A ys.length c) := by rw [blk_cell HBK1.out]; rfl
      clear hb
      go_wp2_with fail
      go_ret
      have hb3 := blk_set HBK1.out 1 (.bool true)
      have hcc := HC1.out.setCell (p := ⟨g, 1, none⟩) (.inl rfl) (.bool true)
      refine ⟨rfl, ?_, hcc⟩
      show Rf w0 _ g xs (a + 0) (bad || true)
      rw [Bool.or_true]
      have hn : xs.drop (a + 0) = ys := HYS.out.symm
      refine H.out.set (A := A) (c := c) ?_ ?_ ?_ hcc
      · rw [hn]; exact hb3
      · rw [hn]; exact HR0.out
      · rw [hn]; exact h3
  · rw [if_neg hbad]
    have hs : s.isNone = false := by
      cases s with
      | none => exact absurd (.inl rfl) hbad
      | some k => rfl
    rw [hs] at hkz
    have hb1 : decide ((4096 : Int) < (n : Int)) = false := by rw [decide_eq_false_iff_not]; omega
    have hb2 : decide ((ys.length : Int) - (kk : Int) < (n : Int)) = false := by rw [decide_eq_false_iff_not]; omega
    have hwn : IntKind.i64.wrap (n : Int) = (n : Int) := IntWalk.i64_in _ (by omega)
    have HSN := Lib.hid hs
    have hcut := cut_from (P := Try.prog) 37 5 .i64 Try.underlying37 hi0 1 hsz A ys.length c (kk : Int) (by omega) (by omega)
    have hrd := HR0.out.drop_ kk hkl h3
    rw [Int.toNat_natCast, Nat.mul_one] at hcut
    have hdl : (ys.drop kk).length = ys.length - kk := List.length_drop
    have hdd : ys.drop kk = xs.drop (a + kk) := by rw [HYS.out, List.drop_drop]
    have HDL := Lib.hid hdl
    have HDD := Lib.hid hdd
    generalize (if c = kk then A else A.map fun x => x.add kk) = A2 at hcut hrd
    have HRD := Lib.hid hrd
    clear hbad hpos hkk hs hrd hdl hdd hlt hi0 hsz hzz
    go_enter Try.func51, Try.ntmps51
    go_wp2_with fail
    ((with_reducible refine (rtakenum_calls _ _ _ _ HR.out h3 HBY.out).mono ?_); rw [HTV.out]; rintro e w1 ⟨rfl, hb⟩)
    have HBK1 := Lib.hid (blk_below HBK.out hb)
    have HC1 := Lib.hid (Chg.of_same hb (fun k => k = g))
    have hd0 : w1.cell? ⟨g, 0, none⟩ = some (.slice A ys.length c) := by rw [blk_cell HBK1.out]; rfl
    have hg0 : w1.frozen? ⟨g, 0, none⟩ = false := blk_frozen HBK1.out 0
    clear hb
    go_wp2_with fail
    go_ret
    have hl2 : (xs.drop (a + kk)).length = ys.length - kk := by rw [← HDD.out]; exact HDL.out
    have hr2 : ReadsInt w0 .u8 A2 (xs.drop (a + kk)).length (xs.drop (a + kk)) := by rw [hl2, ← HDD.out]; exact HRD.out
    have hb3 := blk_set HBK1.out 0 (.slice A2 (ys.length - kk) (c - kk))
    have hcc := HC1.out.setCell (p := ⟨g, 0, none⟩) (.inl rfl) (.slice A2 (ys.length - kk) (c - kk))
    rw [← hl2] at hb3 hcc ⊢
    refine ⟨rfl, ?_, hcc⟩
    show Rf w0 _ g xs (a + posR (n, s)) (bad || s.isNone)
    rw [← HKK.out, HSN.out, Bool.or_false]
    exact H.out.set hb3 hr2 (by rw [hl2]; omega) hcc

end Go.Proofs.Ytneebjlpeekmbaa
