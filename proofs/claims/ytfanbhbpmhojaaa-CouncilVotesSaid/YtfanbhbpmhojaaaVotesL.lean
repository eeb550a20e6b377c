/- The law CouncilVotes of any state and any mail. Conditions: those typed. Printed by wip/tools/mkVotesL2.py. -/
import Derived.Test.YtfanbhbpmhojaaaVtY
namespace Go.Proofs.Ytfanbhbpmhojaaa
open Go.RowKit Go.Proofs.YtfanbhbpmhojaaaW.PrintWords Go.Proofs.YtfanbhbpmhojaaaW.PrintLast Go.Proofs.YtfanbhbpmhojaaaW.PrintMore PRef
set_option linter.unusedVariables false
set_option linter.unusedSimpArgs false

/-- A council keeps behind stores into a mail's block. -/
theorem Co.past70 {w : World} {g b : Nat} {S : St} {cs : Array Value} (h : Co w g S) (hk : w.heap[b]? = some (.cells cs 70 (0, 0))) (hne : b ≠ g) (hs : ∀ i s, cs[i]? = some (.string s) → i = 27) (h26 : ∃ A n c, cs[26]? = some (.slice A n c)) {i j : Nat} {u v : Value} : Co ((w.setCell ⟨b, i, none⟩ u).setCell ⟨b, j, none⟩ v) g S := by
  have hch := ((Chg.refl (fun k => k = b) w).setCell (p := ⟨b, i, none⟩) (.inl (by rfl)) u).setCell (p := ⟨b, j, none⟩) (.inl (by rfl)) v
  refine ⟨hch.get h.blk (fun e => hne e.symm), ?_, h.cap, h.far, h.len, h.lo, h.hi, h.tx, h.bv⟩
  by_cases h0 : S.log.length = 0
  · exact ⟨rfl, by omega, fun hp => by omega⟩
  · refine row_chg h.row (fun ad hA hb => ?_) hch
    obtain ⟨ad', hA', _, hc1, hc2⟩ := at_T39 h.row 0 (by omega) (by omega)
    rw [hA] at hA'
    cases hA'
    have hb2 : (ad.add ((0 : Int).toNat * 3)).block = b := by rw [add_block]; exact hb
    generalize ad.add ((0 : Int).toNat * 3) = p at hc1 hc2 hb2
    rw [hb2, blk_cell hk] at hc1 hc2
    have h27 := hs _ _ hc2
    obtain ⟨A1, n1, c1, h26⟩ := h26
    rw [show p.off + 1 = 26 from by omega, h26] at hc1
    cases hc1

set_option maxRecDepth 100000 in
set_option maxHeartbeats 8000000 in
theorem votes_law (w : World) (A : Option Addr) (c : Nat) (x : Sta) (cs0 : Array Value) (fr tt tm ix ps cm : Int) (hr : Kd.C k39 w A x.log.length x.log) (hc : x.log.length ≤ c) (hv : x.vot.size ≤ 9223372036854775807) (he : ∀ y ∈ x.log, y.f2.size ≤ 9223372036854775807) (hm : RawM cs0 fr tt tm ix ps cm) :
    Calls Try.prog 6 #[.agg (staC x A c), .agg cs0] w fun e w' => e = .returned (.bool true) ∧ Below w.heap.size w w' := by
  unfold staC
  have HR := Lib.hid hr
  have HC := Lib.hid hc
  have HM := Lib.hid hm
  obtain ⟨bm, hbm⟩ : ∃ bm : Bool, bm = true ↔ mayS x := ⟨@decide (mayS x) (Classical.propDecidable _), @decide_eq_true_iff (mayS x) (Classical.propDecidable _)⟩
  have HMY : Hid (∀ wx, Below w.heap.size w wx → Calls Try.prog 30 #[.agg #[.int .i64 x.term, .int .i64 x.vote, .int .i64 x.idx, .int .i64 x.past, .string x.vot, .string x.text, .slice A x.log.length c]] wx fun e w' => e = .returned (.bool bm) ∧ Below wx.heap.size wx w') := Lib.hid (fun wx hb => may_of (Kd.C_below hr hb) hc hv he bm hbm)
  have HBM := Lib.hid hbm
  have hb1 := (Below.refl w.heap.size w).alloc (Nat.le_refl _) (.cells #[.int .i64 x.term, .int .i64 x.vote, .int .i64 x.idx, .int .i64 x.past, .string x.vot, .string x.text, .slice A x.log.length c] 47)
  have HB := Lib.hid (hb1.alloc hb1.size (.cells cs0 70))
  have hs1 : (w.alloc (.cells #[.int .i64 x.term, .int .i64 x.vote, .int .i64 x.idx, .int .i64 x.past, .string x.vot, .string x.text, .slice A x.log.length c] 47)).heap.size = w.heap.size + 1 := by simp
  have HS1 := Lib.hid hs1
  clear hb1 hs1 hr hc hm hv he hbm
  go_enter Try.func6, Try.ntmps6
  go_upto_region 1 with fail
  have HKS : Hid (((w.alloc (.cells #[.int .i64 x.term, .int .i64 x.vote, .int .i64 x.idx, .int .i64 x.past, .string x.vot, .string x.text, .slice A x.log.length c] 47)).alloc (.cells cs0 70)).heap[w.heap.size]? = some (.cells #[.int .i64 x.term, .int .i64 x.vote, .int .i64 x.idx, .int .i64 x.past, .string x.vot, .string x.text, .slice A x.log.length c] 47 (0, 0))) := Lib.hid (blk_below (blk_new _ _) ((Below.refl _ _).alloc (Nat.le_refl _) _))
  have HKM : Hid (((w.alloc (.cells #[.int .i64 x.term, .int .i64 x.vote, .int .i64 x.idx, .int .i64 x.past, .string x.vot, .string x.text, .slice A x.log.length c] 47)).alloc (.cells cs0 70)).heap[w.heap.size + 1]? = some (.cells cs0 70 (0, 0))) := Lib.hid (by rw [← HS1.out]; exact blk_new _ _)
  (try rw [HS1.out])
  clear HS1
  generalize (w.alloc (.cells #[.int .i64 x.term, .int .i64 x.vote, .int .i64 x.idx, .int .i64 x.past, .string x.vot, .string x.text, .slice A x.log.length c] 47)).alloc (.cells cs0 70) = w1 at HKS HKM HB ⊢
  have s5 : w1.cell? ⟨w.heap.size, 5, none⟩ = some (.string x.text) := by rw [blk_cell HKS.out]; rfl
  have s6 : w1.cell? ⟨w.heap.size, 6, none⟩ = some (.slice A x.log.length c) := by rw [blk_cell HKS.out]; rfl
  have HLV : Hid (∀ wx, Below w.heap.size w wx → Calls Try.prog 15 #[] wx fun e w' => e = .returned (.bool true) ∧ Below w.heap.size w w') := Lib.hid (fun wx hb => (lives_calls wx).mono fun e w' q => ⟨q.1, hb.trans (q.2.mono hb.size)⟩)
  by_cases h60 : 60 < x.log.length
  · have hb60 : decide ((60 : Int) < (x.log.length : Int)) = true := decide_eq_true (by omega)
    have H60 := Lib.hid h60
    clear h60
    go_wp2_with ((with_reducible refine (HLV.out _ HB.out).mono ?_); rintro e wl ⟨rfl, hb⟩; have HBl := Lib.hid hb; clear hb)
    go_ret
    exact ⟨by rfl, HBl.out⟩
  have hb60 : decide ((60 : Int) < (x.log.length : Int)) = false := decide_eq_false (by omega)
  have H60 := Lib.hid h60
  clear h60
  have HMW := Lib.hid (HMY.out w1 HB.out)
  cases bm
  case false =>
    go_wp2_with (first | (refine gate_guard (by rfl) ?_; dsimp only; refine wpList_load_row rfl 47 (.tmp 2) rfl w.heap.size rfl 47 #[.int .i64 x.term, .int .i64 x.vote, .int .i64 x.idx, .int .i64 x.past, .string x.vot, .string x.text, .slice A x.log.length c] (0, 0) _ HKS.out Try.underlying47 rfl inf47l ?_) | ((with_reducible refine HMW.out.mono ?_); rintro e w2 ⟨rfl, hb⟩; have HB2 := Lib.hid (HB.out.trans (hb.mono HB.out.size)); clear hb) | ((with_reducible refine (HLV.out _ HB2.out).mono ?_); rintro e wl ⟨rfl, hb⟩; have HBl := Lib.hid hb; clear hb))
    go_ret
    exact ⟨by rfl, HBl.out⟩
  by_cases ht : 10000 < x.text.size
  · have htb : decide ((10000 : Int) < (x.text.size : Int)) = true := decide_eq_true (by omega)
    have HTT := Lib.hid ht
    clear ht
    go_wp2_with (first | (refine gate_guard (by rfl) ?_; dsimp only; refine wpList_load_row rfl 47 (.tmp 2) rfl w.heap.size rfl 47 #[.int .i64 x.term, .int .i64 x.vote, .int .i64 x.idx, .int .i64 x.past, .string x.vot, .string x.text, .slice A x.log.length c] (0, 0) _ HKS.out Try.underlying47 rfl inf47l ?_) | ((with_reducible refine HMW.out.mono ?_); rintro e w2 ⟨rfl, hb⟩; have HB2 := Lib.hid (HB.out.trans (hb.mono HB.out.size)); have s5' := pw_cell_below hb s5; clear hb) | ((with_reducible refine (HLV.out _ HB2.out).mono ?_); rintro e wl ⟨rfl, hb⟩; have HBl := Lib.hid hb; clear hb))
    go_ret
    exact ⟨by rfl, HBl.out⟩
  have htb : decide ((10000 : Int) < (x.text.size : Int)) = false := decide_eq_false (by omega)
  have HTT := Lib.hid ht
  clear ht
  have HX : Hid (StaS x) := Lib.hid (sta_ok x (HBM.out.1 rfl) (by have := HTT.out; omega) (by have := H60.out; omega))
  go_upto_region 3 with (first | (refine gate_guard (by rfl) ?_; dsimp only; refine wpList_load_row rfl 47 (.tmp 2) rfl w.heap.size rfl 47 #[.int .i64 x.term, .int .i64 x.vote, .int .i64 x.idx, .int .i64 x.past, .string x.vot, .string x.text, .slice A x.log.length c] (0, 0) _ HKS.out Try.underlying47 rfl inf47l ?_) | ((with_reducible refine HMW.out.mono ?_); rintro e w2 ⟨rfl, hb⟩; have HKS2 := Lib.hid (blk_below HKS.out hb); have HKM2 := Lib.hid (blk_below HKM.out hb); have HB2 := Lib.hid (HB.out.trans (hb.mono HB.out.size)); have s5' := pw_cell_below hb s5; clear hb))
  clear s5 s6 s5' HMW HMY HKS HKM HB hb60 htb H60 HTT HBM
  obtain ⟨xs, hxs⟩ : ∃ xs, xs = encSta x := ⟨_, rfl⟩
  have HXS := Lib.hid hxs
  have HCD : Hid (Calls Try.prog 31 #[.agg #[.int .i64 x.term, .int .i64 x.vote, .int .i64 x.idx, .int .i64 x.past, .string x.vot, .string x.text, .slice A x.log.length c]] w2 fun e w' => ∃ A9 c9, e = .returned (.slice A9 xs.length c9) ∧ Hid (ReadsInt w' .u8 A9 xs.length xs) ∧ Below w2.heap.size w2 w' ∧ xs.length ≤ c9) := Lib.hid (by rw [hxs]; exact code_of (Kd.C_below HR.out HB2.out) HX.out.i)
  have HLD : Hid (∀ wx A9 c9, ReadsInt wx .u8 A9 xs.length xs → xs.length ≤ c9 → Calls Try.prog 18 #[.int .i64 2, .slice A9 xs.length c9] wx fun e w' => ∃ g A' cap, e = .returned (.tuple #[.pointer (some ⟨g, 0, none⟩), .int .i64 0]) ∧ wx.heap.size ≤ g ∧ Co w' g (St.ld x A' cap) ∧ Below wx.heap.size wx w') := Lib.hid (fun wx A9 c9 h1 h2 => by rw [hxs] at h1 h2 ⊢; exact load_sta HX.out h1 h2)
  clear hxs
  go_upto_region 4 with (first | (refine wpList_load_row rfl 47 (.tmp 2) rfl w.heap.size rfl 47 #[.int .i64 x.term, .int .i64 x.vote, .int .i64 x.idx, .int .i64 x.past, .string x.vot, .string x.text, .slice A x.log.length c] (0, 0) _ HKS2.out Try.underlying47 rfl inf47l ?_) | ((with_reducible refine HCD.out.mono ?_); rintro e w3 ⟨A9, c9, rfl, hrd, hb, hlc⟩; have HRD := Lib.hid hrd.out; have HLC := Lib.hid hlc; have HKS3 := Lib.hid (blk_below HKS2.out hb); have HKM3 := Lib.hid (blk_below HKM2.out hb); have HB3 := Lib.hid (HB2.out.trans (hb.mono HB2.out.size)); clear hrd hb hlc) | ((with_reducible refine (HLD.out _ _ _ HRD.out HLC.out).mono ?_); rintro e w4 ⟨g, A', cap, rfl, hg, hco, hb⟩; have HG := Lib.hid hg; have HCO := Lib.hid hco; have HKS4 := Lib.hid (blk_below HKS3.out hb); have HKM4 := Lib.hid (blk_below HKM3.out hb); have HB4 := Lib.hid (HB3.out.trans (hb.mono HB3.out.size)); clear hg hco hb))
  have HGG : Hid (w.heap.size + 1 < g) := Lib.hid (by have h1 := blk_lt HKM3.out; have h2 := HG.out; omega)
  clear HCD HLD HRD HLC HKS2 HKM2 HB2 HKS3 HKM3 HB3 HG
  obtain ⟨k0, hk0⟩ := HM.out.c0
  obtain ⟨A26, n26, c26, hk26⟩ := HM.out.c26
  have m0 : w4.cell? ⟨w.heap.size + 1, 0, none⟩ = some (.int .i64 k0) := by rw [blk_cell HKM4.out]; exact hk0
  have m26 : w4.cell? ⟨w.heap.size + 1, 26, none⟩ = some (.slice A26 n26 c26) := by rw [blk_cell HKM4.out]; exact hk26
  have f0 := blk_frozen HKM4.out 0
  have f26 := blk_frozen HKM4.out 26
  clear hk0 hk26
  go_upto_region 8 with fail
  have HKM5 : Hid (((w4.setCell ⟨w.heap.size + 1, 0, none⟩ (.int .i64 11)).setCell ⟨w.heap.size + 1, 26, none⟩ (.slice none 0 0)).heap[w.heap.size + 1]? = some (.cells (askC cs0) 70 (0, 0))) := Lib.hid (blk_set (blk_set HKM4.out 0 (.int .i64 11)) 26 (.slice none 0 0))
  have hch := ((Chg.refl (fun k => k = w.heap.size + 1) w4).setCell (p := ⟨w.heap.size + 1, 0, none⟩) (.inl (by rfl)) (.int .i64 11)).setCell (p := ⟨w.heap.size + 1, 26, none⟩) (.inl (by rfl)) (.slice none 0 0)
  have HKS5 := Lib.hid (hch.get HKS4.out (by show ¬ w.heap.size = w.heap.size + 1; omega))
  have HB5 : Hid (Below w.heap.size w ((w4.setCell ⟨w.heap.size + 1, 0, none⟩ (.int .i64 11)).setCell ⟨w.heap.size + 1, 26, none⟩ (.slice none 0 0))) := Lib.hid (below_set (below_set HB4.out (Nat.le_succ _)) (Nat.le_succ _))
  have HCO5 : Hid (Co ((w4.setCell ⟨w.heap.size + 1, 0, none⟩ (.int .i64 11)).setCell ⟨w.heap.size + 1, 26, none⟩ (.slice none 0 0)) g (St.ld x A' cap)) := Lib.hid (HCO.out.past70 HKM4.out (by have := HGG.out; omega) HM.out.ns HM.out.c26)
  clear hch m0 m26 f0 f26 HKM4 HKS4 HB4 HCO
  generalize (w4.setCell ⟨w.heap.size + 1, 0, none⟩ (.int .i64 11)).setCell ⟨w.heap.size + 1, 26, none⟩ (.slice none 0 0) = w5 at HKM5 HKS5 HB5 HCO5 ⊢
  have HML := Lib.hid (ask_ml HM.out)
  generalize askC cs0 = cs at HML HKM5
  have HINF : Hid ((Try.prog.info? 70).map (·.size) = some cs.size) := Lib.hid (by rw [HML.out.size]; exact inf70)
  clear HM
  by_cases hR : isR 2 fr tt tm ix ps cm
  · have HRR := Lib.hid hR
    have HHR := Lib.hid (hear_yes HCO5.out HML.out hR)
    have b0 : (tt == 2) = true := by have q := hR; unfold isR at q; simp; omega
    have b1 : (fr != 2) = true := by have q := hR; unfold isR at q; simp; omega
    have b2 : decide (0 ≤ fr) = true := by have q := hR; unfold isR at q; simp; omega
    have b3 : decide (fr < 7) = true := by have q := hR; unfold isR at q; simp; omega
    have b4 : decide (1 ≤ tm) = true := by have q := hR; unfold isR at q; simp; omega
    have b5 : decide (tm ≤ 1099511627776) = true := by have q := hR; unfold isR at q; simp; omega
    have b6 : decide (0 ≤ ix) = true := by have q := hR; unfold isR at q; simp; omega
    have b7 : decide (ix ≤ 1099511627776) = true := by have q := hR; unfold isR at q; simp; omega
    have b8 : decide (0 ≤ ps) = true := by have q := hR; unfold isR at q; simp; omega
    have b9 : decide (ps ≤ tm) = true := by have q := hR; unfold isR at q; simp; omega
    have b10 : decide (0 ≤ cm) = true := by have q := hR; unfold isR at q; simp; omega
    have b11 : decide (cm ≤ 1099511627776) = true := by have q := hR; unfold isR at q; simp; omega
    clear hR
    obtain ⟨kp, hkp⟩ : ∃ kp, kp = vKeep x fr tm ix ps := ⟨_, rfl⟩
    rw [← hkp] at HHR
    have HKP := Lib.hid hkp
    clear hkp
    go_upto_region 9 with (first | (refine wpList_load_row rfl 70 (.tmp 3) rfl (w.heap.size + 1) rfl 70 cs (0, 0) _ HKM5.out Try.underlying70 rfl HINF.out ?_) | ((with_reducible refine HHR.out.mono ?_); rintro e w6 ⟨A6, c6, T, rfl, hco, hst, hch, hown⟩; have HC6 := Lib.hid hco; have HST := Lib.hid hst; have HH6 := Lib.hid hch; have HO6 := Lib.hid hown; clear hco hst hch hown))
    have HKM6 := Lib.hid (HH6.out.get HKM5.out (by have := HGG.out; show ¬ w.heap.size + 1 = g; omega))
    have HKS6 := Lib.hid (HH6.out.get HKS5.out (by have := HGG.out; show ¬ w.heap.size = g; omega))
    have HB6 := Lib.hid (HB5.out.trans (HH6.out.below HB5.out.size (fun i hi hk => by have := HGG.out; omega)))
    have hal := (Below.refl w6.heap.size w6).alloc (Nat.le_refl _) (.cells #[.bool kp, .slice A6 1 c6, .slice none 0 0] 32)
    have HK7 := Lib.hid (blk_new w6 (.cells #[.bool kp, .slice A6 1 c6, .slice none 0 0] 32))
    have HKM7 := Lib.hid (blk_below HKM6.out hal)
    have HKS7 := Lib.hid (blk_below HKS6.out hal)
    have HB7 := Lib.hid (HB6.out.trans (hal.mono HB6.out.size))
    have HC7 := Lib.hid (HC6.out.below hal)
    have HO7 := Lib.hid (pw_own_below HO6.out hal)
    clear hal HHR HKM5 HKS5 HB5 HCO5 HKM6 HKS6 HB6 HC6 HO6
    obtain ⟨b7, hb7⟩ : ∃ b7, b7 = w6.heap.size := ⟨_, rfl⟩
    rw [← hb7] at HK7 ⊢
    clear hb7
    generalize w6.alloc (.cells #[.bool kp, .slice A6 1 c6, .slice none 0 0] 32) = w7 at HK7 HKM7 HKS7 HB7 HC7 HO7 ⊢
    have m2 : w7.cell? ⟨w.heap.size + 1, 2, none⟩ = some (.int .i64 tt) := by rw [blk_cell HKM7.out]; exact HML.out.c2
    have m1 : w7.cell? ⟨w.heap.size + 1, 1, none⟩ = some (.int .i64 fr) := by rw [blk_cell HKM7.out]; exact HML.out.c1
    have m21 : w7.cell? ⟨w.heap.size + 1, 21, none⟩ = some (.int .i64 tm) := by rw [blk_cell HKM7.out]; exact HML.out.c21
    have m22 : w7.cell? ⟨w.heap.size + 1, 22, none⟩ = some (.int .i64 ix) := by rw [blk_cell HKM7.out]; exact HML.out.c22
    have m23 : w7.cell? ⟨w.heap.size + 1, 23, none⟩ = some (.int .i64 ps) := by rw [blk_cell HKM7.out]; exact HML.out.c23
    have m24 : w7.cell? ⟨w.heap.size + 1, 24, none⟩ = some (.int .i64 cm) := by rw [blk_cell HKM7.out]; exact HML.out.c24
    obtain ⟨y, hy⟩ : ∃ y, y = vSta x fr tm ix ps := ⟨_, rfl⟩
    have HY := Lib.hid hy
    clear hy
    obtain ⟨ok, hok⟩ : ∃ ok, ok = vOk x fr tm ix ps := ⟨_, rfl⟩
    have HOK := Lib.hid hok
    clear hok
    have HYE : Hid (y.log = x.log ∧ y.term = vT x tm) := Lib.hid (by rw [HY.out]; exact ⟨rfl, rfl⟩)
    have HYI : Hid (StaI y) := Lib.hid (by rw [HY.out]; have q := HRR.out; exact vSta_i HX.out ⟨q.2.2.2.2.2.2.2.1, q.2.2.2.2.2.2.2.2.1⟩ ⟨q.2.2.1, q.2.2.2.1⟩)
    have HVT : Hid (Calls Try.prog 32 #[.agg #[.int .i64 x.term, .int .i64 x.vote, .int .i64 x.idx, .int .i64 x.past, .string x.vot, .string x.text, .slice A x.log.length c], .agg cs] w7 fun e w' => e = .returned (.tuple #[.agg #[.int .i64 y.term, .int .i64 y.vote, .int .i64 y.idx, .int .i64 y.past, .string y.vot, .string y.text, .slice A y.log.length c], .bool kp, .bool ok]) ∧ Below w7.heap.size w7 w') := Lib.hid (by rw [HY.out, HKP.out, HOK.out]; exact vote_calls w7 A c x (Kd.C_below HR.out HB7.out) HC.out (by have := HX.out.may.2.2.2.2.2.1; exact this) (by have := HX.out.may.2.2.2.2.2.2.1; exact this) (by have := HX.out.log; omega) HML.out)
    go_upto_region 13 with (first | (refine wpList_load_row rfl 47 (.tmp 2) rfl w.heap.size rfl 47 #[.int .i64 x.term, .int .i64 x.vote, .int .i64 x.idx, .int .i64 x.past, .string x.vot, .string x.text, .slice A x.log.length c] (0, 0) _ HKS7.out Try.underlying47 rfl inf47l ?_) | (refine wpList_load_row rfl 70 (.tmp 3) rfl (w.heap.size + 1) rfl 70 cs (0, 0) _ HKM7.out Try.underlying70 rfl HINF.out ?_) | ((with_reducible refine HVT.out.mono ?_); rintro e w8 ⟨rfl, hb⟩; have HB8a := Lib.hid hb; clear hb))
    have hal := (Below.refl w8.heap.size w8).alloc (Nat.le_refl _) (.cells #[.int .i64 y.term, .int .i64 y.vote, .int .i64 y.idx, .int .i64 y.past, .string y.vot, .string y.text, .slice A y.log.length c] 47)
    have HK9 := Lib.hid (blk_new w8 (.cells #[.int .i64 y.term, .int .i64 y.vote, .int .i64 y.idx, .int .i64 y.past, .string y.vot, .string y.text, .slice A y.log.length c] 47))
    have hb9 := HB8a.out.trans (hal.mono HB8a.out.size)
    have HKM9 := Lib.hid (blk_below HKM7.out hb9)
    have HK79 := Lib.hid (blk_below HK7.out hb9)
    have HB9 := Lib.hid (HB7.out.trans (hb9.mono HB7.out.size))
    have HC9 := Lib.hid (HC7.out.below hb9)
    have HO9 := Lib.hid (pw_own_below HO7.out hb9)
    clear hal hb9 HVT m2 m1 m21 m22 m23 m24 HKM7 HKS7 HK7 HB7 HC7 HO7 HB8a
    obtain ⟨b9, hb9⟩ : ∃ b9, b9 = w8.heap.size := ⟨_, rfl⟩
    rw [← hb9] at HK9 ⊢
    clear hb9
    generalize w8.alloc (.cells #[.int .i64 y.term, .int .i64 y.vote, .int .i64 y.idx, .int .i64 y.past, .string y.vot, .string y.text, .slice A y.log.length c] 47) = w9 at HK9 HKM9 HK79 HB9 HC9 HO9 ⊢
    have e0 : w9.cell? ⟨b7, 0, none⟩ = some (.bool kp) := by rw [blk_cell HK79.out]; rfl
    have e1 : w9.cell? ⟨b7, 1, none⟩ = some (.slice A6 1 c6) := by rw [blk_cell HK79.out]; rfl
    have e2 : w9.cell? ⟨b7, 2, none⟩ = some (.slice none 0 0) := by rw [blk_cell HK79.out]; rfl
    have HDR : Hid (∀ w', Below w9.drew.heap.size w9.drew w' → Below w9.heap.size w9 w') := Lib.hid (fun w' hb => (pw_below_drewN (Below.refl w9.heap.size w9) 1).trans hb)
    refine votes_right _ _ _ _ _ _ _ _ _ _ _ _ _ _ _ _ _ _ _ _ _ _ _ _ _ _ _ _ _ _ _ _ _ _ _ _ _ _ _ _ _ _ _ _ _ _ _ _ _ _ _ _ _ _ _ _ _ _ _ _ _ _ _ _ _ _ _ _ _ _ _ _ _ _ _ _ _ _ _ _ _ _ _ _ _ _ _ _ _ _ _ _ _ _ _ _ _ _ _ _ _ _ _ _ _ _ _ _ _ _ _ _ _ _ _ _ _ _ _ _ _ _ _ _ _ _ _ _ _ _ _ _ _ _ _ _ _ _ _ _ _ _ _ _ _ _ _ _ _ _ _ _ _ _ _ _ _ _ _ _ _ _ _ _ _ _ _ _ _ _ _ _ _ _ _ _ _ _ _ _ _ _ _ _ _ _ _ _ _ _ _ _ g b7 b9 w9 _ #[.int .i64 y.term, .int .i64 y.vote, .int .i64 y.idx, .int .i64 y.past, .string y.vot, .string y.text, .slice A y.log.length c] (encSta y) (encSta y).length kp A6 c6 (fun _ _ _ _ _ h => h) e0 e1 e2 HK9.out rfl (fun w' hb => enc_of (HC9.out.below (HDR.out w' hb)) (HST.out.trans HY.out.symm) HYI.out) (fun w' hb => ((code_of (A := A) (c := c) (y := y) (by rw [HYE.out.1]; exact Kd.C_below HR.out (HB9.out.trans ((HDR.out w' hb).mono HB9.out.size))) HYI.out).mono (fun e w'' q => by obtain ⟨A9, c9, h1, h2, h3, _⟩ := q; exact ⟨A9, c9, h1, h2, h3⟩))) ?_
    intro w10 _ _ _ _ hb
    have hb10 := HDR.out w10 hb
    have HKM10 := Lib.hid (blk_below HKM9.out hb10)
    have HK710 := Lib.hid (blk_below HK79.out hb10)
    have HK910 := Lib.hid (blk_below HK9.out hb10)
    have HB10 := Lib.hid (HB9.out.trans (hb10.mono HB9.out.size))
    have HO10 := Lib.hid (pw_own_below HO9.out hb10)
    clear hb hb10 e0 e1 e2 HDR HKM9 HK79 HK9 HB9 HC9 HO9
    (try simp only [Exit.then])
    obtain ⟨gA, rfl, hgA, hgB, hl28, hcl⟩ := own_one HO10.out
    have HCL := Lib.hid hcl
    have HL28 := Lib.hid hl28
    clear hcl hl28 hgA hgB
    obtain ⟨MV, hMV⟩ : ∃ MV, MV = mailV (votedC fr (vOk x fr tm ix ps)) 2 (vT x tm) := ⟨_, rfl⟩
    rw [← hMV] at HCL HL28
    have v0 : Hid (MV[0]? = some (.int .i64 12)) := Lib.hid (by rw [hMV]; rfl)
    have v1 : Hid (MV[1]? = some (.int .i64 2)) := Lib.hid (by rw [hMV]; rfl)
    have v2 : Hid (MV[2]? = some (.int .i64 fr)) := Lib.hid (by rw [hMV]; rfl)
    have v21 : Hid (MV[21]? = some (.int .i64 y.term)) := Lib.hid (by rw [hMV, HYE.out.2]; rfl)
    have v20 : Hid (MV[20]? = some (.bool ok)) := Lib.hid (by rw [hMV, HOK.out]; rfl)
    have HON : Hid (MV.all (·.oneCell') = true) := Lib.hid (by rw [hMV]; rw [Array.all_eq_true_iff_forall_mem]; intro z hz; exact mailV_one _ _ _ (votedC_one _ _) z (Array.mem_toList_iff.2 hz))
    have HMS : Hid (MV.size = 28) := Lib.hid (by rw [hMV, mailV_size]; rfl)
    have HMI : Hid ((Try.prog.info? 70).map (·.size) = some MV.size) := Lib.hid (by rw [HMS.out]; exact inf70)
    clear hMV
    have e1 : w10.cell? ⟨b7, 1, none⟩ = some (.slice (some ⟨gA, 0, none⟩) 1 c6) := by rw [blk_cell HK710.out]; rfl
    go_upto_region 16 with (first | (refine wpList_load70 rfl (.tmp 163) rfl ⟨gA, 0, none⟩ rfl MV.toList (by rw [Array.length_toList]; exact HMS.out) HCL.out ?_) | (refine wpList_store_row rfl 70 (.tmp 12) (.tmp 164) rfl w10.heap.size MV rfl rfl 70 _ (blk_new w10 _) HMI.out (by rw [HMS.out]; rfl) HON.out ?_))
    have hal := (Below.refl w10.heap.size w10).alloc (Nat.le_refl _) (.cells #[.int .i64 0, .int .i64 0, .int .i64 0, .int .i64 0, .int .i64 0, .int .i64 0, .int .i64 0, .int .i64 0, .int .i64 0, .int .i64 0, .int .i64 0, .bool false, .int .i64 0, .int .i64 0, .int .i64 0, .int .i64 0, .int .i64 0, .slice none 0 0, .int .i64 0, .slice none 0 0, .bool false, .int .i64 0, .int .i64 0, .int .i64 0, .int .i64 0, .int .i64 0, .slice none 0 0, .string ⟨#[]⟩] 70)
    have HKX : Hid (((w10.alloc (.cells #[.int .i64 0, .int .i64 0, .int .i64 0, .int .i64 0, .int .i64 0, .int .i64 0, .int .i64 0, .int .i64 0, .int .i64 0, .int .i64 0, .int .i64 0, .bool false, .int .i64 0, .int .i64 0, .int .i64 0, .int .i64 0, .int .i64 0, .slice none 0 0, .int .i64 0, .slice none 0 0, .bool false, .int .i64 0, .int .i64 0, .int .i64 0, .int .i64 0, .int .i64 0, .slice none 0 0, .string ⟨#[]⟩] 70)).setRow w10.heap.size MV).heap[w10.heap.size]? = some (.cells MV 70 (0, 0))) := Lib.hid (setRow_heap _ _ _ _ _ _ (blk_new w10 _))
    have HKMX : Hid (((w10.alloc (.cells #[.int .i64 0, .int .i64 0, .int .i64 0, .int .i64 0, .int .i64 0, .int .i64 0, .int .i64 0, .int .i64 0, .int .i64 0, .int .i64 0, .int .i64 0, .bool false, .int .i64 0, .int .i64 0, .int .i64 0, .int .i64 0, .int .i64 0, .slice none 0 0, .int .i64 0, .slice none 0 0, .bool false, .int .i64 0, .int .i64 0, .int .i64 0, .int .i64 0, .int .i64 0, .slice none 0 0, .string ⟨#[]⟩] 70)).setRow w10.heap.size MV).heap[w.heap.size + 1]? = some (.cells cs 70 (0, 0))) := Lib.hid ((setRow_other _ _ _ _ (by have := blk_lt HKM10.out; omega)).trans (blk_below HKM10.out hal))
    have HK9X : Hid (((w10.alloc (.cells #[.int .i64 0, .int .i64 0, .int .i64 0, .int .i64 0, .int .i64 0, .int .i64 0, .int .i64 0, .int .i64 0, .int .i64 0, .int .i64 0, .int .i64 0, .bool false, .int .i64 0, .int .i64 0, .int .i64 0, .int .i64 0, .int .i64 0, .slice none 0 0, .int .i64 0, .slice none 0 0, .bool false, .int .i64 0, .int .i64 0, .int .i64 0, .int .i64 0, .int .i64 0, .slice none 0 0, .string ⟨#[]⟩] 70)).setRow w10.heap.size MV).heap[b9]? = some (.cells #[.int .i64 y.term, .int .i64 y.vote, .int .i64 y.idx, .int .i64 y.past, .string y.vot, .string y.text, .slice A y.log.length c] 47 (0, 0))) := Lib.hid ((setRow_other _ _ _ _ (by have := blk_lt HK910.out; omega)).trans (blk_below HK910.out hal))
    have HBX : Hid (Below w.heap.size w ((w10.alloc (.cells #[.int .i64 0, .int .i64 0, .int .i64 0, .int .i64 0, .int .i64 0, .int .i64 0, .int .i64 0, .int .i64 0, .int .i64 0, .int .i64 0, .int .i64 0, .bool false, .int .i64 0, .int .i64 0, .int .i64 0, .int .i64 0, .int .i64 0, .slice none 0 0, .int .i64 0, .slice none 0 0, .bool false, .int .i64 0, .int .i64 0, .int .i64 0, .int .i64 0, .int .i64 0, .slice none 0 0, .string ⟨#[]⟩] 70)).setRow w10.heap.size MV)) := Lib.hid (below_row (HB10.out.trans (hal.mono HB10.out.size)) HB10.out.size)
    clear hal HKM10 HK910 HB10 HK710 HO10 HCL HL28 e1
    obtain ⟨bx, hbx⟩ : ∃ bx, bx = w10.heap.size := ⟨_, rfl⟩
    generalize (w10.alloc (.cells #[.int .i64 0, .int .i64 0, .int .i64 0, .int .i64 0, .int .i64 0, .int .i64 0, .int .i64 0, .int .i64 0, .int .i64 0, .int .i64 0, .int .i64 0, .bool false, .int .i64 0, .int .i64 0, .int .i64 0, .int .i64 0, .int .i64 0, .slice none 0 0, .int .i64 0, .slice none 0 0, .bool false, .int .i64 0, .int .i64 0, .int .i64 0, .int .i64 0, .int .i64 0, .slice none 0 0, .string ⟨#[]⟩] 70)).setRow w10.heap.size MV = wx at HKX HKMX HK9X HBX ⊢
    rw [← hbx] at HKX ⊢
    clear hbx
    have c0 : wx.cell? ⟨bx, 0, none⟩ = some (.int .i64 12) := by rw [blk_cell HKX.out]; exact v0.out
    have c1 : wx.cell? ⟨bx, 1, none⟩ = some (.int .i64 2) := by rw [blk_cell HKX.out]; exact v1.out
    have c2 : wx.cell? ⟨bx, 2, none⟩ = some (.int .i64 fr) := by rw [blk_cell HKX.out]; exact v2.out
    have c21 : wx.cell? ⟨bx, 21, none⟩ = some (.int .i64 y.term) := by rw [blk_cell HKX.out]; exact v21.out
    have c20 : wx.cell? ⟨bx, 20, none⟩ = some (.bool ok) := by rw [blk_cell HKX.out]; exact v20.out
    have m1 : wx.cell? ⟨w.heap.size + 1, 1, none⟩ = some (.int .i64 fr) := by rw [blk_cell HKMX.out]; exact HML.out.c1
    have y0 : wx.cell? ⟨b9, 0, none⟩ = some (.int .i64 y.term) := by rw [blk_cell HK9X.out]; rfl
    go_wp2_with ((with_reducible refine (HLV.out _ HBX.out).mono ?_); rintro e wl ⟨rfl, hb⟩; have HBl := Lib.hid hb; clear hb)
    go_ret
    exact ⟨by rfl, HBl.out⟩
  · have HRR := Lib.hid hR
    have HHR := Lib.hid (hear_no HCO5.out HML.out hR)
    clear hR
    go_upto_region 9 with (first | (refine wpList_load_row rfl 70 (.tmp 3) rfl (w.heap.size + 1) rfl 70 cs (0, 0) _ HKM5.out Try.underlying70 rfl HINF.out ?_) | ((with_reducible refine HHR.out.mono ?_); rintro e w6 ⟨rfl, hco, hch⟩; have HC6 := Lib.hid hco; have HH6 := Lib.hid hch; clear hco hch))
    have HKM6 := Lib.hid (HH6.out.get HKM5.out (by have := HGG.out; show ¬ w.heap.size + 1 = g; omega))
    have HKS6 := Lib.hid (HH6.out.get HKS5.out (by have := HGG.out; show ¬ w.heap.size = g; omega))
    have HB6 := Lib.hid (HB5.out.trans (HH6.out.below HB5.out.size (fun i hi hk => by have := HGG.out; omega)))
    have hal := (Below.refl w6.heap.size w6).alloc (Nat.le_refl _) (.cells #[.bool false, .slice none 0 0, .slice none 0 0] 32)
    have HK7 := Lib.hid (blk_new w6 (.cells #[.bool false, .slice none 0 0, .slice none 0 0] 32))
    have HKM7 := Lib.hid (blk_below HKM6.out hal)
    have HKS7 := Lib.hid (blk_below HKS6.out hal)
    have HB7 := Lib.hid (HB6.out.trans (hal.mono HB6.out.size))
    have HC7 := Lib.hid (HC6.out.below hal)
    clear hal HHR HKM5 HKS5 HB5 HCO5 HKM6 HKS6 HB6 HC6
    obtain ⟨b7, hb7⟩ : ∃ b7, b7 = w6.heap.size := ⟨_, rfl⟩
    rw [← hb7] at HK7 ⊢
    clear hb7
    generalize w6.alloc (.cells #[.bool false, .slice none 0 0, .slice none 0 0] 32) = w7 at HK7 HKM7 HKS7 HB7 HC7 ⊢
    have m2 : w7.cell? ⟨w.heap.size + 1, 2, none⟩ = some (.int .i64 tt) := by rw [blk_cell HKM7.out]; exact HML.out.c2
    have m1 : w7.cell? ⟨w.heap.size + 1, 1, none⟩ = some (.int .i64 fr) := by rw [blk_cell HKM7.out]; exact HML.out.c1
    have m21 : w7.cell? ⟨w.heap.size + 1, 21, none⟩ = some (.int .i64 tm) := by rw [blk_cell HKM7.out]; exact HML.out.c21
    have m22 : w7.cell? ⟨w.heap.size + 1, 22, none⟩ = some (.int .i64 ix) := by rw [blk_cell HKM7.out]; exact HML.out.c22
    have m23 : w7.cell? ⟨w.heap.size + 1, 23, none⟩ = some (.int .i64 ps) := by rw [blk_cell HKM7.out]; exact HML.out.c23
    have m24 : w7.cell? ⟨w.heap.size + 1, 24, none⟩ = some (.int .i64 cm) := by rw [blk_cell HKM7.out]; exact HML.out.c24
    go_cut [8] (fun v wx => v = .bool false ∧ Hid (wx = w7))
    case first =>
      by_cases q0 : tt = 2
      case neg =>
        have b0 : (tt == 2) = false := by simpa using q0
        clear q0
        go_wp2_with fail
        go_meet
        exact ⟨rfl, Lib.hid (by first | rfl | trivial)⟩
      have b0 : (tt == 2) = true := by simp [q0]
      have Q0 := Lib.hid q0
      clear q0
      by_cases q1 : fr ≠ 2
      case neg =>
        have b1 : (fr != 2) = false := by simpa using q1
        clear q1
        go_wp2_with fail
        go_meet
        exact ⟨rfl, Lib.hid (by first | rfl | trivial)⟩
      have b1 : (fr != 2) = true := by simp [q1]
      have Q1 := Lib.hid q1
      clear q1
      by_cases q2 : 0 ≤ fr
      case neg =>
        have b2 : decide (0 ≤ fr) = false := by simp [q2]
        clear q2
        go_wp2_with fail
        go_meet
        exact ⟨rfl, Lib.hid (by first | rfl | trivial)⟩
      have b2 : decide (0 ≤ fr) = true := by simp [q2]
      have Q2 := Lib.hid q2
      clear q2
      by_cases q3 : fr < 7
      case neg =>
        have b3 : decide (fr < 7) = false := by simp [q3]
        clear q3
        go_wp2_with fail
        go_meet
        exact ⟨rfl, Lib.hid (by first | rfl | trivial)⟩
      have b3 : decide (fr < 7) = true := by simp [q3]
      have Q3 := Lib.hid q3
      clear q3
      by_cases q4 : 1 ≤ tm
      case neg =>
        have b4 : decide (1 ≤ tm) = false := by simp [q4]
        clear q4
        go_wp2_with fail
        go_meet
        exact ⟨rfl, Lib.hid (by first | rfl | trivial)⟩
      have b4 : decide (1 ≤ tm) = true := by simp [q4]
      have Q4 := Lib.hid q4
      clear q4
      by_cases q5 : tm ≤ 1099511627776
      case neg =>
        have b5 : decide (tm ≤ 1099511627776) = false := by simp [q5]
        clear q5
        go_wp2_with fail
        go_meet
        exact ⟨rfl, Lib.hid (by first | rfl | trivial)⟩
      have b5 : decide (tm ≤ 1099511627776) = true := by simp [q5]
      have Q5 := Lib.hid q5
      clear q5
      by_cases q6 : 0 ≤ ix
      case neg =>
        have b6 : decide (0 ≤ ix) = false := by simp [q6]
        clear q6
        go_wp2_with fail
        go_meet
        exact ⟨rfl, Lib.hid (by first | rfl | trivial)⟩
      have b6 : decide (0 ≤ ix) = true := by simp [q6]
      have Q6 := Lib.hid q6
      clear q6
      by_cases q7 : ix ≤ 1099511627776
      case neg =>
        have b7 : decide (ix ≤ 1099511627776) = false := by simp [q7]
        clear q7
        go_wp2_with fail
        go_meet
        exact ⟨rfl, Lib.hid (by first | rfl | trivial)⟩
      have b7 : decide (ix ≤ 1099511627776) = true := by simp [q7]
      have Q7 := Lib.hid q7
      clear q7
      by_cases q8 : 0 ≤ ps
      case neg =>
        have b8 : decide (0 ≤ ps) = false := by simp [q8]
        clear q8
        go_wp2_with fail
        go_meet
        exact ⟨rfl, Lib.hid (by first | rfl | trivial)⟩
      have b8 : decide (0 ≤ ps) = true := by simp [q8]
      have Q8 := Lib.hid q8
      clear q8
      by_cases q9 : ps ≤ tm
      case neg =>
        have b9 : decide (ps ≤ tm) = false := by simp [q9]
        clear q9
        go_wp2_with fail
        go_meet
        exact ⟨rfl, Lib.hid (by first | rfl | trivial)⟩
      have b9 : decide (ps ≤ tm) = true := by simp [q9]
      have Q9 := Lib.hid q9
      clear q9
      by_cases q10 : 0 ≤ cm
      case neg =>
        have b10 : decide (0 ≤ cm) = false := by simp [q10]
        clear q10
        go_wp2_with fail
        go_meet
        exact ⟨rfl, Lib.hid (by first | rfl | trivial)⟩
      have b10 : decide (0 ≤ cm) = true := by simp [q10]
      have Q10 := Lib.hid q10
      clear q10
      by_cases q11 : cm ≤ 1099511627776
      case neg =>
        have b11 : decide (cm ≤ 1099511627776) = false := by simp [q11]
        clear q11
        go_wp2_with fail
        go_meet
        exact ⟨rfl, Lib.hid (by first | rfl | trivial)⟩
      have b11 : decide (cm ≤ 1099511627776) = true := by simp [q11]
      have Q11 := Lib.hid q11
      clear q11
      exact absurd (show isR 2 fr tt tm ix ps cm from ⟨Q0.out, Q1.out, Q2.out, Q3.out, ⟨Q6.out, Q7.out⟩, ⟨Q8.out, Int.le_trans Q9.out Q5.out⟩, ⟨Q10.out, Q11.out⟩, Q4.out, Q5.out, Q9.out⟩) HRR.out
    case rest =>
    obtain ⟨rfl, HWC⟩ := hcut
    have hwc := HWC.out
    subst hwc
    clear HWC m2 m1 m21 m22 m23 m24
    go_upto_region 11 with fail
    have e0 : wc.cell? ⟨b7, 0, none⟩ = some (.bool false) := by rw [blk_cell HK7.out]; rfl
    have e1 : wc.cell? ⟨b7, 1, none⟩ = some (.slice none 0 0) := by rw [blk_cell HK7.out]; rfl
    have e2 : wc.cell? ⟨b7, 2, none⟩ = some (.slice none 0 0) := by rw [blk_cell HK7.out]; rfl
    have HDR : Hid (∀ w', Below wc.drew.heap.size wc.drew w' → Below wc.heap.size wc w') := Lib.hid (fun w' hb => (pw_below_drewN (Below.refl wc.heap.size wc) 1).trans hb)
    refine votes_not _ _ _ _ _ _ _ _ _ _ _ _ _ _ _ _ _ _ _ _ _ _ _ _ _ _ _ _ _ _ _ _ _ _ _ _ _ _ _ _ _ _ _ _ _ _ _ _ _ _ _ _ _ _ _ _ _ _ _ _ _ _ _ _ _ _ _ _ _ _ _ _ _ _ _ _ _ _ _ _ _ _ _ _ _ _ _ _ _ _ _ _ _ _ _ _ _ _ _ _ _ _ _ _ _ _ _ _ _ _ _ _ _ _ _ _ _ _ _ _ _ _ _ _ _ _ _ _ _ _ _ _ _ _ _ _ _ _ _ _ _ _ _ _ _ _ _ _ _ _ _ _ _ _ _ _ _ _ _ _ _ _ _ _ _ _ _ _ _ _ _ _ _ _ _ _ _ _ _ _ _ _ _ _ _ _ _ _ _ _ _ _ _ g w.heap.size b7 wc _ #[.int .i64 x.term, .int .i64 x.vote, .int .i64 x.idx, .int .i64 x.past, .string x.vot, .string x.text, .slice A x.log.length c] (encSta x) (encSta x).length (fun _ _ _ _ _ h => h) e0 e1 e2 HKS7.out rfl (fun w' hb => enc_of (HC7.out.below (HDR.out w' hb)) (show (St.ld x A' cap).sta = x from rfl) HX.out.i) (fun w' hb => ((code_of (A := A) (c := c) (y := x) (Kd.C_below HR.out (HB7.out.trans ((HDR.out w' hb).mono HB7.out.size))) HX.out.i).mono (fun e w'' q => by obtain ⟨A9, c9, h1, h2, h3, _⟩ := q; exact ⟨A9, c9, h1, h2, h3⟩))) (fun w' hb => lives_calls w') ?_
    intro w8 _ _ _ _ hb
    have HB8 := Lib.hid (HB7.out.trans ((HDR.out w8 hb).mono HB7.out.size))
    clear hb e0 e1 e2
    (try simp only [Exit.then])
    go_wp2_with fail
    go_ret
    exact ⟨by rfl, HB8.out⟩

end Go.Proofs.Ytfanbhbpmhojaaa
