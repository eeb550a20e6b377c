/- A voter alone: Offer of voters; Compact. Conditions: as told of a council's block; its one voter is itself. -/
import Derived.Test.YtfanbhbpmhojaaaCoB
namespace Go.Proofs.Ytfanbhbpmhojaaa
open Go.RowKit Go.Proofs.YtfanbhbpmhojaaaW.PrintWords Go.Proofs.YtfanbhbpmhojaaaW.PrintLast Go.Proofs.YtfanbhbpmhojaaaW.PrintMore PRef
attribute [local go_sem] max2_int min2_int max_two min_two
set_option linter.unusedVariables false
set_option linter.unusedSimpArgs false

theorem isStep_calls {w : World} {b0 b1 : Nat} {ok0 ok1 : Nat → Prop} {v0 v1 : Value} {l0 l1 : List Int} (n : Nat) (r : Bool) (h0 : Kd.R (Kd.int .i64) 3 w b0 ok0 v0 l0) (h1 : Kd.R (Kd.int .i64) 3 w b1 ok1 v1 l1) (hf : council_isStep.f n l0 l1 = some r) :
    Calls Try.prog 40 #[v0, v1] w fun e w' => e = .returned (.bool r) ∧ Below w.heap.size w w' := by
  obtain ⟨A, c, rfl⟩ := Kd.R_slice h0
  obtain ⟨_, hc, hr⟩ := Kd.R_reads' h0
  obtain ⟨A1, c1, rfl⟩ := Kd.R_slice h1
  obtain ⟨_, hc1, hr1⟩ := Kd.R_reads' h1
  exact (council_isStep.calls n A c l0 A1 c1 l1 r w hr hc hr1 hc1 hf).mono fun e w' ⟨h1, h2⟩ => ⟨h1, h2.below⟩

set_option maxRecDepth 100000 in
set_option maxHeartbeats 2000000 in
/-- Voters that are not others' by one node are refused. -/
theorem offer_voters {w : World} {g : Nat} {S : St} (h : Co w g S) (hr : (S.role == 2) = true) (k : Int) (s : ByteArray) (hs : s.size ≤ 9223372036854775807) (hk : isEnt ⟨S.term, k, s⟩) (hk2 : k = 2) (hco : S.commit = S.bidx + S.log.length) (hat : atV S (S.bidx + S.log.length) = S.term) (n : Nat) (hst : council_isStep.f n (votV s) S.voters = some false) :
    Calls Try.prog 11 #[.pointer (some ⟨g, 0, none⟩), .int .i64 k, .string s] w fun e w' => e = .returned (.tuple #[noWord, .int .i64 1]) ∧ Below w.heap.size w w' := by
  have c8 := h.c8
  have c1 := h.c1
  have hgl := h.lt
  have hr2 : (S.role != 2) = false := by rw [bne, hr]; rfl
  have HIE : Hid (∀ w', Calls Try.prog 38 #[.agg #[.int .i64 S.term, .int .i64 k, .string s]] w' fun e w'' => e = .returned (.bool true) ∧ Below w'.heap.size w' w'') := Lib.hid (fun w' => by
    have := isEntry_calls w' ⟨S.term, k, s⟩ hs
    rw [decide_eq_true hk] at this
    exact this)
  have H := Lib.hid h
  have HCO := Lib.hid hco
  have HAT := Lib.hid hat
  have HST := Lib.hid hst
  have hkb : (k == 2) = true := beq_iff_eq.2 hk2
  clear h hk hk2 hco hat hst
  go_enter Try.func11, Try.ntmps11
  go_upto_region 4 with fail
  have HT := Lib.hid (two_new w #[.bool false, .slice none 0 0, .slice none 0 0] #[.int .i64 S.term, .int .i64 k, .string s] 32 39)
  generalize (w.alloc (.cells #[.bool false, .slice none 0 0, .slice none 0 0] 32)).alloc (.cells #[.int .i64 S.term, .int .i64 k, .string s] 39) = w2 at HT ⊢
  have e0 : w2.cell? ⟨w.heap.size + 1, 0, none⟩ = some (.int .i64 S.term) := by rw [blk_cell HT.out.2.2]; rfl
  have e1 : w2.cell? ⟨w.heap.size + 1, 1, none⟩ = some (.int .i64 k) := by rw [blk_cell HT.out.2.2]; rfl
  have e2 : w2.cell? ⟨w.heap.size + 1, 2, none⟩ = some (.string s) := by rw [blk_cell HT.out.2.2]; rfl
  clear c8 c1
  go_upto_region 7 with ((with_reducible refine (HIE.out w2).mono ?_); rintro e w3 ⟨rfl, hb⟩; have HB3 := Lib.hid hb; clear hb)
  have HK3 := Lib.hid (blk_below HT.out.2.1 HB3.out)
  have HW3 := Lib.hid (HT.out.1.trans (HB3.out.mono HT.out.1.size))
  clear e0 e1 e2
  have HV := Lib.hid (voters_calls s w3 hs)
  go_upto_region 8 with ((with_reducible refine HV.out.mono ?_); rintro e w4 ⟨v4, rfl, ho, hb⟩; have HO4 := Lib.hid ho; have HB4 := Lib.hid (HW3.out.trans (hb.mono HW3.out.size)); have HK4 := Lib.hid (blk_below HK3.out hb); clear ho hb)
  have HC4 := Lib.hid (H.out.below HB4.out)
  have HOP := Lib.hid (open_calls HC4.out HCO.out HAT.out)
  go_upto_region 10 with ((with_reducible refine HOP.out.mono ?_); rintro e w5 ⟨rfl, m, hm⟩; have HM := Lib.hid hm; clear hm)
  have hb45 : Below w4.heap.size w4 w5 := by rw [HM.out]; exact pw_below_drewN (Below.refl _ _) m
  have HB5 := Lib.hid (HB4.out.trans (hb45.mono HB4.out.size))
  have HK5 := Lib.hid (blk_below HK4.out hb45)
  have HC5 := Lib.hid (H.out.below HB5.out)
  have HO5 := Lib.hid (Kd.R_below HO4.out hb45)
  have HCV := Lib.hid (cvoters_calls HC5.out)
  clear hb45
  go_upto_region 11 with (first | ((with_reducible refine HCV.out.mono ?_); rintro e w6 ⟨v6, rfl, ho, hb⟩; have HO6 := Lib.hid ho; have HB6 := Lib.hid (HB5.out.trans (hb.mono HB5.out.size)); have HK6 := Lib.hid (blk_below HK5.out hb); have HOS := Lib.hid (isStep_calls n false (Kd.R_below HO5.out hb) ho HST.out); clear ho hb) | ((with_reducible refine HOS.out.mono ?_); rintro e w7 ⟨rfl, hb⟩; have HB7 := Lib.hid (HB6.out.trans (hb.mono HB6.out.size)); have HK7 := Lib.hid (blk_below HK6.out hb); clear hb))
  have z0 : w7.cell? ⟨w.heap.size, 0, none⟩ = some (.bool false) := by rw [blk_cell HK7.out]; rfl
  have z1 : w7.cell? ⟨w.heap.size, 1, none⟩ = some (.slice none 0 0) := by rw [blk_cell HK7.out]; rfl
  have z2 : w7.cell? ⟨w.heap.size, 2, none⟩ = some (.slice none 0 0) := by rw [blk_cell HK7.out]; rfl
  go_wp2_with (refine wpList_store_row rfl 32 (.tmp 6) (.tmp 50) rfl w.heap.size #[.bool false, .slice none 0 0, .slice none 0 0] rfl rfl 32 _ HK7.out inf32 rfl (by simp [Value.oneCell']) ?_)
  (try simp only [Exit.inBlock, Exit.then])
  refine bodyPost_ret (ret_word rfl _ _ w.heap.size 32 _ rfl (setRow_heap _ _ _ _ _ _ HK7.out) inf32) rfl ?_
  exact ⟨rfl, below_row HB7.out (Nat.le_refl _)⟩

set_option maxRecDepth 100000 in
set_option maxHeartbeats 2000000 in
/-- Where there is nothing to forget. -/
theorem compact_arg {w : World} {g : Nat} {S : St} (h : Co w g S) (i : Int) (s : ByteArray) (hi : i ≤ S.bidx ∨ S.told < i) :
    Calls Try.prog 16 #[.pointer (some ⟨g, 0, none⟩), .int .i64 i, .string s] w fun e w' => e = .returned (.tuple #[noWord, .int .i64 1]) ∧ Below w.heap.size w w' := by
  have c3 := h.c3
  have c11 := h.c11
  have hgl := h.lt
  have hbk := blk_new w (.cells #[.bool false, .slice none 0 0, .slice none 0 0] 32)
  have HB1 := Lib.hid ((Below.refl w.heap.size w).alloc (Nat.le_refl _) (.cells #[.bool false, .slice none 0 0, .slice none 0 0] 32))
  have HBK := Lib.hid hbk
  clear h hbk
  by_cases h1 : i ≤ S.bidx
  · have hd : decide (i ≤ S.bidx) = true := decide_eq_true h1
    clear hi h1
    go_enter Try.func16, Try.ntmps16
    go_wp2_with fail
    (try simp only [Exit.inBlock, Exit.then])
    refine bodyPost_ret (ret_word rfl _ _ w.heap.size 32 _ rfl HBK.out inf32) rfl ?_
    exact ⟨rfl, HB1.out⟩
  · have hd : decide (i ≤ S.bidx) = false := decide_eq_false h1
    have hd2 : decide (S.told < i) = true := decide_eq_true (hi.resolve_left h1)
    clear hi h1
    go_enter Try.func16, Try.ntmps16
    go_wp2_with fail
    (try simp only [Exit.inBlock, Exit.then])
    refine bodyPost_ret (ret_word rfl _ _ w.heap.size 32 _ rfl HBK.out inf32) rfl ?_
    exact ⟨rfl, HB1.out⟩

end Go.Proofs.Ytfanbhbpmhojaaa
