/- The reference's Code of a state, by plain lists. Conditions: the numbers' ranges; texts of 2^21 bytes at most, 4096 entries at most. Printed by wip/tools/mkCde.py. -/
import Derived.Test.YtfanbhbpmhojaaaLo3
import Derived.Outline
namespace Go.Proofs.Ytfanbhbpmhojaaa
open Go.RowKit Go.Proofs.YtfanbhbpmhojaaaW.PrintWords Go.Proofs.YtfanbhbpmhojaaaW.PrintLast Go.Proofs.YtfanbhbpmhojaaaW.PrintMore PRef
set_option linter.unusedVariables false
set_option linter.unusedSimpArgs false

/-- Bytes l under way in the value v, all of it made behind w1. -/
structure Bs (w1 wr : World) (v : Value) (l : List Int) : Prop where
  own : OwnB wr w1.heap.size v l
  bel : Below w1.heap.size w1 wr
theorem Bs.below {w1 wr w2 : World} {v : Value} {l : List Int} (h : Bs w1 wr v l) (hb : Below wr.heap.size wr w2) : Bs w1 w2 v l := ⟨h.own.below hb, h.bel.trans (hb.mono h.bel.size)⟩
theorem Bs.old {w1 wr : World} {v : Value} {l : List Int} {g : Nat} {ob : Obj} (h : Bs w1 wr v l) (hg : w1.heap[g]? = some ob) : wr.heap[g]? = some ob := (h.bel.block g (blk_lt hg)).trans hg
theorem Bs.end_ {w w1 wr : World} {v : Value} {l : List Int} (h : Bs w1 wr v l) (hb : Below w.heap.size w w1) : OwnB wr w.heap.size v l ∧ Below w.heap.size w wr := ⟨own_weaken h.own hb.size, hb.trans (h.bel.mono hb.size)⟩
theorem encAll_take_le {α : Type} (f : α → List Int) (l : List α) (B i : Nat) (h : ∀ x ∈ l, (f x).length ≤ B) : (encAll f (l.take i)).length ≤ B * l.length := by
  have h1 := encAll_le f (l.take i) B (fun x hx => h x (List.mem_of_mem_take hx))
  have h2 : (l.take i).length ≤ l.length := List.length_take_le' _ _
  exact Nat.le_trans h1 (Nat.mul_le_mul_left B h2)

set_option maxRecDepth 100000 in
set_option maxHeartbeats 4000000 in
theorem code_calls (w : World) (A : Option Addr) (c : Nat) (x : Sta) (hr : Kd.C k39 w A x.log.length x.log) (hx : StaI x) :
    Calls Try.prog 31 #[.agg #[.int .i64 x.term, .int .i64 x.vote, .int .i64 x.idx, .int .i64 x.past, .string x.vot, .string x.text, .slice A x.log.length c]] w fun e w' => ∃ v, e = .returned v ∧ OwnB w' w.heap.size v (encSta x) ∧ Below w.heap.size w w' := by
  obtain ⟨x0, x1, x2, x3, x4, x5, x6⟩ := x
  obtain ⟨h0, h1, h2, h3, h4, h5, h6, h7⟩ := hx
  dsimp only at h0 h1 h2 h3 h4 h5 h6 h7 hr ⊢
  have hb := (Below.refl w.heap.size w).alloc (Nat.le_refl _) (.cells #[.int .i64 x0, .int .i64 x1, .int .i64 x2, .int .i64 x3, .string x4, .string x5, .slice A x6.length c] 47)
  have HBK := Lib.hid (blk_new w (.cells #[.int .i64 x0, .int .i64 x1, .int .i64 x2, .int .i64 x3, .string x4, .string x5, .slice A x6.length c] 47))
  have HB := Lib.hid hb
  have HR := Lib.hid hr
  have HE := Lib.hid h7
  have HL : Hid (∀ z ∈ [x0, x1, x2, x3], I64 z) := Lib.hid (by simp only [List.mem_cons, List.not_mem_nil, or_false]; rintro z (rfl | rfl | rfl | rfl) <;> assumption)
  have HEL : Hid (∀ z ∈ x6, (encEnt z).length ≤ 2097300) := Lib.hid (fun z hz => by have q := HE.out z hz; exact encEnt_length z q.1 q.2.1 q.2.2)
  clear hb hr h7 h0 h1 h2 h3
  go_enter Try.func31, Try.ntmps31
  go_upto_region 1 with fail
  have hbk1 := HBK.out
  generalize w.alloc (.cells #[.int .i64 x0, .int .i64 x1, .int .i64 x2, .int .i64 x3, .string x4, .string x5, .slice A x6.length c] 47) = w1 at HBK HB hbk1 ⊢
  have hc0 : w1.cell? ⟨w.heap.size, 0, none⟩ = some (.int .i64 x0) := by rw [blk_cell hbk1]; rfl
  have hc1 : w1.cell? ⟨w.heap.size, 1, none⟩ = some (.int .i64 x1) := by rw [blk_cell hbk1]; rfl
  have hc2 : w1.cell? ⟨w.heap.size, 2, none⟩ = some (.int .i64 x2) := by rw [blk_cell hbk1]; rfl
  have hc3 : w1.cell? ⟨w.heap.size, 3, none⟩ = some (.int .i64 x3) := by rw [blk_cell hbk1]; rfl
  clear hbk1
  go_wp2_with fail
  have HK := Lib.hid (blk_new w1 (.cells #[.int .i64 x0, .int .i64 x1, .int .i64 x2, .int .i64 x3] 3))
  have HS3 : Hid (Bs w1 (w1.alloc (.cells #[.int .i64 x0, .int .i64 x1, .int .i64 x2, .int .i64 x3] 3)) (.slice none 0 0) []) := Lib.hid ⟨own_nil _ _ _ _, (Below.refl _ _).alloc (Nat.le_refl _) _⟩
  clear hc0 hc1 hc2 hc3
  generalize w1.alloc (.cells #[.int .i64 x0, .int .i64 x1, .int .i64 x2, .int .i64 x3] 3) = w3 at HK HS3 ⊢
  go_loopw [3, 18] (fun vb vi wr => ∃ (i : Nat) (v : Value), v = vb ∧ vi = .int .i64 i ∧ i ≤ 4 ∧ Hid (Bs w1 wr v ([] ++ encAll encInt ([x0, x1, x2, x3].take i))) ∧ Hid (wr.heap[w1.heap.size]? = some (.cells #[.int .i64 x0, .int .i64 x1, .int .i64 x2, .int .i64 x3] 3 (0, 0)))) (fun _ vi _ => 4 - (intOf vi).toNat)
  case atStart => exact ⟨0, _, rfl, rfl, by omega, Lib.hid (by simpa [encAll] using HS3.out), HK⟩
  case round =>
  obtain ⟨i, v5, rfl, rfl, hi, HS5, HKK⟩ := hrel
  by_cases hlt : i < 4
  · have hcell : wr.cell? ⟨w1.heap.size, i, none⟩ = some (.int .i64 ([x0, x1, x2, x3].getD i 0)) := by
      rw [blk_cell HKK.out]
      have : i = 0 ∨ i = 1 ∨ i = 2 ∨ i = 3 := by omega
      rcases this with rfl | rfl | rfl | rfl <;> rfl
    have hz := HL.out ([x0, x1, x2, x3].getD i 0) (by rw [List.getD_eq_getElem?_getD, List.getElem?_eq_getElem (show i < [x0, x1, x2, x3].length from hlt)]; exact List.getElem_mem _)
    have hle := encAll_take_le encInt [x0, x1, x2, x3] 11 i (fun z hz => encInt_length z (HL.out z hz).1 (HL.out z hz).2)
    have hsn := encAll_snoc encInt [x0, x1, x2, x3] i 0 hlt
    have HSN := Lib.hid hsn
    obtain ⟨l5, hl5⟩ : ∃ l5, l5 = [] ++ encAll encInt ([x0, x1, x2, x3].take i) := ⟨_, rfl⟩
    have hlb : l5.length ≤ 2000 := by rw [hl5]; simp only [List.length_append, List.length_cons, List.length_nil] at hle ⊢; omega
    rw [← hl5] at HS5
    have HL5 := Lib.hid hl5
    clear hsn hl5 hle
    generalize hzz : [x0, x1, x2, x3].getD i 0 = z at hcell hz HSN
    clear hzz
    have hzl := encInt_length z hz.1 hz.2
    go_wp2_with fail
    ((with_reducible refine (rint_calls z _ hz.1 hz.2).mono ?_); rintro e wq5 ⟨vx, rfl, hown, hb⟩)
    obtain ⟨Ax, cx, rfl, hcx, hrx⟩ := OwnB.reads hown
    have HRX := Lib.hid hrx
    have HSq := Lib.hid (HS5.out.below hb)
    have HKKq := Lib.hid (blk_below HKK.out hb)
    clear hown hb hrx hcx
    go_wp2_with ((with_reducible refine gate_builtin (b := .append) (xs := #[.tmp 22, .tmp 24]) rfl ?_); at_builtin; refine print_append_row (w0 := w1) w1.heap.size rfl (.tmp 22) (.tmp 24) 43 5 .u8 1 rfl Try.underlying43 info5 (by decide) v5 l5 (encInt z) _ _ _ rfl rfl HSq.out.own HRX.out HSq.out.bel HSq.out.bel.size ?hl ?_; (case hl => simp only [Nat.mul_one]; omega); intro v6 w6 hown hB hg hat; have HSr : Hid (Bs w1 w6 v6 (l5 ++ (encInt z))) := Lib.hid ⟨hown, hB⟩; have HKKr := Lib.hid (blk_grown HKKq.out hg (own_ne HSq.out.own HKKq.out (by decide))); clear hown hB hg hat)
    go_wp2_with fail
    go_roundw
    case measure => simp [intOf]; omega
    case rel => exact ⟨i + 1, _, rfl, by go_num, by omega, Lib.hid (by have := HSr.out; rw [HSN.out, ← List.append_assoc, ← HL5.out]; exact this), HKKr⟩
  obtain rfl : i = 4 := by omega
  have HS6 : Hid (Bs w1 wr v5 ([] ++ encAll encInt [x0, x1, x2, x3])) := HS5
  clear HS5 HKK HK hlt hi
  generalize wr = w6 at HS6 ⊢
  obtain ⟨l6, hl6⟩ : ∃ l6, l6 = [] ++ encAll encInt [x0, x1, x2, x3] := ⟨_, rfl⟩
  have hlb6 : l6.length ≤ 2000 := by
    rw [hl6, List.nil_append]
    have := encAll_le encInt [x0, x1, x2, x3] 11 (fun z hz => encInt_length z (HL.out z hz).1 (HL.out z hz).2)
    simp only [List.length_cons, List.length_nil] at this
    omega
  rw [← hl6] at HS6
  have HL6 := Lib.hid hl6
  clear hl6 HL
  obtain ⟨v6, hv6⟩ : ∃ v6, v6 = v5 := ⟨_, rfl⟩
  rw [← hv6] at HS6 ⊢
  clear hv6
  have hz4 := encText_length x4 (by omega)
  have hz5 := encText_length x5 (by omega)
  have hzn := encNum_length x6.length (by omega)
  have hc4 : w6.cell? ⟨w.heap.size, 4, none⟩ = some (.string x4) := (by rw [blk_cell (HS6.out.old HBK.out)]; rfl)
  go_wp2_with fail
  ((with_reducible refine (rtext_calls x4 _ (by omega)).mono ?_); rintro e wq6 ⟨vx, rfl, hown, hb⟩)
  obtain ⟨Ax, cx, rfl, hcx, hrx⟩ := OwnB.reads hown
  have HRX := Lib.hid hrx
  have HSq := Lib.hid (HS6.out.below hb)
  clear hown hb hrx hcx
  go_wp2_with ((with_reducible refine gate_builtin (b := .append) (xs := #[.tmp 27, .tmp 30]) rfl ?_); at_builtin; refine print_append_row (w0 := w1) w1.heap.size rfl (.tmp 27) (.tmp 30) 43 5 .u8 1 rfl Try.underlying43 info5 (by decide) v6 l6 (encText x4) _ _ _ rfl rfl HSq.out.own HRX.out HSq.out.bel HSq.out.bel.size ?hl ?_; (case hl => simp only [Nat.mul_one]; omega); intro v7 w7 hown hB hg hat; have HSr : Hid (Bs w1 w7 v7 (l6 ++ (encText x4))) := Lib.hid ⟨hown, hB⟩; have hc5 : w7.cell? ⟨w.heap.size, 5, none⟩ = some (.string x5) := (by rw [blk_cell (HSr.out.old HBK.out)]; rfl); clear hown hB hg hat)
  obtain ⟨l7, hl7⟩ : ∃ l7, l7 = l6 ++ encText x4 := ⟨_, rfl⟩
  have hlb7 : l7.length ≤ 3000000 := by rw [hl7, List.length_append]; omega
  rw [← hl7] at HSr
  have HL7 := Lib.hid hl7
  have HS7 := HSr
  clear hl7 HSr HS6 HSq hc4
  go_wp2_with fail
  ((with_reducible refine (rtext_calls x5 _ (by omega)).mono ?_); rintro e wq7 ⟨vx, rfl, hown, hb⟩)
  obtain ⟨Ax, cx, rfl, hcx, hrx⟩ := OwnB.reads hown
  have HRX := Lib.hid hrx
  have HSq := Lib.hid (HS7.out.below hb)
  clear hown hb hrx hcx
  go_wp2_with ((with_reducible refine gate_builtin (b := .append) (xs := #[.tmp 32, .tmp 35]) rfl ?_); at_builtin; refine print_append_row (w0 := w1) w1.heap.size rfl (.tmp 32) (.tmp 35) 43 5 .u8 1 rfl Try.underlying43 info5 (by decide) v7 l7 (encText x5) _ _ _ rfl rfl HSq.out.own HRX.out HSq.out.bel HSq.out.bel.size ?hl ?_; (case hl => simp only [Nat.mul_one]; omega); intro v8 w8 hown hB hg hat; have HSr : Hid (Bs w1 w8 v8 (l7 ++ (encText x5))) := Lib.hid ⟨hown, hB⟩; have hc6 : w8.cell? ⟨w.heap.size, 6, none⟩ = some (.slice A x6.length c) := (by rw [blk_cell (HSr.out.old HBK.out)]; rfl); clear hown hB hg hat)
  obtain ⟨l8, hl8⟩ : ∃ l8, l8 = l7 ++ encText x5 := ⟨_, rfl⟩
  have hlb8 : l8.length ≤ 6000000 := by rw [hl8, List.length_append]; omega
  rw [← hl8] at HSr
  have HL8 := Lib.hid hl8
  have HS8 := HSr
  clear hl8 HSr HS7 HSq hc5
  have hcv : IntKind.u64.wrap (x6.length : Int) = (x6.length : Int) := by show (x6.length : Int) % 18446744073709551616 = x6.length; omega
  go_wp2_with fail
  ((with_reducible refine (rnum_calls x6.length _ (by omega)).mono ?_); rintro e wq8 ⟨vx, rfl, hown, hb⟩)
  obtain ⟨Ax, cx, rfl, hcx, hrx⟩ := OwnB.reads hown
  have HRX := Lib.hid hrx
  have HSq := Lib.hid (HS8.out.below hb)
  clear hown hb hrx hcx
  go_wp2_with ((with_reducible refine gate_builtin (b := .append) (xs := #[.tmp 37, .tmp 42]) rfl ?_); at_builtin; refine print_append_row (w0 := w1) w1.heap.size rfl (.tmp 37) (.tmp 42) 43 5 .u8 1 rfl Try.underlying43 info5 (by decide) v8 l8 (encNum x6.length) _ _ _ rfl rfl HSq.out.own HRX.out HSq.out.bel HSq.out.bel.size ?hl ?_; (case hl => simp only [Nat.mul_one]; omega); intro v9 w9 hown hB hg hat; have HSr : Hid (Bs w1 w9 v9 (l8 ++ (encNum x6.length))) := Lib.hid ⟨hown, hB⟩; have hc6b : w9.cell? ⟨w.heap.size, 6, none⟩ = some (.slice A x6.length c) := (by rw [blk_cell (HSr.out.old HBK.out)]; rfl); clear hown hB hg hat)
  obtain ⟨l9, hl9⟩ : ∃ l9, l9 = l8 ++ encNum x6.length := ⟨_, rfl⟩
  have hlb9 : l9.length ≤ 7000000 := by rw [hl9, List.length_append]; omega
  rw [← hl9] at HSr
  have HL9 := Lib.hid hl9
  have HS9 := HSr
  clear hl9 HSr HS8 HSq hc6 hc6b
  go_loopw [3, 47] (fun vb vi wr => ∃ (i : Nat) (v : Value), v = vb ∧ vi = .int .i64 i ∧ i ≤ x6.length ∧ Hid (Bs w1 wr v (l9 ++ encAll encEnt (x6.take i)))) (fun _ vi _ => x6.length - (intOf vi).toNat)
  case atStart => exact ⟨0, _, rfl, rfl, by omega, Lib.hid (by simpa [encAll] using HS9.out)⟩
  case round =>
  obtain ⟨i, v20, rfl, rfl, hi, HS20⟩ := hrel
  by_cases hlt : i < x6.length
  · obtain ⟨ad, rfl, ha0, ha1, ha2⟩ := at_T39 (Kd.C_below HR.out (HB.out.trans (HS20.out.bel.mono HB.out.size))) (i : Int) (by omega) (by omega)
    have hrd : rd_T39 x6 (i : Int) = x6.getD i z39 := by unfold rd_T39; rw [Int.toNat_natCast]
    have hmem : x6.getD i z39 ∈ x6 := by rw [List.getD_eq_getElem?_getD, List.getElem?_eq_getElem hlt]; exact List.getElem_mem _
    have hi2 := HE.out _ hmem
    have hle := encAll_take_le encEnt x6 2097300 i HEL.out
    have hsn := encAll_snoc encEnt x6 i z39 hlt
    rw [hrd] at ha0 ha1 ha2
    rw [Int.toNat_natCast] at ha0 ha1 ha2
    obtain ⟨l20, hl20⟩ : ∃ l20, l20 = l9 ++ encAll encEnt (x6.take i) := ⟨_, rfl⟩
    have hlb20 : l20.length ≤ 14000000000 := by rw [hl20, List.length_append]; omega
    rw [← hl20] at HS20
    have HL20 := Lib.hid hl20
    generalize hzz : x6.getD i z39 = z at ha0 ha1 ha2 hi2 hsn
    obtain ⟨p0, p1, p2⟩ := z
    dsimp only at ha0 ha1 ha2 hi2
    obtain ⟨⟨i0a, i0b⟩, ⟨i1a, i1b⟩, i2⟩ := hi2
    have HSN := Lib.hid hsn
    have hz0 := encInt_length p0 i0a i0b
    have hz1 := encInt_length p1 i1a i1b
    have hz2 := encText_length p2 (by omega)
    have e0 : (0 : Int) ≤ (i : Int) := by omega
    have e1 : (i : Int) < (x6.length : Int) := by omega
    have hu39 := Try.underlying39
    clear hsn hl20 hle hrd hmem hzz
    go_upto_region 13 with fail
    have HKR := Lib.hid (blk_new wr (.cells #[.int .i64 p0, .int .i64 p1, .string p2] 39))
    have HS21 := Lib.hid (HS20.out.below ((Below.refl wr.heap.size wr).alloc (Nat.le_refl _) (.cells #[.int .i64 p0, .int .i64 p1, .string p2] 39)))
    clear ha0 ha1 ha2 hu39
    generalize wr.alloc (.cells #[.int .i64 p0, .int .i64 p1, .string p2] 39) = w21 at HKR HS21 ⊢
    obtain ⟨l21, hl21⟩ : ∃ l21, l21 = l20 := ⟨_, rfl⟩
    obtain ⟨v21, hv21⟩ : ∃ v21, v21 = v20 := ⟨_, rfl⟩
    rw [← hl21] at HS21 HL20 hlb20
    rw [← hv21] at HS21 ⊢
    clear hl21 hv21 HS20
    have hca : w21.cell? ⟨wr.heap.size, 0, none⟩ = some (.int .i64 p0) := by rw [blk_cell HKR.out]; rfl
    go_wp2_with fail
    ((with_reducible refine (rint_calls p0 _ i0a i0b).mono ?_); rintro e wq21 ⟨vx, rfl, hown, hb⟩)
    obtain ⟨Ax, cx, rfl, hcx, hrx⟩ := OwnB.reads hown
    have HRX := Lib.hid hrx
    have HSq := Lib.hid (HS21.out.below hb)
    have HKRq := Lib.hid (blk_below HKR.out hb)
    clear hown hb hrx hcx
    go_wp2_with ((with_reducible refine gate_builtin (b := .append) (xs := #[.tmp 51, .tmp 54]) rfl ?_); at_builtin; refine print_append_row (w0 := w1) w1.heap.size rfl (.tmp 51) (.tmp 54) 43 5 .u8 1 rfl Try.underlying43 info5 (by decide) v21 l21 (encInt p0) _ _ _ rfl rfl HSq.out.own HRX.out HSq.out.bel HSq.out.bel.size ?hl ?_; (case hl => simp only [Nat.mul_one]; omega); intro v22 w22 hown hB hg hat; have HSr : Hid (Bs w1 w22 v22 (l21 ++ (encInt p0))) := Lib.hid ⟨hown, hB⟩; have HKRr := Lib.hid (blk_grown HKRq.out hg (own_ne HSq.out.own HKRq.out (by decide))); have hcb : w22.cell? ⟨wr.heap.size, 1, none⟩ = some (.int .i64 p1) := (by rw [blk_cell HKRr.out]; rfl); clear hown hB hg hat)
    obtain ⟨l22, hl22⟩ : ∃ l22, l22 = l21 ++ encInt p0 := ⟨_, rfl⟩
    have hlb22 : l22.length ≤ 14000000100 := by rw [hl22, List.length_append]; omega
    rw [← hl22] at HSr
    have HL22 := Lib.hid hl22
    have HS22 := HSr
    clear hl22 HSr HS21 HSq hca HKR HKRq
    have HKS := HKRr
    clear HKRr
    go_wp2_with fail
    ((with_reducible refine (rint_calls p1 _ i1a i1b).mono ?_); rintro e wq22 ⟨vx, rfl, hown, hb⟩)
    obtain ⟨Ax, cx, rfl, hcx, hrx⟩ := OwnB.reads hown
    have HRX := Lib.hid hrx
    have HSq := Lib.hid (HS22.out.below hb)
    have HKSq := Lib.hid (blk_below HKS.out hb)
    clear hown hb hrx hcx
    go_wp2_with ((with_reducible refine gate_builtin (b := .append) (xs := #[.tmp 56, .tmp 59]) rfl ?_); at_builtin; refine print_append_row (w0 := w1) w1.heap.size rfl (.tmp 56) (.tmp 59) 43 5 .u8 1 rfl Try.underlying43 info5 (by decide) v22 l22 (encInt p1) _ _ _ rfl rfl HSq.out.own HRX.out HSq.out.bel HSq.out.bel.size ?hl ?_; (case hl => simp only [Nat.mul_one]; omega); intro v23 w23 hown hB hg hat; have HSr : Hid (Bs w1 w23 v23 (l22 ++ (encInt p1))) := Lib.hid ⟨hown, hB⟩; have HKSr := Lib.hid (blk_grown HKSq.out hg (own_ne HSq.out.own HKSq.out (by decide))); have hcc : w23.cell? ⟨wr.heap.size, 2, none⟩ = some (.string p2) := (by rw [blk_cell HKSr.out]; rfl); clear hown hB hg hat)
    obtain ⟨l23, hl23⟩ : ∃ l23, l23 = l22 ++ encInt p1 := ⟨_, rfl⟩
    have hlb23 : l23.length ≤ 14000000200 := by rw [hl23, List.length_append]; omega
    rw [← hl23] at HSr
    have HL23 := Lib.hid hl23
    have HS23 := HSr
    clear hl23 HSr HS22 HSq hcb HKS HKSq
    go_wp2_with fail
    ((with_reducible refine (rtext_calls p2 _ (by omega)).mono ?_); rintro e wq23 ⟨vx, rfl, hown, hb⟩)
    obtain ⟨Ax, cx, rfl, hcx, hrx⟩ := OwnB.reads hown
    have HRX := Lib.hid hrx
    have HSq := Lib.hid (HS23.out.below hb)
    clear hown hb hrx hcx
    go_wp2_with ((with_reducible refine gate_builtin (b := .append) (xs := #[.tmp 61, .tmp 64]) rfl ?_); at_builtin; refine print_append_row (w0 := w1) w1.heap.size rfl (.tmp 61) (.tmp 64) 43 5 .u8 1 rfl Try.underlying43 info5 (by decide) v23 l23 (encText p2) _ _ _ rfl rfl HSq.out.own HRX.out HSq.out.bel HSq.out.bel.size ?hl ?_; (case hl => simp only [Nat.mul_one]; omega); intro v24 w24 hown hB hg hat; have HSr : Hid (Bs w1 w24 v24 (l23 ++ (encText p2))) := Lib.hid ⟨hown, hB⟩; clear hown hB hg hat)
    go_wp2_with fail
    go_roundw
    case measure => simp [intOf]; omega
    case rel => exact ⟨i + 1, _, rfl, by go_num, by omega, Lib.hid (by have := HSr.out; rw [HSN.out, ← List.append_assoc, ← HL20.out]; unfold encEnt; rw [← List.append_assoc, ← List.append_assoc, ← HL22.out, ← HL23.out]; exact this)⟩
  obtain rfl : i = x6.length := by omega
  rw [List.take_length] at HS20
  go_wp2_with fail
  go_ret
  have hend := HS20.out.end_ HB.out
  refine ⟨_, rfl, ?_, hend.2⟩
  have hq : l9 ++ encAll encEnt x6 = encSta ⟨x0, x1, x2, x3, x4, x5, x6⟩ := by rw [HL9.out, HL8.out, HL7.out, HL6.out]; rfl
  rw [← hq]
  exact hend.1
end Go.Proofs.Ytfanbhbpmhojaaa
