/- The reference's Lay of commands, of instances, and its Data of mails, by plain lists. Conditions: the kinds' ranges; texts and lists of what may be laid. -/
import Derived.Test.YtneebjlpeekmbaaBack
import Derived.Outline
namespace Go.Proofs.Ytneebjlpeekmbaa
open Go.RowKit Go.Proofs.YtneebjlpeekmbaaW.PrintWords Go.Proofs.YtneebjlpeekmbaaW.PrintLast Go.Proofs.YtneebjlpeekmbaaW.PrintMore PRef
set_option linter.unusedVariables false
set_option linter.unusedSimpArgs false

/-- Bytes l under way in the value v, all of it made behind w1. -/
structure Bs (w1 wr : World) (v : Value) (l : List Int) : Prop where
  own : OwnB wr w1.heap.size v l
  bel : Below w1.heap.size w1 wr
theorem Bs.below {w1 wr w2 : World} {v : Value} {l : List Int} (h : Bs w1 wr v l) (hb : Below wr.heap.size wr w2) : Bs w1 w2 v l := ⟨h.own.below hb, h.bel.trans (hb.mono h.bel.size)⟩
theorem Bs.old {w1 wr : World} {v : Value} {l : List Int} {g : Nat} {ob : Obj} (h : Bs w1 wr v l) (hg : w1.heap[g]? = some ob) : wr.heap[g]? = some ob := (h.bel.block g (blk_lt hg)).trans hg
theorem Bs.end_ {w w1 wr : World} {v : Value} {l : List Int} (h : Bs w1 wr v l) (hb : Below w.heap.size w w1) : OwnB wr w.heap.size v l ∧ Below w.heap.size w wr := ⟨own_weaken h.own hb.size, hb.trans (h.bel.mono hb.size)⟩
theorem encAll_take_le {α : Type} (f : α → List Int) (l : List α) (B i : Nat) (h : ∀ x ∈ l, (f x).length ≤ B) : (encAll f (l.take i)).length ≤ B * l.length := by
  have h1 := encAll_le f (l.take i) B (fun x hx => h x (List.mem_of_mem_take hx))
  have h2 : (l.take i).length ≤ l.length := List.length_take_le' _ _
  exact Nat.le_trans h1 (Nat.mul_le_mul_left B h2)

set_option maxRecDepth 100000 in
set_option maxHeartbeats 4000000 in
theorem lay5_calls (w : World) (A : Option Addr) (c : Nat) (x : Cmd) (hr : InC w A c x.data) (hx : CmdR x) :
    Calls Try.prog 75 #[.agg #[.int .i64 x.op, .int .i64 x.client, .int .i64 x.seq, .int .i64 x.cfrom, .int .i64 x.cto, .slice A x.data.length c]] w fun e w' => ∃ v, e = .returned v ∧ OwnB w' w.heap.size v (encCmd x) ∧ Below w.heap.size w w' := by
  obtain ⟨x0, x1, x2, x3, x4, x5⟩ := x
  obtain ⟨h0, h1, h2, h3, h4, h5⟩ := hx
  dsimp only at h0 h1 h2 h3 h4 h5 hr ⊢
  have hb := (Below.refl w.heap.size w).alloc (Nat.le_refl _) (.cells #[.int .i64 x0, .int .i64 x1, .int .i64 x2, .int .i64 x3, .int .i64 x4, .slice A x5.length c] 28)
  have HBK := Lib.hid (blk_new w (.cells #[.int .i64 x0, .int .i64 x1, .int .i64 x2, .int .i64 x3, .int .i64 x4, .slice A x5.length c] 28))
  have HB := Lib.hid hb
  have HR := Lib.hid hr
  have hwr : IntKind.u8.wrap x0 = x0 := by show x0 % 256 = x0; omega
  have HT : Hid (∀ z ∈ x5, (encText z).length ≤ 1048586) := Lib.hid (fun z hz => by
    have := h5.2 z hz
    unfold encText
    rw [List.length_append, bytesOf_length]
    have := encNum_length z.size (by omega)
    omega)
  have HTS := Lib.hid h5.2
  have hn5 := h5.1
  have hcd : (w.alloc (.cells #[.int .i64 x0, .int .i64 x1, .int .i64 x2, .int .i64 x3, .int .i64 x4, .slice A x5.length c] 28)).cell? ⟨w.heap.size, 0, none⟩ = some (.int .i64 x0) := by rw [blk_cell HBK.out]; rfl
  clear hb hr h5
  go_enter Try.func75, Try.ntmps75
  go_upto_region 1 with fail
  generalize w.alloc (.cells #[.int .i64 x0, .int .i64 x1, .int .i64 x2, .int .i64 x3, .int .i64 x4, .slice A x5.length c] 28) = w1 at HBK HB hcd ⊢
  go_upto_region 2 with fail
  have HS2 : Hid (Bs w1 (w1.alloc (.cells #[.int .u8 x0] 5)) (.slice (some ⟨w1.heap.size, 0, none⟩) 1 1) [x0]) := Lib.hid ⟨own_lit w1 w1.heap.size 5 .u8 [x0] (Nat.le_refl _) (by simp), (Below.refl _ _).alloc (Nat.le_refl _) _⟩
  clear hcd hwr
  generalize w1.alloc (.cells #[.int .u8 x0] 5) = w2 at HS2 ⊢
  have hbk2 := HS2.out.old HBK.out
  have hc1 : w2.cell? ⟨w.heap.size, 1, none⟩ = some (.int .i64 x1) := by rw [blk_cell hbk2]; rfl
  have hc2 : w2.cell? ⟨w.heap.size, 2, none⟩ = some (.int .i64 x2) := by rw [blk_cell hbk2]; rfl
  have hc3 : w2.cell? ⟨w.heap.size, 3, none⟩ = some (.int .i64 x3) := by rw [blk_cell hbk2]; rfl
  have hc4 : w2.cell? ⟨w.heap.size, 4, none⟩ = some (.int .i64 x4) := by rw [blk_cell hbk2]; rfl
  clear hbk2
  go_wp2_with fail
  have HK := Lib.hid (blk_new w2 (.cells #[.int .i64 x1, .int .i64 x2, .int .i64 x3, .int .i64 x4] 3))
  have HS3 := Lib.hid (HS2.out.below ((Below.refl w2.heap.size w2).alloc (Nat.le_refl _) (.cells #[.int .i64 x1, .int .i64 x2, .int .i64 x3, .int .i64 x4] 3)))
  have HL : Hid (∀ z ∈ [x1, x2, x3, x4], I64 z) := Lib.hid (by simp only [List.mem_cons, List.not_mem_nil, or_false]; rintro z (rfl | rfl | rfl | rfl) <;> assumption)
  clear HS2 hc1 hc2 hc3 hc4
  generalize w2.alloc (.cells #[.int .i64 x1, .int .i64 x2, .int .i64 x3, .int .i64 x4] 3) = w3 at HK HS3 ⊢
  go_loopw [3, 22] (fun vb vi wr => ∃ (i : Nat) (v : Value), v = vb ∧ vi = .int .i64 i ∧ i ≤ 4 ∧ Hid (Bs w1 wr v ([x0] ++ encAll encInt ([x1, x2, x3, x4].take i))) ∧ Hid (wr.heap[w2.heap.size]? = some (.cells #[.int .i64 x1, .int .i64 x2, .int .i64 x3, .int .i64 x4] 3 (0, 0)))) (fun _ vi _ => 4 - (intOf vi).toNat)
  case atStart => exact ⟨0, _, rfl, rfl, by omega, Lib.hid (by simpa [encAll] using HS3.out), HK⟩
  case round =>
  obtain ⟨i, v5, rfl, rfl, hi, HS5, HKK⟩ := hrel
  by_cases hlt : i < 4
  · have hcell : wr.cell? ⟨w2.heap.size, i, none⟩ = some (.int .i64 ([x1, x2, x3, x4].getD i 0)) := by rw [blk_cell HKK.out]; exact ints_get [x1, x2, x3, x4] _ rfl i hlt
    have hz := HL.out ([x1, x2, x3, x4].getD i 0) (by rw [List.getD_eq_getElem?_getD, List.getElem?_eq_getElem (show i < [x1, x2, x3, x4].length from hlt)]; exact List.getElem_mem _)
    have hle := encAll_take_le encInt [x1, x2, x3, x4] 11 i (fun z hz => encInt_length z (HL.out z hz).1 (HL.out z hz).2)
    have hsn := encAll_snoc encInt [x1, x2, x3, x4] i 0 hlt
    have HSN := Lib.hid hsn
    obtain ⟨l5, hl5⟩ : ∃ l5, l5 = [x0] ++ encAll encInt ([x1, x2, x3, x4].take i) := ⟨_, rfl⟩
    have hlb : l5.length ≤ 2000 := by rw [hl5]; simp only [List.length_append, List.length_cons, List.length_nil] at hle ⊢; omega
    rw [← hl5] at HS5
    have HL5 := Lib.hid hl5
    clear hsn hl5 hle
    generalize hzz : [x1, x2, x3, x4].getD i 0 = z at hcell hz HSN
    clear hzz
    have hzl := encInt_length z hz.1 hz.2
    go_wp2_with fail
    ((with_reducible refine (rint_calls z _ hz.1 hz.2).mono ?_); rintro e wq5 ⟨vx, rfl, hown, hb⟩)
    obtain ⟨Ax, cx, rfl, hcx, hrx⟩ := OwnB.reads hown
    have HRX := Lib.hid hrx
    have HSq := Lib.hid (HS5.out.below hb)
    have HKKq := Lib.hid (blk_below HKK.out hb)
    clear hown hb hrx hcx
    go_wp2_with ((with_reducible refine gate_builtin (b := .append) (xs := #[.tmp 26, .tmp 28]) rfl ?_); at_builtin; refine print_append_row (w0 := w1) w1.heap.size rfl (.tmp 26) (.tmp 28) 37 5 .u8 1 rfl Try.underlying37 info5 (by decide) v5 l5 (encInt z) _ _ _ rfl rfl HSq.out.own HRX.out HSq.out.bel HSq.out.bel.size ?hl ?_; (case hl => simp only [Nat.mul_one]; omega); intro v6 w6 hown hB hg hat; have HSr : Hid (Bs w1 w6 v6 (l5 ++ (encInt z))) := Lib.hid ⟨hown, hB⟩; have HKKr := Lib.hid (blk_grown HKKq.out hg (own_ne HSq.out.own HKKq.out (by decide))); clear hown hB hg hat)
    go_wp2_with fail
    go_roundw
    case measure => simp [intOf]; omega
    case rel => exact ⟨i + 1, _, rfl, by go_num, by omega, Lib.hid (by have := HSr.out; rw [HSN.out, ← List.append_assoc, ← HL5.out]; exact this), HKKr⟩
  obtain rfl : i = 4 := by omega
  have HS6 : Hid (Bs w1 wr v5 ([x0] ++ encAll encInt [x1, x2, x3, x4])) := HS5
  clear HS5 HKK HK HL hlt hi
  generalize wr = w6 at HS6 ⊢
  obtain ⟨l6, hl6⟩ : ∃ l6, l6 = [x0] ++ encAll encInt [x1, x2, x3, x4] := ⟨_, rfl⟩
  have hlb6 : l6.length ≤ 2000 := by
    rw [hl6]
    have := encAll_le encInt [x1, x2, x3, x4] 11 (by simp only [List.mem_cons, List.not_mem_nil, or_false]; rintro z (rfl | rfl | rfl | rfl); exact encInt_length _ h1.1 h1.2; exact encInt_length _ h2.1 h2.2; exact encInt_length _ h3.1 h3.2; exact encInt_length _ h4.1 h4.2)
    simp only [List.length_append, List.length_cons, List.length_nil] at this ⊢
    omega
  rw [← hl6] at HS6
  have HL6 := Lib.hid hl6
  clear hl6
  obtain ⟨v6, hv6⟩ : ∃ v6, v6 = v5 := ⟨_, rfl⟩
  rw [← hv6] at HS6 ⊢
  clear hv6
  have hbk6 := HS6.out.old HBK.out
  have hc5 : w6.cell? ⟨w.heap.size, 5, none⟩ = some (.slice A x5.length c) := by rw [blk_cell hbk6]; rfl
  have hnl := encNum_length x5.length (by omega)
  clear hbk6
  go_wp2_with fail
  ((with_reducible refine (rnum_calls x5.length _ (by omega)).mono ?_); rintro e wq6 ⟨vx, rfl, hown, hb⟩)
  obtain ⟨Ax, cx, rfl, hcx, hrx⟩ := OwnB.reads hown
  have HRX := Lib.hid hrx
  have HSq := Lib.hid (HS6.out.below hb)
  clear hown hb hrx hcx
  go_wp2_with ((with_reducible refine gate_builtin (b := .append) (xs := #[.tmp 31, .tmp 36]) rfl ?_); at_builtin; refine print_append_row (w0 := w1) w1.heap.size rfl (.tmp 31) (.tmp 36) 37 5 .u8 1 rfl Try.underlying37 info5 (by decide) v6 l6 (encNum x5.length) _ _ _ rfl rfl HSq.out.own HRX.out HSq.out.bel HSq.out.bel.size ?hl ?_; (case hl => simp only [Nat.mul_one]; omega); intro v7 w7 hown hB hg hat; have HSr : Hid (Bs w1 w7 v7 (l6 ++ (encNum x5.length))) := Lib.hid ⟨hown, hB⟩; have hc7 : w7.cell? ⟨w.heap.size, 5, none⟩ = some (.slice A x5.length c) := (by rw [blk_cell (HSr.out.old HBK.out)]; rfl); clear hown hB hg hat)
  obtain ⟨l7, hl7⟩ : ∃ l7, l7 = l6 ++ encNum x5.length := ⟨_, rfl⟩
  have hlb7 : l7.length ≤ 3000 := by rw [hl7, List.length_append]; omega
  rw [← hl7] at HSr
  have HL7 := Lib.hid hl7
  have HS7 := HSr
  clear hl7 HSr HSq HS6 hc5 hc7
  go_loopw [3, 41] (fun vb vi wr => ∃ (i : Nat) (v : Value), v = vb ∧ vi = .int .i64 i ∧ i ≤ x5.length ∧ Hid (Bs w1 wr v (l7 ++ encAll encText (x5.take i)))) (fun _ vi _ => x5.length - (intOf vi).toNat)
  case atStart => exact ⟨0, _, rfl, rfl, by omega, Lib.hid (by simpa [encAll] using HS7.out)⟩
  case round =>
  obtain ⟨i, v8, rfl, rfl, hi, HS8⟩ := hrel
  by_cases hlt : i < x5.length
  · obtain ⟨ad, rfl, ha⟩ := Kd.at_string (Kd.C_below HR.out.1 (HB.out.trans (HS8.out.bel.mono HB.out.size))) (i : Int) (by omega) (by omega)
    have hrd : rdOf ByteArray.empty x5 (i : Int) = x5.getD i ByteArray.empty := by unfold rdOf; rw [Int.toNat_natCast]
    rw [hrd, Int.toNat_natCast] at ha
    have hmem : x5.getD i ByteArray.empty ∈ x5 := by rw [List.getD_eq_getElem?_getD, List.getElem?_eq_getElem hlt]; exact List.getElem_mem _
    have hzt := HT.out _ hmem
    have hzs := HTS.out _ hmem
    have hle := encAll_take_le encText x5 1048586 i HT.out
    have hsn := encAll_snoc encText x5 i ByteArray.empty hlt
    have HSN := Lib.hid hsn
    obtain ⟨l8, hl8⟩ : ∃ l8, l8 = l7 ++ encAll encText (x5.take i) := ⟨_, rfl⟩
    have hlb : l8.length ≤ 5000000000 := by rw [hl8, List.length_append]; omega
    rw [← hl8] at HS8
    have HL8 := Lib.hid hl8
    have q0 : (0 : Int) ≤ (i : Int) := by omega
    have q1 : (i : Int) < (x5.length : Int) := by omega
    clear hsn hl8 hle hrd hmem
    generalize hzz : x5.getD i ByteArray.empty = z at ha hzt hzs HSN
    clear hzz
    go_wp2_with fail
    ((with_reducible refine (rtext_calls z _ (by omega)).mono ?_); rintro e wq8 ⟨vx, rfl, hown, hb⟩)
    obtain ⟨Ax, cx, rfl, hcx, hrx⟩ := OwnB.reads hown
    have HRX := Lib.hid hrx
    have HSq := Lib.hid (HS8.out.below hb)
    clear hown hb hrx hcx
    go_wp2_with ((with_reducible refine gate_builtin (b := .append) (xs := #[.tmp 45, .tmp 47]) rfl ?_); at_builtin; refine print_append_row (w0 := w1) w1.heap.size rfl (.tmp 45) (.tmp 47) 37 5 .u8 1 rfl Try.underlying37 info5 (by decide) v8 l8 (encText z) _ _ _ rfl rfl HSq.out.own HRX.out HSq.out.bel HSq.out.bel.size ?hl ?_; (case hl => simp only [Nat.mul_one]; omega); intro v9 w9 hown hB hg hat; have HSr : Hid (Bs w1 w9 v9 (l8 ++ (encText z))) := Lib.hid ⟨hown, hB⟩; clear hown hB hg hat)
    go_wp2_with fail
    go_roundw
    case measure => simp [intOf]; omega
    case rel => exact ⟨i + 1, _, rfl, by go_num, by omega, Lib.hid (by have := HSr.out; rw [HSN.out, ← List.append_assoc, ← HL8.out]; exact this)⟩
  obtain rfl : i = x5.length := by omega
  rw [List.take_length] at HS8
  go_wp2_with fail
  go_ret
  obtain ⟨q1, q2⟩ := HS8.out.end_ HB.out
  refine ⟨_, rfl, ?_, q2⟩
  have e : encCmd ⟨x0, x1, x2, x3, x4, x5⟩ = l7 ++ encAll encText x5 := by
    rw [HL7.out, HL6.out]
    unfold encCmd
    simp only [List.cons_append, List.nil_append, List.append_assoc]
  rw [e]
  exact q1

theorem lit_reads (W : World) (z : Int) : ReadsInt (W.alloc (.cells #[.int .u8 z] 5)) .u8 (some ⟨W.heap.size, 0, none⟩) 1 [z] := by
  obtain ⟨A, c, hv, hr⟩ := own_reads (own_lit W 0 5 .u8 [z] (Nat.zero_le _) (by simp))
  injection hv with h1 h2 h3
  rw [h1]; exact hr
theorem cmdOk_of (x : Cmd) (h : CmdR x) : CmdOk x := ⟨h.op, h.client, h.seq, h.cfrom, h.cto, by have := h.data.1; omega, fun s hs => by have := h.data.2 s hs; omega⟩
set_option maxRecDepth 100000 in
set_option maxHeartbeats 4000000 in
theorem lay7_calls (w : World) (A1 A2 : Option Addr) (c1 c2 : Nat) (x : Inst) (hr1 : InC w A1 c1 x.cmd.data) (hr2 : InR w A2 c2 x.deps) (hx : InstR x) :
    Calls Try.prog 44 #[.agg #[.int .i64 x.lead, .int .i64 x.index, .int .i64 x.bn, .int .i64 x.bnode, .int .i64 x.vn, .int .i64 x.vnode, .int .i64 x.status, .bool x.same, .int .i64 x.cmd.op, .int .i64 x.cmd.client, .int .i64 x.cmd.seq, .int .i64 x.cmd.cfrom, .int .i64 x.cmd.cto, .slice A1 x.cmd.data.length c1, .int .i64 x.iseq, .slice A2 x.deps.length c2]] w fun e w' => ∃ v, e = .returned v ∧ OwnB w' w.heap.size v (encInst x) ∧ Below w.heap.size w w' := by
  have hcl := encCmd_length x.cmd (cmdOk_of _ hx.cmd)
  have hcd := hx.cmd.data.1
  obtain ⟨x0, x1, x2, x3, x4, x5, x6, x7, x8, x9, x10⟩ := x
  obtain ⟨q0, q1, q2, q3, q4, q5⟩ := x8
  obtain ⟨h0, h8, h9, h10⟩ := hx
  dsimp only at h0 h8 h9 h10 hr1 hr2 hcl hcd ⊢
  have hcl2 : (encCmd ⟨q0, q1, q2, q3, q4, q5⟩).length ≤ 8700000000 := by omega
  have H8 := Lib.hid h8
  have HD := Lib.hid h10.2
  have hdn := h10.1
  have h9a := h9.1
  have h9b := h9.2
  have HL : Hid (∀ z ∈ [x0, x1, x2, x3, x4, x5, x6], I64 z) := Lib.hid h0
  have hb := (Below.refl w.heap.size w).alloc (Nat.le_refl _) (.cells #[.int .i64 x0, .int .i64 x1, .int .i64 x2, .int .i64 x3, .int .i64 x4, .int .i64 x5, .int .i64 x6, .bool x7, .int .i64 q0, .int .i64 q1, .int .i64 q2, .int .i64 q3, .int .i64 q4, .slice A1 q5.length c1, .int .i64 x9, .slice A2 x10.length c2] 31)
  have HBK := Lib.hid (blk_new w (.cells #[.int .i64 x0, .int .i64 x1, .int .i64 x2, .int .i64 x3, .int .i64 x4, .int .i64 x5, .int .i64 x6, .bool x7, .int .i64 q0, .int .i64 q1, .int .i64 q2, .int .i64 q3, .int .i64 q4, .slice A1 q5.length c1, .int .i64 x9, .slice A2 x10.length c2] 31))
  have HB := Lib.hid hb
  have HR1 := Lib.hid hr1
  have HR2 := Lib.hid hr2
  obtain ⟨bz, hbz⟩ : ∃ bz : Int, bz = if x7 = true then 1 else 0 := ⟨_, rfl⟩
  have HZ := Lib.hid hbz
  clear hb hr1 hr2 h8 h0 h9 h10 hcl hbz
  cases x7
  case' true => have HBZ : Hid (bz = 1) := Lib.hid (by rw [HZ.out]; rfl)
  case' false => have HBZ : Hid (bz = 0) := Lib.hid (by rw [HZ.out]; rfl)
  all_goals
    go_enter Try.func44, Try.ntmps44
    go_upto_region 1 with fail
    have hbk1 := HBK.out
    generalize w.alloc (.cells _ 31) = w1 at HBK HB hbk1 ⊢
    have hc0 : w1.cell? ⟨w.heap.size, 0, none⟩ = some (.int .i64 x0) := by rw [blk_cell hbk1]; rfl
    have hc1 : w1.cell? ⟨w.heap.size, 1, none⟩ = some (.int .i64 x1) := by rw [blk_cell hbk1]; rfl
    have hc2 : w1.cell? ⟨w.heap.size, 2, none⟩ = some (.int .i64 x2) := by rw [blk_cell hbk1]; rfl
    have hc3 : w1.cell? ⟨w.heap.size, 3, none⟩ = some (.int .i64 x3) := by rw [blk_cell hbk1]; rfl
    have hc4 : w1.cell? ⟨w.heap.size, 4, none⟩ = some (.int .i64 x4) := by rw [blk_cell hbk1]; rfl
    have hc5 : w1.cell? ⟨w.heap.size, 5, none⟩ = some (.int .i64 x5) := by rw [blk_cell hbk1]; rfl
    have hc6 : w1.cell? ⟨w.heap.size, 6, none⟩ = some (.int .i64 x6) := by rw [blk_cell hbk1]; rfl
    clear hbk1
    go_wp2_with fail
    have HK := Lib.hid (blk_new w1 (.cells #[.int .i64 x0, .int .i64 x1, .int .i64 x2, .int .i64 x3, .int .i64 x4, .int .i64 x5, .int .i64 x6] 3))
    have HS3 : Hid (Bs w1 (w1.alloc (.cells #[.int .i64 x0, .int .i64 x1, .int .i64 x2, .int .i64 x3, .int .i64 x4, .int .i64 x5, .int .i64 x6] 3)) (.slice none 0 0) []) := Lib.hid ⟨own_nil _ _ _ _, (Below.refl _ _).alloc (Nat.le_refl _) _⟩
    clear hc0 hc1 hc2 hc3 hc4 hc5 hc6
    generalize w1.alloc (.cells #[.int .i64 x0, .int .i64 x1, .int .i64 x2, .int .i64 x3, .int .i64 x4, .int .i64 x5, .int .i64 x6] 3) = w3 at HK HS3 ⊢
    go_loopw [3, 30] (fun vb vi wr => ∃ (i : Nat) (v : Value), v = vb ∧ vi = .int .i64 i ∧ i ≤ 7 ∧ Hid (Bs w1 wr v ([] ++ encAll encInt ([x0, x1, x2, x3, x4, x5, x6].take i))) ∧ Hid (wr.heap[w1.heap.size]? = some (.cells #[.int .i64 x0, .int .i64 x1, .int .i64 x2, .int .i64 x3, .int .i64 x4, .int .i64 x5, .int .i64 x6] 3 (0, 0)))) (fun _ vi _ => 7 - (intOf vi).toNat)
    case atStart => exact ⟨0, _, rfl, rfl, by omega, Lib.hid (by simpa [encAll] using HS3.out), HK⟩
    case round =>
    obtain ⟨i, v5, rfl, rfl, hi, HS5, HKK⟩ := hrel
    by_cases hlt : i < 7
    · have hcell : wr.cell? ⟨w1.heap.size, i, none⟩ = some (.int .i64 ([x0, x1, x2, x3, x4, x5, x6].getD i 0)) := by rw [blk_cell HKK.out]; exact ints_get [x0, x1, x2, x3, x4, x5, x6] _ rfl i hlt
      have hz := HL.out ([x0, x1, x2, x3, x4, x5, x6].getD i 0) (by rw [List.getD_eq_getElem?_getD, List.getElem?_eq_getElem (show i < [x0, x1, x2, x3, x4, x5, x6].length from hlt)]; exact List.getElem_mem _)
      have hle := encAll_take_le encInt [x0, x1, x2, x3, x4, x5, x6] 11 i (fun z hz => encInt_length z (HL.out z hz).1 (HL.out z hz).2)
      have hsn := encAll_snoc encInt [x0, x1, x2, x3, x4, x5, x6] i 0 hlt
      have HSN := Lib.hid hsn
      obtain ⟨l5, hl5⟩ : ∃ l5, l5 = [] ++ encAll encInt ([x0, x1, x2, x3, x4, x5, x6].take i) := ⟨_, rfl⟩
      have hlb : l5.length ≤ 2000 := by rw [hl5]; simp only [List.length_append, List.length_cons, List.length_nil] at hle ⊢; omega
      rw [← hl5] at HS5
      have HL5 := Lib.hid hl5
      clear hsn hl5 hle
      generalize hzz : [x0, x1, x2, x3, x4, x5, x6].getD i 0 = z at hcell hz HSN
      clear hzz
      have hzl := encInt_length z hz.1 hz.2
      go_wp2_with fail
      ((with_reducible refine (rint_calls z _ hz.1 hz.2).mono ?_); rintro e wq5 ⟨vx, rfl, hown, hb⟩)
      obtain ⟨Ax, cx, rfl, hcx, hrx⟩ := OwnB.reads hown
      have HRX := Lib.hid hrx
      have HSq := Lib.hid (HS5.out.below hb)
      have HKKq := Lib.hid (blk_below HKK.out hb)
      clear hown hb hrx hcx
      go_wp2_with ((with_reducible refine gate_builtin (b := .append) (xs := #[.tmp 34, .tmp 36]) rfl ?_); at_builtin; refine print_append_row (w0 := w1) w1.heap.size rfl (.tmp 34) (.tmp 36) 37 5 .u8 1 rfl Try.underlying37 info5 (by decide) v5 l5 (encInt z) _ _ _ rfl rfl HSq.out.own HRX.out HSq.out.bel HSq.out.bel.size ?hl ?_; (case hl => simp only [Nat.mul_one]; omega); intro v6 w6 hown hB hg hat; have HSr : Hid (Bs w1 w6 v6 (l5 ++ (encInt z))) := Lib.hid ⟨hown, hB⟩; have HKKr := Lib.hid (blk_grown HKKq.out hg (own_ne HSq.out.own HKKq.out (by decide))); clear hown hB hg hat)
      go_wp2_with fail
      go_roundw
      case measure => simp [intOf]; omega
      case rel => exact ⟨i + 1, _, rfl, by go_num, by omega, Lib.hid (by have := HSr.out; rw [HSN.out, ← List.append_assoc, ← HL5.out]; exact this), HKKr⟩
    obtain rfl : i = 7 := by omega
    have HS6 : Hid (Bs w1 wr v5 ([] ++ encAll encInt [x0, x1, x2, x3, x4, x5, x6])) := HS5
    clear HS5 HKK HK hlt hi
    generalize wr = w6 at HS6 ⊢
    obtain ⟨l6, hl6⟩ : ∃ l6, l6 = [] ++ encAll encInt [x0, x1, x2, x3, x4, x5, x6] := ⟨_, rfl⟩
    have hlb6 : l6.length ≤ 2000 := by
      rw [hl6, List.nil_append]
      have := encAll_le encInt [x0, x1, x2, x3, x4, x5, x6] 11 (fun z hz => encInt_length z (HL.out z hz).1 (HL.out z hz).2)
      simp only [List.length_cons, List.length_nil] at this
      omega
    rw [← hl6] at HS6
    have HL6 := Lib.hid hl6
    clear hl6
    obtain ⟨v6, hv6⟩ : ∃ v6, v6 = v5 := ⟨_, rfl⟩
    rw [← hv6] at HS6 ⊢
    clear hv6
    have hc7 := blk_cell (HS6.out.old HBK.out) 7
    change w6.cell? _ = some (Value.bool _) at hc7
    go_wp2_with (first | ((with_reducible refine gate_builtin (b := .append) (xs := #[.tmp 41, .tmp 42]) rfl ?_); at_builtin; refine print_append_row (w0 := w1) w1.heap.size rfl (.tmp 41) (.tmp 42) 37 5 .u8 1 rfl Try.underlying37 info5 (by decide) v6 l6 [1] (some ⟨w6.heap.size, 0, none⟩) 1 1 rfl rfl (HS6.out.own.below ((Below.refl _ _).alloc (Nat.le_refl _) _)) (lit_reads w6 1) (HS6.out.bel.alloc HS6.out.bel.size _) (by simp; exact Nat.le_succ_of_le HS6.out.bel.size) ?hl ?_; (case hl => simp only [Nat.mul_one]; omega); intro v7 w7 hown hB hg hat; have HSr : Hid (Bs w1 w7 v7 (l6 ++ [bz])) := Lib.hid (by rw [HBZ.out]; exact ⟨hown, hB⟩); have hc8 : w7.cell? ⟨w.heap.size, 8, none⟩ = some (.int .i64 q0) := (by rw [blk_cell (HSr.out.old HBK.out)]; rfl); have hc9 : w7.cell? ⟨w.heap.size, 9, none⟩ = some (.int .i64 q1) := (by rw [blk_cell (HSr.out.old HBK.out)]; rfl); have hc10 : w7.cell? ⟨w.heap.size, 10, none⟩ = some (.int .i64 q2) := (by rw [blk_cell (HSr.out.old HBK.out)]; rfl); have hc11 : w7.cell? ⟨w.heap.size, 11, none⟩ = some (.int .i64 q3) := (by rw [blk_cell (HSr.out.old HBK.out)]; rfl); have hc12 : w7.cell? ⟨w.heap.size, 12, none⟩ = some (.int .i64 q4) := (by rw [blk_cell (HSr.out.old HBK.out)]; rfl); have hc13 : w7.cell? ⟨w.heap.size, 13, none⟩ = some (.slice A1 q5.length c1) := (by rw [blk_cell (HSr.out.old HBK.out)]; rfl); clear hown hB hg hat) | ((with_reducible refine gate_builtin (b := .append) (xs := #[.tmp 44, .tmp 45]) rfl ?_); at_builtin; refine print_append_row (w0 := w1) w1.heap.size rfl (.tmp 44) (.tmp 45) 37 5 .u8 1 rfl Try.underlying37 info5 (by decide) v6 l6 [0] (some ⟨w6.heap.size, 0, none⟩) 1 1 rfl rfl (HS6.out.own.below ((Below.refl _ _).alloc (Nat.le_refl _) _)) (lit_reads w6 0) (HS6.out.bel.alloc HS6.out.bel.size _) (by simp; exact Nat.le_succ_of_le HS6.out.bel.size) ?hl ?_; (case hl => simp only [Nat.mul_one]; omega); intro v7 w7 hown hB hg hat; have HSr : Hid (Bs w1 w7 v7 (l6 ++ [bz])) := Lib.hid (by rw [HBZ.out]; exact ⟨hown, hB⟩); have hc8 : w7.cell? ⟨w.heap.size, 8, none⟩ = some (.int .i64 q0) := (by rw [blk_cell (HSr.out.old HBK.out)]; rfl); have hc9 : w7.cell? ⟨w.heap.size, 9, none⟩ = some (.int .i64 q1) := (by rw [blk_cell (HSr.out.old HBK.out)]; rfl); have hc10 : w7.cell? ⟨w.heap.size, 10, none⟩ = some (.int .i64 q2) := (by rw [blk_cell (HSr.out.old HBK.out)]; rfl); have hc11 : w7.cell? ⟨w.heap.size, 11, none⟩ = some (.int .i64 q3) := (by rw [blk_cell (HSr.out.old HBK.out)]; rfl); have hc12 : w7.cell? ⟨w.heap.size, 12, none⟩ = some (.int .i64 q4) := (by rw [blk_cell (HSr.out.old HBK.out)]; rfl); have hc13 : w7.cell? ⟨w.heap.size, 13, none⟩ = some (.slice A1 q5.length c1) := (by rw [blk_cell (HSr.out.old HBK.out)]; rfl); clear hown hB hg hat))
    obtain ⟨l7, hl7⟩ : ∃ l7, l7 = l6 ++ [bz] := ⟨_, rfl⟩
    have hlb7 : l7.length ≤ 2001 := by rw [hl7, List.length_append, List.length_singleton]; omega
    rw [← hl7] at HSr
    have HL7 := Lib.hid hl7
    have HS7 := HSr
    clear hl7 HSr HS6 hc7
    go_wp2_with fail
    ((with_reducible refine (lay5_calls _ A1 c1 ⟨q0, q1, q2, q3, q4, q5⟩ ⟨Kd.C_below HR1.out.1 (HB.out.trans (HS7.out.bel.mono HB.out.size)), HR1.out.2⟩ H8.out).mono ?_); rintro e wq7 ⟨vx, rfl, hown, hb⟩)
    obtain ⟨Ax, cx, rfl, hcx, hrx⟩ := OwnB.reads hown
    have HRX := Lib.hid hrx
    have HSq := Lib.hid (HS7.out.below hb)
    clear hown hb hrx hcx
    go_wp2_with ((with_reducible refine gate_builtin (b := .append) (xs := #[.tmp 47, .tmp 50]) rfl ?_); at_builtin; refine print_append_row (w0 := w1) w1.heap.size rfl (.tmp 47) (.tmp 50) 37 5 .u8 1 rfl Try.underlying37 info5 (by decide) v7 l7 (encCmd ⟨q0, q1, q2, q3, q4, q5⟩) _ _ _ rfl rfl HSq.out.own HRX.out HSq.out.bel HSq.out.bel.size ?hl ?_; (case hl => simp only [Nat.mul_one]; omega); intro v8 w8 hown hB hg hat; have HSr : Hid (Bs w1 w8 v8 (l7 ++ (encCmd ⟨q0, q1, q2, q3, q4, q5⟩))) := Lib.hid ⟨hown, hB⟩; have hc14 : w8.cell? ⟨w.heap.size, 14, none⟩ = some (.int .i64 x9) := (by rw [blk_cell (HSr.out.old HBK.out)]; rfl); clear hown hB hg hat)
    obtain ⟨l8, hl8⟩ : ∃ l8, l8 = l7 ++ encCmd ⟨q0, q1, q2, q3, q4, q5⟩ := ⟨_, rfl⟩
    have hlb8 : l8.length ≤ 8700003000 := by rw [hl8, List.length_append]; omega
    rw [← hl8] at HSr
    have HL8 := Lib.hid hl8
    have HS8 := HSr
    clear hl8 HSr HS7 HSq hc8 hc9 hc10 hc11 hc12 hc13
    have hzl := encInt_length x9 h9a h9b
    go_wp2_with fail
    ((with_reducible refine (rint_calls x9 _ h9a h9b).mono ?_); rintro e wq8 ⟨vx, rfl, hown, hb⟩)
    obtain ⟨Ax, cx, rfl, hcx, hrx⟩ := OwnB.reads hown
    have HRX := Lib.hid hrx
    have HSq := Lib.hid (HS8.out.below hb)
    clear hown hb hrx hcx
    go_wp2_with ((with_reducible refine gate_builtin (b := .append) (xs := #[.tmp 52, .tmp 55]) rfl ?_); at_builtin; refine print_append_row (w0 := w1) w1.heap.size rfl (.tmp 52) (.tmp 55) 37 5 .u8 1 rfl Try.underlying37 info5 (by decide) v8 l8 (encInt x9) _ _ _ rfl rfl HSq.out.own HRX.out HSq.out.bel HSq.out.bel.size ?hl ?_; (case hl => simp only [Nat.mul_one]; omega); intro v9 w9 hown hB hg hat; have HSr : Hid (Bs w1 w9 v9 (l8 ++ (encInt x9))) := Lib.hid ⟨hown, hB⟩; have hc15 : w9.cell? ⟨w.heap.size, 15, none⟩ = some (.slice A2 x10.length c2) := (by rw [blk_cell (HSr.out.old HBK.out)]; rfl); clear hown hB hg hat)
    obtain ⟨l9, hl9⟩ : ∃ l9, l9 = l8 ++ encInt x9 := ⟨_, rfl⟩
    have hlb9 : l9.length ≤ 8700004000 := by rw [hl9, List.length_append]; omega
    rw [← hl9] at HSr
    have HL9 := Lib.hid hl9
    have HS9 := HSr
    clear hl9 HSr HS8 HSq hc14
    have hnl := encNum_length x10.length (by omega)
    go_wp2_with fail
    ((with_reducible refine (rnum_calls x10.length _ (by omega)).mono ?_); rintro e wq9 ⟨vx, rfl, hown, hb⟩)
    obtain ⟨Ax, cx, rfl, hcx, hrx⟩ := OwnB.reads hown
    have HRX := Lib.hid hrx
    have HSq := Lib.hid (HS9.out.below hb)
    clear hown hb hrx hcx
    go_wp2_with ((with_reducible refine gate_builtin (b := .append) (xs := #[.tmp 57, .tmp 62]) rfl ?_); at_builtin; refine print_append_row (w0 := w1) w1.heap.size rfl (.tmp 57) (.tmp 62) 37 5 .u8 1 rfl Try.underlying37 info5 (by decide) v9 l9 (encNum x10.length) _ _ _ rfl rfl HSq.out.own HRX.out HSq.out.bel HSq.out.bel.size ?hl ?_; (case hl => simp only [Nat.mul_one]; omega); intro v10 w10 hown hB hg hat; have HSr : Hid (Bs w1 w10 v10 (l9 ++ (encNum x10.length))) := Lib.hid ⟨hown, hB⟩; have hc15b : w10.cell? ⟨w.heap.size, 15, none⟩ = some (.slice A2 x10.length c2) := (by rw [blk_cell (HSr.out.old HBK.out)]; rfl); clear hown hB hg hat)
    obtain ⟨l10, hl10⟩ : ∃ l10, l10 = l9 ++ encNum x10.length := ⟨_, rfl⟩
    have hlb10 : l10.length ≤ 8700005000 := by rw [hl10, List.length_append]; omega
    rw [← hl10] at HSr
    have HL10 := Lib.hid hl10
    have HS10 := HSr
    clear hl10 HSr HS9 HSq hc15 hc15b
    have HRL : Hid (∀ z ∈ x10, (encRef z).length ≤ 22) := Lib.hid (fun z hz => encRef_length z (HD.out z hz).1 (HD.out z hz).2)
    go_loopw [3, 67] (fun vb vi wr => ∃ (i : Nat) (v : Value), v = vb ∧ vi = .int .i64 i ∧ i ≤ x10.length ∧ Hid (Bs w1 wr v (l10 ++ encAll encRef (x10.take i)))) (fun _ vi _ => x10.length - (intOf vi).toNat)
    case atStart => exact ⟨0, _, rfl, rfl, by omega, Lib.hid (by simpa [encAll] using HS10.out)⟩
    case round =>
    obtain ⟨i, v11, rfl, rfl, hi, HS11⟩ := hrel
    by_cases hlt : i < x10.length
    · obtain ⟨ad, rfl, ha0, ha1⟩ := at_T23 (Kd.C_below HR2.out.1 (HB.out.trans (HS11.out.bel.mono HB.out.size))) (i : Int) (by omega) (by omega)
      have hrd : rd_T23 x10 (i : Int) = x10.getD i z23 := by unfold rd_T23; rw [Int.toNat_natCast]
      have hmem : x10.getD i z23 ∈ x10 := by rw [List.getD_eq_getElem?_getD, List.getElem?_eq_getElem hlt]; exact List.getElem_mem _
      have hi2 := HD.out _ hmem
      have hle := encAll_take_le encRef x10 22 i HRL.out
      have hsn := encAll_snoc encRef x10 i z23 hlt
      rw [hrd] at ha0 ha1
      rw [Int.toNat_natCast] at ha0 ha1
      obtain ⟨l11, hl11⟩ : ∃ l11, l11 = l10 ++ encAll encRef (x10.take i) := ⟨_, rfl⟩
      have hlb11 : l11.length ≤ 9000000000 := by rw [hl11, List.length_append]; omega
      rw [← hl11] at HS11
      have HL11 := Lib.hid hl11
      generalize hzz : x10.getD i z23 = z at ha0 ha1 hi2 hsn
      obtain ⟨p0, p1⟩ := z
      dsimp only at ha0 ha1 hi2
      obtain ⟨⟨i0a, i0b⟩, i1a, i1b⟩ := hi2
      have HSN := Lib.hid hsn
      have hz0 := encInt_length p0 i0a i0b
      have hz1 := encInt_length p1 i1a i1b
      have e0 : (0 : Int) ≤ (i : Int) := by omega
      have e1 : (i : Int) < (x10.length : Int) := by omega
      have hu23 := Try.underlying23
      clear hsn hl11 hle hrd hmem hzz
      go_upto_region 16 with fail
      have HKR := Lib.hid (blk_new wr (.cells #[.int .i64 p0, .int .i64 p1] 23))
      have HS12 := Lib.hid (HS11.out.below ((Below.refl wr.heap.size wr).alloc (Nat.le_refl _) (.cells #[.int .i64 p0, .int .i64 p1] 23)))
      clear ha0 ha1 hu23
      generalize wr.alloc (.cells #[.int .i64 p0, .int .i64 p1] 23) = w12 at HKR HS12 ⊢
      obtain ⟨l12, hl12⟩ : ∃ l12, l12 = l11 := ⟨_, rfl⟩
      obtain ⟨v12, hv12⟩ : ∃ v12, v12 = v11 := ⟨_, rfl⟩
      rw [← hl12] at HS12 HL11 hlb11
      rw [← hv12] at HS12 ⊢
      clear hl12 hv12 HS11
      have hca : w12.cell? ⟨wr.heap.size, 0, none⟩ = some (.int .i64 p0) := by rw [blk_cell HKR.out]; rfl
      go_wp2_with fail
      ((with_reducible refine (rint_calls p0 _ i0a i0b).mono ?_); rintro e wq12 ⟨vx, rfl, hown, hb⟩)
      obtain ⟨Ax, cx, rfl, hcx, hrx⟩ := OwnB.reads hown
      have HRX := Lib.hid hrx
      have HSq := Lib.hid (HS12.out.below hb)
      have HKRq := Lib.hid (blk_below HKR.out hb)
      clear hown hb hrx hcx
      go_wp2_with ((with_reducible refine gate_builtin (b := .append) (xs := #[.tmp 71, .tmp 74]) rfl ?_); at_builtin; refine print_append_row (w0 := w1) w1.heap.size rfl (.tmp 71) (.tmp 74) 37 5 .u8 1 rfl Try.underlying37 info5 (by decide) v12 l12 (encInt p0) _ _ _ rfl rfl HSq.out.own HRX.out HSq.out.bel HSq.out.bel.size ?hl ?_; (case hl => simp only [Nat.mul_one]; omega); intro v13 w13 hown hB hg hat; have HSr : Hid (Bs w1 w13 v13 (l12 ++ (encInt p0))) := Lib.hid ⟨hown, hB⟩; have HKRr := Lib.hid (blk_grown HKRq.out hg (own_ne HSq.out.own HKRq.out (by decide))); have hcb : w13.cell? ⟨wr.heap.size, 1, none⟩ = some (.int .i64 p1) := (by rw [blk_cell HKRr.out]; rfl); clear hown hB hg hat)
      obtain ⟨l13, hl13⟩ : ∃ l13, l13 = l12 ++ encInt p0 := ⟨_, rfl⟩
      have hlb13 : l13.length ≤ 9000000100 := by rw [hl13, List.length_append]; omega
      rw [← hl13] at HSr
      have HL13 := Lib.hid hl13
      have HS13 := HSr
      clear hl13 HSr HS12 HSq hca HKR HKRq
      go_wp2_with fail
      ((with_reducible refine (rint_calls p1 _ i1a i1b).mono ?_); rintro e wq13 ⟨vx, rfl, hown, hb⟩)
      obtain ⟨Ax, cx, rfl, hcx, hrx⟩ := OwnB.reads hown
      have HRX := Lib.hid hrx
      have HSq := Lib.hid (HS13.out.below hb)
      clear hown hb hrx hcx
      go_wp2_with ((with_reducible refine gate_builtin (b := .append) (xs := #[.tmp 76, .tmp 79]) rfl ?_); at_builtin; refine print_append_row (w0 := w1) w1.heap.size rfl (.tmp 76) (.tmp 79) 37 5 .u8 1 rfl Try.underlying37 info5 (by decide) v13 l13 (encInt p1) _ _ _ rfl rfl HSq.out.own HRX.out HSq.out.bel HSq.out.bel.size ?hl ?_; (case hl => simp only [Nat.mul_one]; omega); intro v14 w14 hown hB hg hat; have HSr : Hid (Bs w1 w14 v14 (l13 ++ (encInt p1))) := Lib.hid ⟨hown, hB⟩; clear hown hB hg hat)
      go_wp2_with fail
      go_roundw
      case measure => simp [intOf]; omega
      case rel => exact ⟨i + 1, _, rfl, by go_num, by omega, Lib.hid (by have := HSr.out; rw [HSN.out, ← List.append_assoc, ← HL11.out]; unfold encRef; rw [← List.append_assoc, ← HL13.out]; exact this)⟩
    obtain rfl : i = x10.length := by omega
    rw [List.take_length] at HS11
    go_wp2_with fail
    go_ret
    obtain ⟨e1, e2⟩ := HS11.out.end_ HB.out
    refine ⟨_, rfl, ?_, e2⟩
    have e : ∀ b, (bz = if b = true then 1 else 0) → encInst ⟨x0, x1, x2, x3, x4, x5, x6, b, ⟨q0, q1, q2, q3, q4, q5⟩, x9, x10⟩ = l10 ++ encAll encRef x10 := fun b hb => by
      rw [HL10.out, HL9.out, HL8.out, HL7.out, HL6.out]
      unfold encInst
      rw [hb]
      simp only [List.cons_append, List.nil_append, List.append_assoc]
    have hbz := HBZ.out
    first
    | rw [e true (by rw [hbz]; rfl)]; exact e1
    | rw [e false (by rw [hbz]; rfl)]; exact e1

end Go.Proofs.Ytneebjlpeekmbaa
