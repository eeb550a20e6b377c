/- The reference's Data of a mail is what the program lays. Conditions: the kinds' ranges; what may be laid. -/
import Derived.Test.YtneebjlpeekmbaaRefD
namespace Go.Proofs.Ytneebjlpeekmbaa
open Go.RowKit Go.Proofs.YtneebjlpeekmbaaW.PrintWords Go.Proofs.YtneebjlpeekmbaaW.PrintLast Go.Proofs.YtneebjlpeekmbaaW.PrintMore PRef
set_option linter.unusedVariables false
set_option linter.unusedSimpArgs false

theorem encEnt_len (x : S60) (h0 : I64 x.f0) (h1 : I64 x.f1) (h2 : x.f2.size ≤ 1048576) : (encEnt x).length ≤ 1048620 := by
  have a := encInt_length x.f0 h0.1 h0.2
  have b := encInt_length x.f1 h1.1 h1.2
  have c := encNum_length x.f2.size (by omega)
  unfold encEnt encText
  rw [List.length_append, List.length_append, List.length_append, bytesOf_length]
  omega
set_option maxRecDepth 100000 in
set_option maxHeartbeats 8000000 in
theorem data_calls (w : World) (A1 A2 A3 : Option Addr) (c1 c2 c3 : Nat) (x : Mail) (hr1 : InC w A1 c1 x.inst.cmd.data) (hr2 : InR w A2 c2 x.inst.deps) (hr3 : InE w A3 c3 x.entries) (hx : MayOk x) (hi : MailI x) :
    Calls Try.prog 16 #[.agg #[.int .i64 x.kind, .int .i64 x.mfrom, .int .i64 x.mto, .int .i64 x.shard, .int .i64 x.inst.lead, .int .i64 x.inst.index, .int .i64 x.inst.bn, .int .i64 x.inst.bnode, .int .i64 x.inst.vn, .int .i64 x.inst.vnode, .int .i64 x.inst.status, .bool x.inst.same, .int .i64 x.inst.cmd.op, .int .i64 x.inst.cmd.client, .int .i64 x.inst.cmd.seq, .int .i64 x.inst.cmd.cfrom, .int .i64 x.inst.cmd.cto, .slice A1 x.inst.cmd.data.length c1, .int .i64 x.inst.iseq, .slice A2 x.inst.deps.length c2, .bool x.ok, .int .i64 x.term, .int .i64 x.mindex, .int .i64 x.past, .int .i64 x.commit, .int .i64 x.epoch, .slice A3 x.entries.length c3, .string x.text]] w fun e w' => ∃ v, e = .returned v ∧ OwnB w' w.heap.size v (encMail x) ∧ Below w.heap.size w w' := by
  have hil := encInst_length x.inst (instOk_of x hi hx)
  have hcd := hx.data.1
  have hcr := hx.deps
  have hin := instR_of x hi hx
  have hen := hx.entries
  have hie := hi.entries
  have htx := hx.text
  have hj1 : ∀ z ∈ [x.kind, x.mfrom, x.mto, x.shard], I64 z := by simp only [List.mem_cons, List.not_mem_nil, or_false]; rintro z (rfl | rfl | rfl | rfl); exact hi.kind; exact hi.mfrom; exact hi.mto; exact hi.shard
  have hj2 : ∀ z ∈ [x.term, x.mindex, x.past, x.commit, x.epoch], I64 z := by simp only [List.mem_cons, List.not_mem_nil, or_false]; rintro z (rfl | rfl | rfl | rfl | rfl); exact hi.term; exact hi.mindex; exact hi.past; exact hi.commit; exact hi.epoch
  obtain ⟨k0, k1, k2, k3, im, ok, k6, k7, k8, k9, k10, en, tx⟩ := x
  dsimp only at hil hcd hcr hin hen hie htx hj1 hj2 hr1 hr2 hr3 ⊢
  have hil2 : (encInst im).length ≤ 8700000000 := by omega
  have HIN := Lib.hid hin
  have HEN := Lib.hid hen.2
  have HIE := Lib.hid hie
  have hn3 := hen.1
  have HL : Hid (∀ z ∈ [k0, k1, k2, k3], I64 z) := Lib.hid hj1
  have HLL : Hid (∀ z ∈ [k6, k7, k8, k9, k10], I64 z) := Lib.hid hj2
  have hb := (Below.refl w.heap.size w).alloc (Nat.le_refl _) (.cells #[.int .i64 k0, .int .i64 k1, .int .i64 k2, .int .i64 k3, .int .i64 im.lead, .int .i64 im.index, .int .i64 im.bn, .int .i64 im.bnode, .int .i64 im.vn, .int .i64 im.vnode, .int .i64 im.status, .bool im.same, .int .i64 im.cmd.op, .int .i64 im.cmd.client, .int .i64 im.cmd.seq, .int .i64 im.cmd.cfrom, .int .i64 im.cmd.cto, .slice A1 im.cmd.data.length c1, .int .i64 im.iseq, .slice A2 im.deps.length c2, .bool ok, .int .i64 k6, .int .i64 k7, .int .i64 k8, .int .i64 k9, .int .i64 k10, .slice A3 en.length c3, .string tx] 34)
  have HBK := Lib.hid (blk_new w (.cells #[.int .i64 k0, .int .i64 k1, .int .i64 k2, .int .i64 k3, .int .i64 im.lead, .int .i64 im.index, .int .i64 im.bn, .int .i64 im.bnode, .int .i64 im.vn, .int .i64 im.vnode, .int .i64 im.status, .bool im.same, .int .i64 im.cmd.op, .int .i64 im.cmd.client, .int .i64 im.cmd.seq, .int .i64 im.cmd.cfrom, .int .i64 im.cmd.cto, .slice A1 im.cmd.data.length c1, .int .i64 im.iseq, .slice A2 im.deps.length c2, .bool ok, .int .i64 k6, .int .i64 k7, .int .i64 k8, .int .i64 k9, .int .i64 k10, .slice A3 en.length c3, .string tx] 34))
  have HB := Lib.hid hb
  have HR1 := Lib.hid hr1
  have HR2 := Lib.hid hr2
  have HR3 := Lib.hid hr3
  obtain ⟨bz, hbz⟩ : ∃ bz : Int, bz = if ok = true then 1 else 0 := ⟨_, rfl⟩
  have HZ := Lib.hid hbz
  clear hb hr1 hr2 hr3 hin hen hie hj1 hj2 hil hbz hcd hcr hx hi
  cases ok
  case' true => have HBZ : Hid (bz = 1) := Lib.hid (by rw [HZ.out]; rfl)
  case' false => have HBZ : Hid (bz = 0) := Lib.hid (by rw [HZ.out]; rfl)
  all_goals
    go_enter Try.func16, Try.ntmps16
    go_upto_region 1 with fail
    have hbk1 := HBK.out
    generalize w.alloc (.cells _ 34) = w1 at HBK HB hbk1 ⊢
    have hc0 : w1.cell? ⟨w.heap.size, 0, none⟩ = some (.int .i64 k0) := by rw [blk_cell hbk1]; rfl
    have hc1 : w1.cell? ⟨w.heap.size, 1, none⟩ = some (.int .i64 k1) := by rw [blk_cell hbk1]; rfl
    have hc2 : w1.cell? ⟨w.heap.size, 2, none⟩ = some (.int .i64 k2) := by rw [blk_cell hbk1]; rfl
    have hc3 : w1.cell? ⟨w.heap.size, 3, none⟩ = some (.int .i64 k3) := by rw [blk_cell hbk1]; rfl
    clear hbk1
    go_wp2_with fail
    have HK := Lib.hid (blk_new w1 (.cells #[.int .i64 k0, .int .i64 k1, .int .i64 k2, .int .i64 k3] 3))
    have HS3 : Hid (Bs w1 (w1.alloc (.cells #[.int .i64 k0, .int .i64 k1, .int .i64 k2, .int .i64 k3] 3)) (.slice none 0 0) []) := Lib.hid ⟨own_nil _ _ _ _, (Below.refl _ _).alloc (Nat.le_refl _) _⟩
    clear hc0 hc1 hc2 hc3
    generalize w1.alloc (.cells #[.int .i64 k0, .int .i64 k1, .int .i64 k2, .int .i64 k3] 3) = w3 at HK HS3 ⊢
    go_loopw [3, 20] (fun vb vi wr => ∃ (i : Nat) (v : Value), v = vb ∧ vi = .int .i64 i ∧ i ≤ 4 ∧ Hid (Bs w1 wr v ([] ++ encAll encInt ([k0, k1, k2, k3].take i))) ∧ Hid (wr.heap[w1.heap.size]? = some (.cells #[.int .i64 k0, .int .i64 k1, .int .i64 k2, .int .i64 k3] 3 (0, 0)))) (fun _ vi _ => 4 - (intOf vi).toNat)
    case atStart => exact ⟨0, _, rfl, rfl, by omega, Lib.hid (by simpa [encAll] using HS3.out), HK⟩
    case round =>
    obtain ⟨i, v5, rfl, rfl, hi, HS5, HKK⟩ := hrel
    by_cases hlt : i < 4
    · have hcell : wr.cell? ⟨w1.heap.size, i, none⟩ = some (.int .i64 ([k0, k1, k2, k3].getD i 0)) := by rw [blk_cell HKK.out]; exact ints_get [k0, k1, k2, k3] _ rfl i hlt
      have hz := HL.out ([k0, k1, k2, k3].getD i 0) (by rw [List.getD_eq_getElem?_getD, List.getElem?_eq_getElem (show i < [k0, k1, k2, k3].length from hlt)]; exact List.getElem_mem _)
      have hle := encAll_take_le encInt [k0, k1, k2, k3] 11 i (fun z hz => encInt_length z (HL.out z hz).1 (HL.out z hz).2)
      have hsn := encAll_snoc encInt [k0, k1, k2, k3] i 0 hlt
      have HSN := Lib.hid hsn
      obtain ⟨l5, hl5⟩ : ∃ l5, l5 = [] ++ encAll encInt ([k0, k1, k2, k3].take i) := ⟨_, rfl⟩
      have hlb : l5.length ≤ 2000 := by rw [hl5]; simp only [List.length_append, List.length_cons, List.length_nil] at hle ⊢; omega
      rw [← hl5] at HS5
      have HL5 := Lib.hid hl5
      clear hsn hl5 hle
      generalize hzz : [k0, k1, k2, k3].getD i 0 = z at hcell hz HSN
      clear hzz
      have hzl := encInt_length z hz.1 hz.2
      go_wp2_with fail
      ((with_reducible refine (rint_calls z _ hz.1 hz.2).mono ?_); rintro e wq5 ⟨vx, rfl, hown, hb⟩)
      obtain ⟨Ax, cx, rfl, hcx, hrx⟩ := OwnB.reads hown
      have HRX := Lib.hid hrx
      have HSq := Lib.hid (HS5.out.below hb)
      have HKKq := Lib.hid (blk_below HKK.out hb)
      clear hown hb hrx hcx
      go_wp2_with ((with_reducible refine gate_builtin (b := .append) (xs := #[.tmp 24, .tmp 26]) rfl ?_); at_builtin; refine print_append_row (w0 := w1) w1.heap.size rfl (.tmp 24) (.tmp 26) 37 5 .u8 1 rfl Try.underlying37 info5 (by decide) v5 l5 (encInt z) _ _ _ rfl rfl HSq.out.own HRX.out HSq.out.bel HSq.out.bel.size ?hl ?_; (case hl => simp only [Nat.mul_one]; omega); intro v6 w6 hown hB hg hat; have HSr : Hid (Bs w1 w6 v6 (l5 ++ (encInt z))) := Lib.hid ⟨hown, hB⟩; have HKKr := Lib.hid (blk_grown HKKq.out hg (own_ne HSq.out.own HKKq.out (by decide))); clear hown hB hg hat)
      go_wp2_with fail
      go_roundw
      case measure => simp [intOf]; omega
      case rel => exact ⟨i + 1, _, rfl, by go_num, by omega, Lib.hid (by have := HSr.out; rw [HSN.out, ← List.append_assoc, ← HL5.out]; exact this), HKKr⟩
    obtain rfl : i = 4 := by omega
    have HS6 : Hid (Bs w1 wr v5 ([] ++ encAll encInt [k0, k1, k2, k3])) := HS5
    clear HS5 HKK HK hlt hi
    generalize wr = w6 at HS6 ⊢
    obtain ⟨l6, hl6⟩ : ∃ l6, l6 = [] ++ encAll encInt [k0, k1, k2, k3] := ⟨_, rfl⟩
    have hlb6 : l6.length ≤ 2000 := by
      rw [hl6, List.nil_append]
      have := encAll_le encInt [k0, k1, k2, k3] 11 (fun z hz => encInt_length z (HL.out z hz).1 (HL.out z hz).2)
      simp only [List.length_cons, List.length_nil] at this
      omega
    rw [← hl6] at HS6
    have HL6 := Lib.hid hl6
    clear hl6 HL
    obtain ⟨v6, hv6⟩ : ∃ v6, v6 = v5 := ⟨_, rfl⟩
    rw [← hv6] at HS6 ⊢
    clear hv6
    have hc4 : w6.cell? ⟨w.heap.size, 4, none⟩ = some (.int .i64 im.lead) := (by rw [blk_cell (HS6.out.old HBK.out)]; rfl)
    have hc5 : w6.cell? ⟨w.heap.size, 5, none⟩ = some (.int .i64 im.index) := (by rw [blk_cell (HS6.out.old HBK.out)]; rfl)
    have hc6 : w6.cell? ⟨w.heap.size, 6, none⟩ = some (.int .i64 im.bn) := (by rw [blk_cell (HS6.out.old HBK.out)]; rfl)
    have hc7 : w6.cell? ⟨w.heap.size, 7, none⟩ = some (.int .i64 im.bnode) := (by rw [blk_cell (HS6.out.old HBK.out)]; rfl)
    have hc8 : w6.cell? ⟨w.heap.size, 8, none⟩ = some (.int .i64 im.vn) := (by rw [blk_cell (HS6.out.old HBK.out)]; rfl)
    have hc9 : w6.cell? ⟨w.heap.size, 9, none⟩ = some (.int .i64 im.vnode) := (by rw [blk_cell (HS6.out.old HBK.out)]; rfl)
    have hc10 : w6.cell? ⟨w.heap.size, 10, none⟩ = some (.int .i64 im.status) := (by rw [blk_cell (HS6.out.old HBK.out)]; rfl)
    have hc11 : w6.cell? ⟨w.heap.size, 11, none⟩ = some (.bool im.same) := (by rw [blk_cell (HS6.out.old HBK.out)]; rfl)
    have hc12 : w6.cell? ⟨w.heap.size, 12, none⟩ = some (.int .i64 im.cmd.op) := (by rw [blk_cell (HS6.out.old HBK.out)]; rfl)
    have hc13 : w6.cell? ⟨w.heap.size, 13, none⟩ = some (.int .i64 im.cmd.client) := (by rw [blk_cell (HS6.out.old HBK.out)]; rfl)
    have hc14 : w6.cell? ⟨w.heap.size, 14, none⟩ = some (.int .i64 im.cmd.seq) := (by rw [blk_cell (HS6.out.old HBK.out)]; rfl)
    have hc15 : w6.cell? ⟨w.heap.size, 15, none⟩ = some (.int .i64 im.cmd.cfrom) := (by rw [blk_cell (HS6.out.old HBK.out)]; rfl)
    have hc16 : w6.cell? ⟨w.heap.size, 16, none⟩ = some (.int .i64 im.cmd.cto) := (by rw [blk_cell (HS6.out.old HBK.out)]; rfl)
    have hc17 : w6.cell? ⟨w.heap.size, 17, none⟩ = some (.slice A1 im.cmd.data.length c1) := (by rw [blk_cell (HS6.out.old HBK.out)]; rfl)
    have hc18 : w6.cell? ⟨w.heap.size, 18, none⟩ = some (.int .i64 im.iseq) := (by rw [blk_cell (HS6.out.old HBK.out)]; rfl)
    have hc19 : w6.cell? ⟨w.heap.size, 19, none⟩ = some (.slice A2 im.deps.length c2) := (by rw [blk_cell (HS6.out.old HBK.out)]; rfl)
    go_wp2_with fail
    ((with_reducible refine (lay7_calls _ A1 A2 c1 c2 im ⟨Kd.C_below HR1.out.1 (HB.out.trans (HS6.out.bel.mono HB.out.size)), HR1.out.2⟩ ⟨Kd.C_below HR2.out.1 (HB.out.trans (HS6.out.bel.mono HB.out.size)), HR2.out.2⟩ HIN.out).mono ?_); rintro e wq6 ⟨vx, rfl, hown, hb⟩)
    obtain ⟨Ax, cx, rfl, hcx, hrx⟩ := OwnB.reads hown
    have HRX := Lib.hid hrx
    have HSq := Lib.hid (HS6.out.below hb)
    clear hown hb hrx hcx
    go_upto_region 8 with ((with_reducible refine gate_builtin (b := .append) (xs := #[.tmp 29, .tmp 32]) rfl ?_); at_builtin; refine print_append_row (w0 := w1) w1.heap.size rfl (.tmp 29) (.tmp 32) 37 5 .u8 1 rfl Try.underlying37 info5 (by decide) v6 l6 (encInst im) _ _ _ rfl rfl HSq.out.own HRX.out HSq.out.bel HSq.out.bel.size ?hl ?_; (case hl => simp only [Nat.mul_one]; omega); intro v7 w7 hown hB hg hat; have HSr : Hid (Bs w1 w7 v7 (l6 ++ (encInst im))) := Lib.hid ⟨hown, hB⟩; clear hown hB hg hat)
    have hc20 := blk_cell (HSr.out.old HBK.out) 20
    change w7.cell? _ = some (Value.bool _) at hc20
    obtain ⟨l7, hl7⟩ : ∃ l7, l7 = l6 ++ encInst im := ⟨_, rfl⟩
    have hlb7 : l7.length ≤ 8700003000 := by rw [hl7, List.length_append]; omega
    rw [← hl7] at HSr
    have HL7 := Lib.hid hl7
    have HS7 := HSr
    clear hl7 HSr HS6 HSq hc4 hc5 hc6 hc7 hc8 hc9 hc10 hc11 hc12 hc13 hc14 hc15 hc16 hc17 hc18 hc19
    go_wp2_with (first | ((with_reducible refine gate_builtin (b := .append) (xs := #[.tmp 36, .tmp 37]) rfl ?_); at_builtin; refine print_append_row (w0 := w1) w1.heap.size rfl (.tmp 36) (.tmp 37) 37 5 .u8 1 rfl Try.underlying37 info5 (by decide) v7 l7 [1] (some ⟨w7.heap.size, 0, none⟩) 1 1 rfl rfl (HS7.out.own.below ((Below.refl _ _).alloc (Nat.le_refl _) _)) (lit_reads w7 1) (HS7.out.bel.alloc HS7.out.bel.size _) (by simp; exact Nat.le_succ_of_le HS7.out.bel.size) ?hl ?_; (case hl => simp only [Nat.mul_one]; omega); intro v8 w8 hown hB hg hat; have HSr : Hid (Bs w1 w8 v8 (l7 ++ [bz])) := Lib.hid (by rw [HBZ.out]; exact ⟨hown, hB⟩); have hc21 : w8.cell? ⟨w.heap.size, 21, none⟩ = some (.int .i64 k6) := (by rw [blk_cell (HSr.out.old HBK.out)]; rfl); have hc22 : w8.cell? ⟨w.heap.size, 22, none⟩ = some (.int .i64 k7) := (by rw [blk_cell (HSr.out.old HBK.out)]; rfl); have hc23 : w8.cell? ⟨w.heap.size, 23, none⟩ = some (.int .i64 k8) := (by rw [blk_cell (HSr.out.old HBK.out)]; rfl); have hc24 : w8.cell? ⟨w.heap.size, 24, none⟩ = some (.int .i64 k9) := (by rw [blk_cell (HSr.out.old HBK.out)]; rfl); have hc25 : w8.cell? ⟨w.heap.size, 25, none⟩ = some (.int .i64 k10) := (by rw [blk_cell (HSr.out.old HBK.out)]; rfl); clear hown hB hg hat) | ((with_reducible refine gate_builtin (b := .append) (xs := #[.tmp 39, .tmp 40]) rfl ?_); at_builtin; refine print_append_row (w0 := w1) w1.heap.size rfl (.tmp 39) (.tmp 40) 37 5 .u8 1 rfl Try.underlying37 info5 (by decide) v7 l7 [0] (some ⟨w7.heap.size, 0, none⟩) 1 1 rfl rfl (HS7.out.own.below ((Below.refl _ _).alloc (Nat.le_refl _) _)) (lit_reads w7 0) (HS7.out.bel.alloc HS7.out.bel.size _) (by simp; exact Nat.le_succ_of_le HS7.out.bel.size) ?hl ?_; (case hl => simp only [Nat.mul_one]; omega); intro v8 w8 hown hB hg hat; have HSr : Hid (Bs w1 w8 v8 (l7 ++ [bz])) := Lib.hid (by rw [HBZ.out]; exact ⟨hown, hB⟩); have hc21 : w8.cell? ⟨w.heap.size, 21, none⟩ = some (.int .i64 k6) := (by rw [blk_cell (HSr.out.old HBK.out)]; rfl); have hc22 : w8.cell? ⟨w.heap.size, 22, none⟩ = some (.int .i64 k7) := (by rw [blk_cell (HSr.out.old HBK.out)]; rfl); have hc23 : w8.cell? ⟨w.heap.size, 23, none⟩ = some (.int .i64 k8) := (by rw [blk_cell (HSr.out.old HBK.out)]; rfl); have hc24 : w8.cell? ⟨w.heap.size, 24, none⟩ = some (.int .i64 k9) := (by rw [blk_cell (HSr.out.old HBK.out)]; rfl); have hc25 : w8.cell? ⟨w.heap.size, 25, none⟩ = some (.int .i64 k10) := (by rw [blk_cell (HSr.out.old HBK.out)]; rfl); clear hown hB hg hat))
    obtain ⟨l8, hl8⟩ : ∃ l8, l8 = l7 ++ [bz] := ⟨_, rfl⟩
    have hlb8 : l8.length ≤ 8700003001 := by rw [hl8, List.length_append, List.length_singleton]; omega
    rw [← hl8] at HSr
    have HL8 := Lib.hid hl8
    have HS8 := HSr
    clear hl8 HSr HS7 hc20
    have HK := Lib.hid (blk_new w8 (.cells #[.int .i64 k6, .int .i64 k7, .int .i64 k8, .int .i64 k9, .int .i64 k10] 3))
    have HS9 := Lib.hid (HS8.out.below ((Below.refl w8.heap.size w8).alloc (Nat.le_refl _) (.cells #[.int .i64 k6, .int .i64 k7, .int .i64 k8, .int .i64 k9, .int .i64 k10] 3)))
    clear HS8 hc21 hc22 hc23 hc24 hc25
    generalize w8.alloc (.cells #[.int .i64 k6, .int .i64 k7, .int .i64 k8, .int .i64 k9, .int .i64 k10] 3) = w9 at HK HS9 ⊢
    go_loopw [3, 54] (fun vb vi wr => ∃ (i : Nat) (v : Value), v = vb ∧ vi = .int .i64 i ∧ i ≤ 5 ∧ Hid (Bs w1 wr v (l8 ++ encAll encInt ([k6, k7, k8, k9, k10].take i))) ∧ Hid (wr.heap[w8.heap.size]? = some (.cells #[.int .i64 k6, .int .i64 k7, .int .i64 k8, .int .i64 k9, .int .i64 k10] 3 (0, 0)))) (fun _ vi _ => 5 - (intOf vi).toNat)
    case atStart => exact ⟨0, _, rfl, rfl, by omega, Lib.hid (by simpa [encAll] using HS9.out), HK⟩
    case round =>
    obtain ⟨i, v5, rfl, rfl, hi, HS5, HKK⟩ := hrel
    by_cases hlt : i < 5
    · have hcell : wr.cell? ⟨w8.heap.size, i, none⟩ = some (.int .i64 ([k6, k7, k8, k9, k10].getD i 0)) := by rw [blk_cell HKK.out]; exact ints_get [k6, k7, k8, k9, k10] _ rfl i hlt
      have hz := HLL.out ([k6, k7, k8, k9, k10].getD i 0) (by rw [List.getD_eq_getElem?_getD, List.getElem?_eq_getElem (show i < [k6, k7, k8, k9, k10].length from hlt)]; exact List.getElem_mem _)
      have hle := encAll_take_le encInt [k6, k7, k8, k9, k10] 11 i (fun z hz => encInt_length z (HLL.out z hz).1 (HLL.out z hz).2)
      have hsn := encAll_snoc encInt [k6, k7, k8, k9, k10] i 0 hlt
      have HSN := Lib.hid hsn
      obtain ⟨l5, hl5⟩ : ∃ l5, l5 = l8 ++ encAll encInt ([k6, k7, k8, k9, k10].take i) := ⟨_, rfl⟩
      have hlb : l5.length ≤ 8700004000 := by rw [hl5]; simp only [List.length_append, List.length_cons, List.length_nil] at hle ⊢; omega
      rw [← hl5] at HS5
      have HL5 := Lib.hid hl5
      clear hsn hl5 hle
      generalize hzz : [k6, k7, k8, k9, k10].getD i 0 = z at hcell hz HSN
      clear hzz
      have hzl := encInt_length z hz.1 hz.2
      go_wp2_with fail
      ((with_reducible refine (rint_calls z _ hz.1 hz.2).mono ?_); rintro e wq5 ⟨vx, rfl, hown, hb⟩)
      obtain ⟨Ax, cx, rfl, hcx, hrx⟩ := OwnB.reads hown
      have HRX := Lib.hid hrx
      have HSq := Lib.hid (HS5.out.below hb)
      have HKKq := Lib.hid (blk_below HKK.out hb)
      clear hown hb hrx hcx
      go_wp2_with ((with_reducible refine gate_builtin (b := .append) (xs := #[.tmp 58, .tmp 60]) rfl ?_); at_builtin; refine print_append_row (w0 := w1) w1.heap.size rfl (.tmp 58) (.tmp 60) 37 5 .u8 1 rfl Try.underlying37 info5 (by decide) v5 l5 (encInt z) _ _ _ rfl rfl HSq.out.own HRX.out HSq.out.bel HSq.out.bel.size ?hl ?_; (case hl => simp only [Nat.mul_one]; omega); intro v6 w6 hown hB hg hat; have HSr : Hid (Bs w1 w6 v6 (l5 ++ (encInt z))) := Lib.hid ⟨hown, hB⟩; have HKKr := Lib.hid (blk_grown HKKq.out hg (own_ne HSq.out.own HKKq.out (by decide))); clear hown hB hg hat)
      go_wp2_with fail
      go_roundw
      case measure => simp [intOf]; omega
      case rel => exact ⟨i + 1, _, rfl, by go_num, by omega, Lib.hid (by have := HSr.out; rw [HSN.out, ← List.append_assoc, ← HL5.out]; exact this), HKKr⟩
    obtain rfl : i = 5 := by omega
    have HS16 : Hid (Bs w1 wr v5 (l8 ++ encAll encInt [k6, k7, k8, k9, k10])) := HS5
    clear HS5 HKK HK hlt hi
    generalize wr = w16 at HS16 ⊢
    obtain ⟨l16, hl16⟩ : ∃ l16, l16 = l8 ++ encAll encInt [k6, k7, k8, k9, k10] := ⟨_, rfl⟩
    have hlb16 : l16.length ≤ 8700004000 := by
      rw [hl16, List.length_append]
      have := encAll_le encInt [k6, k7, k8, k9, k10] 11 (fun z hz => encInt_length z (HLL.out z hz).1 (HLL.out z hz).2)
      simp only [List.length_cons, List.length_nil] at this
      omega
    rw [← hl16] at HS16
    have HL16 := Lib.hid hl16
    clear hl16 HLL
    obtain ⟨v16, hv16⟩ : ∃ v16, v16 = v5 := ⟨_, rfl⟩
    rw [← hv16] at HS16 ⊢
    clear hv16
    have hc26 : w16.cell? ⟨w.heap.size, 26, none⟩ = some (.slice A3 en.length c3) := (by rw [blk_cell (HS16.out.old HBK.out)]; rfl)
    have hnl := encNum_length en.length (by omega)
    go_wp2_with fail
    ((with_reducible refine (rnum_calls en.length _ (by omega)).mono ?_); rintro e wq16 ⟨vx, rfl, hown, hb⟩)
    obtain ⟨Ax, cx, rfl, hcx, hrx⟩ := OwnB.reads hown
    have HRX := Lib.hid hrx
    have HSq := Lib.hid (HS16.out.below hb)
    clear hown hb hrx hcx
    go_wp2_with ((with_reducible refine gate_builtin (b := .append) (xs := #[.tmp 63, .tmp 68]) rfl ?_); at_builtin; refine print_append_row (w0 := w1) w1.heap.size rfl (.tmp 63) (.tmp 68) 37 5 .u8 1 rfl Try.underlying37 info5 (by decide) v16 l16 (encNum en.length) _ _ _ rfl rfl HSq.out.own HRX.out HSq.out.bel HSq.out.bel.size ?hl ?_; (case hl => simp only [Nat.mul_one]; omega); intro v17 w17 hown hB hg hat; have HSr : Hid (Bs w1 w17 v17 (l16 ++ (encNum en.length))) := Lib.hid ⟨hown, hB⟩; have hc26b : w17.cell? ⟨w.heap.size, 26, none⟩ = some (.slice A3 en.length c3) := (by rw [blk_cell (HSr.out.old HBK.out)]; rfl); clear hown hB hg hat)
    obtain ⟨l17, hl17⟩ : ∃ l17, l17 = l16 ++ encNum en.length := ⟨_, rfl⟩
    have hlb17 : l17.length ≤ 8700005000 := by rw [hl17, List.length_append]; omega
    rw [← hl17] at HSr
    have HL17 := Lib.hid hl17
    have HS17 := HSr
    clear hl17 HSr HS16 HSq hc26 hc26b
    have HEL : Hid (∀ z ∈ en, (encEnt z).length ≤ 1048620) := Lib.hid (fun z hz => encEnt_len z (HIE.out z hz).1 (HIE.out z hz).2 (HEN.out z hz))
    go_loopw [3, 73] (fun vb vi wr => ∃ (i : Nat) (v : Value), v = vb ∧ vi = .int .i64 i ∧ i ≤ en.length ∧ Hid (Bs w1 wr v (l17 ++ encAll encEnt (en.take i)))) (fun _ vi _ => en.length - (intOf vi).toNat)
    case atStart => exact ⟨0, _, rfl, rfl, by omega, Lib.hid (by simpa [encAll] using HS17.out)⟩
    case round =>
    obtain ⟨i, v20, rfl, rfl, hi, HS20⟩ := hrel
    by_cases hlt : i < en.length
    · obtain ⟨ad, rfl, ha0, ha1, ha2⟩ := at_T60 (Kd.C_below HR3.out.1 (HB.out.trans (HS20.out.bel.mono HB.out.size))) (i : Int) (by omega) (by omega)
      have hrd : rd_T60 en (i : Int) = en.getD i z60 := by unfold rd_T60; rw [Int.toNat_natCast]
      have hmem : en.getD i z60 ∈ en := by rw [List.getD_eq_getElem?_getD, List.getElem?_eq_getElem hlt]; exact List.getElem_mem _
      have hi2 := HIE.out _ hmem
      have hi3 := HEN.out _ hmem
      have hle := encAll_take_le encEnt en 1048620 i HEL.out
      have hsn := encAll_snoc encEnt en i z60 hlt
      rw [hrd] at ha0 ha1 ha2
      rw [Int.toNat_natCast] at ha0 ha1 ha2
      obtain ⟨l20, hl20⟩ : ∃ l20, l20 = l17 ++ encAll encEnt (en.take i) := ⟨_, rfl⟩
      have hlb20 : l20.length ≤ 14000000000 := by rw [hl20, List.length_append]; omega
      rw [← hl20] at HS20
      have HL20 := Lib.hid hl20
      generalize hzz : en.getD i z60 = z at ha0 ha1 ha2 hi2 hi3 hsn
      obtain ⟨p0, p1, p2⟩ := z
      dsimp only at ha0 ha1 ha2 hi2 hi3
      obtain ⟨⟨i0a, i0b⟩, i1a, i1b⟩ := hi2
      have HSN := Lib.hid hsn
      have hz0 := encInt_length p0 i0a i0b
      have hz1 := encInt_length p1 i1a i1b
      have hz2 := encText_length p2 (by omega)
      have e0 : (0 : Int) ≤ (i : Int) := by omega
      have e1 : (i : Int) < (en.length : Int) := by omega
      have hu60 := Try.underlying60
      clear hsn hl20 hle hrd hmem hzz
      go_upto_region 21 with fail
      have HKR := Lib.hid (blk_new wr (.cells #[.int .i64 p0, .int .i64 p1, .string p2] 60))
      have HS21 := Lib.hid (HS20.out.below ((Below.refl wr.heap.size wr).alloc (Nat.le_refl _) (.cells #[.int .i64 p0, .int .i64 p1, .string p2] 60)))
      clear ha0 ha1 ha2 hu60
      generalize wr.alloc (.cells #[.int .i64 p0, .int .i64 p1, .string p2] 60) = w21 at HKR HS21 ⊢
      obtain ⟨l21, hl21⟩ : ∃ l21, l21 = l20 := ⟨_, rfl⟩
      obtain ⟨v21, hv21⟩ : ∃ v21, v21 = v20 := ⟨_, rfl⟩
      rw [← hl21] at HS21 HL20 hlb20
      rw [← hv21] at HS21 ⊢
      clear hl21 hv21 HS20
      have hca : w21.cell? ⟨wr.heap.size, 0, none⟩ = some (.int .i64 p0) := by rw [blk_cell HKR.out]; rfl
      go_wp2_with fail
      ((with_reducible refine (rint_calls p0 _ i0a i0b).mono ?_); rintro e wq21 ⟨vx, rfl, hown, hb⟩)
      obtain ⟨Ax, cx, rfl, hcx, hrx⟩ := OwnB.reads hown
      have HRX := Lib.hid hrx
      have HSq := Lib.hid (HS21.out.below hb)
      have HKRq := Lib.hid (blk_below HKR.out hb)
      clear hown hb hrx hcx
      go_wp2_with ((with_reducible refine gate_builtin (b := .append) (xs := #[.tmp 77, .tmp 80]) rfl ?_); at_builtin; refine print_append_row (w0 := w1) w1.heap.size rfl (.tmp 77) (.tmp 80) 37 5 .u8 1 rfl Try.underlying37 info5 (by decide) v21 l21 (encInt p0) _ _ _ rfl rfl HSq.out.own HRX.out HSq.out.bel HSq.out.bel.size ?hl ?_; (case hl => simp only [Nat.mul_one]; omega); intro v22 w22 hown hB hg hat; have HSr : Hid (Bs w1 w22 v22 (l21 ++ (encInt p0))) := Lib.hid ⟨hown, hB⟩; have HKRr := Lib.hid (blk_grown HKRq.out hg (own_ne HSq.out.own HKRq.out (by decide))); have hcb : w22.cell? ⟨wr.heap.size, 1, none⟩ = some (.int .i64 p1) := (by rw [blk_cell HKRr.out]; rfl); clear hown hB hg hat)
      obtain ⟨l22, hl22⟩ : ∃ l22, l22 = l21 ++ encInt p0 := ⟨_, rfl⟩
      have hlb22 : l22.length ≤ 14000000100 := by rw [hl22, List.length_append]; omega
      rw [← hl22] at HSr
      have HL22 := Lib.hid hl22
      have HS22 := HSr
      clear hl22 HSr HS21 HSq hca HKR HKRq
      have HKS := HKRr
      clear HKRr
      go_wp2_with fail
      ((with_reducible refine (rint_calls p1 _ i1a i1b).mono ?_); rintro e wq22 ⟨vx, rfl, hown, hb⟩)
      obtain ⟨Ax, cx, rfl, hcx, hrx⟩ := OwnB.reads hown
      have HRX := Lib.hid hrx
      have HSq := Lib.hid (HS22.out.below hb)
      have HKSq := Lib.hid (blk_below HKS.out hb)
      clear hown hb hrx hcx
      go_wp2_with ((with_reducible refine gate_builtin (b := .append) (xs := #[.tmp 82, .tmp 85]) rfl ?_); at_builtin; refine print_append_row (w0 := w1) w1.heap.size rfl (.tmp 82) (.tmp 85) 37 5 .u8 1 rfl Try.underlying37 info5 (by decide) v22 l22 (encInt p1) _ _ _ rfl rfl HSq.out.own HRX.out HSq.out.bel HSq.out.bel.size ?hl ?_; (case hl => simp only [Nat.mul_one]; omega); intro v23 w23 hown hB hg hat; have HSr : Hid (Bs w1 w23 v23 (l22 ++ (encInt p1))) := Lib.hid ⟨hown, hB⟩; have HKSr := Lib.hid (blk_grown HKSq.out hg (own_ne HSq.out.own HKSq.out (by decide))); have hcc : w23.cell? ⟨wr.heap.size, 2, none⟩ = some (.string p2) := (by rw [blk_cell HKSr.out]; rfl); clear hown hB hg hat)
      obtain ⟨l23, hl23⟩ : ∃ l23, l23 = l22 ++ encInt p1 := ⟨_, rfl⟩
      have hlb23 : l23.length ≤ 14000000200 := by rw [hl23, List.length_append]; omega
      rw [← hl23] at HSr
      have HL23 := Lib.hid hl23
      have HS23 := HSr
      clear hl23 HSr HS22 HSq hcb HKS HKSq
      go_wp2_with fail
      ((with_reducible refine (rtext_calls p2 _ (by omega)).mono ?_); rintro e wq23 ⟨vx, rfl, hown, hb⟩)
      obtain ⟨Ax, cx, rfl, hcx, hrx⟩ := OwnB.reads hown
      have HRX := Lib.hid hrx
      have HSq := Lib.hid (HS23.out.below hb)
      clear hown hb hrx hcx
      go_wp2_with ((with_reducible refine gate_builtin (b := .append) (xs := #[.tmp 87, .tmp 90]) rfl ?_); at_builtin; refine print_append_row (w0 := w1) w1.heap.size rfl (.tmp 87) (.tmp 90) 37 5 .u8 1 rfl Try.underlying37 info5 (by decide) v23 l23 (encText p2) _ _ _ rfl rfl HSq.out.own HRX.out HSq.out.bel HSq.out.bel.size ?hl ?_; (case hl => simp only [Nat.mul_one]; omega); intro v24 w24 hown hB hg hat; have HSr : Hid (Bs w1 w24 v24 (l23 ++ (encText p2))) := Lib.hid ⟨hown, hB⟩; clear hown hB hg hat)
      go_wp2_with fail
      go_roundw
      case measure => simp [intOf]; omega
      case rel => exact ⟨i + 1, _, rfl, by go_num, by omega, Lib.hid (by have := HSr.out; rw [HSN.out, ← List.append_assoc, ← HL20.out]; unfold encEnt; rw [← List.append_assoc, ← List.append_assoc, ← HL22.out, ← HL23.out]; exact this)⟩
    obtain rfl : i = en.length := by omega
    rw [List.take_length] at HS20
    generalize wr = w30 at HS20 ⊢
    obtain ⟨l30, hl30⟩ : ∃ l30, l30 = l17 ++ encAll encEnt en := ⟨_, rfl⟩
    have hlb30 : l30.length ≤ 14000000000 := by rw [hl30, List.length_append]; have := encAll_le encEnt en 1048620 HEL.out; omega
    rw [← hl30] at HS20
    have HL30 := Lib.hid hl30
    have HS30 := HS20
    clear hl30 HS20
    obtain ⟨v30, hv30⟩ : ∃ v30, v30 = v20 := ⟨_, rfl⟩
    rw [← hv30] at HS30 ⊢
    clear hv30
    have hzt := encText_length tx (by omega)
    have hc27 : w30.cell? ⟨w.heap.size, 27, none⟩ = some (.string tx) := (by rw [blk_cell (HS30.out.old HBK.out)]; rfl)
    go_wp2_with fail
    ((with_reducible refine (rtext_calls tx _ (by omega)).mono ?_); rintro e wq30 ⟨vx, rfl, hown, hb⟩)
    obtain ⟨Ax, cx, rfl, hcx, hrx⟩ := OwnB.reads hown
    have HRX := Lib.hid hrx
    have HSq := Lib.hid (HS30.out.below hb)
    clear hown hb hrx hcx
    go_wp2_with ((with_reducible refine gate_builtin (b := .append) (xs := #[.tmp 93, .tmp 96]) rfl ?_); at_builtin; refine print_append_row (w0 := w1) w1.heap.size rfl (.tmp 93) (.tmp 96) 37 5 .u8 1 rfl Try.underlying37 info5 (by decide) v30 l30 (encText tx) _ _ _ rfl rfl HSq.out.own HRX.out HSq.out.bel HSq.out.bel.size ?hl ?_; (case hl => simp only [Nat.mul_one]; omega); intro v31 w31 hown hB hg hat; have HSr : Hid (Bs w1 w31 v31 (l30 ++ (encText tx))) := Lib.hid ⟨hown, hB⟩; clear hown hB hg hat)
    go_wp2_with fail
    go_ret
    obtain ⟨e1, e2⟩ := HSr.out.end_ HB.out
    refine ⟨_, rfl, ?_, e2⟩
    have e : ∀ b, (bz = if b = true then 1 else 0) → encMail ⟨k0, k1, k2, k3, im, b, k6, k7, k8, k9, k10, en, tx⟩ = l30 ++ encText tx := fun b hb => by
      rw [HL30.out, HL17.out, HL16.out, HL8.out, HL7.out, HL6.out]
      unfold encMail
      rw [hb]
      simp only [List.cons_append, List.nil_append, List.append_assoc]
    have hbz := HBZ.out
    first
    | rw [e true (by rw [hbz]; rfl)]; exact e1
    | rw [e false (by rw [hbz]; rfl)]; exact e1

end Go.Proofs.Ytneebjlpeekmbaa
