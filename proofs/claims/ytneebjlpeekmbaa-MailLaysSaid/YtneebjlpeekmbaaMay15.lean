/- The reference's May of mails, by plain words. No conditions beyond those typed. -/
import Derived.Test.YtneebjlpeekmbaaEnc
namespace Go.Proofs.Ytneebjlpeekmbaa
open Go.RowKit Go.Proofs.YtneebjlpeekmbaaW.PrintWords Go.Proofs.YtneebjlpeekmbaaW.PrintLast Go.Proofs.YtneebjlpeekmbaaW.PrintMore PRef
set_option linter.unusedVariables false
set_option linter.unusedSimpArgs false

theorem all_take_snoc {α : Type} (l : List α) (p : α → Bool) (i : Nat) (d : α) (h : i < l.length) : (l.take (i + 1)).all p = ((l.take i).all p && p (l.getD i d)) := by
  rw [List.take_add_one, List.getElem?_eq_getElem h, List.getD_eq_getElem?_getD, List.getElem?_eq_getElem h, List.all_append]
  simp
def okS (s : ByteArray) : Bool := decide (s.size ≤ 1048576)
def okE (s : S60) : Bool := decide (s.f2.size ≤ 1048576)
set_option maxRecDepth 100000 in
set_option maxHeartbeats 4000000 in
theorem may15_calls (w : World) (A1 A2 A3 : Option Addr) (c1 c2 c3 : Nat) (x : Mail) (r : Bool) (hr : r = true ↔ MayOk x) (hr1 : InC w A1 c1 x.inst.cmd.data) (hr2 : InR w A2 c2 x.inst.deps) (hr3 : InE w A3 c3 x.entries) :
    Calls Try.prog 13 #[.agg #[.int .i64 x.kind, .int .i64 x.mfrom, .int .i64 x.mto, .int .i64 x.shard, .int .i64 x.inst.lead, .int .i64 x.inst.index, .int .i64 x.inst.bn, .int .i64 x.inst.bnode, .int .i64 x.inst.vn, .int .i64 x.inst.vnode, .int .i64 x.inst.status, .bool x.inst.same, .int .i64 x.inst.cmd.op, .int .i64 x.inst.cmd.client, .int .i64 x.inst.cmd.seq, .int .i64 x.inst.cmd.cfrom, .int .i64 x.inst.cmd.cto, .slice A1 x.inst.cmd.data.length c1, .int .i64 x.inst.iseq, .slice A2 x.inst.deps.length c2, .bool x.ok, .int .i64 x.term, .int .i64 x.mindex, .int .i64 x.past, .int .i64 x.commit, .int .i64 x.epoch, .slice A3 x.entries.length c3, .string x.text]] w fun e w' => e = .returned (.bool r) ∧ Below w.heap.size w w' := by
  have HBK := Lib.hid (blk_new w (.cells #[.int .i64 x.kind, .int .i64 x.mfrom, .int .i64 x.mto, .int .i64 x.shard, .int .i64 x.inst.lead, .int .i64 x.inst.index, .int .i64 x.inst.bn, .int .i64 x.inst.bnode, .int .i64 x.inst.vn, .int .i64 x.inst.vnode, .int .i64 x.inst.status, .bool x.inst.same, .int .i64 x.inst.cmd.op, .int .i64 x.inst.cmd.client, .int .i64 x.inst.cmd.seq, .int .i64 x.inst.cmd.cfrom, .int .i64 x.inst.cmd.cto, .slice A1 x.inst.cmd.data.length c1, .int .i64 x.inst.iseq, .slice A2 x.inst.deps.length c2, .bool x.ok, .int .i64 x.term, .int .i64 x.mindex, .int .i64 x.past, .int .i64 x.commit, .int .i64 x.epoch, .slice A3 x.entries.length c3, .string x.text] 34))
  have HB := Lib.hid ((Below.refl w.heap.size w).alloc (Nat.le_refl _) (.cells #[.int .i64 x.kind, .int .i64 x.mfrom, .int .i64 x.mto, .int .i64 x.shard, .int .i64 x.inst.lead, .int .i64 x.inst.index, .int .i64 x.inst.bn, .int .i64 x.inst.bnode, .int .i64 x.inst.vn, .int .i64 x.inst.vnode, .int .i64 x.inst.status, .bool x.inst.same, .int .i64 x.inst.cmd.op, .int .i64 x.inst.cmd.client, .int .i64 x.inst.cmd.seq, .int .i64 x.inst.cmd.cfrom, .int .i64 x.inst.cmd.cto, .slice A1 x.inst.cmd.data.length c1, .int .i64 x.inst.iseq, .slice A2 x.inst.deps.length c2, .bool x.ok, .int .i64 x.term, .int .i64 x.mindex, .int .i64 x.past, .int .i64 x.commit, .int .i64 x.epoch, .slice A3 x.entries.length c3, .string x.text] 34))
  have HR1 := Lib.hid hr1
  have HR3 := Lib.hid hr3
  have hl1 := hr1.1.2.1
  have hl2 := hr2.1.2.1
  have hl3 := hr3.1.2.1
  obtain ⟨b0, hb0⟩ : ∃ b0 : Bool, b0 = true ↔ (0 ≤ x.inst.cmd.op ∧ x.inst.cmd.op < 256 ∧ x.text.size ≤ 1048576 ∧ x.inst.cmd.data.length ≤ 4096 ∧ x.inst.deps.length ≤ 4096 ∧ x.entries.length ≤ 4096) := ⟨decide _, decide_eq_true_iff⟩
  have HB0 := Lib.hid hb0
  have HRR : Hid (r = (b0 && x.inst.cmd.data.all okS && x.entries.all okE)) := Lib.hid (by
    rw [Bool.eq_iff_iff, hr]
    simp only [Bool.and_eq_true, List.all_eq_true, okS, okE, decide_eq_true_eq, hb0]
    exact ⟨fun ⟨⟨h1, h2⟩, h3, ⟨h4, h7⟩, h5, ⟨h6, h8⟩⟩ => ⟨⟨⟨h1, by omega, h3, h4, h5, h6⟩, h7⟩, h8⟩, fun ⟨⟨⟨h1, h2, h3, h4, h5, h6⟩, h7⟩, h8⟩ => ⟨⟨h1, by omega⟩, h3, ⟨h4, h7⟩, h5, ⟨h6, h8⟩⟩⟩)
  clear hr1 hr2 hr3 hb0 hr
  go_enter Try.func13, Try.ntmps13
  go_upto_region 1 with fail
  have hbk1 := HBK.out
  generalize w.alloc (.cells _ 34) = w1 at HBK HB hbk1 ⊢
  have hc12 : w1.cell? ⟨w.heap.size, 12, none⟩ = some (.int .i64 x.inst.cmd.op) := by rw [blk_cell hbk1]; rfl
  have hc13 : w1.cell? ⟨w.heap.size, 13, none⟩ = some (.int .i64 x.inst.cmd.client) := by rw [blk_cell hbk1]; rfl
  have hc14 : w1.cell? ⟨w.heap.size, 14, none⟩ = some (.int .i64 x.inst.cmd.seq) := by rw [blk_cell hbk1]; rfl
  have hc15 : w1.cell? ⟨w.heap.size, 15, none⟩ = some (.int .i64 x.inst.cmd.cfrom) := by rw [blk_cell hbk1]; rfl
  have hc16 : w1.cell? ⟨w.heap.size, 16, none⟩ = some (.int .i64 x.inst.cmd.cto) := by rw [blk_cell hbk1]; rfl
  have hc17 : w1.cell? ⟨w.heap.size, 17, none⟩ = some (.slice A1 x.inst.cmd.data.length c1) := by rw [blk_cell hbk1]; rfl
  clear hbk1
  go_upto_region 2 with fail
  have hk2 := blk_new w1 (.cells #[.int .i64 x.inst.cmd.op, .int .i64 x.inst.cmd.client, .int .i64 x.inst.cmd.seq, .int .i64 x.inst.cmd.cfrom, .int .i64 x.inst.cmd.cto, .slice A1 x.inst.cmd.data.length c1] 28)
  have hb2 := (Below.refl w1.heap.size w1).alloc (Nat.le_refl _) (.cells #[.int .i64 x.inst.cmd.op, .int .i64 x.inst.cmd.client, .int .i64 x.inst.cmd.seq, .int .i64 x.inst.cmd.cfrom, .int .i64 x.inst.cmd.cto, .slice A1 x.inst.cmd.data.length c1] 28)
  have hbk2 := blk_below HBK.out hb2
  have HB2 := Lib.hid (HB.out.trans (hb2.mono HB.out.size))
  clear hb2 hc12 hc13 hc14 hc15 hc16 hc17
  generalize w1.alloc (.cells #[.int .i64 x.inst.cmd.op, .int .i64 x.inst.cmd.client, .int .i64 x.inst.cmd.seq, .int .i64 x.inst.cmd.cfrom, .int .i64 x.inst.cmd.cto, .slice A1 x.inst.cmd.data.length c1] 28) = w2 at hk2 hbk2 HB2 ⊢
  have hd0 : w2.cell? ⟨w1.heap.size, 0, none⟩ = some (.int .i64 x.inst.cmd.op) := by rw [blk_cell hk2]; rfl
  have hd5 : w2.cell? ⟨w1.heap.size, 5, none⟩ = some (.slice A1 x.inst.cmd.data.length c1) := by rw [blk_cell hk2]; rfl
  have hc19 : w2.cell? ⟨w.heap.size, 19, none⟩ = some (.slice A2 x.inst.deps.length c2) := by rw [blk_cell hbk2]; rfl
  have hc26 : w2.cell? ⟨w.heap.size, 26, none⟩ = some (.slice A3 x.entries.length c3) := by rw [blk_cell hbk2]; rfl
  have hc27 : w2.cell? ⟨w.heap.size, 27, none⟩ = some (.string x.text) := by rw [blk_cell hbk2]; rfl
  have HBK2 := Lib.hid hbk2
  clear hk2 hbk2
  go_cut [4] from 12 to 44 (fun v wc => v = .bool b0 ∧ wc = w2)
  case first =>
    by_cases h1 : 0 ≤ x.inst.cmd.op
    · have ch1 : decide (0 ≤ x.inst.cmd.op) = true := by rw [decide_eq_true_iff]; omega
      by_cases h2 : x.inst.cmd.op < 256
      · have ch2 : decide (x.inst.cmd.op < 256) = true := by rw [decide_eq_true_iff]; omega
        by_cases h3 : x.text.size ≤ 1048576
        · have ch3 : decide ((x.text.size : Int) ≤ 1048576) = true := by rw [decide_eq_true_iff]; omega
          by_cases h4 : x.inst.cmd.data.length ≤ 4096
          · have ch4 : decide ((x.inst.cmd.data.length : Int) ≤ 4096) = true := by rw [decide_eq_true_iff]; omega
            by_cases h5 : x.inst.deps.length ≤ 4096
            · have ch5 : decide ((x.inst.deps.length : Int) ≤ 4096) = true := by rw [decide_eq_true_iff]; omega
              by_cases h6 : x.entries.length ≤ 4096
              · have ch6 : decide ((x.entries.length : Int) ≤ 4096) = true := by rw [decide_eq_true_iff]; omega
                obtain rfl : b0 = true := HB0.out.2 ⟨h1, h2, h3, h4, h5, h6⟩
                go_wp2_with fail
                go_meet
                exact ⟨rfl, rfl⟩
              · have ch6 : decide ((x.entries.length : Int) ≤ 4096) = false := by rw [decide_eq_false_iff_not]; omega
                obtain rfl : b0 = false := by
                  cases b0 with
                  | false => rfl
                  | true => exact absurd (HB0.out.1 rfl).2.2.2.2.2 h6
                go_wp2_with fail
                go_meet
                exact ⟨rfl, rfl⟩
            · have ch5 : decide ((x.inst.deps.length : Int) ≤ 4096) = false := by rw [decide_eq_false_iff_not]; omega
              obtain rfl : b0 = false := by
                cases b0 with
                | false => rfl
                | true => exact absurd (HB0.out.1 rfl).2.2.2.2.1 h5
              go_wp2_with fail
              go_meet
              exact ⟨rfl, rfl⟩
          · have ch4 : decide ((x.inst.cmd.data.length : Int) ≤ 4096) = false := by rw [decide_eq_false_iff_not]; omega
            obtain rfl : b0 = false := by
              cases b0 with
              | false => rfl
              | true => exact absurd (HB0.out.1 rfl).2.2.2.1 h4
            go_wp2_with fail
            go_meet
            exact ⟨rfl, rfl⟩
        · have ch3 : decide ((x.text.size : Int) ≤ 1048576) = false := by rw [decide_eq_false_iff_not]; omega
          obtain rfl : b0 = false := by
            cases b0 with
            | false => rfl
            | true => exact absurd (HB0.out.1 rfl).2.2.1 h3
          go_wp2_with fail
          go_meet
          exact ⟨rfl, rfl⟩
      · have ch2 : decide (x.inst.cmd.op < 256) = false := by rw [decide_eq_false_iff_not]; omega
        obtain rfl : b0 = false := by
          cases b0 with
          | false => rfl
          | true => exact absurd (HB0.out.1 rfl).2.1 h2
        go_wp2_with fail
        go_meet
        exact ⟨rfl, rfl⟩
    · have ch1 : decide (0 ≤ x.inst.cmd.op) = false := by rw [decide_eq_false_iff_not]; omega
      obtain rfl : b0 = false := by
        cases b0 with
        | false => rfl
        | true => exact absurd (HB0.out.1 rfl).1 h1
      go_wp2_with fail
      go_meet
      exact ⟨rfl, rfl⟩
  case rest =>
  obtain ⟨rfl, rfl⟩ := hcut
  clear hd0 hc19 hc26 hc27
  go_wp2_with fail
  go_loopw [4, 48] (fun vb vi wr => ∃ (i : Nat) (b : Bool), vb = .bool b ∧ vi = .int .i64 i ∧ i ≤ x.inst.cmd.data.length ∧ Hid (b = (b0 && (x.inst.cmd.data.take i).all okS)) ∧ wr = wc) (fun _ vi _ => x.inst.cmd.data.length - (intOf vi).toNat)
  case atStart => exact ⟨0, b0, rfl, rfl, by omega, Lib.hid (by simp), rfl⟩
  case round =>
  obtain ⟨i, b, rfl, rfl, hi, HQ, rfl⟩ := hrel
  by_cases hlt : i < x.inst.cmd.data.length
  · obtain ⟨ad, rfl, ha⟩ := Kd.at_string (Kd.C_below HR1.out.1 HB2.out) (i : Int) (by omega) (by omega)
    have hrd : rdOf ByteArray.empty x.inst.cmd.data (i : Int) = x.inst.cmd.data.getD i ByteArray.empty := by unfold rdOf; rw [Int.toNat_natCast]
    rw [hrd, Int.toNat_natCast] at ha
    have hsn := all_take_snoc x.inst.cmd.data okS i ByteArray.empty hlt
    have HSN := Lib.hid hsn
    have q0 : (0 : Int) ≤ (i : Int) := by omega
    have q1 : (i : Int) < (x.inst.cmd.data.length : Int) := by omega
    generalize x.inst.cmd.data.getD i ByteArray.empty = z at ha HSN
    clear hsn hrd hd5
    cases b with
    | false =>
      go_wp2_with fail
      go_roundw
      case measure => simp [intOf]; omega
      case rel => exact ⟨i + 1, false, rfl, by go_num, by omega, Lib.hid (by rw [HSN.out, ← Bool.and_assoc, ← HQ.out]; rfl), trivial⟩
    | true =>
      by_cases hz : z.size ≤ 1048576
      · have hzb : decide ((z.size : Int) ≤ 1048576) = true := by rw [decide_eq_true_iff]; omega
        go_wp2_with fail
        go_roundw
        case measure => simp [intOf]; omega
        case rel => exact ⟨i + 1, true, rfl, by go_num, by omega, Lib.hid (by rw [HSN.out, ← Bool.and_assoc, ← HQ.out]; unfold okS; rw [decide_eq_true hz]; rfl), trivial⟩
      · have hzb : decide ((z.size : Int) ≤ 1048576) = false := by rw [decide_eq_false_iff_not]; omega
        go_wp2_with fail
        go_roundw
        case measure => simp [intOf]; omega
        case rel => exact ⟨i + 1, false, rfl, by go_num, by omega, Lib.hid (by rw [HSN.out, ← Bool.and_assoc, ← HQ.out]; unfold okS; rw [decide_eq_false hz]; rfl), trivial⟩
  obtain rfl : i = x.inst.cmd.data.length := by omega
  have HQ1 := HQ
  rw [List.take_length] at HQ1
  obtain ⟨b1, hb1⟩ : ∃ b1, b1 = b := ⟨_, rfl⟩
  rw [← hb1] at HQ1 ⊢
  have hc26 : wr.cell? ⟨w.heap.size, 26, none⟩ = some (.slice A3 x.entries.length c3) := by rw [blk_cell HBK2.out]; rfl
  clear HQ hb1 hd5 hlt hi
  go_wp2_with fail
  go_loopw [4, 62] (fun vb vi w3 => ∃ (i : Nat) (b : Bool), vb = .bool b ∧ vi = .int .i64 i ∧ i ≤ x.entries.length ∧ Hid (b = (b1 && (x.entries.take i).all okE)) ∧ Hid (Below w.heap.size w w3)) (fun _ vi _ => x.entries.length - (intOf vi).toNat)
  case atStart => exact ⟨0, b1, rfl, rfl, by omega, Lib.hid (by simp), HB2⟩
  case round =>
  obtain ⟨i, b, rfl, rfl, hi, HQ, HBr⟩ := hrel
  by_cases hlt : i < x.entries.length
  · obtain ⟨ad, rfl, ha0, ha1, ha2⟩ := at_T60 (Kd.C_below HR3.out.1 HBr.out) (i : Int) (by omega) (by omega)
    have hrd : rd_T60 x.entries (i : Int) = x.entries.getD i z60 := by unfold rd_T60; rw [Int.toNat_natCast]
    rw [hrd] at ha0 ha1 ha2
    rw [Int.toNat_natCast] at ha0 ha1 ha2
    have hsn := all_take_snoc x.entries okE i z60 hlt
    generalize x.entries.getD i z60 = z at ha0 ha1 ha2 hsn
    obtain ⟨p0, p1, p2⟩ := z
    have HSN := Lib.hid hsn
    dsimp only at ha0 ha1 ha2
    have hu60 := Try.underlying60
    have q0 : (0 : Int) ≤ (i : Int) := by omega
    have q1 : (i : Int) < (x.entries.length : Int) := by omega
    clear hsn hrd hc26
    cases b with
    | false =>
      go_wp2_with fail
      go_roundw
      case measure => simp [intOf]; omega
      case rel => exact ⟨i + 1, false, rfl, by go_num, by omega, Lib.hid (by rw [HSN.out, ← Bool.and_assoc, ← HQ.out]; rfl), Lib.hid (HBr.out.alloc HBr.out.size _)⟩
    | true =>
      by_cases hz : p2.size ≤ 1048576
      · have hzb : decide ((p2.size : Int) ≤ 1048576) = true := by rw [decide_eq_true_iff]; omega
        go_wp2_with fail
        go_roundw
        case measure => simp [intOf]; omega
        case rel => exact ⟨i + 1, true, rfl, by go_num, by omega, Lib.hid (by rw [HSN.out, ← Bool.and_assoc, ← HQ.out]; unfold okE; rw [decide_eq_true hz]; rfl), Lib.hid (HBr.out.alloc HBr.out.size _)⟩
      · have hzb : decide ((p2.size : Int) ≤ 1048576) = false := by rw [decide_eq_false_iff_not]; omega
        go_wp2_with fail
        go_roundw
        case measure => simp [intOf]; omega
        case rel => exact ⟨i + 1, false, rfl, by go_num, by omega, Lib.hid (by rw [HSN.out, ← Bool.and_assoc, ← HQ.out]; unfold okE; rw [decide_eq_false hz]; rfl), Lib.hid (HBr.out.alloc HBr.out.size _)⟩
  obtain rfl : i = x.entries.length := by omega
  rw [List.take_length] at HQ
  go_wp2_with fail
  go_ret
  have hrb : r = b := by rw [HRR.out, HQ.out, HQ1.out]
  exact ⟨by rw [hrb]; rfl, HBr.out⟩

end Go.Proofs.Ytneebjlpeekmbaa
