/- The walk of the law MailLimits: it returns true, and writes nothing that was there; may where it says no, and mail.Encode there. Conditions: the kinds' ranges. -/
import Derived.Test.YtneebjlpeekmbaaLive
import Derived.Deep.CutBlock
namespace Go.Proofs.Ytneebjlpeekmbaa
open Go.RowKit Go.Proofs.YtneebjlpeekmbaaW.PrintWords Go.Proofs.YtneebjlpeekmbaaW.PrintLast Go.Proofs.YtneebjlpeekmbaaW.PrintMore PRef
set_option linter.unusedVariables false
set_option linter.unusedSimpArgs false

set_option maxRecDepth 100000 in
set_option maxHeartbeats 8000000 in
theorem may_false (w : World) (A1 A2 A3 : Option Addr) (c1 c2 c3 : Nat) (x : Mail) (hr1 : InC w A1 c1 x.inst.cmd.data) (hr2 : InR w A2 c2 x.inst.deps) (hr3 : InE w A3 c3 x.entries) (hx : ¬ MayOk x) :
    Calls Try.prog 23 #[.agg #[.int .i64 x.kind, .int .i64 x.mfrom, .int .i64 x.mto, .int .i64 x.shard, .int .i64 x.inst.lead, .int .i64 x.inst.index, .int .i64 x.inst.bn, .int .i64 x.inst.bnode, .int .i64 x.inst.vn, .int .i64 x.inst.vnode, .int .i64 x.inst.status, .bool x.inst.same, .int .i64 x.inst.cmd.op, .int .i64 x.inst.cmd.client, .int .i64 x.inst.cmd.seq, .int .i64 x.inst.cmd.cfrom, .int .i64 x.inst.cmd.cto, .slice A1 x.inst.cmd.data.length c1, .int .i64 x.inst.iseq, .slice A2 x.inst.deps.length c2, .bool x.ok, .int .i64 x.term, .int .i64 x.mindex, .int .i64 x.past, .int .i64 x.commit, .int .i64 x.epoch, .slice A3 x.entries.length c3, .string x.text]] w fun e w' => e = .returned (.bool false) ∧ Below w.heap.size w w' := by
  obtain ⟨m0, m1, m2, m3, m4, m5, m6, m7, m8, m9, m10, m11, m12⟩ := x
  obtain ⟨x0, x1, x2, x3, x4, x5, x6, x7, x8, x9, x10⟩ := m4
  obtain ⟨q0, q1, q2, q3, q4, q5⟩ := x8
  dsimp only at hr1 hr2 hr3 ⊢
  have HR1 := Lib.hid hr1
  have HR3 := Lib.hid hr3
  clear hr1 hr2 hr3
  have hno : ¬ ((0 ≤ q0 ∧ q0 ≤ 255) ∧ m12.size ≤ 1048576 ∧ (q5.length ≤ 4096 ∧ ∀ s ∈ q5, s.size ≤ 1048576) ∧ x10.length ≤ 4096 ∧ (m11.length ≤ 4096 ∧ ∀ s ∈ m11, s.f2.size ≤ 1048576)) := fun h => hx ⟨h.1, h.2.1, h.2.2.1, h.2.2.2.1, h.2.2.2.2⟩
  have HNO := Lib.hid hno
  clear hno hx
  have HBK1 := Lib.hid (blk_alloc (blk_new w (.cells #[.int .i64 m0, .int .i64 m1, .int .i64 m2, .int .i64 m3, .int .i64 x0, .int .i64 x1, .int .i64 x2, .int .i64 x3, .int .i64 x4, .int .i64 x5, .int .i64 x6, .bool x7, .int .i64 q0, .int .i64 q1, .int .i64 q2, .int .i64 q3, .int .i64 q4, .slice A1 q5.length c1, .int .i64 x9, .slice A2 x10.length c2, .bool m5, .int .i64 m6, .int .i64 m7, .int .i64 m8, .int .i64 m9, .int .i64 m10, .slice A3 m11.length c3, .string m12] 34)) (.cells #[.int .i64 q0, .int .i64 q1, .int .i64 q2, .int .i64 q3, .int .i64 q4, .slice A1 q5.length c1] 28))
  have HBK2 : Hid (((w.alloc (.cells #[.int .i64 m0, .int .i64 m1, .int .i64 m2, .int .i64 m3, .int .i64 x0, .int .i64 x1, .int .i64 x2, .int .i64 x3, .int .i64 x4, .int .i64 x5, .int .i64 x6, .bool x7, .int .i64 q0, .int .i64 q1, .int .i64 q2, .int .i64 q3, .int .i64 q4, .slice A1 q5.length c1, .int .i64 x9, .slice A2 x10.length c2, .bool m5, .int .i64 m6, .int .i64 m7, .int .i64 m8, .int .i64 m9, .int .i64 m10, .slice A3 m11.length c3, .string m12] 34)).alloc (.cells #[.int .i64 q0, .int .i64 q1, .int .i64 q2, .int .i64 q3, .int .i64 q4, .slice A1 q5.length c1] 28)).heap[w.heap.size + 1]? = some (.cells #[.int .i64 q0, .int .i64 q1, .int .i64 q2, .int .i64 q3, .int .i64 q4, .slice A1 q5.length c1] 28)) := Lib.hid (by have := blk_new (w.alloc (.cells #[.int .i64 m0, .int .i64 m1, .int .i64 m2, .int .i64 m3, .int .i64 x0, .int .i64 x1, .int .i64 x2, .int .i64 x3, .int .i64 x4, .int .i64 x5, .int .i64 x6, .bool x7, .int .i64 q0, .int .i64 q1, .int .i64 q2, .int .i64 q3, .int .i64 q4, .slice A1 q5.length c1, .int .i64 x9, .slice A2 x10.length c2, .bool m5, .int .i64 m6, .int .i64 m7, .int .i64 m8, .int .i64 m9, .int .i64 m10, .slice A3 m11.length c3, .string m12] 34)) (.cells #[.int .i64 q0, .int .i64 q1, .int .i64 q2, .int .i64 q3, .int .i64 q4, .slice A1 q5.length c1] 28); rwa [World.size_alloc] at this)
  have HB2 := Lib.hid (((Below.refl w.heap.size w).alloc (Nat.le_refl _) (.cells #[.int .i64 m0, .int .i64 m1, .int .i64 m2, .int .i64 m3, .int .i64 x0, .int .i64 x1, .int .i64 x2, .int .i64 x3, .int .i64 x4, .int .i64 x5, .int .i64 x6, .bool x7, .int .i64 q0, .int .i64 q1, .int .i64 q2, .int .i64 q3, .int .i64 q4, .slice A1 q5.length c1, .int .i64 x9, .slice A2 x10.length c2, .bool m5, .int .i64 m6, .int .i64 m7, .int .i64 m8, .int .i64 m9, .int .i64 m10, .slice A3 m11.length c3, .string m12] 34)).alloc (by simp) (.cells #[.int .i64 q0, .int .i64 q1, .int .i64 q2, .int .i64 q3, .int .i64 q4, .slice A1 q5.length c1] 28))
  have hu31 := Try.underlying31
  have hu34 := Try.underlying34
  have hu28 := Try.underlying28
  by_cases g0 : q0 < 0
  · have hb0 : decide (q0 < 0) = true := by rw [decide_eq_true_iff]; omega
    clear g0
    go_enter Try.func23, Try.ntmps23
    go_upto_region 2 with fail
    generalize ((w.alloc (.cells #[.int .i64 m0, .int .i64 m1, .int .i64 m2, .int .i64 m3, .int .i64 x0, .int .i64 x1, .int .i64 x2, .int .i64 x3, .int .i64 x4, .int .i64 x5, .int .i64 x6, .bool x7, .int .i64 q0, .int .i64 q1, .int .i64 q2, .int .i64 q3, .int .i64 q4, .slice A1 q5.length c1, .int .i64 x9, .slice A2 x10.length c2, .bool m5, .int .i64 m6, .int .i64 m7, .int .i64 m8, .int .i64 m9, .int .i64 m10, .slice A3 m11.length c3, .string m12] 34)).alloc (.cells #[.int .i64 q0, .int .i64 q1, .int .i64 q2, .int .i64 q3, .int .i64 q4, .slice A1 q5.length c1] 28)) = w2 at HBK1 HBK2 HB2 ⊢
    generalize Value.agg #[.int .i64 m0, .int .i64 m1, .int .i64 m2, .int .i64 m3, .int .i64 x0, .int .i64 x1, .int .i64 x2, .int .i64 x3, .int .i64 x4, .int .i64 x5, .int .i64 x6, .bool x7, .int .i64 q0, .int .i64 q1, .int .i64 q2, .int .i64 q3, .int .i64 q4, .slice A1 q5.length c1, .int .i64 x9, .slice A2 x10.length c2, .bool m5, .int .i64 m6, .int .i64 m7, .int .i64 m8, .int .i64 m9, .int .i64 m10, .slice A3 m11.length c3, .string m12] = vx
    have k2y0 : w2.cell? ⟨w.heap.size + 1, 0, none⟩ = some (.int .i64 q0) := by rw [blk_cell HBK2.out]; rfl
    have k2y5 : w2.cell? ⟨w.heap.size + 1, 5, none⟩ = some (.slice A1 q5.length c1) := by rw [blk_cell HBK2.out]; rfl
    have k2x19 : w2.cell? ⟨w.heap.size, 19, none⟩ = some (.slice A2 x10.length c2) := by rw [blk_cell HBK1.out]; rfl
    have k2x26 : w2.cell? ⟨w.heap.size, 26, none⟩ = some (.slice A3 m11.length c3) := by rw [blk_cell HBK1.out]; rfl
    have k2x27 : w2.cell? ⟨w.heap.size, 27, none⟩ = some (.string m12) := by rw [blk_cell HBK1.out]; rfl
    go_wp2_with (fail)
    go_ret
    exact ⟨rfl, HB2.out⟩
  · skip
    by_cases g1 : 255 < q0
    · have hb0 : decide (q0 < 0) = false := by rw [decide_eq_false_iff_not]; omega
      have hb1 : decide (255 < q0) = true := by rw [decide_eq_true_iff]; omega
      clear g0 g1
      go_enter Try.func23, Try.ntmps23
      go_upto_region 2 with fail
      generalize ((w.alloc (.cells #[.int .i64 m0, .int .i64 m1, .int .i64 m2, .int .i64 m3, .int .i64 x0, .int .i64 x1, .int .i64 x2, .int .i64 x3, .int .i64 x4, .int .i64 x5, .int .i64 x6, .bool x7, .int .i64 q0, .int .i64 q1, .int .i64 q2, .int .i64 q3, .int .i64 q4, .slice A1 q5.length c1, .int .i64 x9, .slice A2 x10.length c2, .bool m5, .int .i64 m6, .int .i64 m7, .int .i64 m8, .int .i64 m9, .int .i64 m10, .slice A3 m11.length c3, .string m12] 34)).alloc (.cells #[.int .i64 q0, .int .i64 q1, .int .i64 q2, .int .i64 q3, .int .i64 q4, .slice A1 q5.length c1] 28)) = w2 at HBK1 HBK2 HB2 ⊢
      generalize Value.agg #[.int .i64 m0, .int .i64 m1, .int .i64 m2, .int .i64 m3, .int .i64 x0, .int .i64 x1, .int .i64 x2, .int .i64 x3, .int .i64 x4, .int .i64 x5, .int .i64 x6, .bool x7, .int .i64 q0, .int .i64 q1, .int .i64 q2, .int .i64 q3, .int .i64 q4, .slice A1 q5.length c1, .int .i64 x9, .slice A2 x10.length c2, .bool m5, .int .i64 m6, .int .i64 m7, .int .i64 m8, .int .i64 m9, .int .i64 m10, .slice A3 m11.length c3, .string m12] = vx
      have k2y0 : w2.cell? ⟨w.heap.size + 1, 0, none⟩ = some (.int .i64 q0) := by rw [blk_cell HBK2.out]; rfl
      have k2y5 : w2.cell? ⟨w.heap.size + 1, 5, none⟩ = some (.slice A1 q5.length c1) := by rw [blk_cell HBK2.out]; rfl
      have k2x19 : w2.cell? ⟨w.heap.size, 19, none⟩ = some (.slice A2 x10.length c2) := by rw [blk_cell HBK1.out]; rfl
      have k2x26 : w2.cell? ⟨w.heap.size, 26, none⟩ = some (.slice A3 m11.length c3) := by rw [blk_cell HBK1.out]; rfl
      have k2x27 : w2.cell? ⟨w.heap.size, 27, none⟩ = some (.string m12) := by rw [blk_cell HBK1.out]; rfl
      go_wp2_with (fail)
      go_ret
      exact ⟨rfl, HB2.out⟩
    · skip
      by_cases g2 : 1048576 < m12.size
      · have hb0 : decide (q0 < 0) = false := by rw [decide_eq_false_iff_not]; omega
        have hb1 : decide (255 < q0) = false := by rw [decide_eq_false_iff_not]; omega
        have hb2 : decide ((m12.size : Int) ≤ 1048576) = false := by rw [decide_eq_false_iff_not]; omega
        clear g0 g1 g2
        go_enter Try.func23, Try.ntmps23
        go_upto_region 2 with fail
        generalize ((w.alloc (.cells #[.int .i64 m0, .int .i64 m1, .int .i64 m2, .int .i64 m3, .int .i64 x0, .int .i64 x1, .int .i64 x2, .int .i64 x3, .int .i64 x4, .int .i64 x5, .int .i64 x6, .bool x7, .int .i64 q0, .int .i64 q1, .int .i64 q2, .int .i64 q3, .int .i64 q4, .slice A1 q5.length c1, .int .i64 x9, .slice A2 x10.length c2, .bool m5, .int .i64 m6, .int .i64 m7, .int .i64 m8, .int .i64 m9, .int .i64 m10, .slice A3 m11.length c3, .string m12] 34)).alloc (.cells #[.int .i64 q0, .int .i64 q1, .int .i64 q2, .int .i64 q3, .int .i64 q4, .slice A1 q5.length c1] 28)) = w2 at HBK1 HBK2 HB2 ⊢
        generalize Value.agg #[.int .i64 m0, .int .i64 m1, .int .i64 m2, .int .i64 m3, .int .i64 x0, .int .i64 x1, .int .i64 x2, .int .i64 x3, .int .i64 x4, .int .i64 x5, .int .i64 x6, .bool x7, .int .i64 q0, .int .i64 q1, .int .i64 q2, .int .i64 q3, .int .i64 q4, .slice A1 q5.length c1, .int .i64 x9, .slice A2 x10.length c2, .bool m5, .int .i64 m6, .int .i64 m7, .int .i64 m8, .int .i64 m9, .int .i64 m10, .slice A3 m11.length c3, .string m12] = vx
        have k2y0 : w2.cell? ⟨w.heap.size + 1, 0, none⟩ = some (.int .i64 q0) := by rw [blk_cell HBK2.out]; rfl
        have k2y5 : w2.cell? ⟨w.heap.size + 1, 5, none⟩ = some (.slice A1 q5.length c1) := by rw [blk_cell HBK2.out]; rfl
        have k2x19 : w2.cell? ⟨w.heap.size, 19, none⟩ = some (.slice A2 x10.length c2) := by rw [blk_cell HBK1.out]; rfl
        have k2x26 : w2.cell? ⟨w.heap.size, 26, none⟩ = some (.slice A3 m11.length c3) := by rw [blk_cell HBK1.out]; rfl
        have k2x27 : w2.cell? ⟨w.heap.size, 27, none⟩ = some (.string m12) := by rw [blk_cell HBK1.out]; rfl
        go_wp2_with ((with_reducible refine (istext_calls _ _).mono ?_); rintro e wt ⟨rfl, rfl⟩; rw [hb2])
        go_ret
        exact ⟨rfl, HB2.out⟩
      · skip
        by_cases g3 : 4096 < q5.length
        · have hb0 : decide (q0 < 0) = false := by rw [decide_eq_false_iff_not]; omega
          have hb1 : decide (255 < q0) = false := by rw [decide_eq_false_iff_not]; omega
          have hb2 : decide ((m12.size : Int) ≤ 1048576) = true := by rw [decide_eq_true_iff]; omega
          have hb3 : decide (4096 < (q5.length : Int)) = true := by rw [decide_eq_true_iff]; omega
          clear g0 g1 g2 g3
          go_enter Try.func23, Try.ntmps23
          go_upto_region 2 with fail
          generalize ((w.alloc (.cells #[.int .i64 m0, .int .i64 m1, .int .i64 m2, .int .i64 m3, .int .i64 x0, .int .i64 x1, .int .i64 x2, .int .i64 x3, .int .i64 x4, .int .i64 x5, .int .i64 x6, .bool x7, .int .i64 q0, .int .i64 q1, .int .i64 q2, .int .i64 q3, .int .i64 q4, .slice A1 q5.length c1, .int .i64 x9, .slice A2 x10.length c2, .bool m5, .int .i64 m6, .int .i64 m7, .int .i64 m8, .int .i64 m9, .int .i64 m10, .slice A3 m11.length c3, .string m12] 34)).alloc (.cells #[.int .i64 q0, .int .i64 q1, .int .i64 q2, .int .i64 q3, .int .i64 q4, .slice A1 q5.length c1] 28)) = w2 at HBK1 HBK2 HB2 ⊢
          generalize Value.agg #[.int .i64 m0, .int .i64 m1, .int .i64 m2, .int .i64 m3, .int .i64 x0, .int .i64 x1, .int .i64 x2, .int .i64 x3, .int .i64 x4, .int .i64 x5, .int .i64 x6, .bool x7, .int .i64 q0, .int .i64 q1, .int .i64 q2, .int .i64 q3, .int .i64 q4, .slice A1 q5.length c1, .int .i64 x9, .slice A2 x10.length c2, .bool m5, .int .i64 m6, .int .i64 m7, .int .i64 m8, .int .i64 m9, .int .i64 m10, .slice A3 m11.length c3, .string m12] = vx
          have k2y0 : w2.cell? ⟨w.heap.size + 1, 0, none⟩ = some (.int .i64 q0) := by rw [blk_cell HBK2.out]; rfl
          have k2y5 : w2.cell? ⟨w.heap.size + 1, 5, none⟩ = some (.slice A1 q5.length c1) := by rw [blk_cell HBK2.out]; rfl
          have k2x19 : w2.cell? ⟨w.heap.size, 19, none⟩ = some (.slice A2 x10.length c2) := by rw [blk_cell HBK1.out]; rfl
          have k2x26 : w2.cell? ⟨w.heap.size, 26, none⟩ = some (.slice A3 m11.length c3) := by rw [blk_cell HBK1.out]; rfl
          have k2x27 : w2.cell? ⟨w.heap.size, 27, none⟩ = some (.string m12) := by rw [blk_cell HBK1.out]; rfl
          go_wp2_with ((with_reducible refine (istext_calls _ _).mono ?_); rintro e wt ⟨rfl, rfl⟩; rw [hb2])
          go_ret
          exact ⟨rfl, HB2.out⟩
        · skip
          by_cases g4 : 4096 < x10.length
          · have hb0 : decide (q0 < 0) = false := by rw [decide_eq_false_iff_not]; omega
            have hb1 : decide (255 < q0) = false := by rw [decide_eq_false_iff_not]; omega
            have hb2 : decide ((m12.size : Int) ≤ 1048576) = true := by rw [decide_eq_true_iff]; omega
            have hb3 : decide (4096 < (q5.length : Int)) = false := by rw [decide_eq_false_iff_not]; omega
            have hb4 : decide (4096 < (x10.length : Int)) = true := by rw [decide_eq_true_iff]; omega
            clear g0 g1 g2 g3 g4
            go_enter Try.func23, Try.ntmps23
            go_upto_region 2 with fail
            generalize ((w.alloc (.cells #[.int .i64 m0, .int .i64 m1, .int .i64 m2, .int .i64 m3, .int .i64 x0, .int .i64 x1, .int .i64 x2, .int .i64 x3, .int .i64 x4, .int .i64 x5, .int .i64 x6, .bool x7, .int .i64 q0, .int .i64 q1, .int .i64 q2, .int .i64 q3, .int .i64 q4, .slice A1 q5.length c1, .int .i64 x9, .slice A2 x10.length c2, .bool m5, .int .i64 m6, .int .i64 m7, .int .i64 m8, .int .i64 m9, .int .i64 m10, .slice A3 m11.length c3, .string m12] 34)).alloc (.cells #[.int .i64 q0, .int .i64 q1, .int .i64 q2, .int .i64 q3, .int .i64 q4, .slice A1 q5.length c1] 28)) = w2 at HBK1 HBK2 HB2 ⊢
            generalize Value.agg #[.int .i64 m0, .int .i64 m1, .int .i64 m2, .int .i64 m3, .int .i64 x0, .int .i64 x1, .int .i64 x2, .int .i64 x3, .int .i64 x4, .int .i64 x5, .int .i64 x6, .bool x7, .int .i64 q0, .int .i64 q1, .int .i64 q2, .int .i64 q3, .int .i64 q4, .slice A1 q5.length c1, .int .i64 x9, .slice A2 x10.length c2, .bool m5, .int .i64 m6, .int .i64 m7, .int .i64 m8, .int .i64 m9, .int .i64 m10, .slice A3 m11.length c3, .string m12] = vx
            have k2y0 : w2.cell? ⟨w.heap.size + 1, 0, none⟩ = some (.int .i64 q0) := by rw [blk_cell HBK2.out]; rfl
            have k2y5 : w2.cell? ⟨w.heap.size + 1, 5, none⟩ = some (.slice A1 q5.length c1) := by rw [blk_cell HBK2.out]; rfl
            have k2x19 : w2.cell? ⟨w.heap.size, 19, none⟩ = some (.slice A2 x10.length c2) := by rw [blk_cell HBK1.out]; rfl
            have k2x26 : w2.cell? ⟨w.heap.size, 26, none⟩ = some (.slice A3 m11.length c3) := by rw [blk_cell HBK1.out]; rfl
            have k2x27 : w2.cell? ⟨w.heap.size, 27, none⟩ = some (.string m12) := by rw [blk_cell HBK1.out]; rfl
            go_wp2_with ((with_reducible refine (istext_calls _ _).mono ?_); rintro e wt ⟨rfl, rfl⟩; rw [hb2])
            go_ret
            exact ⟨rfl, HB2.out⟩
          · skip
            by_cases g5 : 4096 < m11.length
            · have hb0 : decide (q0 < 0) = false := by rw [decide_eq_false_iff_not]; omega
              have hb1 : decide (255 < q0) = false := by rw [decide_eq_false_iff_not]; omega
              have hb2 : decide ((m12.size : Int) ≤ 1048576) = true := by rw [decide_eq_true_iff]; omega
              have hb3 : decide (4096 < (q5.length : Int)) = false := by rw [decide_eq_false_iff_not]; omega
              have hb4 : decide (4096 < (x10.length : Int)) = false := by rw [decide_eq_false_iff_not]; omega
              have hb5 : decide (4096 < (m11.length : Int)) = true := by rw [decide_eq_true_iff]; omega
              clear g0 g1 g2 g3 g4 g5
              go_enter Try.func23, Try.ntmps23
              go_upto_region 2 with fail
              generalize ((w.alloc (.cells #[.int .i64 m0, .int .i64 m1, .int .i64 m2, .int .i64 m3, .int .i64 x0, .int .i64 x1, .int .i64 x2, .int .i64 x3, .int .i64 x4, .int .i64 x5, .int .i64 x6, .bool x7, .int .i64 q0, .int .i64 q1, .int .i64 q2, .int .i64 q3, .int .i64 q4, .slice A1 q5.length c1, .int .i64 x9, .slice A2 x10.length c2, .bool m5, .int .i64 m6, .int .i64 m7, .int .i64 m8, .int .i64 m9, .int .i64 m10, .slice A3 m11.length c3, .string m12] 34)).alloc (.cells #[.int .i64 q0, .int .i64 q1, .int .i64 q2, .int .i64 q3, .int .i64 q4, .slice A1 q5.length c1] 28)) = w2 at HBK1 HBK2 HB2 ⊢
              generalize Value.agg #[.int .i64 m0, .int .i64 m1, .int .i64 m2, .int .i64 m3, .int .i64 x0, .int .i64 x1, .int .i64 x2, .int .i64 x3, .int .i64 x4, .int .i64 x5, .int .i64 x6, .bool x7, .int .i64 q0, .int .i64 q1, .int .i64 q2, .int .i64 q3, .int .i64 q4, .slice A1 q5.length c1, .int .i64 x9, .slice A2 x10.length c2, .bool m5, .int .i64 m6, .int .i64 m7, .int .i64 m8, .int .i64 m9, .int .i64 m10, .slice A3 m11.length c3, .string m12] = vx
              have k2y0 : w2.cell? ⟨w.heap.size + 1, 0, none⟩ = some (.int .i64 q0) := by rw [blk_cell HBK2.out]; rfl
              have k2y5 : w2.cell? ⟨w.heap.size + 1, 5, none⟩ = some (.slice A1 q5.length c1) := by rw [blk_cell HBK2.out]; rfl
              have k2x19 : w2.cell? ⟨w.heap.size, 19, none⟩ = some (.slice A2 x10.length c2) := by rw [blk_cell HBK1.out]; rfl
              have k2x26 : w2.cell? ⟨w.heap.size, 26, none⟩ = some (.slice A3 m11.length c3) := by rw [blk_cell HBK1.out]; rfl
              have k2x27 : w2.cell? ⟨w.heap.size, 27, none⟩ = some (.string m12) := by rw [blk_cell HBK1.out]; rfl
              go_wp2_with ((with_reducible refine (istext_calls _ _).mono ?_); rintro e wt ⟨rfl, rfl⟩; rw [hb2])
              go_ret
              exact ⟨rfl, HB2.out⟩
            · skip
              have hb0 : decide (q0 < 0) = false := by rw [decide_eq_false_iff_not]; omega
              have hb1 : decide (255 < q0) = false := by rw [decide_eq_false_iff_not]; omega
              have hb2 : decide ((m12.size : Int) ≤ 1048576) = true := by rw [decide_eq_true_iff]; omega
              have hb3 : decide (4096 < (q5.length : Int)) = false := by rw [decide_eq_false_iff_not]; omega
              have hb4 : decide (4096 < (x10.length : Int)) = false := by rw [decide_eq_false_iff_not]; omega
              have hb5 : decide (4096 < (m11.length : Int)) = false := by rw [decide_eq_false_iff_not]; omega
              have HIN : Hid ((∀ s ∈ q5, s.size ≤ 1048576) → ∃ x ∈ m11, 1048576 < x.f2.size) := Lib.hid (fun h => by
                apply Classical.byContradiction
                intro hne
                exact HNO.out ⟨by omega, by omega, ⟨by omega, h⟩, by omega, by omega, fun s hs => Nat.le_of_not_lt (fun hlt => hne ⟨s, hs, hlt⟩)⟩)
              have hdl : q5.length ≤ 4096 := by omega
              clear g0 g1 g2 g3 g4 g5
              go_enter Try.func23, Try.ntmps23
              go_upto_region 2 with fail
              generalize ((w.alloc (.cells #[.int .i64 m0, .int .i64 m1, .int .i64 m2, .int .i64 m3, .int .i64 x0, .int .i64 x1, .int .i64 x2, .int .i64 x3, .int .i64 x4, .int .i64 x5, .int .i64 x6, .bool x7, .int .i64 q0, .int .i64 q1, .int .i64 q2, .int .i64 q3, .int .i64 q4, .slice A1 q5.length c1, .int .i64 x9, .slice A2 x10.length c2, .bool m5, .int .i64 m6, .int .i64 m7, .int .i64 m8, .int .i64 m9, .int .i64 m10, .slice A3 m11.length c3, .string m12] 34)).alloc (.cells #[.int .i64 q0, .int .i64 q1, .int .i64 q2, .int .i64 q3, .int .i64 q4, .slice A1 q5.length c1] 28)) = w2 at HBK1 HBK2 HB2 ⊢
              generalize Value.agg #[.int .i64 m0, .int .i64 m1, .int .i64 m2, .int .i64 m3, .int .i64 x0, .int .i64 x1, .int .i64 x2, .int .i64 x3, .int .i64 x4, .int .i64 x5, .int .i64 x6, .bool x7, .int .i64 q0, .int .i64 q1, .int .i64 q2, .int .i64 q3, .int .i64 q4, .slice A1 q5.length c1, .int .i64 x9, .slice A2 x10.length c2, .bool m5, .int .i64 m6, .int .i64 m7, .int .i64 m8, .int .i64 m9, .int .i64 m10, .slice A3 m11.length c3, .string m12] = vx
              have k2y0 : w2.cell? ⟨w.heap.size + 1, 0, none⟩ = some (.int .i64 q0) := by rw [blk_cell HBK2.out]; rfl
              have k2y5 : w2.cell? ⟨w.heap.size + 1, 5, none⟩ = some (.slice A1 q5.length c1) := by rw [blk_cell HBK2.out]; rfl
              have k2x19 : w2.cell? ⟨w.heap.size, 19, none⟩ = some (.slice A2 x10.length c2) := by rw [blk_cell HBK1.out]; rfl
              have k2x26 : w2.cell? ⟨w.heap.size, 26, none⟩ = some (.slice A3 m11.length c3) := by rw [blk_cell HBK1.out]; rfl
              have k2x27 : w2.cell? ⟨w.heap.size, 27, none⟩ = some (.string m12) := by rw [blk_cell HBK1.out]; rfl
              go_wp2_with ((with_reducible refine (istext_calls _ _).mono ?_); rintro e wt ⟨rfl, rfl⟩; rw [hb2])
              go_loopw [45] (fun vi wr => ∃ i : Nat, vi = .int .i64 i ∧ i ≤ q5.length ∧ Hid (∀ j, j < i → (q5.getD j ByteArray.empty).size ≤ 1048576) ∧ w2 = wr) (fun vi _ => q5.length - (intOf vi).toNat)
              case atStart => exact ⟨0, rfl, by omega, Lib.hid (fun j hj => by omega), by trivial⟩
              case round =>
                obtain ⟨i, rfl, hi, HA, rfl⟩ := hrel
                by_cases hlt : i < q5.length
                · obtain ⟨ad, rfl, ha0⟩ := ReadsOf.at_ (d := ByteArray.empty) (readsStr (Kd.C_below HR1.out.1 HB2.out)) (i : Int) (by omega) (by omega)
                  have hrx : rdOf ByteArray.empty q5 (i : Int) = q5.getD i ByteArray.empty := by unfold rdOf; rw [Int.toNat_natCast]
                  rw [hrx, Int.toNat_natCast] at ha0
                  obtain ⟨s, hs⟩ : ∃ s, s = q5.getD i ByteArray.empty := ⟨_, rfl⟩
                  rw [← hs] at ha0
                  have HS := Lib.hid hs
                  clear hrx hs
                  by_cases hsz : s.size ≤ 1048576
                  · have hsb : decide ((s.size : Int) ≤ 1048576) = true := by rw [decide_eq_true_iff]; omega
                    have HSZ := Lib.hid hsz
                    clear hsz
                    go_wp2_with ((with_reducible refine (istext_calls _ _).mono ?_); rintro e wt ⟨rfl, rfl⟩; rw [hsb])
                    go_roundw
                    case measure => simp [intOf]; omega
                    case rel => exact ⟨i + 1, by go_num, by omega, Lib.hid (fun j hj => by
                      by_cases hji : j = i
                      · rw [hji, ← HS.out]; exact HSZ.out
                      · exact HA.out j (by omega)), by trivial⟩
                  · have hsb : decide ((s.size : Int) ≤ 1048576) = false := by rw [decide_eq_false_iff_not]; omega
                    clear hsz
                    go_wp2_with ((with_reducible refine (istext_calls _ _).mono ?_); rintro e wt ⟨rfl, rfl⟩; rw [hsb])
                    go_ret
                    exact ⟨rfl, HB2.out⟩
                · obtain rfl : i = q5.length := by omega
                  have hex := HIN.out (fun s hs => by
                    obtain ⟨j, hj, rfl⟩ := List.getElem_of_mem hs
                    have := HA.out j hj
                    rw [List.getD_eq_getElem?_getD, List.getElem?_eq_getElem hj] at this
                    exact this)
                  have HEX := Lib.hid hex
                  clear hex
                  go_wp2_with fail
                  ((with_reducible refine (containsf_calls _ _ m11 _ ⟨Kd.C_below HR3.out.1 HB2.out, HR3.out.2⟩ true ⟨fun _ => HEX.out, fun _ => rfl⟩).mono ?_); rintro e w3 ⟨rfl, hb⟩)
                  have HB3 := Lib.hid (HB2.out.trans (hb.mono HB2.out.size))
                  clear hb
                  go_wp2_with fail
                  go_ret
                  exact ⟨rfl, HB3.out⟩

set_option maxRecDepth 100000 in
set_option maxHeartbeats 4000000 in
theorem encode_bad (w : World) (A1 A2 A3 : Option Addr) (c1 c2 c3 : Nat) (x : Mail) (hr1 : InC w A1 c1 x.inst.cmd.data) (hr2 : InR w A2 c2 x.inst.deps) (hr3 : InE w A3 c3 x.entries) (hx : ¬ MayOk x) :
    Calls Try.prog 12 #[.agg #[.int .i64 x.kind, .int .i64 x.mfrom, .int .i64 x.mto, .int .i64 x.shard, .int .i64 x.inst.lead, .int .i64 x.inst.index, .int .i64 x.inst.bn, .int .i64 x.inst.bnode, .int .i64 x.inst.vn, .int .i64 x.inst.vnode, .int .i64 x.inst.status, .bool x.inst.same, .int .i64 x.inst.cmd.op, .int .i64 x.inst.cmd.client, .int .i64 x.inst.cmd.seq, .int .i64 x.inst.cmd.cfrom, .int .i64 x.inst.cmd.cto, .slice A1 x.inst.cmd.data.length c1, .int .i64 x.inst.iseq, .slice A2 x.inst.deps.length c2, .bool x.ok, .int .i64 x.term, .int .i64 x.mindex, .int .i64 x.past, .int .i64 x.commit, .int .i64 x.epoch, .slice A3 x.entries.length c3, .string x.text]] w fun e w' => e = .returned (.tuple #[.slice none 0 0, .int .i64 1]) ∧ Below w.heap.size w w' := by
  have HNO := Lib.hid hx
  clear hx
  obtain ⟨m0, m1, m2, m3, m4, m5, m6, m7, m8, m9, m10, m11, m12⟩ := x
  obtain ⟨x0, x1, x2, x3, x4, x5, x6, x7, x8, x9, x10⟩ := m4
  obtain ⟨q0, q1, q2, q3, q4, q5⟩ := x8
  dsimp only at HNO hr1 hr2 hr3 ⊢
  have HR1 := Lib.hid hr1
  have HR2 := Lib.hid hr2
  have HR3 := Lib.hid hr3
  have HBK := Lib.hid (blk_new w (.cells #[.int .i64 m0, .int .i64 m1, .int .i64 m2, .int .i64 m3, .int .i64 x0, .int .i64 x1, .int .i64 x2, .int .i64 x3, .int .i64 x4, .int .i64 x5, .int .i64 x6, .bool x7, .int .i64 q0, .int .i64 q1, .int .i64 q2, .int .i64 q3, .int .i64 q4, .slice A1 q5.length c1, .int .i64 x9, .slice A2 x10.length c2, .bool m5, .int .i64 m6, .int .i64 m7, .int .i64 m8, .int .i64 m9, .int .i64 m10, .slice A3 m11.length c3, .string m12] 34))
  have HBb := Lib.hid ((Below.refl w.heap.size w).alloc (Nat.le_refl _) (.cells #[.int .i64 m0, .int .i64 m1, .int .i64 m2, .int .i64 m3, .int .i64 x0, .int .i64 x1, .int .i64 x2, .int .i64 x3, .int .i64 x4, .int .i64 x5, .int .i64 x6, .bool x7, .int .i64 q0, .int .i64 q1, .int .i64 q2, .int .i64 q3, .int .i64 q4, .slice A1 q5.length c1, .int .i64 x9, .slice A2 x10.length c2, .bool m5, .int .i64 m6, .int .i64 m7, .int .i64 m8, .int .i64 m9, .int .i64 m10, .slice A3 m11.length c3, .string m12] 34))
  have hu34 := Try.underlying34
  clear hr1 hr2 hr3
  go_enter Try.func12, Try.ntmps12
  go_upto_region 1 with fail
  generalize hwb : w.alloc (.cells #[.int .i64 m0, .int .i64 m1, .int .i64 m2, .int .i64 m3, .int .i64 x0, .int .i64 x1, .int .i64 x2, .int .i64 x3, .int .i64 x4, .int .i64 x5, .int .i64 x6, .bool x7, .int .i64 q0, .int .i64 q1, .int .i64 q2, .int .i64 q3, .int .i64 q4, .slice A1 q5.length c1, .int .i64 x9, .slice A2 x10.length c2, .bool m5, .int .i64 m6, .int .i64 m7, .int .i64 m8, .int .i64 m9, .int .i64 m10, .slice A3 m11.length c3, .string m12] 34) = wb at HBK HBb ⊢
  clear hwb
  go_wp2_with (refine wpList_load_row rfl 34 (.tmp 1) rfl w.heap.size rfl 34 #[.int .i64 m0, .int .i64 m1, .int .i64 m2, .int .i64 m3, .int .i64 x0, .int .i64 x1, .int .i64 x2, .int .i64 x3, .int .i64 x4, .int .i64 x5, .int .i64 x6, .bool x7, .int .i64 q0, .int .i64 q1, .int .i64 q2, .int .i64 q3, .int .i64 q4, .slice A1 q5.length c1, .int .i64 x9, .slice A2 x10.length c2, .bool m5, .int .i64 m6, .int .i64 m7, .int .i64 m8, .int .i64 m9, .int .i64 m10, .slice A3 m11.length c3, .string m12] (0, 0) _ HBK.out Try.underlying34 rfl inf34 ?_)
  ((with_reducible refine (may_false wb A1 A2 A3 c1 c2 c3 ⟨m0, m1, m2, m3, ⟨x0, x1, x2, x3, x4, x5, x6, x7, ⟨q0, q1, q2, q3, q4, q5⟩, x9, x10⟩, m5, m6, m7, m8, m9, m10, m11, m12⟩ ⟨Kd.C_below HR1.out.1 HBb.out, HR1.out.2⟩ ⟨Kd.C_below HR2.out.1 HBb.out, HR2.out.2⟩ ⟨Kd.C_below HR3.out.1 HBb.out, HR3.out.2⟩ HNO.out).mono ?_); rintro e w0 ⟨rfl, hb⟩)
  have HB0 := Lib.hid (HBb.out.trans (hb.mono HBb.out.size))
  clear hb
  go_wp2_with fail
  go_ret2
  exact ⟨rfl, HB0.out⟩

def mailX (ds : List ByteArray) (rs : List S23) (es : List S60) (tx : ByteArray) : Mail := ⟨0, 0, 0, 0, ⟨0, 0, 0, 0, 0, 0, 0, false, ⟨0, 0, 0, 0, 0, ds⟩, 0, rs⟩, false, 0, 0, 0, 0, 0, es, tx⟩
theorem mailX_I (ds : List ByteArray) (rs : List S23) (es : List S60) (tx : ByteArray) (hr : ∀ r ∈ rs, r = z23) (he : ∀ r ∈ es, r = z60) : MailI (mailX ds rs es tx) := by
  have z : I64 0 := ⟨by decide, by decide⟩
  exact ⟨z, z, z, z, ⟨z, z, z, z, z, z, z, z, z, z, z, z, fun r h => by rw [hr r h]; exact ⟨z, z⟩⟩, z, z, z, z, z, fun r h => by rw [he r h]; exact ⟨z, z⟩⟩
theorem mailX_len (ds : List ByteArray) (rs : List S23) (es : List S60) (tx : ByteArray) : (encMail (mailX ds rs es tx)).length = 45 + (encNum ds.length).length + (encAll encText ds).length + (encNum rs.length).length + (encAll encRef rs).length + (encNum es.length).length + (encAll encEnt es).length + (encText tx).length := by
  have z : (encInt 0).length = 2 := by decide +kernel
  unfold encMail encInst encCmd mailX
  simp only [encAll, List.map_cons, List.map_nil, List.flatten_cons, List.flatten_nil, List.length_append, List.length_cons, List.length_nil, z]
  omega
/-- What the switch has made. -/
structure Made (q m L : Nat) (ds : List ByteArray) (rs : List S23) (es : List S60) (tx : ByteArray) : Prop where
  good : (if 1 ≤ q ∧ q ≤ 3 then L ≤ 4096 else m ≤ 1048576) → MayOk (mailX ds rs es tx)
  bad : ¬ (if 1 ≤ q ∧ q ≤ 3 then L ≤ 4096 else m ≤ 1048576) → ¬ MayOk (mailX ds rs es tx)
  ints : MailI (mailX ds rs es tx)
  big : (if 1 ≤ q ∧ q ≤ 3 then L ≤ 4096 else m ≤ 1048576) → 1048576 < (encMail (mailX ds rs es tx)).length → 1048476 < m
theorem encText_le (s : ByteArray) (h : s.size ≤ 1048576) : (encText s).length ≤ s.size + 10 := encText_length s (by omega)
theorem rep_all {α : Type} (n : Nat) (z : α) : ∀ r ∈ List.replicate n z, r = z := fun r h => (List.mem_replicate.1 h).2
theorem made0 (m L : Nat) (tx : ByteArray) (h : tx.size = m) : Made 0 m L [] [] [] tx := by
  refine ⟨fun hf => ?_, fun hf hx => ?_, mailX_I _ _ _ _ (fun r h => by cases h) (fun r h => by cases h), fun hf hl => ?_⟩
  · rw [if_neg (by omega)] at hf
    exact ⟨⟨Int.le_refl 0, show (0 : Int) ≤ 255 by decide⟩, by show tx.size ≤ 1048576; omega, ⟨Nat.zero_le _, fun s hs => by cases hs⟩, Nat.zero_le _, ⟨Nat.zero_le _, fun s hs => by cases hs⟩⟩
  · rw [if_neg (by omega)] at hf
    have := hx.text
    change tx.size ≤ 1048576 at this
    omega
  · rw [if_neg (by omega)] at hf
    rw [mailX_len] at hl
    have h1 := encText_le tx (by omega)
    have z : (encNum 0).length = 1 := by decide +kernel
    simp only [List.length_nil, z, encAll, List.map_nil, List.flatten_nil] at hl
    omega
theorem made4 (m L : Nat) (s : ByteArray) (h : s.size = m) : Made 4 m L [s] [] [] ⟨#[]⟩ := by
  refine ⟨fun hf => ?_, fun hf hx => ?_, mailX_I _ _ _ _ (fun r h => by cases h) (fun r h => by cases h), fun hf hl => ?_⟩
  · rw [if_neg (by omega)] at hf
    exact ⟨⟨Int.le_refl 0, show (0 : Int) ≤ 255 by decide⟩, show (0 : Nat) ≤ 1048576 by decide, ⟨show 1 ≤ 4096 by decide, fun t ht => by rw [List.mem_singleton.1 ht]; omega⟩, Nat.zero_le _, ⟨Nat.zero_le _, fun s hs => by cases hs⟩⟩
  · rw [if_neg (by omega)] at hf
    have := hx.data.2 s (by simp [mailX])
    omega
  · rw [if_neg (by omega)] at hf
    rw [mailX_len] at hl
    have h1 := encText_le s (by omega)
    have z : (encNum 0).length = 1 := by decide +kernel
    have z1 : (encNum 1).length = 1 := by decide +kernel
    have z2 : (encText ⟨#[]⟩).length = 1 := by decide +kernel
    simp only [List.length_nil, List.length_cons, z, z1, z2, encAll, List.map_nil, List.map_cons, List.flatten_nil, List.flatten_cons, List.length_append] at hl
    omega
theorem made1 (m L : Nat) (hL : L ≤ 4101) : Made 1 m L [] [] (List.replicate L z60) ⟨#[]⟩ := by
  refine ⟨fun hf => ?_, fun hf hx => ?_, mailX_I _ _ _ _ (fun r h => by cases h) (rep_all _ _), fun hf hl => ?_⟩
  · rw [if_pos (by omega)] at hf
    exact ⟨⟨Int.le_refl 0, show (0 : Int) ≤ 255 by decide⟩, show (0 : Nat) ≤ 1048576 by decide, ⟨Nat.zero_le _, fun t ht => by cases ht⟩, Nat.zero_le _, ⟨by show (List.replicate L z60).length ≤ 4096; rw [List.length_replicate]; exact hf, fun s hs => by rw [rep_all _ _ s hs]; decide⟩⟩
  · rw [if_pos (by omega)] at hf
    have := hx.entries.1
    change (List.replicate L z60).length ≤ 4096 at this
    rw [List.length_replicate] at this
    exact hf this
  · rw [mailX_len] at hl
    have h1 := encAll_le encEnt (List.replicate L z60) 5 (fun x hx => by rw [rep_all _ _ x hx]; decide +kernel)
    have h2 := encNum_length (List.replicate L z60).length (by rw [List.length_replicate]; omega)
    rw [List.length_replicate] at h1 h2
    have z : (encNum 0).length = 1 := by decide +kernel
    have z2 : (encText ⟨#[]⟩).length = 1 := by decide +kernel
    simp only [List.length_replicate, List.length_nil, z, z2, encAll, List.map_nil, List.flatten_nil] at hl h1
    omega
theorem made2 (m L : Nat) (hL : L ≤ 4101) : Made 2 m L [] (List.replicate L z23) [] ⟨#[]⟩ := by
  refine ⟨fun hf => ?_, fun hf hx => ?_, mailX_I _ _ _ _ (rep_all _ _) (fun r h => by cases h), fun hf hl => ?_⟩
  · rw [if_pos (by omega)] at hf
    exact ⟨⟨Int.le_refl 0, show (0 : Int) ≤ 255 by decide⟩, show (0 : Nat) ≤ 1048576 by decide, ⟨Nat.zero_le _, fun t ht => by cases ht⟩, by show (List.replicate L z23).length ≤ 4096; rw [List.length_replicate]; exact hf, ⟨Nat.zero_le _, fun s hs => by cases hs⟩⟩
  · rw [if_pos (by omega)] at hf
    have := hx.deps
    change (List.replicate L z23).length ≤ 4096 at this
    rw [List.length_replicate] at this
    exact hf this
  · rw [mailX_len] at hl
    have h1 := encAll_le encRef (List.replicate L z23) 4 (fun x hx => by rw [rep_all _ _ x hx]; decide +kernel)
    have h2 := encNum_length (List.replicate L z23).length (by rw [List.length_replicate]; omega)
    rw [List.length_replicate] at h1 h2
    have z : (encNum 0).length = 1 := by decide +kernel
    have z2 : (encText ⟨#[]⟩).length = 1 := by decide +kernel
    simp only [List.length_replicate, List.length_nil, z, z2, encAll, List.map_nil, List.flatten_nil] at hl h1
    omega
theorem made3 (m L : Nat) (hL : L ≤ 4101) : Made 3 m L (List.replicate L ⟨#[]⟩) [] [] ⟨#[]⟩ := by
  refine ⟨fun hf => ?_, fun hf hx => ?_, mailX_I _ _ _ _ (fun r h => by cases h) (fun r h => by cases h), fun hf hl => ?_⟩
  · rw [if_pos (by omega)] at hf
    exact ⟨⟨Int.le_refl 0, show (0 : Int) ≤ 255 by decide⟩, show (0 : Nat) ≤ 1048576 by decide, ⟨by show (List.replicate L (⟨#[]⟩ : ByteArray)).length ≤ 4096; rw [List.length_replicate]; exact hf, fun s hs => by rw [rep_all _ _ s hs]; decide⟩, Nat.zero_le _, ⟨Nat.zero_le _, fun s hs => by cases hs⟩⟩
  · rw [if_pos (by omega)] at hf
    have := hx.data.1
    change (List.replicate L (⟨#[]⟩ : ByteArray)).length ≤ 4096 at this
    rw [List.length_replicate] at this
    exact hf this
  · rw [mailX_len] at hl
    have h1 := encAll_le encText (List.replicate L (⟨#[]⟩ : ByteArray)) 1 (fun x hx => by rw [rep_all _ _ x hx]; decide +kernel)
    have h2 := encNum_length (List.replicate L (⟨#[]⟩ : ByteArray)).length (by rw [List.length_replicate]; omega)
    rw [List.length_replicate] at h1 h2
    have z : (encNum 0).length = 1 := by decide +kernel
    have z2 : (encText ⟨#[]⟩).length = 1 := by decide +kernel
    simp only [List.length_replicate, List.length_nil, z, z2, encAll, List.map_nil, List.flatten_nil] at hl h1
    omega

theorem zinfo9 : (Try.prog.info? 9).map (fun i => (i.zero, i.size, i.bytes)) = some (some (.string ⟨#[]⟩), 1, 16) := by kernel_rfl
def cells9 (p : ByteArray) (cs : List Value) : Prop := cs = [.string p]
theorem inC_of {w : World} {base : Nat} {v : Value} {l : List ByteArray} (h : OwnRow cells9 9 1 w base v l) : ∃ A c, v = .slice A l.length c ∧ InC w A c l := by
  obtain ⟨A, c, rfl, hc, hr⟩ := OwnRow.reads h
  exact ⟨A, c, rfl, hr.imp_ (Below.refl _ _) (fun p cs hp => by rw [show cs = _ from hp]; rfl), hc⟩
theorem inC_one {w : World} {b : Nat} {s : ByteArray} (h : w.heap[b]? = some (.cells #[.string s] 9 (0, 0))) : InC w (some ⟨b, 0, none⟩) 1 [s] := by
  refine ⟨⟨rfl, by simp, fun _ => ⟨_, rfl, fun j p hj => ?_⟩⟩, Nat.le_refl _⟩
  cases j with
  | zero =>
    obtain rfl : s = p := by simpa using hj
    refine ⟨[.string s], rfl, rfl, fun i u hu => ?_⟩
    cases i with
    | zero =>
      obtain rfl : Value.string s = u := by simpa using hu
      rw [show (⟨b, 0, none⟩ : Addr).add (0 * Kd.string.sz + 0) = ⟨b, 0, none⟩ from by simp [Addr.add], blk_cell h]
      rfl
    | succ i => simp at hu
  | succ j => simp at hj

abbrev InX (w : World) (A1 A2 A3 : Option Addr) (c1 c2 c3 : Nat) (ds : List ByteArray) (rs : List S23) (es : List S60) : Prop := InC w A1 c1 ds ∧ InR w A2 c2 rs ∧ InE w A3 c3 es
theorem InX.below {w w1 : World} {A1 A2 A3 : Option Addr} {c1 c2 c3 : Nat} {ds : List ByteArray} {rs : List S23} {es : List S60} (h : InX w A1 A2 A3 c1 c2 c3 ds rs es) (hb : Below w.heap.size w w1) : InX w1 A1 A2 A3 c1 c2 c3 ds rs es :=
  ⟨⟨Kd.C_below h.1.1 hb, h.1.2⟩, ⟨Kd.C_below h.2.1.1 hb, h.2.1.2⟩, ⟨Kd.C_below h.2.2.1 hb, h.2.2.2⟩⟩
theorem encX_bad (A1 A2 A3 : Option Addr) (c1 c2 c3 : Nat) (ds : List ByteArray) (rs : List S23) (es : List S60) (tx : ByteArray) (w : World) (h : InX w A1 A2 A3 c1 c2 c3 ds rs es) (hx : ¬ MayOk (mailX ds rs es tx)) :
    Calls Try.prog 12 #[.agg #[.int .i64 0, .int .i64 0, .int .i64 0, .int .i64 0, .int .i64 0, .int .i64 0, .int .i64 0, .int .i64 0, .int .i64 0, .int .i64 0, .int .i64 0, .bool false, .int .i64 0, .int .i64 0, .int .i64 0, .int .i64 0, .int .i64 0, .slice A1 ds.length c1, .int .i64 0, .slice A2 rs.length c2, .bool false, .int .i64 0, .int .i64 0, .int .i64 0, .int .i64 0, .int .i64 0, .slice A3 es.length c3, .string tx]] w fun e w' => e = .returned (.tuple #[.slice none 0 0, .int .i64 1]) ∧ Below w.heap.size w w' :=
  encode_bad w A1 A2 A3 c1 c2 c3 (mailX ds rs es tx) h.1 h.2.1 h.2.2 hx
theorem encX_big (A1 A2 A3 : Option Addr) (c1 c2 c3 : Nat) (ds : List ByteArray) (rs : List S23) (es : List S60) (tx : ByteArray) (w : World) (h : InX w A1 A2 A3 c1 c2 c3 ds rs es) (hx : MayOk (mailX ds rs es tx)) (hi : MailI (mailX ds rs es tx)) (hl : ¬ (encMail (mailX ds rs es tx)).length ≤ 1048576) :
    Calls Try.prog 12 #[.agg #[.int .i64 0, .int .i64 0, .int .i64 0, .int .i64 0, .int .i64 0, .int .i64 0, .int .i64 0, .int .i64 0, .int .i64 0, .int .i64 0, .int .i64 0, .bool false, .int .i64 0, .int .i64 0, .int .i64 0, .int .i64 0, .int .i64 0, .slice A1 ds.length c1, .int .i64 0, .slice A2 rs.length c2, .bool false, .int .i64 0, .int .i64 0, .int .i64 0, .int .i64 0, .int .i64 0, .slice A3 es.length c3, .string tx]] w fun e w' => ∃ v, e = .returned (.tuple #[v, .int .i64 2]) ∧ Below w.heap.size w w' :=
  (show Calls Try.prog 12 #[.agg #[.int .i64 0, .int .i64 0, .int .i64 0, .int .i64 0, .int .i64 0, .int .i64 0, .int .i64 0, .int .i64 0, .int .i64 0, .int .i64 0, .int .i64 0, .bool false, .int .i64 0, .int .i64 0, .int .i64 0, .int .i64 0, .int .i64 0, .slice A1 ds.length c1, .int .i64 0, .slice A2 rs.length c2, .bool false, .int .i64 0, .int .i64 0, .int .i64 0, .int .i64 0, .int .i64 0, .slice A3 es.length c3, .string tx]] w _ from encode_calls w A1 A2 A3 c1 c2 c3 (mailX ds rs es tx) h.1 h.2.1 h.2.2 hx hi).mono fun e w' ⟨⟨v, he, _, _⟩, hb⟩ => ⟨v, by rw [he, if_neg hl], hb⟩
theorem encX_ok (A1 A2 A3 : Option Addr) (c1 c2 c3 : Nat) (ds : List ByteArray) (rs : List S23) (es : List S60) (tx : ByteArray) (w : World) (h : InX w A1 A2 A3 c1 c2 c3 ds rs es) (hx : MayOk (mailX ds rs es tx)) (hi : MailI (mailX ds rs es tx)) (hl : (encMail (mailX ds rs es tx)).length ≤ 1048576) :
    Calls Try.prog 12 #[.agg #[.int .i64 0, .int .i64 0, .int .i64 0, .int .i64 0, .int .i64 0, .int .i64 0, .int .i64 0, .int .i64 0, .int .i64 0, .int .i64 0, .int .i64 0, .bool false, .int .i64 0, .int .i64 0, .int .i64 0, .int .i64 0, .int .i64 0, .slice A1 ds.length c1, .int .i64 0, .slice A2 rs.length c2, .bool false, .int .i64 0, .int .i64 0, .int .i64 0, .int .i64 0, .int .i64 0, .slice A3 es.length c3, .string tx]] w fun e w' => ∃ A c, e = .returned (.tuple #[.slice A (frameL (encMail (mailX ds rs es tx))).length c, .int .i64 0]) ∧ (frameL (encMail (mailX ds rs es tx))).length ≤ c ∧ Hid (ReadsInt w' .u8 A (frameL (encMail (mailX ds rs es tx))).length (frameL (encMail (mailX ds rs es tx)))) ∧ Below w.heap.size w w' := by
  refine (show Calls Try.prog 12 #[.agg #[.int .i64 0, .int .i64 0, .int .i64 0, .int .i64 0, .int .i64 0, .int .i64 0, .int .i64 0, .int .i64 0, .int .i64 0, .int .i64 0, .int .i64 0, .bool false, .int .i64 0, .int .i64 0, .int .i64 0, .int .i64 0, .int .i64 0, .slice A1 ds.length c1, .int .i64 0, .slice A2 rs.length c2, .bool false, .int .i64 0, .int .i64 0, .int .i64 0, .int .i64 0, .int .i64 0, .slice A3 es.length c3, .string tx]] w _ from encode_calls w A1 A2 A3 c1 c2 c3 (mailX ds rs es tx) h.1 h.2.1 h.2.2 hx hi).mono ?_
  rintro e w' ⟨⟨v, rfl, ho, _⟩, hb⟩
  obtain ⟨A, c, rfl, hc, hr⟩ := (ho hl).reads
  exact ⟨A, c, by rw [if_pos hl], hc, Lib.hid hr, hb⟩
theorem decX (A : Option Addr) (c : Nat) (ds : List ByteArray) (rs : List S23) (es : List S60) (tx : ByteArray) (w : World) (hx : MayOk (mailX ds rs es tx)) (hi : MailI (mailX ds rs es tx)) (hl : (encMail (mailX ds rs es tx)).length ≤ 1048576)
    (hr : ReadsInt w .u8 A (frameL (encMail (mailX ds rs es tx))).length (frameL (encMail (mailX ds rs es tx)))) (hc : (frameL (encMail (mailX ds rs es tx))).length ≤ c) :
    Calls Try.prog 14 #[.slice A (frameL (encMail (mailX ds rs es tx))).length c] w fun e w' => ∃ B1 d1 B2 d2 B3 d3, e = .returned (.tuple #[.agg #[.int .i64 0, .int .i64 0, .int .i64 0, .int .i64 0, .int .i64 0, .int .i64 0, .int .i64 0, .int .i64 0, .int .i64 0, .int .i64 0, .int .i64 0, .bool false, .int .i64 0, .int .i64 0, .int .i64 0, .int .i64 0, .int .i64 0, .slice B1 ds.length d1, .int .i64 0, .slice B2 rs.length d2, .bool false, .int .i64 0, .int .i64 0, .int .i64 0, .int .i64 0, .int .i64 0, .slice B3 es.length d3, .string tx], .int .i64 0]) ∧ Hid (InX w' B1 B2 B3 d1 d2 d3 ds rs es) ∧ Below w.heap.size w w' := by
  obtain ⟨h0, hm⟩ := dec_enc (mailX ds rs es tx) hi hx hl
  refine (decode_calls A _ c (frameL (encMail (mailX ds rs es tx))) w hr hc (frameL_bytes _ (encMail_bytes _ hx.op))).mono ?_
  rintro e w' ⟨B1, d1, B2, d2, B3, d3, rfl, r1, r2, r3, hb⟩
  rw [hm] at r1 r2 r3
  refine ⟨B1, d1, B2, d2, B3, d3, ?_, Lib.hid ⟨r1, r2, r3⟩, hb⟩
  rw [hm, h0]
  rfl
theorem sameX (B1 B2 B3 A1 A2 A3 : Option Addr) (d1 d2 d3 c1 c2 c3 : Nat) (ds : List ByteArray) (rs : List S23) (es : List S60) (tx : ByteArray) (w : World) (h : InX w B1 B2 B3 d1 d2 d3 ds rs es) (k : InX w A1 A2 A3 c1 c2 c3 ds rs es) :
    Calls Try.prog 20 #[.agg #[.int .i64 0, .int .i64 0, .int .i64 0, .int .i64 0, .int .i64 0, .int .i64 0, .int .i64 0, .int .i64 0, .int .i64 0, .int .i64 0, .int .i64 0, .bool false, .int .i64 0, .int .i64 0, .int .i64 0, .int .i64 0, .int .i64 0, .slice B1 ds.length d1, .int .i64 0, .slice B2 rs.length d2, .bool false, .int .i64 0, .int .i64 0, .int .i64 0, .int .i64 0, .int .i64 0, .slice B3 es.length d3, .string tx], .agg #[.int .i64 0, .int .i64 0, .int .i64 0, .int .i64 0, .int .i64 0, .int .i64 0, .int .i64 0, .int .i64 0, .int .i64 0, .int .i64 0, .int .i64 0, .bool false, .int .i64 0, .int .i64 0, .int .i64 0, .int .i64 0, .int .i64 0, .slice A1 ds.length c1, .int .i64 0, .slice A2 rs.length c2, .bool false, .int .i64 0, .int .i64 0, .int .i64 0, .int .i64 0, .int .i64 0, .slice A3 es.length c3, .string tx]] w fun e w' => e = .returned (.bool true) ∧ Below w.heap.size w w' :=
  mailsame_true (mailX ds rs es tx) h.1 h.2.1 h.2.2 k.1 k.2.1 k.2.2

theorem below_cell {w w1 : World} {b i : Nat} {u : Value} (h : Below w.heap.size w w1) (hb : w.heap.size ≤ b) : Below w.heap.size w (w1.setCell ⟨b, i, none⟩ u) :=
  h.trans (((Chg.refl (fun k => k = b) w1).setCell (p := ⟨b, i, none⟩) (.inl rfl) u).below h.size (fun i hi hk => by omega))

set_option maxRecDepth 100000 in
set_option maxHeartbeats 8000000 in
theorem limits_law (n : Int) (k : Nat) (w : World) (hn : I64 n) (hk : k < 18446744073709551616) : Calls Try.prog 9 #[.int .i64 n, .int .u64 k] w fun e w' => e = .returned (.bool true) ∧ Below w.heap.size w w' := by
  obtain ⟨m, hm⟩ : ∃ m : Nat, max 0 (min n 1048581) = (m : Int) := ⟨(max 0 (min n 1048581)).toNat, by omega⟩
  obtain ⟨L, hL⟩ : ∃ L : Nat, min (m : Int) 4101 = (L : Int) := ⟨(min (m : Int) 4101).toNat, by omega⟩
  have hm5 : m ≤ 1048581 := by omega
  have hL5 : L ≤ 4101 := by omega
  obtain ⟨q, hq⟩ : ∃ q, q = k % 5 := ⟨_, rfl⟩
  have hq5 : q < 5 := by omega
  have hkq : ((k : Int) % 5) = (q : Int) := by omega
  have HM := Lib.hid hm
  have HLL := Lib.hid hL
  clear hn hk hm hq hL
  have HBz := Lib.hid (blk_new w (.cells #[.int .i64 0, .int .i64 0, .int .i64 0, .int .i64 0, .int .i64 0, .int .i64 0, .int .i64 0, .int .i64 0, .int .i64 0, .int .i64 0, .int .i64 0, .bool false, .int .i64 0, .int .i64 0, .int .i64 0, .int .i64 0, .int .i64 0, .slice none 0 0, .int .i64 0, .slice none 0 0, .bool false, .int .i64 0, .int .i64 0, .int .i64 0, .int .i64 0, .int .i64 0, .slice none 0 0, .string ⟨#[]⟩] 34))
  have HB0 := Lib.hid (below_row (cs := #[.int .i64 0, .int .i64 0, .int .i64 0, .int .i64 0, .int .i64 0, .int .i64 0, .int .i64 0, .int .i64 0, .int .i64 0, .int .i64 0, .int .i64 0, .bool false, .int .i64 0, .int .i64 0, .int .i64 0, .int .i64 0, .int .i64 0, .slice none 0 0, .int .i64 0, .slice none 0 0, .bool false, .int .i64 0, .int .i64 0, .int .i64 0, .int .i64 0, .int .i64 0, .slice none 0 0, .string ⟨#[]⟩]) ((Below.refl w.heap.size w).alloc (Nat.le_refl _) (.cells #[.int .i64 0, .int .i64 0, .int .i64 0, .int .i64 0, .int .i64 0, .int .i64 0, .int .i64 0, .int .i64 0, .int .i64 0, .int .i64 0, .int .i64 0, .bool false, .int .i64 0, .int .i64 0, .int .i64 0, .int .i64 0, .int .i64 0, .slice none 0 0, .int .i64 0, .slice none 0 0, .bool false, .int .i64 0, .int .i64 0, .int .i64 0, .int .i64 0, .int .i64 0, .slice none 0 0, .string ⟨#[]⟩] 34)) (Nat.le_refl _))
  have HBK0 := Lib.hid (setRow_heap (w.alloc (.cells #[.int .i64 0, .int .i64 0, .int .i64 0, .int .i64 0, .int .i64 0, .int .i64 0, .int .i64 0, .int .i64 0, .int .i64 0, .int .i64 0, .int .i64 0, .bool false, .int .i64 0, .int .i64 0, .int .i64 0, .int .i64 0, .int .i64 0, .slice none 0 0, .int .i64 0, .slice none 0 0, .bool false, .int .i64 0, .int .i64 0, .int .i64 0, .int .i64 0, .int .i64 0, .slice none 0 0, .string ⟨#[]⟩] 34)) w.heap.size #[.int .i64 0, .int .i64 0, .int .i64 0, .int .i64 0, .int .i64 0, .int .i64 0, .int .i64 0, .int .i64 0, .int .i64 0, .int .i64 0, .int .i64 0, .bool false, .int .i64 0, .int .i64 0, .int .i64 0, .int .i64 0, .int .i64 0, .slice none 0 0, .int .i64 0, .slice none 0 0, .bool false, .int .i64 0, .int .i64 0, .int .i64 0, .int .i64 0, .int .i64 0, .slice none 0 0, .string ⟨#[]⟩] #[.int .i64 0, .int .i64 0, .int .i64 0, .int .i64 0, .int .i64 0, .int .i64 0, .int .i64 0, .int .i64 0, .int .i64 0, .int .i64 0, .int .i64 0, .bool false, .int .i64 0, .int .i64 0, .int .i64 0, .int .i64 0, .int .i64 0, .slice none 0 0, .int .i64 0, .slice none 0 0, .bool false, .int .i64 0, .int .i64 0, .int .i64 0, .int .i64 0, .int .i64 0, .slice none 0 0, .string ⟨#[]⟩] 34 (0, 0) HBz.out)
  have hu34 := Try.underlying34
  have hu31 := Try.underlying31
  have hu28 := Try.underlying28
  go_enter Try.func9, Try.ntmps9
  go_upto_region 3 with (refine wpList_store_row rfl 34 (.tmp 5) (.tmp 15) rfl w.heap.size #[.int .i64 0, .int .i64 0, .int .i64 0, .int .i64 0, .int .i64 0, .int .i64 0, .int .i64 0, .int .i64 0, .int .i64 0, .int .i64 0, .int .i64 0, .bool false, .int .i64 0, .int .i64 0, .int .i64 0, .int .i64 0, .int .i64 0, .slice none 0 0, .int .i64 0, .slice none 0 0, .bool false, .int .i64 0, .int .i64 0, .int .i64 0, .int .i64 0, .int .i64 0, .slice none 0 0, .string ⟨#[]⟩] rfl rfl 34 _ HBz.out inf34b rfl (by simp [Value.oneCell']) ?_)
  generalize (w.alloc (.cells #[.int .i64 0, .int .i64 0, .int .i64 0, .int .i64 0, .int .i64 0, .int .i64 0, .int .i64 0, .int .i64 0, .int .i64 0, .int .i64 0, .int .i64 0, .bool false, .int .i64 0, .int .i64 0, .int .i64 0, .int .i64 0, .int .i64 0, .slice none 0 0, .int .i64 0, .slice none 0 0, .bool false, .int .i64 0, .int .i64 0, .int .i64 0, .int .i64 0, .int .i64 0, .slice none 0 0, .string ⟨#[]⟩] 34)).setRow w.heap.size #[.int .i64 0, .int .i64 0, .int .i64 0, .int .i64 0, .int .i64 0, .int .i64 0, .int .i64 0, .int .i64 0, .int .i64 0, .int .i64 0, .int .i64 0, .bool false, .int .i64 0, .int .i64 0, .int .i64 0, .int .i64 0, .int .i64 0, .slice none 0 0, .int .i64 0, .slice none 0 0, .bool false, .int .i64 0, .int .i64 0, .int .i64 0, .int .i64 0, .int .i64 0, .slice none 0 0, .string ⟨#[]⟩] = w3 at HB0 HBK0 ⊢
  rw [HM.out]
  go_upto_block 0 with fail
  rw [HLL.out, hkq]
  clear HBz
  go_cut [] (fun wc => ∃ ds rs es tx A1 c1 A2 c2 A3 c3, Hid (wc.heap[w.heap.size]? = some (.cells #[.int .i64 0, .int .i64 0, .int .i64 0, .int .i64 0, .int .i64 0, .int .i64 0, .int .i64 0, .int .i64 0, .int .i64 0, .int .i64 0, .int .i64 0, .bool false, .int .i64 0, .int .i64 0, .int .i64 0, .int .i64 0, .int .i64 0, .slice A1 ds.length c1, .int .i64 0, .slice A2 rs.length c2, .bool false, .int .i64 0, .int .i64 0, .int .i64 0, .int .i64 0, .int .i64 0, .slice A3 es.length c3, .string tx] 34 (0, 0))) ∧ Hid (InC wc A1 c1 ds ∧ InR wc A2 c2 rs ∧ InE wc A3 c3 es) ∧ Hid (Made q m L ds rs es tx) ∧ Hid (Below w.heap.size w wc))
  case first =>
    have hqq : q = 0 ∨ q = 1 ∨ q = 2 ∨ q = 3 ∨ q = 4 := by omega
    rcases hqq with rfl | rfl | rfl | rfl | rfl
    · go_wp2_with (refine Kd.R_make (Kd.int .u8) (w0 := w) w.heap.size 5 rfl (N := 30) rfl 37 (.tmp 29) (.tmp 29) rfl (m : Int) rfl rfl Try.underlying37 (.int .u8 0) 1 info5 rfl (by decide) (by decide) (0 : Int) (okp := fun _ => True) (ok := fun _ => True) rfl (fun _ _ => trivial) trivial (by omega) (by omega) HB0.out HB0.out.size ?_; intro v1 w4 hR hb hg hv; rw [Int.toNat_natCast] at hR; have hbk4 := blk_grown HBK0.out hg (by simp); have HB4 := Lib.hid hb; have HBK4 := Lib.hid hbk4; obtain ⟨xs, hxs⟩ : ∃ xs, xs = List.replicate m (0 : Int) := ⟨_, rfl⟩; rw [← hxs] at hR; obtain ⟨A, c, rfl, hc, hrd⟩ := (OwnB.of_R hR).reads; have cvt := string_of_reads (P := Try.prog) (src := 37) (dst := 9) (c := c) Try.underlying37 Try.underlying5 Try.underlying9 hrd; have HXS := Lib.hid hxs; have hcl : w4.cell? ⟨w.heap.size, 27, none⟩ = some (.string ⟨#[]⟩) := (by rw [blk_cell hbk4]; rfl); have hfz : w4.frozen? ⟨w.heap.size, 27, none⟩ = false := blk_frozen hbk4 27; clear hR hb hg hv hbk4 hc hrd hxs)
      go_meet
      exact ⟨[], [], [], strOfNums xs, none, 0, none, 0, none, 0, Lib.hid (blk_set HBK4.out 27 (.string (strOfNums xs))), Lib.hid ⟨inC_nil _, inR_nil _, inE_nil _⟩, Lib.hid (made0 m L _ (by rw [strOfNums_size, HXS.out, List.length_replicate])), Lib.hid (below_cell HB4.out (Nat.le_refl _))⟩
    · go_wp2_with (refine Kd.R_make k60 (w0 := w) w.heap.size 60 rfl (N := 36) rfl 32 (.tmp 35) (.tmp 35) rfl (L : Int) rfl rfl Try.underlying32 (.agg #[.int .i64 0, .int .i64 0, .string ⟨#[]⟩]) 32 zinfo60 rfl (by decide) (by decide) z60 (okp := fun _ => True) (ok := fun _ => True) (k60_mkM _ _ _ _) (fun _ _ => trivial) trivial (by omega) (by omega) HB0.out HB0.out.size ?_; intro v1 w4 hR hb hg hv; rw [Int.toNat_natCast] at hR; have hbk4 := blk_grown HBK0.out hg (by simp); have HB4 := Lib.hid hb; have HBK4 := Lib.hid hbk4; obtain ⟨xs, hxs⟩ : ∃ xs, xs = List.replicate L z60 := ⟨_, rfl⟩; rw [← hxs] at hR; have hrow := (show OwnRow cells60 60 3 w4 w.heap.size v1 xs from hR.2.imp_ (fun p cs hp => k60_openM hp)); have hnb : some w.heap.size ≠ v1.ownBlock := (fun he => by obtain ⟨b', hb1, hb2⟩ := hv; rw [hb1] at he; injection he with he; have := blk_lt HBK0.out; omega); have HNB := Lib.hid hnb; have HROW := Lib.hid hrow; obtain ⟨A, c, rfl, _⟩ := OwnRow.slice_ hrow; have HXS := Lib.hid hxs; have hcl : w4.cell? ⟨w.heap.size, 26, none⟩ = some (.slice none 0 0) := (by rw [blk_cell hbk4]; rfl); have hfz : w4.frozen? ⟨w.heap.size, 26, none⟩ = false := blk_frozen hbk4 26; clear hR hb hg hv hbk4 hrow hnb hxs)
      go_meet
      have q1 : OwnE (w4.setCell ⟨w.heap.size, 26, none⟩ (.slice A xs.length c)) w.heap.size (.slice A xs.length c) xs := carryO HROW.out ((Chg.refl (fun k => k = w.heap.size) w4).setCell (.inl rfl) _) HNB.out
      obtain ⟨a1, e1, h1, r1⟩ := q1.reads
      injection h1 with h1a h1b h1c
      subst h1a h1c
      exact ⟨[], [], xs, ⟨#[]⟩, none, 0, none, 0, A, c, Lib.hid (blk_set HBK4.out 26 (.slice A xs.length c)), Lib.hid ⟨inC_nil _, inR_nil _, r1⟩, Lib.hid (by rw [HXS.out]; exact made1 m L hL5), Lib.hid (below_cell HB4.out (Nat.le_refl _))⟩
    · go_wp2_with (refine Kd.R_make k23 (w0 := w) w.heap.size 23 rfl (N := 41) rfl 29 (.tmp 40) (.tmp 40) rfl (L : Int) rfl rfl Try.underlying29 (.agg #[.int .i64 0, .int .i64 0]) 16 zinfo23 rfl (by decide) (by decide) z23 (okp := fun _ => True) (ok := fun _ => True) (k23_mkM _ _ _ _) (fun _ _ => trivial) trivial (by omega) (by omega) HB0.out HB0.out.size ?_; intro v1 w4 hR hb hg hv; rw [Int.toNat_natCast] at hR; have hbk4 := blk_grown HBK0.out hg (by simp); have HB4 := Lib.hid hb; have HBK4 := Lib.hid hbk4; obtain ⟨xs, hxs⟩ : ∃ xs, xs = List.replicate L z23 := ⟨_, rfl⟩; rw [← hxs] at hR; have hrow := (show OwnRow cells23 23 2 w4 w.heap.size v1 xs from hR.2.imp_ (fun p cs hp => k23_openM hp)); have hnb : some w.heap.size ≠ v1.ownBlock := (fun he => by obtain ⟨b', hb1, hb2⟩ := hv; rw [hb1] at he; injection he with he; have := blk_lt HBK0.out; omega); have HNB := Lib.hid hnb; have HROW := Lib.hid hrow; obtain ⟨A, c, rfl, _⟩ := OwnRow.slice_ hrow; have HXS := Lib.hid hxs; have hcl : w4.cell? ⟨w.heap.size, 19, none⟩ = some (.slice none 0 0) := (by rw [blk_cell hbk4]; rfl); have hfz : w4.frozen? ⟨w.heap.size, 19, none⟩ = false := blk_frozen hbk4 19; clear hR hb hg hv hbk4 hrow hnb hxs)
      go_meet
      have q1 : OwnR (w4.setCell ⟨w.heap.size, 19, none⟩ (.slice A xs.length c)) w.heap.size (.slice A xs.length c) xs := carryO HROW.out ((Chg.refl (fun k => k = w.heap.size) w4).setCell (.inl rfl) _) HNB.out
      obtain ⟨a1, e1, h1, r1⟩ := q1.reads
      injection h1 with h1a h1b h1c
      subst h1a h1c
      exact ⟨[], xs, [], ⟨#[]⟩, none, 0, A, c, none, 0, Lib.hid (blk_set HBK4.out 19 (.slice A xs.length c)), Lib.hid ⟨inC_nil _, r1, inE_nil _⟩, Lib.hid (by rw [HXS.out]; exact made2 m L hL5), Lib.hid (below_cell HB4.out (Nat.le_refl _))⟩
    · go_wp2_with (refine Kd.R_make Kd.string (w0 := w) w.heap.size 9 rfl (N := 47) rfl 26 (.tmp 46) (.tmp 46) rfl (L : Int) rfl rfl Try.underlying26 (.string ⟨#[]⟩) 16 zinfo9 rfl (by decide) (by decide) (⟨#[]⟩ : ByteArray) (okp := fun _ => True) (ok := fun _ => True) rfl (fun _ _ => trivial) trivial (by omega) (by omega) HB0.out HB0.out.size ?_; intro v1 w4 hR hb hg hv; rw [Int.toNat_natCast] at hR; have hbk4 := blk_grown HBK0.out hg (by simp); have HB4 := Lib.hid hb; have HBK4 := Lib.hid hbk4; obtain ⟨xs, hxs⟩ : ∃ xs, xs = List.replicate L (⟨#[]⟩ : ByteArray) := ⟨_, rfl⟩; rw [← hxs] at hR; have hrow := (show OwnRow cells9 9 1 w4 w.heap.size v1 xs from hR.2.imp_ (fun p cs hp => hp)); have hnb : some w.heap.size ≠ v1.ownBlock := (fun he => by obtain ⟨b', hb1, hb2⟩ := hv; rw [hb1] at he; injection he with he; have := blk_lt HBK0.out; omega); have HNB := Lib.hid hnb; have HROW := Lib.hid hrow; obtain ⟨A, c, rfl, _⟩ := OwnRow.slice_ hrow; have HXS := Lib.hid hxs; have hcl : w4.cell? ⟨w.heap.size, 17, none⟩ = some (.slice none 0 0) := (by rw [blk_cell hbk4]; rfl); have hfz : w4.frozen? ⟨w.heap.size, 17, none⟩ = false := blk_frozen hbk4 17; clear hR hb hg hv hbk4 hrow hnb hxs)
      go_meet
      have q1 : OwnRow cells9 9 1 (w4.setCell ⟨w.heap.size, 17, none⟩ (.slice A xs.length c)) w.heap.size (.slice A xs.length c) xs := carryO HROW.out ((Chg.refl (fun k => k = w.heap.size) w4).setCell (.inl rfl) _) HNB.out
      obtain ⟨a1, e1, h1, r1⟩ := inC_of q1
      injection h1 with h1a h1b h1c
      subst h1a h1c
      exact ⟨xs, [], [], ⟨#[]⟩, A, c, none, 0, none, 0, Lib.hid (blk_set HBK4.out 17 (.slice A xs.length c)), Lib.hid ⟨r1, inR_nil _, inE_nil _⟩, Lib.hid (by rw [HXS.out]; exact made3 m L hL5), Lib.hid (below_cell HB4.out (Nat.le_refl _))⟩
    · go_wp2_with (refine Kd.R_make (Kd.int .u8) (w0 := w) w.heap.size 5 rfl (N := 21) rfl 37 (.tmp 20) (.tmp 20) rfl (m : Int) rfl rfl Try.underlying37 (.int .u8 0) 1 info5 rfl (by decide) (by decide) (0 : Int) (okp := fun _ => True) (ok := fun _ => True) rfl (fun _ _ => trivial) trivial (by omega) (by omega) HB0.out HB0.out.size ?_; intro v1 w4 hR hb hg hv; rw [Int.toNat_natCast] at hR; have hbk4 := blk_grown HBK0.out hg (by simp); have HB4 := Lib.hid hb; have HBK4 := Lib.hid hbk4; obtain ⟨xs, hxs⟩ : ∃ xs, xs = List.replicate m (0 : Int) := ⟨_, rfl⟩; rw [← hxs] at hR; obtain ⟨A, c, rfl, hc, hrd⟩ := (OwnB.of_R hR).reads; have cvt := string_of_reads (P := Try.prog) (src := 37) (dst := 9) (c := c) Try.underlying37 Try.underlying5 Try.underlying9 hrd; have HXS := Lib.hid hxs; have hb5 := blk_alloc hbk4 (.cells #[.string (strOfNums xs)] 9); have hcl : (w4.alloc (.cells #[.string (strOfNums xs)] 9)).cell? ⟨w.heap.size, 17, none⟩ = some (.slice none 0 0) := (by rw [blk_cell hb5]; rfl); have hfz : (w4.alloc (.cells #[.string (strOfNums xs)] 9)).frozen? ⟨w.heap.size, 17, none⟩ = false := blk_frozen hb5 17; clear hb5; clear hR hb hg hv hbk4 hc hrd hxs)
      go_meet
      have hb6 := blk_set (blk_alloc HBK4.out (.cells #[.string (strOfNums xs)] 9)) 17 (.slice (some ⟨w4.heap.size, 0, none⟩) 1 1)
      have hne : w4.heap.size ≠ w.heap.size := by have := blk_lt HBK4.out; omega
      have hs := blk_far (blk_new w4 (.cells #[.string (strOfNums xs)] 9)) (p := ⟨w.heap.size, 17, none⟩) hne (.slice (some ⟨w4.heap.size, 0, none⟩) 1 1)
      exact ⟨[strOfNums xs], [], [], ⟨#[]⟩, some ⟨w4.heap.size, 0, none⟩, 1, none, 0, none, 0, Lib.hid hb6, Lib.hid ⟨inC_one hs, inR_nil _, inE_nil _⟩, Lib.hid (made4 m L _ (by rw [strOfNums_size, HXS.out, List.length_replicate])), Lib.hid (below_cell (HB4.out.alloc HB4.out.size _) (Nat.le_refl _))⟩
  case rest =>
  obtain ⟨ds, rs, es, tx, A1, c1, A2, c2, A3, c3, HBK, HIN, HMD, HB⟩ := hcut
  clear HBK0 HB0
  generalize wc = w5 at HBK HIN HMD HB ⊢
  go_wp2_with (refine wpList_load_row rfl 34 (.tmp 5) rfl w.heap.size rfl 34 #[.int .i64 0, .int .i64 0, .int .i64 0, .int .i64 0, .int .i64 0, .int .i64 0, .int .i64 0, .int .i64 0, .int .i64 0, .int .i64 0, .int .i64 0, .bool false, .int .i64 0, .int .i64 0, .int .i64 0, .int .i64 0, .int .i64 0, .slice A1 ds.length c1, .int .i64 0, .slice A2 rs.length c2, .bool false, .int .i64 0, .int .i64 0, .int .i64 0, .int .i64 0, .int .i64 0, .slice A3 es.length c3, .string tx] (0, 0) _ HBK.out Try.underlying34 rfl inf34b ?_)
  by_cases hf : (if 1 ≤ q ∧ q ≤ 3 then L ≤ 4096 else m ≤ 1048576)
  · by_cases hlen : (encMail (mailX ds rs es tx)).length ≤ 1048576
    · ((with_reducible refine (encX_ok A1 A2 A3 c1 c2 c3 ds rs es tx w5 HIN.out (HMD.out.good hf) HMD.out.ints hlen).mono ?_); rintro e w6 ⟨A, c, rfl, hc, HR, hb⟩)
      have HDX := Lib.hid (fun w' hr => decX A c ds rs es tx w' (HMD.out.good hf) HMD.out.ints hlen hr hc)
      generalize hF : frameL (encMail (mailX ds rs es tx)) = F at HR HDX hc ⊢
      clear hF
      have HB6 := Lib.hid (HB.out.trans (hb.mono HB.out.size))
      have HBK6 := Lib.hid (blk_below HBK.out hb)
      have HIN6 := Lib.hid (InX.below HIN.out hb)
      clear hb HBK HIN HB
      have hcl : (q = 0 ∨ q = 4) ∧ m ≤ 1048576 ∨ (1 ≤ q ∧ q ≤ 3) ∧ L ≤ 4096 := by
        by_cases h13 : 1 ≤ q ∧ q ≤ 3
        · rw [if_pos h13] at hf; exact .inr ⟨h13, hf⟩
        · rw [if_neg h13] at hf; exact .inl ⟨by omega, hf⟩
      clear hf
      rcases hcl with ⟨rfl | rfl, hfit⟩ | ⟨h13, hfit⟩
      all_goals
        first
        | have hfb : decide ((m : Int) ≤ 1048576) = true := by rw [decide_eq_true_iff]; omega
          skip
        | skip
        first
        | (have hlb : decide ((L : Int) ≤ 4096) = true := by rw [decide_eq_true_iff]; omega)
        | skip
        first
        | (have hq1 : decide (1 ≤ (q : Int)) = true := by rw [decide_eq_true_iff]; omega)
        | skip
        first
        | (have hq3 : decide ((q : Int) ≤ 3) = true := by rw [decide_eq_true_iff]; omega)
        | skip
        clear hfit
        try clear h13
        go_upto_region 22 with fail
        go_wp2_with fail
        ((with_reducible refine (HDX.out w6 HR.out).mono ?_); rintro e w7 ⟨B1, d1, B2, d2, B3, d3, rfl, HJ, hb⟩)
        have HB7 := Lib.hid (HB6.out.trans (hb.mono HB6.out.size))
        have HBK7 := Lib.hid (blk_below HBK6.out hb)
        have HIN7 := Lib.hid (InX.below HIN6.out hb)
        have HBz := Lib.hid (blk_new w7 (.cells #[.int .i64 0, .int .i64 0, .int .i64 0, .int .i64 0, .int .i64 0, .int .i64 0, .int .i64 0, .int .i64 0, .int .i64 0, .int .i64 0, .int .i64 0, .bool false, .int .i64 0, .int .i64 0, .int .i64 0, .int .i64 0, .int .i64 0, .slice none 0 0, .int .i64 0, .slice none 0 0, .bool false, .int .i64 0, .int .i64 0, .int .i64 0, .int .i64 0, .int .i64 0, .slice none 0 0, .string ⟨#[]⟩] 34))
        have hbz := (Below.refl w7.heap.size w7).alloc (Nat.le_refl _) (.cells #[.int .i64 0, .int .i64 0, .int .i64 0, .int .i64 0, .int .i64 0, .int .i64 0, .int .i64 0, .int .i64 0, .int .i64 0, .int .i64 0, .int .i64 0, .bool false, .int .i64 0, .int .i64 0, .int .i64 0, .int .i64 0, .int .i64 0, .slice none 0 0, .int .i64 0, .slice none 0 0, .bool false, .int .i64 0, .int .i64 0, .int .i64 0, .int .i64 0, .int .i64 0, .slice none 0 0, .string ⟨#[]⟩] 34)
        have hrow := below_row (cs := #[.int .i64 0, .int .i64 0, .int .i64 0, .int .i64 0, .int .i64 0, .int .i64 0, .int .i64 0, .int .i64 0, .int .i64 0, .int .i64 0, .int .i64 0, .bool false, .int .i64 0, .int .i64 0, .int .i64 0, .int .i64 0, .int .i64 0, .slice B1 ds.length d1, .int .i64 0, .slice B2 rs.length d2, .bool false, .int .i64 0, .int .i64 0, .int .i64 0, .int .i64 0, .int .i64 0, .slice B3 es.length d3, .string tx]) hbz (Nat.le_refl _)
        have HB8 := Lib.hid (HB7.out.trans (hrow.mono HB7.out.size))
        have HBK8 := Lib.hid (blk_below HBK7.out hrow)
        have HIN8 := Lib.hid (InX.below HIN7.out hrow)
        have HJ8 := Lib.hid (InX.below HJ.out hrow)
        have HBX := Lib.hid (setRow_heap (w7.alloc (.cells #[.int .i64 0, .int .i64 0, .int .i64 0, .int .i64 0, .int .i64 0, .int .i64 0, .int .i64 0, .int .i64 0, .int .i64 0, .int .i64 0, .int .i64 0, .bool false, .int .i64 0, .int .i64 0, .int .i64 0, .int .i64 0, .int .i64 0, .slice none 0 0, .int .i64 0, .slice none 0 0, .bool false, .int .i64 0, .int .i64 0, .int .i64 0, .int .i64 0, .int .i64 0, .slice none 0 0, .string ⟨#[]⟩] 34)) w7.heap.size #[.int .i64 0, .int .i64 0, .int .i64 0, .int .i64 0, .int .i64 0, .int .i64 0, .int .i64 0, .int .i64 0, .int .i64 0, .int .i64 0, .int .i64 0, .bool false, .int .i64 0, .int .i64 0, .int .i64 0, .int .i64 0, .int .i64 0, .slice none 0 0, .int .i64 0, .slice none 0 0, .bool false, .int .i64 0, .int .i64 0, .int .i64 0, .int .i64 0, .int .i64 0, .slice none 0 0, .string ⟨#[]⟩] #[.int .i64 0, .int .i64 0, .int .i64 0, .int .i64 0, .int .i64 0, .int .i64 0, .int .i64 0, .int .i64 0, .int .i64 0, .int .i64 0, .int .i64 0, .bool false, .int .i64 0, .int .i64 0, .int .i64 0, .int .i64 0, .int .i64 0, .slice B1 ds.length d1, .int .i64 0, .slice B2 rs.length d2, .bool false, .int .i64 0, .int .i64 0, .int .i64 0, .int .i64 0, .int .i64 0, .slice B3 es.length d3, .string tx] 34 (0, 0) HBz.out)
        clear hb hbz hrow HB7 HBK7 HIN7 HJ HB6 HBK6 HIN6
        go_upto_region 23 with (refine wpList_store_row rfl 34 (.tmp 10) (.tmp 94) rfl w7.heap.size #[.int .i64 0, .int .i64 0, .int .i64 0, .int .i64 0, .int .i64 0, .int .i64 0, .int .i64 0, .int .i64 0, .int .i64 0, .int .i64 0, .int .i64 0, .bool false, .int .i64 0, .int .i64 0, .int .i64 0, .int .i64 0, .int .i64 0, .slice B1 ds.length d1, .int .i64 0, .slice B2 rs.length d2, .bool false, .int .i64 0, .int .i64 0, .int .i64 0, .int .i64 0, .int .i64 0, .slice B3 es.length d3, .string tx] rfl rfl 34 _ HBz.out inf34b rfl (by simp [Value.oneCell']) ?_)
        generalize (w7.alloc (.cells #[.int .i64 0, .int .i64 0, .int .i64 0, .int .i64 0, .int .i64 0, .int .i64 0, .int .i64 0, .int .i64 0, .int .i64 0, .int .i64 0, .int .i64 0, .bool false, .int .i64 0, .int .i64 0, .int .i64 0, .int .i64 0, .int .i64 0, .slice none 0 0, .int .i64 0, .slice none 0 0, .bool false, .int .i64 0, .int .i64 0, .int .i64 0, .int .i64 0, .int .i64 0, .slice none 0 0, .string ⟨#[]⟩] 34)).setRow w7.heap.size #[.int .i64 0, .int .i64 0, .int .i64 0, .int .i64 0, .int .i64 0, .int .i64 0, .int .i64 0, .int .i64 0, .int .i64 0, .int .i64 0, .int .i64 0, .bool false, .int .i64 0, .int .i64 0, .int .i64 0, .int .i64 0, .int .i64 0, .slice B1 ds.length d1, .int .i64 0, .slice B2 rs.length d2, .bool false, .int .i64 0, .int .i64 0, .int .i64 0, .int .i64 0, .int .i64 0, .slice B3 es.length d3, .string tx] = w8 at HB8 HBK8 HIN8 HJ8 HBX ⊢
        go_wp2_with (first | (refine gate_guard (by rfl) ?_; dsimp only; refine wpList_load_row rfl 34 (.tmp 10) rfl w7.heap.size rfl 34 #[.int .i64 0, .int .i64 0, .int .i64 0, .int .i64 0, .int .i64 0, .int .i64 0, .int .i64 0, .int .i64 0, .int .i64 0, .int .i64 0, .int .i64 0, .bool false, .int .i64 0, .int .i64 0, .int .i64 0, .int .i64 0, .int .i64 0, .slice B1 ds.length d1, .int .i64 0, .slice B2 rs.length d2, .bool false, .int .i64 0, .int .i64 0, .int .i64 0, .int .i64 0, .int .i64 0, .slice B3 es.length d3, .string tx] (0, 0) _ HBX.out Try.underlying34 rfl inf34b ?_) | (refine gate_guard (by rfl) ?_; dsimp only; refine wpList_load_row rfl 34 (.tmp 5) rfl w.heap.size rfl 34 #[.int .i64 0, .int .i64 0, .int .i64 0, .int .i64 0, .int .i64 0, .int .i64 0, .int .i64 0, .int .i64 0, .int .i64 0, .int .i64 0, .int .i64 0, .bool false, .int .i64 0, .int .i64 0, .int .i64 0, .int .i64 0, .int .i64 0, .slice A1 ds.length c1, .int .i64 0, .slice A2 rs.length c2, .bool false, .int .i64 0, .int .i64 0, .int .i64 0, .int .i64 0, .int .i64 0, .slice A3 es.length c3, .string tx] (0, 0) _ HBK8.out Try.underlying34 rfl inf34b ?_) | ((with_reducible refine (sameX B1 B2 B3 A1 A2 A3 d1 d2 d3 c1 c2 c3 ds rs es tx w8 HJ8.out HIN8.out).mono ?_); rintro e w9 ⟨rfl, hb⟩; have HB9 := Lib.hid (HB8.out.trans (hb.mono HB8.out.size)); clear hb) | ((with_reducible refine (lives_calls _).mono ?_); rintro e wl ⟨rfl, hbl⟩))
        go_ret
        exact ⟨rfl, HB9.out.trans (hbl.mono HB9.out.size)⟩
    · have hbig := HMD.out.big hf (by omega)
      have hnb : decide (1048476 < (m : Int)) = true := by rw [decide_eq_true_iff]; omega
      ((with_reducible refine (encX_big A1 A2 A3 c1 c2 c3 ds rs es tx w5 HIN.out (HMD.out.good hf) HMD.out.ints hlen).mono ?_); rintro e w6 ⟨v, rfl, hb⟩)
      have HB6 := Lib.hid (HB.out.trans (hb.mono HB.out.size))
      clear hb HBK HIN HB hlen HMD
      have hcl : (q = 0 ∨ q = 4) ∧ m ≤ 1048576 ∨ (1 ≤ q ∧ q ≤ 3) ∧ L ≤ 4096 := by
        by_cases h13 : 1 ≤ q ∧ q ≤ 3
        · rw [if_pos h13] at hf; exact .inr ⟨h13, hf⟩
        · rw [if_neg h13] at hf; exact .inl ⟨by omega, hf⟩
      clear hf
      rcases hcl with ⟨rfl | rfl, hfit⟩ | ⟨h13, hfit⟩
      all_goals
        first
        | (have hfb : decide ((m : Int) ≤ 1048576) = true := by rw [decide_eq_true_iff]; omega)
        | skip
        first
        | (have hlb : decide ((L : Int) ≤ 4096) = true := by rw [decide_eq_true_iff]; omega)
        | skip
        first
        | (have hq1 : decide (1 ≤ (q : Int)) = true := by rw [decide_eq_true_iff]; omega)
        | skip
        first
        | (have hq3 : decide ((q : Int) ≤ 3) = true := by rw [decide_eq_true_iff]; omega)
        | skip
        clear hfit hbig
        try clear h13
        go_wp2_with ((with_reducible refine (lives_calls _).mono ?_); rintro e wl ⟨rfl, hbl⟩)
        all_goals
          go_ret
          exact ⟨rfl, HB6.out.trans (hbl.mono HB6.out.size)⟩
  · ((with_reducible refine (encX_bad A1 A2 A3 c1 c2 c3 ds rs es tx w5 HIN.out (HMD.out.bad hf)).mono ?_); rintro e w6 ⟨rfl, hb⟩)
    have HB6 := Lib.hid (HB.out.trans (hb.mono HB.out.size))
    have hcl : (q = 0 ∨ q = 4) ∧ ¬ m ≤ 1048576 ∨ (1 ≤ q ∧ q ≤ 3) ∧ ¬ L ≤ 4096 := by
      by_cases h13 : 1 ≤ q ∧ q ≤ 3
      · rw [if_pos h13] at hf; exact .inr ⟨h13, hf⟩
      · rw [if_neg h13] at hf; exact .inl ⟨by omega, hf⟩
    clear hf hb HBK HIN HB HMD
    rcases hcl with ⟨rfl | rfl, hfit⟩ | ⟨h13, hfit⟩
    all_goals
      first
      | (have hfb : decide ((m : Int) ≤ 1048576) = false := by rw [decide_eq_false_iff_not]; omega)
      | skip
      first
      | (have hlb : decide ((L : Int) ≤ 4096) = false := by rw [decide_eq_false_iff_not]; omega)
      | skip
      first
      | (have hq1 : decide (1 ≤ (q : Int)) = true := by rw [decide_eq_true_iff]; omega)
      | skip
      first
      | (have hq3 : decide ((q : Int) ≤ 3) = true := by rw [decide_eq_true_iff]; omega)
      | skip
      clear hfit
      try clear h13
      go_wp2_with ((with_reducible refine (lives_calls _).mono ?_); rintro e wl ⟨rfl, hbl⟩)
      all_goals
        go_ret
        exact ⟨rfl, HB6.out.trans (hbl.mono HB6.out.size)⟩

end Go.Proofs.Ytneebjlpeekmbaa
