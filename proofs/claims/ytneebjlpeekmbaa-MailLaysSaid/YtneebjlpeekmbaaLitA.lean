/- may where it says no, and mail.Encode there. No conditions beyond those typed. What the laws of the mail ask first: is a mail light, and may it be laid by the document? By plain words. No conditions beyond those typed. -/
import Derived.Test.YtneebjlpeekmbaaEnc
import Derived.Test.YtneebjlpeekmbaaRefL
namespace Go.Proofs.Ytneebjlpeekmbaa
open Go.RowKit Go.Proofs.YtneebjlpeekmbaaW.PrintWords Go.Proofs.YtneebjlpeekmbaaW.PrintLast Go.Proofs.YtneebjlpeekmbaaW.PrintMore PRef
set_option linter.unusedVariables false
set_option linter.unusedSimpArgs false

set_option maxRecDepth 100000 in
set_option maxHeartbeats 8000000 in
theorem may_false (w : World) (A1 A2 A3 : Option Addr) (c1 c2 c3 : Nat) (x : Mail) (hr1 : InC w A1 c1 x.inst.cmd.data) (hr2 : InR w A2 c2 x.inst.deps) (hr3 : InE w A3 c3 x.entries) (hx : ¬ MayOk x) :
    Calls Try.prog 23 #[.agg #[.int .i64 x.kind, .int .i64 x.mfrom, .int .i64 x.mto, .int .i64 x.shard, .int .i64 x.inst.lead, .int .i64 x.inst.index, .int .i64 x.inst.bn, .int .i64 x.inst.bnode, .int .i64 x.inst.vn, .int .i64 x.inst.vnode, .int .i64 x.inst.status, .bool x.inst.same, .int .i64 x.inst.cmd.op, .int .i64 x.inst.cmd.client, .int .i64 x.inst.cmd.seq, .int .i64 x.inst.cmd.cfrom, .int .i64 x.inst.cmd.cto, .slice A1 x.inst.cmd.data.length c1, .int .i64 x.inst.iseq, .slice A2 x.inst.deps.length c2, .bool x.ok, .int .i64 x.term, .int .i64 x.mindex, .int .i64 x.past, .int .i64 x.commit, .int .i64 x.epoch, .slice A3 x.entries.length c3, .string x.text]] w fun e w' => e = .returned (.bool false) ∧ Below w.heap.size w w' := by
  obtain ⟨m0, m1, m2, m3, m4, m5, m6, m7, m8, m9, m10, m11, m12⟩ := x
  obtain ⟨x0, x1, x2, x3, x4, x5, x6, x7, x8, x9, x10⟩ := m4
  obtain ⟨q0, q1, q2, q3, q4, q5⟩ := x8
  dsimp only at hr1 hr2 hr3 ⊢
  have HR1 := Lib.hid hr1
  have HR3 := Lib.hid hr3
  clear hr1 hr2 hr3
  have hno : ¬ ((0 ≤ q0 ∧ q0 ≤ 255) ∧ m12.size ≤ 1048576 ∧ (q5.length ≤ 4096 ∧ ∀ s ∈ q5, s.size ≤ 1048576) ∧ x10.length ≤ 4096 ∧ (m11.length ≤ 4096 ∧ ∀ s ∈ m11, s.f2.size ≤ 1048576)) := fun h => hx ⟨h.1, h.2.1, h.2.2.1, h.2.2.2.1, h.2.2.2.2⟩
  have HNO := Lib.hid hno
  clear hno hx
  have HBK1 := Lib.hid (blk_alloc (blk_new w (.cells #[.int .i64 m0, .int .i64 m1, .int .i64 m2, .int .i64 m3, .int .i64 x0, .int .i64 x1, .int .i64 x2, .int .i64 x3, .int .i64 x4, .int .i64 x5, .int .i64 x6, .bool x7, .int .i64 q0, .int .i64 q1, .int .i64 q2, .int .i64 q3, .int .i64 q4, .slice A1 q5.length c1, .int .i64 x9, .slice A2 x10.length c2, .bool m5, .int .i64 m6, .int .i64 m7, .int .i64 m8, .int .i64 m9, .int .i64 m10, .slice A3 m11.length c3, .string m12] 34)) (.cells #[.int .i64 q0, .int .i64 q1, .int .i64 q2, .int .i64 q3, .int .i64 q4, .slice A1 q5.length c1] 28))
  have HBK2 : Hid (((w.alloc (.cells #[.int .i64 m0, .int .i64 m1, .int .i64 m2, .int .i64 m3, .int .i64 x0, .int .i64 x1, .int .i64 x2, .int .i64 x3, .int .i64 x4, .int .i64 x5, .int .i64 x6, .bool x7, .int .i64 q0, .int .i64 q1, .int .i64 q2, .int .i64 q3, .int .i64 q4, .slice A1 q5.length c1, .int .i64 x9, .slice A2 x10.length c2, .bool m5, .int .i64 m6, .int .i64 m7, .int .i64 m8, .int .i64 m9, .int .i64 m10, .slice A3 m11.length c3, .string m12] 34)).alloc (.cells #[.int .i64 q0, .int .i64 q1, .int .i64 q2, .int .i64 q3, .int .i64 q4, .slice A1 q5.length c1] 28)).heap[w.heap.size + 1]? = some (.cells #[.int .i64 q0, .int .i64 q1, .int .i64 q2, .int .i64 q3, .int .i64 q4, .slice A1 q5.length c1] 28)) := Lib.hid (by have := blk_new (w.alloc (.cells #[.int .i64 m0, .int .i64 m1, .int .i64 m2, .int .i64 m3, .int .i64 x0, .int .i64 x1, .int .i64 x2, .int .i64 x3, .int .i64 x4, .int .i64 x5, .int .i64 x6, .bool x7, .int .i64 q0, .int .i64 q1, .int .i64 q2, .int .i64 q3, .int .i64 q4, .slice A1 q5.length c1, .int .i64 x9, .slice A2 x10.length c2, .bool m5, .int .i64 m6, .int .i64 m7, .int .i64 m8, .int .i64 m9, .int .i64 m10, .slice A3 m11.length c3, .string m12] 34)) (.cells #[.int .i64 q0, .int .i64 q1, .int .i64 q2, .int .i64 q3, .int .i64 q4, .slice A1 q5.length c1] 28); rwa [World.size_alloc] at this)
  have HB2 := Lib.hid (((Below.refl w.heap.size w).alloc (Nat.le_refl _) (.cells #[.int .i64 m0, .int .i64 m1, .int .i64 m2, .int .i64 m3, .int .i64 x0, .int .i64 x1, .int .i64 x2, .int .i64 x3, .int .i64 x4, .int .i64 x5, .int .i64 x6, .bool x7, .int .i64 q0, .int .i64 q1, .int .i64 q2, .int .i64 q3, .int .i64 q4, .slice A1 q5.length c1, .int .i64 x9, .slice A2 x10.length c2, .bool m5, .int .i64 m6, .int .i64 m7, .int .i64 m8, .int .i64 m9, .int .i64 m10, .slice A3 m11.length c3, .string m12] 34)).alloc (by simp) (.cells #[.int .i64 q0, .int .i64 q1, .int .i64 q2, .int .i64 q3, .int .i64 q4, .slice A1 q5.length c1] 28))
  have hu31 := Try.underlying31
  have hu34 := Try.underlying34
  have hu28 := Try.underlying28
  by_cases g0 : q0 < 0
  · have hb0 : decide (q0 < 0) = true := by rw [decide_eq_true_iff]; omega
    clear g0
    go_enter Try.func23, Try.ntmps23
    go_upto_region 2 with fail
    generalize ((w.alloc (.cells #[.int .i64 m0, .int .i64 m1, .int .i64 m2, .int .i64 m3, .int .i64 x0, .int .i64 x1, .int .i64 x2, .int .i64 x3, .int .i64 x4, .int .i64 x5, .int .i64 x6, .bool x7, .int .i64 q0, .int .i64 q1, .int .i64 q2, .int .i64 q3, .int .i64 q4, .slice A1 q5.length c1, .int .i64 x9, .slice A2 x10.length c2, .bool m5, .int .i64 m6, .int .i64 m7, .int .i64 m8, .int .i64 m9, .int .i64 m10, .slice A3 m11.length c3, .string m12] 34)).alloc (.cells #[.int .i64 q0, .int .i64 q1, .int .i64 q2, .int .i64 q3, .int .i64 q4, .slice A1 q5.length c1] 28)) = w2 at HBK1 HBK2 HB2 ⊢
    generalize Value.agg #[.int .i64 m0, .int .i64 m1, .int .i64 m2, .int .i64 m3, .int .i64 x0, .int .i64 x1, .int .i64 x2, .int .i64 x3, .int .i64 x4, .int .i64 x5, .int .i64 x6, .bool x7, .int .i64 q0, .int .i64 q1, .int .i64 q2, .int .i64 q3, .int .i64 q4, .slice A1 q5.length c1, .int .i64 x9, .slice A2 x10.length c2, .bool m5, .int .i64 m6, .int .i64 m7, .int .i64 m8, .int .i64 m9, .int .i64 m10, .slice A3 m11.length c3, .string m12] = vx
    have k2y0 : w2.cell? ⟨w.heap.size + 1, 0, none⟩ = some (.int .i64 q0) := by rw [blk_cell HBK2.out]; rfl
    have k2y5 : w2.cell? ⟨w.heap.size + 1, 5, none⟩ = some (.slice A1 q5.length c1) := by rw [blk_cell HBK2.out]; rfl
    have k2x19 : w2.cell? ⟨w.heap.size, 19, none⟩ = some (.slice A2 x10.length c2) := by rw [blk_cell HBK1.out]; rfl
    have k2x26 : w2.cell? ⟨w.heap.size, 26, none⟩ = some (.slice A3 m11.length c3) := by rw [blk_cell HBK1.out]; rfl
    have k2x27 : w2.cell? ⟨w.heap.size, 27, none⟩ = some (.string m12) := by rw [blk_cell HBK1.out]; rfl
    go_wp2_with (fail)
    go_ret
    exact ⟨rfl, HB2.out⟩
  · skip
    by_cases g1 : 255 < q0
    · have hb0 : decide (q0 < 0) = false := by rw [decide_eq_false_iff_not]; omega
      have hb1 : decide (255 < q0) = true := by rw [decide_eq_true_iff]; omega
      clear g0 g1
      go_enter Try.func23, Try.ntmps23
      go_upto_region 2 with fail
      generalize ((w.alloc (.cells #[.int .i64 m0, .int .i64 m1, .int .i64 m2, .int .i64 m3, .int .i64 x0, .int .i64 x1, .int .i64 x2, .int .i64 x3, .int .i64 x4, .int .i64 x5, .int .i64 x6, .bool x7, .int .i64 q0, .int .i64 q1, .int .i64 q2, .int .i64 q3, .int .i64 q4, .slice A1 q5.length c1, .int .i64 x9, .slice A2 x10.length c2, .bool m5, .int .i64 m6, .int .i64 m7, .int .i64 m8, .int .i64 m9, .int .i64 m10, .slice A3 m11.length c3, .string m12] 34)).alloc (.cells #[.int .i64 q0, .int .i64 q1, .int .i64 q2, .int .i64 q3, .int .i64 q4, .slice A1 q5.length c1] 28)) = w2 at HBK1 HBK2 HB2 ⊢
      generalize Value.agg #[.int .i64 m0, .int .i64 m1, .int .i64 m2, .int .i64 m3, .int .i64 x0, .int .i64 x1, .int .i64 x2, .int .i64 x3, .int .i64 x4, .int .i64 x5, .int .i64 x6, .bool x7, .int .i64 q0, .int .i64 q1, .int .i64 q2, .int .i64 q3, .int .i64 q4, .slice A1 q5.length c1, .int .i64 x9, .slice A2 x10.length c2, .bool m5, .int .i64 m6, .int .i64 m7, .int .i64 m8, .int .i64 m9, .int .i64 m10, .slice A3 m11.length c3, .string m12] = vx
      have k2y0 : w2.cell? ⟨w.heap.size + 1, 0, none⟩ = some (.int .i64 q0) := by rw [blk_cell HBK2.out]; rfl
      have k2y5 : w2.cell? ⟨w.heap.size + 1, 5, none⟩ = some (.slice A1 q5.length c1) := by rw [blk_cell HBK2.out]; rfl
      have k2x19 : w2.cell? ⟨w.heap.size, 19, none⟩ = some (.slice A2 x10.length c2) := by rw [blk_cell HBK1.out]; rfl
      have k2x26 : w2.cell? ⟨w.heap.size, 26, none⟩ = some (.slice A3 m11.length c3) := by rw [blk_cell HBK1.out]; rfl
      have k2x27 : w2.cell? ⟨w.heap.size, 27, none⟩ = some (.string m12) := by rw [blk_cell HBK1.out]; rfl
      go_wp2_with (fail)
      go_ret
      exact ⟨rfl, HB2.out⟩
    · skip
      by_cases g2 : 1048576 < m12.size
      · have hb0 : decide (q0 < 0) = false := by rw [decide_eq_false_iff_not]; omega
        have hb1 : decide (255 < q0) = false := by rw [decide_eq_false_iff_not]; omega
        have hb2 : decide ((m12.size : Int) ≤ 1048576) = false := by rw [decide_eq_false_iff_not]; omega
        clear g0 g1 g2
        go_enter Try.func23, Try.ntmps23
        go_upto_region 2 with fail
        generalize ((w.alloc (.cells #[.int .i64 m0, .int .i64 m1, .int .i64 m2, .int .i64 m3, .int .i64 x0, .int .i64 x1, .int .i64 x2, .int .i64 x3, .int .i64 x4, .int .i64 x5, .int .i64 x6, .bool x7, .int .i64 q0, .int .i64 q1, .int .i64 q2, .int .i64 q3, .int .i64 q4, .slice A1 q5.length c1, .int .i64 x9, .slice A2 x10.length c2, .bool m5, .int .i64 m6, .int .i64 m7, .int .i64 m8, .int .i64 m9, .int .i64 m10, .slice A3 m11.length c3, .string m12] 34)).alloc (.cells #[.int .i64 q0, .int .i64 q1, .int .i64 q2, .int .i64 q3, .int .i64 q4, .slice A1 q5.length c1] 28)) = w2 at HBK1 HBK2 HB2 ⊢
        generalize Value.agg #[.int .i64 m0, .int .i64 m1, .int .i64 m2, .int .i64 m3, .int .i64 x0, .int .i64 x1, .int .i64 x2, .int .i64 x3, .int .i64 x4, .int .i64 x5, .int .i64 x6, .bool x7, .int .i64 q0, .int .i64 q1, .int .i64 q2, .int .i64 q3, .int .i64 q4, .slice A1 q5.length c1, .int .i64 x9, .slice A2 x10.length c2, .bool m5, .int .i64 m6, .int .i64 m7, .int .i64 m8, .int .i64 m9, .int .i64 m10, .slice A3 m11.length c3, .string m12] = vx
        have k2y0 : w2.cell? ⟨w.heap.size + 1, 0, none⟩ = some (.int .i64 q0) := by rw [blk_cell HBK2.out]; rfl
        have k2y5 : w2.cell? ⟨w.heap.size + 1, 5, none⟩ = some (.slice A1 q5.length c1) := by rw [blk_cell HBK2.out]; rfl
        have k2x19 : w2.cell? ⟨w.heap.size, 19, none⟩ = some (.slice A2 x10.length c2) := by rw [blk_cell HBK1.out]; rfl
        have k2x26 : w2.cell? ⟨w.heap.size, 26, none⟩ = some (.slice A3 m11.length c3) := by rw [blk_cell HBK1.out]; rfl
        have k2x27 : w2.cell? ⟨w.heap.size, 27, none⟩ = some (.string m12) := by rw [blk_cell HBK1.out]; rfl
        go_wp2_with ((with_reducible refine (istext_calls _ _).mono ?_); rintro e wt ⟨rfl, rfl⟩; rw [hb2])
        go_ret
        exact ⟨rfl, HB2.out⟩
      · skip
        by_cases g3 : 4096 < q5.length
        · have hb0 : decide (q0 < 0) = false := by rw [decide_eq_false_iff_not]; omega
          have hb1 : decide (255 < q0) = false := by rw [decide_eq_false_iff_not]; omega
          have hb2 : decide ((m12.size : Int) ≤ 1048576) = true := by rw [decide_eq_true_iff]; omega
          have hb3 : decide (4096 < (q5.length : Int)) = true := by rw [decide_eq_true_iff]; omega
          clear g0 g1 g2 g3
          go_enter Try.func23, Try.ntmps23
          go_upto_region 2 with fail
          generalize ((w.alloc (.cells #[.int .i64 m0, .int .i64 m1, .int .i64 m2, .int .i64 m3, .int .i64 x0, .int .i64 x1, .int .i64 x2, .int .i64 x3, .int .i64 x4, .int .i64 x5, .int .i64 x6, .bool x7, .int .i64 q0, .int .i64 q1, .int .i64 q2, .int .i64 q3, .int .i64 q4, .slice A1 q5.length c1, .int .i64 x9, .slice A2 x10.length c2, .bool m5, .int .i64 m6, .int .i64 m7, .int .i64 m8, .int .i64 m9, .int .i64 m10, .slice A3 m11.length c3, .string m12] 34)).alloc (.cells #[.int .i64 q0, .int .i64 q1, .int .i64 q2, .int .i64 q3, .int .i64 q4, .slice A1 q5.length c1] 28)) = w2 at HBK1 HBK2 HB2 ⊢
          generalize Value.agg #[.int .i64 m0, .int .i64 m1, .int .i64 m2, .int .i64 m3, .int .i64 x0, .int .i64 x1, .int .i64 x2, .int .i64 x3, .int .i64 x4, .int .i64 x5, .int .i64 x6, .bool x7, .int .i64 q0, .int .i64 q1, .int .i64 q2, .int .i64 q3, .int .i64 q4, .slice A1 q5.length c1, .int .i64 x9, .slice A2 x10.length c2, .bool m5, .int .i64 m6, .int .i64 m7, .int .i64 m8, .int .i64 m9, .int .i64 m10, .slice A3 m11.length c3, .string m12] = vx
          have k2y0 : w2.cell? ⟨w.heap.size + 1, 0, none⟩ = some (.int .i64 q0) := by rw [blk_cell HBK2.out]; rfl
          have k2y5 : w2.cell? ⟨w.heap.size + 1, 5, none⟩ = some (.slice A1 q5.length c1) := by rw [blk_cell HBK2.out]; rfl
          have k2x19 : w2.cell? ⟨w.heap.size, 19, none⟩ = some (.slice A2 x10.length c2) := by rw [blk_cell HBK1.out]; rfl
          have k2x26 : w2.cell? ⟨w.heap.size, 26, none⟩ = some (.slice A3 m11.length c3) := by rw [blk_cell HBK1.out]; rfl
          have k2x27 : w2.cell? ⟨w.heap.size, 27, none⟩ = some (.string m12) := by rw [blk_cell HBK1.out]; rfl
          go_wp2_with ((with_reducible refine (istext_calls _ _).mono ?_); rintro e wt ⟨rfl, rfl⟩; rw [hb2])
          go_ret
          exact ⟨rfl, HB2.out⟩
        · skip
          by_cases g4 : 4096 < x10.length
          · have hb0 : decide (q0 < 0) = false := by rw [decide_eq_false_iff_not]; omega
            have hb1 : decide (255 < q0) = false := by rw [decide_eq_false_iff_not]; omega
            have hb2 : decide ((m12.size : Int) ≤ 1048576) = true := by rw [decide_eq_true_iff]; omega
            have hb3 : decide (4096 < (q5.length : Int)) = false := by rw [decide_eq_false_iff_not]; omega
            have hb4 : decide (4096 < (x10.length : Int)) = true := by rw [decide_eq_true_iff]; omega
            clear g0 g1 g2 g3 g4
            go_enter Try.func23, Try.ntmps23
            go_upto_region 2 with fail
            generalize ((w.alloc (.cells #[.int .i64 m0, .int .i64 m1, .int .i64 m2, .int .i64 m3, .int .i64 x0, .int .i64 x1, .int .i64 x2, .int .i64 x3, .int .i64 x4, .int .i64 x5, .int .i64 x6, .bool x7, .int .i64 q0, .int .i64 q1, .int .i64 q2, .int .i64 q3, .int .i64 q4, .slice A1 q5.length c1, .int .i64 x9, .slice A2 x10.length c2, .bool m5, .int .i64 m6, .int .i64 m7, .int .i64 m8, .int .i64 m9, .int .i64 m10, .slice A3 m11.length c3, .string m12] 34)).alloc (.cells #[.int .i64 q0, .int .i64 q1, .int .i64 q2, .int .i64 q3, .int .i64 q4, .slice A1 q5.length c1] 28)) = w2 at HBK1 HBK2 HB2 ⊢
            generalize Value.agg #[.int .i64 m0, .int .i64 m1, .int .i64 m2, .int .i64 m3, .int .i64 x0, .int .i64 x1, .int .i64 x2, .int .i64 x3, .int .i64 x4, .int .i64 x5, .int .i64 x6, .bool x7, .int .i64 q0, .int .i64 q1, .int .i64 q2, .int .i64 q3, .int .i64 q4, .slice A1 q5.length c1, .int .i64 x9, .slice A2 x10.length c2, .bool m5, .int .i64 m6, .int .i64 m7, .int .i64 m8, .int .i64 m9, .int .i64 m10, .slice A3 m11.length c3, .string m12] = vx
            have k2y0 : w2.cell? ⟨w.heap.size + 1, 0, none⟩ = some (.int .i64 q0) := by rw [blk_cell HBK2.out]; rfl
            have k2y5 : w2.cell? ⟨w.heap.size + 1, 5, none⟩ = some (.slice A1 q5.length c1) := by rw [blk_cell HBK2.out]; rfl
            have k2x19 : w2.cell? ⟨w.heap.size, 19, none⟩ = some (.slice A2 x10.length c2) := by rw [blk_cell HBK1.out]; rfl
            have k2x26 : w2.cell? ⟨w.heap.size, 26, none⟩ = some (.slice A3 m11.length c3) := by rw [blk_cell HBK1.out]; rfl
            have k2x27 : w2.cell? ⟨w.heap.size, 27, none⟩ = some (.string m12) := by rw [blk_cell HBK1.out]; rfl
            go_wp2_with ((with_reducible refine (istext_calls _ _).mono ?_); rintro e wt ⟨rfl, rfl⟩; rw [hb2])
            go_ret
            exact ⟨rfl, HB2.out⟩
          · skip
            by_cases g5 : 4096 < m11.length
            · have hb0 : decide (q0 < 0) = false := by rw [decide_eq_false_iff_not]; omega
              have hb1 : decide (255 < q0) = false := by rw [decide_eq_false_iff_not]; omega
              have hb2 : decide ((m12.size : Int) ≤ 1048576) = true := by rw [decide_eq_true_iff]; omega
              have hb3 : decide (4096 < (q5.length : Int)) = false := by rw [decide_eq_false_iff_not]; omega
              have hb4 : decide (4096 < (x10.length : Int)) = false := by rw [decide_eq_false_iff_not]; omega
              have hb5 : decide (4096 < (m11.length : Int)) = true := by rw [decide_eq_true_iff]; omega
              clear g0 g1 g2 g3 g4 g5
              go_enter Try.func23, Try.ntmps23
              go_upto_region 2 with fail
              generalize ((w.alloc (.cells #[.int .i64 m0, .int .i64 m1, .int .i64 m2, .int .i64 m3, .int .i64 x0, .int .i64 x1, .int .i64 x2, .int .i64 x3, .int .i64 x4, .int .i64 x5, .int .i64 x6, .bool x7, .int .i64 q0, .int .i64 q1, .int .i64 q2, .int .i64 q3, .int .i64 q4, .slice A1 q5.length c1, .int .i64 x9, .slice A2 x10.length c2, .bool m5, .int .i64 m6, .int .i64 m7, .int .i64 m8, .int .i64 m9, .int .i64 m10, .slice A3 m11.length c3, .string m12] 34)).alloc (.cells #[.int .i64 q0, .int .i64 q1, .int .i64 q2, .int .i64 q3, .int .i64 q4, .slice A1 q5.length c1] 28)) = w2 at HBK1 HBK2 HB2 ⊢
              generalize Value.agg #[.int .i64 m0, .int .i64 m1, .int .i64 m2, .int .i64 m3, .int .i64 x0, .int .i64 x1, .int .i64 x2, .int .i64 x3, .int .i64 x4, .int .i64 x5, .int .i64 x6, .bool x7, .int .i64 q0, .int .i64 q1, .int .i64 q2, .int .i64 q3, .int .i64 q4, .slice A1 q5.length c1, .int .i64 x9, .slice A2 x10.length c2, .bool m5, .int .i64 m6, .int .i64 m7, .int .i64 m8, .int .i64 m9, .int .i64 m10, .slice A3 m11.length c3, .string m12] = vx
              have k2y0 : w2.cell? ⟨w.heap.size + 1, 0, none⟩ = some (.int .i64 q0) := by rw [blk_cell HBK2.out]; rfl
              have k2y5 : w2.cell? ⟨w.heap.size + 1, 5, none⟩ = some (.slice A1 q5.length c1) := by rw [blk_cell HBK2.out]; rfl
              have k2x19 : w2.cell? ⟨w.heap.size, 19, none⟩ = some (.slice A2 x10.length c2) := by rw [blk_cell HBK1.out]; rfl
              have k2x26 : w2.cell? ⟨w.heap.size, 26, none⟩ = some (.slice A3 m11.length c3) := by rw [blk_cell HBK1.out]; rfl
              have k2x27 : w2.cell? ⟨w.heap.size, 27, none⟩ = some (.string m12) := by rw [blk_cell HBK1.out]; rfl
              go_wp2_with ((with_reducible refine (istext_calls _ _).mono ?_); rintro e wt ⟨rfl, rfl⟩; rw [hb2])
              go_ret
              exact ⟨rfl, HB2.out⟩
            · skip
              have hb0 : decide (q0 < 0) = false := by rw [decide_eq_false_iff_not]; omega
              have hb1 : decide (255 < q0) = false := by rw [decide_eq_false_iff_not]; omega
              have hb2 : decide ((m12.size : Int) ≤ 1048576) = true := by rw [decide_eq_true_iff]; omega
              have hb3 : decide (4096 < (q5.length : Int)) = false := by rw [decide_eq_false_iff_not]; omega
              have hb4 : decide (4096 < (x10.length : Int)) = false := by rw [decide_eq_false_iff_not]; omega
              have hb5 : decide (4096 < (m11.length : Int)) = false := by rw [decide_eq_false_iff_not]; omega
              have HIN : Hid ((∀ s ∈ q5, s.size ≤ 1048576) → ∃ x ∈ m11, 1048576 < x.f2.size) := Lib.hid (fun h => by
                apply Classical.byContradiction
                intro hne
                exact HNO.out ⟨by omega, by omega, ⟨by omega, h⟩, by omega, by omega, fun s hs => Nat.le_of_not_lt (fun hlt => hne ⟨s, hs, hlt⟩)⟩)
              have hdl : q5.length ≤ 4096 := by omega
              clear g0 g1 g2 g3 g4 g5
              go_enter Try.func23, Try.ntmps23
              go_upto_region 2 with fail
              generalize ((w.alloc (.cells #[.int .i64 m0, .int .i64 m1, .int .i64 m2, .int .i64 m3, .int .i64 x0, .int .i64 x1, .int .i64 x2, .int .i64 x3, .int .i64 x4, .int .i64 x5, .int .i64 x6, .bool x7, .int .i64 q0, .int .i64 q1, .int .i64 q2, .int .i64 q3, .int .i64 q4, .slice A1 q5.length c1, .int .i64 x9, .slice A2 x10.length c2, .bool m5, .int .i64 m6, .int .i64 m7, .int .i64 m8, .int .i64 m9, .int .i64 m10, .slice A3 m11.length c3, .string m12] 34)).alloc (.cells #[.int .i64 q0, .int .i64 q1, .int .i64 q2, .int .i64 q3, .int .i64 q4, .slice A1 q5.length c1] 28)) = w2 at HBK1 HBK2 HB2 ⊢
              generalize Value.agg #[.int .i64 m0, .int .i64 m1, .int .i64 m2, .int .i64 m3, .int .i64 x0, .int .i64 x1, .int .i64 x2, .int .i64 x3, .int .i64 x4, .int .i64 x5, .int .i64 x6, .bool x7, .int .i64 q0, .int .i64 q1, .int .i64 q2, .int .i64 q3, .int .i64 q4, .slice A1 q5.length c1, .int .i64 x9, .slice A2 x10.length c2, .bool m5, .int .i64 m6, .int .i64 m7, .int .i64 m8, .int .i64 m9, .int .i64 m10, .slice A3 m11.length c3, .string m12] = vx
              have k2y0 : w2.cell? ⟨w.heap.size + 1, 0, none⟩ = some (.int .i64 q0) := by rw [blk_cell HBK2.out]; rfl
              have k2y5 : w2.cell? ⟨w.heap.size + 1, 5, none⟩ = some (.slice A1 q5.length c1) := by rw [blk_cell HBK2.out]; rfl
              have k2x19 : w2.cell? ⟨w.heap.size, 19, none⟩ = some (.slice A2 x10.length c2) := by rw [blk_cell HBK1.out]; rfl
              have k2x26 : w2.cell? ⟨w.heap.size, 26, none⟩ = some (.slice A3 m11.length c3) := by rw [blk_cell HBK1.out]; rfl
              have k2x27 : w2.cell? ⟨w.heap.size, 27, none⟩ = some (.string m12) := by rw [blk_cell HBK1.out]; rfl
              go_wp2_with ((with_reducible refine (istext_calls _ _).mono ?_); rintro e wt ⟨rfl, rfl⟩; rw [hb2])
              go_loopw [45] (fun vi wr => ∃ i : Nat, vi = .int .i64 i ∧ i ≤ q5.length ∧ Hid (∀ j, j < i → (q5.getD j ByteArray.empty).size ≤ 1048576) ∧ w2 = wr) (fun vi _ => q5.length - (intOf vi).toNat)
              case atStart => exact ⟨0, rfl, by omega, Lib.hid (fun j hj => by omega), by trivial⟩
              case round =>
                obtain ⟨i, rfl, hi, HA, rfl⟩ := hrel
                by_cases hlt : i < q5.length
                · obtain ⟨ad, rfl, ha0⟩ := ReadsOf.at_ (d := ByteArray.empty) (readsStr (Kd.C_below HR1.out.1 HB2.out)) (i : Int) (by omega) (by omega)
                  have hrx : rdOf ByteArray.empty q5 (i : Int) = q5.getD i ByteArray.empty := by unfold rdOf; rw [Int.toNat_natCast]
                  rw [hrx, Int.toNat_natCast] at ha0
                  obtain ⟨s, hs⟩ : ∃ s, s = q5.getD i ByteArray.empty := ⟨_, rfl⟩
                  rw [← hs] at ha0
                  have HS := Lib.hid hs
                  clear hrx hs
                  by_cases hsz : s.size ≤ 1048576
                  · have hsb : decide ((s.size : Int) ≤ 1048576) = true := by rw [decide_eq_true_iff]; omega
                    have HSZ := Lib.hid hsz
                    clear hsz
                    go_wp2_with ((with_reducible refine (istext_calls _ _).mono ?_); rintro e wt ⟨rfl, rfl⟩; rw [hsb])
                    go_roundw
                    case measure => simp [intOf]; omega
                    case rel => exact ⟨i + 1, by go_num, by omega, Lib.hid (fun j hj => by
                      by_cases hji : j = i
                      · rw [hji, ← HS.out]; exact HSZ.out
                      · exact HA.out j (by omega)), by trivial⟩
                  · have hsb : decide ((s.size : Int) ≤ 1048576) = false := by rw [decide_eq_false_iff_not]; omega
                    clear hsz
                    go_wp2_with ((with_reducible refine (istext_calls _ _).mono ?_); rintro e wt ⟨rfl, rfl⟩; rw [hsb])
                    go_ret
                    exact ⟨rfl, HB2.out⟩
                · obtain rfl : i = q5.length := by omega
                  have hex := HIN.out (fun s hs => by
                    obtain ⟨j, hj, rfl⟩ := List.getElem_of_mem hs
                    have := HA.out j hj
                    rw [List.getD_eq_getElem?_getD, List.getElem?_eq_getElem hj] at this
                    exact this)
                  have HEX := Lib.hid hex
                  clear hex
                  go_wp2_with fail
                  ((with_reducible refine (containsf_calls _ _ m11 _ ⟨Kd.C_below HR3.out.1 HB2.out, HR3.out.2⟩ true ⟨fun _ => HEX.out, fun _ => rfl⟩).mono ?_); rintro e w3 ⟨rfl, hb⟩)
                  have HB3 := Lib.hid (HB2.out.trans (hb.mono HB2.out.size))
                  clear hb
                  go_wp2_with fail
                  go_ret
                  exact ⟨rfl, HB3.out⟩

set_option maxRecDepth 100000 in
set_option maxHeartbeats 4000000 in
theorem encode_bad (w : World) (A1 A2 A3 : Option Addr) (c1 c2 c3 : Nat) (x : Mail) (hr1 : InC w A1 c1 x.inst.cmd.data) (hr2 : InR w A2 c2 x.inst.deps) (hr3 : InE w A3 c3 x.entries) (hx : ¬ MayOk x) :
    Calls Try.prog 12 #[.agg #[.int .i64 x.kind, .int .i64 x.mfrom, .int .i64 x.mto, .int .i64 x.shard, .int .i64 x.inst.lead, .int .i64 x.inst.index, .int .i64 x.inst.bn, .int .i64 x.inst.bnode, .int .i64 x.inst.vn, .int .i64 x.inst.vnode, .int .i64 x.inst.status, .bool x.inst.same, .int .i64 x.inst.cmd.op, .int .i64 x.inst.cmd.client, .int .i64 x.inst.cmd.seq, .int .i64 x.inst.cmd.cfrom, .int .i64 x.inst.cmd.cto, .slice A1 x.inst.cmd.data.length c1, .int .i64 x.inst.iseq, .slice A2 x.inst.deps.length c2, .bool x.ok, .int .i64 x.term, .int .i64 x.mindex, .int .i64 x.past, .int .i64 x.commit, .int .i64 x.epoch, .slice A3 x.entries.length c3, .string x.text]] w fun e w' => e = .returned (.tuple #[.slice none 0 0, .int .i64 1]) ∧ Below w.heap.size w w' := by
  have HNO := Lib.hid hx
  clear hx
  obtain ⟨m0, m1, m2, m3, m4, m5, m6, m7, m8, m9, m10, m11, m12⟩ := x
  obtain ⟨x0, x1, x2, x3, x4, x5, x6, x7, x8, x9, x10⟩ := m4
  obtain ⟨q0, q1, q2, q3, q4, q5⟩ := x8
  dsimp only at HNO hr1 hr2 hr3 ⊢
  have HR1 := Lib.hid hr1
  have HR2 := Lib.hid hr2
  have HR3 := Lib.hid hr3
  have HBK := Lib.hid (blk_new w (.cells #[.int .i64 m0, .int .i64 m1, .int .i64 m2, .int .i64 m3, .int .i64 x0, .int .i64 x1, .int .i64 x2, .int .i64 x3, .int .i64 x4, .int .i64 x5, .int .i64 x6, .bool x7, .int .i64 q0, .int .i64 q1, .int .i64 q2, .int .i64 q3, .int .i64 q4, .slice A1 q5.length c1, .int .i64 x9, .slice A2 x10.length c2, .bool m5, .int .i64 m6, .int .i64 m7, .int .i64 m8, .int .i64 m9, .int .i64 m10, .slice A3 m11.length c3, .string m12] 34))
  have HBb := Lib.hid ((Below.refl w.heap.size w).alloc (Nat.le_refl _) (.cells #[.int .i64 m0, .int .i64 m1, .int .i64 m2, .int .i64 m3, .int .i64 x0, .int .i64 x1, .int .i64 x2, .int .i64 x3, .int .i64 x4, .int .i64 x5, .int .i64 x6, .bool x7, .int .i64 q0, .int .i64 q1, .int .i64 q2, .int .i64 q3, .int .i64 q4, .slice A1 q5.length c1, .int .i64 x9, .slice A2 x10.length c2, .bool m5, .int .i64 m6, .int .i64 m7, .int .i64 m8, .int .i64 m9, .int .i64 m10, .slice A3 m11.length c3, .string m12] 34))
  have hu34 := Try.underlying34
  clear hr1 hr2 hr3
  go_enter Try.func12, Try.ntmps12
  go_upto_region 1 with fail
  generalize hwb : w.alloc (.cells #[.int .i64 m0, .int .i64 m1, .int .i64 m2, .int .i64 m3, .int .i64 x0, .int .i64 x1, .int .i64 x2, .int .i64 x3, .int .i64 x4, .int .i64 x5, .int .i64 x6, .bool x7, .int .i64 q0, .int .i64 q1, .int .i64 q2, .int .i64 q3, .int .i64 q4, .slice A1 q5.length c1, .int .i64 x9, .slice A2 x10.length c2, .bool m5, .int .i64 m6, .int .i64 m7, .int .i64 m8, .int .i64 m9, .int .i64 m10, .slice A3 m11.length c3, .string m12] 34) = wb at HBK HBb ⊢
  clear hwb
  go_wp2_with (refine wpList_load_row rfl 34 (.tmp 1) rfl w.heap.size rfl 34 #[.int .i64 m0, .int .i64 m1, .int .i64 m2, .int .i64 m3, .int .i64 x0, .int .i64 x1, .int .i64 x2, .int .i64 x3, .int .i64 x4, .int .i64 x5, .int .i64 x6, .bool x7, .int .i64 q0, .int .i64 q1, .int .i64 q2, .int .i64 q3, .int .i64 q4, .slice A1 q5.length c1, .int .i64 x9, .slice A2 x10.length c2, .bool m5, .int .i64 m6, .int .i64 m7, .int .i64 m8, .int .i64 m9, .int .i64 m10, .slice A3 m11.length c3, .string m12] (0, 0) _ HBK.out Try.underlying34 rfl inf34 ?_)
  ((with_reducible refine (may_false wb A1 A2 A3 c1 c2 c3 ⟨m0, m1, m2, m3, ⟨x0, x1, x2, x3, x4, x5, x6, x7, ⟨q0, q1, q2, q3, q4, q5⟩, x9, x10⟩, m5, m6, m7, m8, m9, m10, m11, m12⟩ ⟨Kd.C_below HR1.out.1 HBb.out, HR1.out.2⟩ ⟨Kd.C_below HR2.out.1 HBb.out, HR2.out.2⟩ ⟨Kd.C_below HR3.out.1 HBb.out, HR3.out.2⟩ HNO.out).mono ?_); rintro e w0 ⟨rfl, hb⟩)
  have HB0 := Lib.hid (HBb.out.trans (hb.mono HBb.out.size))
  clear hb
  go_wp2_with fail
  go_ret2
  exact ⟨rfl, HB0.out⟩

end Go.Proofs.Ytneebjlpeekmbaa

namespace Go.Proofs.Ytneebjlpeekmbaa
open Go.RowKit Go.Proofs.YtneebjlpeekmbaaW.PrintWords Go.Proofs.YtneebjlpeekmbaaW.PrintLast Go.Proofs.YtneebjlpeekmbaaW.PrintMore PRef
set_option linter.unusedVariables false
set_option linter.unusedSimpArgs false

def sizes (l : List ByteArray) : Nat := (l.map ByteArray.size).sum
def sizesE (l : List S60) : Nat := (l.map fun x => x.f2.size).sum
theorem sizes_drop (l : List ByteArray) (i : Nat) (h : i < l.length) : sizes (l.drop i) = (l.getD i ByteArray.empty).size + sizes (l.drop (i + 1)) := by
  unfold sizes
  rw [List.drop_eq_getElem_cons h, List.map_cons, List.sum_cons, List.getD_eq_getElem?_getD, List.getElem?_eq_getElem h]
  rfl
theorem sizesE_drop (l : List S60) (i : Nat) (h : i < l.length) : sizesE (l.drop i) = (l.getD i z60).f2.size + sizesE (l.drop (i + 1)) := by
  unfold sizesE
  rw [List.drop_eq_getElem_cons h, List.map_cons, List.sum_cons, List.getD_eq_getElem?_getD, List.getElem?_eq_getElem h]
  rfl
structure LightI (l13 : List ByteArray) (l15 : List S23) : Prop where
  data : l13.length ≤ 101 ∧ sizes l13 ≤ 110000
  deps : l15.length ≤ 5000
structure LightOk (x : Mail) : Prop where
  inst : LightI x.inst.cmd.data x.inst.deps
  entries : x.entries.length ≤ 201 ∧ x.text.size + sizesE x.entries ≤ 200000

theorem light7_l0 (a0 a1 a2 a3 a4 a5 a6 : Int) (b7 : Bool) (a8 a9 a10 a11 a12 : Int) (l13 : List ByteArray) (a14 : Int) (l15 : List S23) : ∀ (d k i n : Nat), i + d = l13.length → d < k → i ≤ 101 → n ≤ 110000 → ∃ r, lamellalaw07_Light.l0 k n l13 l13.length i a0 a1 a2 a3 a4 a5 a6 b7 a8 a9 a10 a11 a12 l13 a14 l15 = some r ∧ (r = true → l13.length ≤ 101 ∧ n + sizes (l13.drop i) ≤ 110000 ∧ l15.length ≤ 5000)
  | 0, k, i, n, h, hk, hi, hn => by
    obtain ⟨j, rfl⟩ : ∃ j, k = j + 1 := ⟨k - 1, by omega⟩
    simp only [lamellalaw07_Light.l0]
    rw [if_neg (by omega)]
    refine ⟨_, rfl, fun hr => ?_⟩
    rw [decide_eq_true_iff] at hr
    rw [List.drop_of_length_le (by omega)]
    exact ⟨by omega, by simp [sizes]; omega, by omega⟩
  | d + 1, k, i, n, h, hk, hi, hn => by
    obtain ⟨j, rfl⟩ : ∃ j, k = j + 1 := ⟨k - 1, by omega⟩
    simp only [lamellalaw07_Light.l0]
    rw [if_pos (by omega), if_pos (by omega), if_pos (by omega)]
    have e : rdOf ByteArray.empty l13 (i : Int) = l13.getD i ByteArray.empty := by unfold rdOf; rw [Int.toNat_natCast]
    rw [e]
    have hs := sizes_drop l13 i (by omega)
    generalize (l13.getD i ByteArray.empty).size = z at hs ⊢
    by_cases h1 : (i : Int) > 100
    · rw [if_pos h1]; exact ⟨_, rfl, fun h => by cases h⟩
    · rw [if_neg h1]
      by_cases h2 : (z : Int) > 10000
      · rw [if_pos h2]; exact ⟨_, rfl, fun h => by cases h⟩
      · rw [if_neg h2]
        by_cases h3 : (n : Int) > 100000
        · rw [if_pos h3]; exact ⟨_, rfl, fun h => by cases h⟩
        · rw [if_neg h3]
          have w1 : wrap64 ((n : Int) + z) = ((n + z : Nat) : Int) := by unfold wrap64; omega
          have w2 : wrap64 ((i : Int) + 1) = ((i + 1 : Nat) : Int) := by unfold wrap64; omega
          rw [w1, w2]
          clear w1 w2 e
          obtain ⟨r, hr, hq⟩ := light7_l0 a0 a1 a2 a3 a4 a5 a6 b7 a8 a9 a10 a11 a12 l13 a14 l15 d j (i + 1) (n + z) (by omega) (by omega) (by omega) (by omega)
          exact ⟨r, hr, fun h => by obtain ⟨q1, q2, q3⟩ := hq h; exact ⟨q1, by omega, q3⟩⟩
theorem light7_f (a0 a1 a2 a3 a4 a5 a6 : Int) (b7 : Bool) (a8 a9 a10 a11 a12 : Int) (l13 : List ByteArray) (a14 : Int) (l15 : List S23) (k : Nat) (hk : l13.length < k) : ∃ r, lamellalaw07_Light.f k a0 a1 a2 a3 a4 a5 a6 b7 a8 a9 a10 a11 a12 l13 a14 l15 = some r ∧ (r = true → LightI l13 l15) := by
  obtain ⟨r, hr, hq⟩ := light7_l0 a0 a1 a2 a3 a4 a5 a6 b7 a8 a9 a10 a11 a12 l13 a14 l15 l13.length k 0 0 (by omega) hk (by omega) (by omega)
  exact ⟨r, hr, fun h => by obtain ⟨q1, q2, q3⟩ := hq h; rw [List.drop_zero] at q2; exact ⟨⟨q1, by omega⟩, q3⟩⟩
theorem light15_l0 (m0 m1 m2 m3 a0 a1 a2 a3 a4 a5 a6 : Int) (b7 : Bool) (a8 a9 a10 a11 a12 : Int) (l13 : List ByteArray) (a14 : Int) (l15 : List S23) (b5 : Bool) (m6 m7 m8 m9 m10 : Int) (l26 : List S60) (t27 : ByteArray) : ∀ (d k i n : Nat), i + d = l26.length → d + l13.length + 1 < k → i ≤ 201 → n ≤ 9223372036854775807 → ∃ r, lamellalaw15_light.l0 k n l26 l26.length i m0 m1 m2 m3 a0 a1 a2 a3 a4 a5 a6 b7 a8 a9 a10 a11 a12 l13 a14 l15 b5 m6 m7 m8 m9 m10 l26 t27 = some r ∧ (r = true → l26.length ≤ 201 ∧ n + sizesE (l26.drop i) ≤ 200000 ∧ LightI l13 l15)
  | 0, k, i, n, h, hk, hi, hn => by
    obtain ⟨j, rfl⟩ : ∃ j, k = j + 1 := ⟨k - 1, by omega⟩
    simp only [lamellalaw15_light.l0]
    rw [if_neg (by omega)]
    obtain ⟨r, hr, hq⟩ := light7_f a0 a1 a2 a3 a4 a5 a6 b7 a8 a9 a10 a11 a12 l13 a14 l15 j (by omega)
    rw [hr]
    simp only [Option.bind_some]
    rw [List.drop_of_length_le (by omega)]
    cases r with
    | false => exact ⟨false, rfl, fun h => by cases h⟩
    | true =>
      refine ⟨_, rfl, fun hr => ?_⟩
      rw [decide_eq_true_iff] at hr
      exact ⟨by omega, by simp [sizesE]; omega, hq rfl⟩
  | d + 1, k, i, n, h, hk, hi, hn => by
    obtain ⟨j, rfl⟩ : ∃ j, k = j + 1 := ⟨k - 1, by omega⟩
    simp only [lamellalaw15_light.l0]
    rw [if_pos (by omega), if_pos (by omega), if_pos (by omega)]
    have e : rd_T60 l26 (i : Int) = l26.getD i z60 := by unfold rd_T60; rw [Int.toNat_natCast]
    rw [e]
    have hs := sizesE_drop l26 i (by omega)
    generalize (l26.getD i z60).f2.size = z at hs ⊢
    by_cases h1 : (i : Int) > 200
    · rw [if_pos h1]; exact ⟨_, rfl, fun h => by cases h⟩
    · rw [if_neg h1]
      by_cases h2 : (z : Int) > 10000
      · rw [if_pos h2]; exact ⟨_, rfl, fun h => by cases h⟩
      · rw [if_neg h2]
        by_cases h3 : (n : Int) > 100000
        · rw [if_pos h3]; exact ⟨_, rfl, fun h => by cases h⟩
        · rw [if_neg h3]
          have w1 : wrap64 ((n : Int) + z) = ((n + z : Nat) : Int) := by unfold wrap64; omega
          have w2 : wrap64 ((i : Int) + 1) = ((i + 1 : Nat) : Int) := by unfold wrap64; omega
          rw [w1, w2]
          clear w1 w2 e
          obtain ⟨r, hr, hq⟩ := light15_l0 m0 m1 m2 m3 a0 a1 a2 a3 a4 a5 a6 b7 a8 a9 a10 a11 a12 l13 a14 l15 b5 m6 m7 m8 m9 m10 l26 t27 d j (i + 1) (n + z) (by omega) (by omega) (by omega) (by omega)
          exact ⟨r, hr, fun h => by obtain ⟨q1, q2, q3⟩ := hq h; exact ⟨q1, by omega, q3⟩⟩
theorem light_calls (w : World) (A1 A2 A3 : Option Addr) (c1 c2 c3 : Nat) (x : Mail) (hr1 : InC w A1 c1 x.inst.cmd.data) (hr2 : InR w A2 c2 x.inst.deps) (hr3 : InE w A3 c3 x.entries) (ht : x.text.size ≤ 9223372036854775807) :
    Calls Try.prog 10 #[.agg #[.int .i64 x.kind, .int .i64 x.mfrom, .int .i64 x.mto, .int .i64 x.shard, .int .i64 x.inst.lead, .int .i64 x.inst.index, .int .i64 x.inst.bn, .int .i64 x.inst.bnode, .int .i64 x.inst.vn, .int .i64 x.inst.vnode, .int .i64 x.inst.status, .bool x.inst.same, .int .i64 x.inst.cmd.op, .int .i64 x.inst.cmd.client, .int .i64 x.inst.cmd.seq, .int .i64 x.inst.cmd.cfrom, .int .i64 x.inst.cmd.cto, .slice A1 x.inst.cmd.data.length c1, .int .i64 x.inst.iseq, .slice A2 x.inst.deps.length c2, .bool x.ok, .int .i64 x.term, .int .i64 x.mindex, .int .i64 x.past, .int .i64 x.commit, .int .i64 x.epoch, .slice A3 x.entries.length c3, .string x.text]] w fun e w' => ∃ b, e = .returned (.bool b) ∧ Hid (b = true → LightOk x) ∧ Below w.heap.size w w' := by
  obtain ⟨r, hr, hq⟩ := light15_l0 x.kind x.mfrom x.mto x.shard x.inst.lead x.inst.index x.inst.bn x.inst.bnode x.inst.vn x.inst.vnode x.inst.status x.inst.same x.inst.cmd.op x.inst.cmd.client x.inst.cmd.seq x.inst.cmd.cfrom x.inst.cmd.cto x.inst.cmd.data x.inst.iseq x.inst.deps x.ok x.term x.mindex x.past x.commit x.epoch x.entries x.text x.entries.length (x.entries.length + x.inst.cmd.data.length + 2) 0 x.text.size (by omega) (by omega) (by omega) ht
  refine (lamellalaw15_light.calls (x.entries.length + x.inst.cmd.data.length + 2) _ _ _ _ _ _ _ _ _ _ _ _ _ _ _ _ _ _ _ _ _ _ _ _ _ _ _ _ _ _ _ _ _ _ r w hr1.1 hr1.2 hr2.1 hr2.2 hr3.1 hr3.2 hr).mono fun e w' h => ⟨r, h.1, Lib.hid fun h2 => ?_, h.2⟩
  obtain ⟨q1, q2, q3⟩ := hq h2
  rw [List.drop_zero] at q2
  exact ⟨q3, q1, q2⟩

theorem encAll_sz {α : Type} (f : α → List Int) (sz : α → Nat) (c : Nat) (hf : ∀ x, (f x).length ≤ sz x + c) : ∀ l : List α, (encAll f l).length ≤ (l.map sz).sum + c * l.length
  | [] => by simp [encAll]
  | x :: l => by
    have := encAll_sz f sz c hf l
    have := hf x
    have e : encAll f (x :: l) = f x ++ encAll f l := rfl
    rw [e, List.length_append, List.map_cons, List.sum_cons, List.length_cons, Nat.mul_add]
    omega
end Go.Proofs.Ytneebjlpeekmbaa
