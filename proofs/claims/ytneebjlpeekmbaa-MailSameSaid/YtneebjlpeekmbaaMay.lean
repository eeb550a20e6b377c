/- isText, slices.ContainsFunc with it, and may where it says yes. No conditions beyond those typed. -/
import Derived.Test.YtneebjlpeekmbaaLayA
namespace Go.Proofs.Ytneebjlpeekmbaa
open Go.RowKit Go.Proofs.YtneebjlpeekmbaaW.PrintWords Go.Proofs.YtneebjlpeekmbaaW.PrintLast Go.Proofs.YtneebjlpeekmbaaW.PrintMore PRef
set_option linter.unusedVariables false
set_option linter.unusedSimpArgs false

theorem istext_calls (s : ByteArray) (w : World) : Calls Try.prog 55 #[.string s] w fun e w' => e = .returned (.bool (decide ((s.size : Int) ≤ 1048576))) ∧ w = w' := by
  go_enter Try.func55, Try.ntmps55
  go_wp2_with fail
  go_ret
  exact ⟨rfl, rfl⟩

theorem toolong_calls (x : S60) (w : World) : Calls Try.prog 57 #[.agg #[.int .i64 x.f0, .int .i64 x.f1, .string x.f2]] w fun e w' => e = .returned (.bool (decide (1048576 < x.f2.size))) ∧ Below w.heap.size w w' := by
  obtain ⟨a, b, s⟩ := x
  dsimp only
  have hq : (!decide ((s.size : Int) ≤ 1048576)) = decide (1048576 < s.size) := by rw [Bool.eq_iff_iff]; simp only [Bool.not_eq_true', decide_eq_false_iff_not, decide_eq_true_iff]; omega
  have HQ := Lib.hid hq
  clear hq
  have HB := Lib.hid ((Below.refl w.heap.size w).alloc (Nat.le_refl _) (.cells #[.int .i64 a, .int .i64 b, .string s] 60))
  go_enter Try.func57, Try.ntmps57
  go_wp2_with fail
  ((with_reducible refine (istext_calls _ _).mono ?_); rintro e w1 ⟨rfl, rfl⟩)
  by_cases h : (s.size : Int) ≤ 1048576
  · have hd : decide ((s.size : Int) ≤ 1048576) = true := decide_eq_true h
    rw [hd]
    have HQ2 := HQ.out
    rw [hd] at HQ2
    have HQ2 := Lib.hid HQ2
    clear hd h HQ
    go_wp2_with fail
    go_ret
    exact ⟨by rw [← HQ2.out]; rfl, HB.out⟩
  · have hd : decide ((s.size : Int) ≤ 1048576) = false := decide_eq_false h
    rw [hd]
    have HQ2 := HQ.out
    rw [hd] at HQ2
    have HQ2 := Lib.hid HQ2
    clear hd h HQ
    go_wp2_with fail
    go_ret
    exact ⟨by rw [← HQ2.out]; rfl, HB.out⟩

set_option maxRecDepth 100000 in
set_option maxHeartbeats 1000000 in
theorem indexf_calls (A : Option Addr) (c : Nat) (l : List S60) (w : World) (hr : InE w A c l) :
    Calls Try.prog 83 #[.slice A l.length c, .func (.func 57) #[] #[]] w fun e w' => ∃ k : Int, e = .returned (.int .i64 k) ∧ (0 ≤ k ↔ ∃ x ∈ l, 1048576 < x.f2.size) ∧ -1 ≤ k ∧ Below w.heap.size w w' := by
  have hl63 := hr.1.2.1
  have HR := Lib.hid hr
  clear hr
  have hu60 := Try.underlying60
  go_enter Try.func83, Try.ntmps83
  go_wp2_with fail
  go_loopw [8] (fun vi wr => ∃ i : Nat, vi = .int .i64 i ∧ i ≤ l.length ∧ Hid (∀ j, j < i → ¬ 1048576 < (l.getD j z60).f2.size) ∧ Hid (Below w.heap.size w wr)) (fun vi _ => l.length - (intOf vi).toNat)
  case atStart => exact ⟨0, rfl, by omega, Lib.hid (fun j hj => by omega), Lib.hid (Below.refl _ _)⟩
  case round =>
    obtain ⟨i, rfl, hi, HA, HB⟩ := hrel
    by_cases hlt : i < l.length
    · obtain ⟨ad, rfl, ha0, ha1, ha2⟩ := at_T60 (Kd.C_below HR.out.1 HB.out) (i : Int) (by omega) (by omega)
      have hrx : rd_T60 l (i : Int) = l.getD i z60 := by unfold rd_T60; rw [Int.toNat_natCast]
      rw [hrx, Int.toNat_natCast] at ha0 ha1 ha2
      obtain ⟨x, hxe⟩ : ∃ x, x = l.getD i z60 := ⟨_, rfl⟩
      rw [← hxe] at ha0 ha1 ha2
      have HXE := Lib.hid hxe
      have HM : Hid (x ∈ l) := Lib.hid (by rw [hxe, List.getD_eq_getElem?_getD, List.getElem?_eq_getElem hlt]; exact List.getElem_mem hlt)
      clear hrx hxe
      go_wp2_with fail
      ((with_reducible refine (toolong_calls x _).mono ?_); rintro e w2 ⟨rfl, hb⟩)
      have HB2 := Lib.hid (HB.out.trans (hb.mono HB.out.size))
      clear hb
      by_cases hs : 1048576 < x.f2.size
      · have hd : decide (1048576 < x.f2.size) = true := decide_eq_true hs
        rw [hd]
        have HS := Lib.hid hs
        clear hd hs
        go_wp2_with fail
        go_ret
        exact ⟨(i : Int), rfl, ⟨fun _ => ⟨x, HM.out, HS.out⟩, fun _ => by omega⟩, by omega, HB2.out⟩
      · have hd : decide (1048576 < x.f2.size) = false := decide_eq_false hs
        rw [hd]
        have HS := Lib.hid hs
        clear hd hs
        go_wp2_with fail
        go_roundw
        case measure => simp [intOf]; omega
        case rel => exact ⟨i + 1, by go_num, by omega, Lib.hid (fun j hj => by
          by_cases hji : j = i
          · rw [hji, ← HXE.out]; exact HS.out
          · exact HA.out j (by omega)), HB2⟩
    · obtain rfl : i = l.length := by omega
      go_wp2_with fail
      go_ret
      refine ⟨-1, rfl, ⟨fun h => absurd h (by decide), fun ⟨x, hx, hs⟩ => ?_⟩, by omega, HB.out⟩
      obtain ⟨j, hj, rfl⟩ := List.getElem_of_mem hx
      have := HA.out j hj
      rw [List.getD_eq_getElem?_getD, List.getElem?_eq_getElem hj] at this
      exact absurd hs this

theorem containsf_calls (A : Option Addr) (c : Nat) (l : List S60) (w : World) (hr : InE w A c l) (r : Bool) (hrr : r = true ↔ ∃ x ∈ l, 1048576 < x.f2.size) :
    Calls Try.prog 56 #[.slice A l.length c, .func (.func 57) #[] #[]] w fun e w' => e = .returned (.bool r) ∧ Below w.heap.size w w' := by
  have HRR := Lib.hid hrr
  clear hrr
  go_enter Try.func56, Try.ntmps56
  go_wp2_with fail
  ((with_reducible refine (indexf_calls A c l w hr).mono ?_); rintro e w1 ⟨k, rfl, hk, hk1, hb⟩)
  have hq : decide (0 ≤ k) = r := by rw [Bool.eq_iff_iff, decide_eq_true_iff, HRR.out]; exact hk
  have HQ := Lib.hid hq
  have HB := Lib.hid hb
  clear hk hk1 hb hq
  go_wp2_with fail
  go_ret
  exact ⟨by rw [← HQ.out]; rfl, HB.out⟩

/-- May it be laid? -/
structure MayOk (x : Mail) : Prop where
  op : 0 ≤ x.inst.cmd.op ∧ x.inst.cmd.op ≤ 255
  text : x.text.size ≤ 1048576
  data : x.inst.cmd.data.length ≤ 4096 ∧ ∀ s ∈ x.inst.cmd.data, s.size ≤ 1048576
  deps : x.inst.deps.length ≤ 4096
  entries : x.entries.length ≤ 4096 ∧ ∀ s ∈ x.entries, s.f2.size ≤ 1048576

set_option maxRecDepth 100000 in
set_option maxHeartbeats 4000000 in
theorem may_true (w : World) (A1 A2 A3 : Option Addr) (c1 c2 c3 : Nat) (x : Mail) (hr1 : InC w A1 c1 x.inst.cmd.data) (hr2 : InR w A2 c2 x.inst.deps) (hr3 : InE w A3 c3 x.entries) (hx : MayOk x) :
    Calls Try.prog 23 #[.agg #[.int .i64 x.kind, .int .i64 x.mfrom, .int .i64 x.mto, .int .i64 x.shard, .int .i64 x.inst.lead, .int .i64 x.inst.index, .int .i64 x.inst.bn, .int .i64 x.inst.bnode, .int .i64 x.inst.vn, .int .i64 x.inst.vnode, .int .i64 x.inst.status, .bool x.inst.same, .int .i64 x.inst.cmd.op, .int .i64 x.inst.cmd.client, .int .i64 x.inst.cmd.seq, .int .i64 x.inst.cmd.cfrom, .int .i64 x.inst.cmd.cto, .slice A1 x.inst.cmd.data.length c1, .int .i64 x.inst.iseq, .slice A2 x.inst.deps.length c2, .bool x.ok, .int .i64 x.term, .int .i64 x.mindex, .int .i64 x.past, .int .i64 x.commit, .int .i64 x.epoch, .slice A3 x.entries.length c3, .string x.text]] w fun e w' => e = .returned (.bool true) ∧ Below w.heap.size w w' := by
  obtain ⟨m0, m1, m2, m3, m4, m5, m6, m7, m8, m9, m10, m11, m12⟩ := x
  obtain ⟨x0, x1, x2, x3, x4, x5, x6, x7, x8, x9, x10⟩ := m4
  obtain ⟨q0, q1, q2, q3, q4, q5⟩ := x8
  obtain ⟨hop, htext, hdata, hdeps, hents⟩ := hx
  dsimp only at hop htext hdata hdeps hents hr1 hr2 hr3 ⊢
  have HR1 := Lib.hid hr1
  have HR3 := Lib.hid hr3
  clear hr1 hr2 hr3
  have HBK1 := Lib.hid (blk_alloc (blk_new w (.cells #[.int .i64 m0, .int .i64 m1, .int .i64 m2, .int .i64 m3, .int .i64 x0, .int .i64 x1, .int .i64 x2, .int .i64 x3, .int .i64 x4, .int .i64 x5, .int .i64 x6, .bool x7, .int .i64 q0, .int .i64 q1, .int .i64 q2, .int .i64 q3, .int .i64 q4, .slice A1 q5.length c1, .int .i64 x9, .slice A2 x10.length c2, .bool m5, .int .i64 m6, .int .i64 m7, .int .i64 m8, .int .i64 m9, .int .i64 m10, .slice A3 m11.length c3, .string m12] 34)) (.cells #[.int .i64 q0, .int .i64 q1, .int .i64 q2, .int .i64 q3, .int .i64 q4, .slice A1 q5.length c1] 28))
  have HBK2 : Hid (((w.alloc (.cells #[.int .i64 m0, .int .i64 m1, .int .i64 m2, .int .i64 m3, .int .i64 x0, .int .i64 x1, .int .i64 x2, .int .i64 x3, .int .i64 x4, .int .i64 x5, .int .i64 x6, .bool x7, .int .i64 q0, .int .i64 q1, .int .i64 q2, .int .i64 q3, .int .i64 q4, .slice A1 q5.length c1, .int .i64 x9, .slice A2 x10.length c2, .bool m5, .int .i64 m6, .int .i64 m7, .int .i64 m8, .int .i64 m9, .int .i64 m10, .slice A3 m11.length c3, .string m12] 34)).alloc (.cells #[.int .i64 q0, .int .i64 q1, .int .i64 q2, .int .i64 q3, .int .i64 q4, .slice A1 q5.length c1] 28)).heap[w.heap.size + 1]? = some (.cells #[.int .i64 q0, .int .i64 q1, .int .i64 q2, .int .i64 q3, .int .i64 q4, .slice A1 q5.length c1] 28)) := Lib.hid (by have := blk_new (w.alloc (.cells #[.int .i64 m0, .int .i64 m1, .int .i64 m2, .int .i64 m3, .int .i64 x0, .int .i64 x1, .int .i64 x2, .int .i64 x3, .int .i64 x4, .int .i64 x5, .int .i64 x6, .bool x7, .int .i64 q0, .int .i64 q1, .int .i64 q2, .int .i64 q3, .int .i64 q4, .slice A1 q5.length c1, .int .i64 x9, .slice A2 x10.length c2, .bool m5, .int .i64 m6, .int .i64 m7, .int .i64 m8, .int .i64 m9, .int .i64 m10, .slice A3 m11.length c3, .string m12] 34)) (.cells #[.int .i64 q0, .int .i64 q1, .int .i64 q2, .int .i64 q3, .int .i64 q4, .slice A1 q5.length c1] 28); rwa [World.size_alloc] at this)
  have HB2 := Lib.hid (((Below.refl w.heap.size w).alloc (Nat.le_refl _) (.cells #[.int .i64 m0, .int .i64 m1, .int .i64 m2, .int .i64 m3, .int .i64 x0, .int .i64 x1, .int .i64 x2, .int .i64 x3, .int .i64 x4, .int .i64 x5, .int .i64 x6, .bool x7, .int .i64 q0, .int .i64 q1, .int .i64 q2, .int .i64 q3, .int .i64 q4, .slice A1 q5.length c1, .int .i64 x9, .slice A2 x10.length c2, .bool m5, .int .i64 m6, .int .i64 m7, .int .i64 m8, .int .i64 m9, .int .i64 m10, .slice A3 m11.length c3, .string m12] 34)).alloc (by simp) (.cells #[.int .i64 q0, .int .i64 q1, .int .i64 q2, .int .i64 q3, .int .i64 q4, .slice A1 q5.length c1] 28))
  have hb0 : decide (q0 < 0) = false := by rw [decide_eq_false_iff_not]; omega
  have hb1 : decide (255 < q0) = false := by rw [decide_eq_false_iff_not]; omega
  have hb2 : decide ((m12.size : Int) ≤ 1048576) = true := by rw [decide_eq_true_iff]; omega
  have hb3 : decide (4096 < (q5.length : Int)) = false := by rw [decide_eq_false_iff_not]; omega
  have hb4 : decide (4096 < (x10.length : Int)) = false := by rw [decide_eq_false_iff_not]; omega
  have hb5 : decide (4096 < (m11.length : Int)) = false := by rw [decide_eq_false_iff_not]; omega
  have HDA := Lib.hid hdata.2
  have hdl := hdata.1
  have HEN := Lib.hid hents.2
  clear hop htext hdata hdeps hents
  have hu31 := Try.underlying31
  have hu34 := Try.underlying34
  have hu28 := Try.underlying28
  go_enter Try.func23, Try.ntmps23
  go_upto_region 2 with fail
  generalize ((w.alloc (.cells #[.int .i64 m0, .int .i64 m1, .int .i64 m2, .int .i64 m3, .int .i64 x0, .int .i64 x1, .int .i64 x2, .int .i64 x3, .int .i64 x4, .int .i64 x5, .int .i64 x6, .bool x7, .int .i64 q0, .int .i64 q1, .int .i64 q2, .int .i64 q3, .int .i64 q4, .slice A1 q5.length c1, .int .i64 x9, .slice A2 x10.length c2, .bool m5, .int .i64 m6, .int .i64 m7, .int .i64 m8, .int .i64 m9, .int .i64 m10, .slice A3 m11.length c3, .string m12] 34)).alloc (.cells #[.int .i64 q0, .int .i64 q1, .int .i64 q2, .int .i64 q3, .int .i64 q4, .slice A1 q5.length c1] 28)) = w2 at HBK1 HBK2 HB2 ⊢
  generalize Value.agg #[.int .i64 m0, .int .i64 m1, .int .i64 m2, .int .i64 m3, .int .i64 x0, .int .i64 x1, .int .i64 x2, .int .i64 x3, .int .i64 x4, .int .i64 x5, .int .i64 x6, .bool x7, .int .i64 q0, .int .i64 q1, .int .i64 q2, .int .i64 q3, .int .i64 q4, .slice A1 q5.length c1, .int .i64 x9, .slice A2 x10.length c2, .bool m5, .int .i64 m6, .int .i64 m7, .int .i64 m8, .int .i64 m9, .int .i64 m10, .slice A3 m11.length c3, .string m12] = vx
  have k2y0 : w2.cell? ⟨w.heap.size + 1, 0, none⟩ = some (.int .i64 q0) := by rw [blk_cell HBK2.out]; rfl
  have k2y5 : w2.cell? ⟨w.heap.size + 1, 5, none⟩ = some (.slice A1 q5.length c1) := by rw [blk_cell HBK2.out]; rfl
  have k2x19 : w2.cell? ⟨w.heap.size, 19, none⟩ = some (.slice A2 x10.length c2) := by rw [blk_cell HBK1.out]; rfl
  have k2x26 : w2.cell? ⟨w.heap.size, 26, none⟩ = some (.slice A3 m11.length c3) := by rw [blk_cell HBK1.out]; rfl
  have k2x27 : w2.cell? ⟨w.heap.size, 27, none⟩ = some (.string m12) := by rw [blk_cell HBK1.out]; rfl
  go_wp2_with ((with_reducible refine (istext_calls _ _).mono ?_); rintro e wt ⟨rfl, rfl⟩; rw [hb2])
  go_loopw [45] (fun vi wr => ∃ i : Nat, vi = .int .i64 i ∧ i ≤ q5.length ∧ w2 = wr) (fun vi _ => q5.length - (intOf vi).toNat)
  case atStart => exact ⟨0, rfl, by omega, by trivial⟩
  case round =>
    obtain ⟨i, rfl, hi, rfl⟩ := hrel
    by_cases hlt : i < q5.length
    · obtain ⟨ad, rfl, ha0⟩ := ReadsOf.at_ (d := ByteArray.empty) (readsStr (Kd.C_below HR1.out.1 HB2.out)) (i : Int) (by omega) (by omega)
      have hrx : rdOf ByteArray.empty q5 (i : Int) = q5.getD i ByteArray.empty := by unfold rdOf; rw [Int.toNat_natCast]
      rw [hrx, Int.toNat_natCast] at ha0
      have hs := HDA.out (q5.getD i ByteArray.empty) (by rw [List.getD_eq_getElem?_getD, List.getElem?_eq_getElem hlt]; exact List.getElem_mem hlt)
      generalize q5.getD i ByteArray.empty = s at ha0 hs
      have hsb : decide ((s.size : Int) ≤ 1048576) = true := by rw [decide_eq_true_iff]; omega
      clear hrx
      go_wp2_with ((with_reducible refine (istext_calls _ _).mono ?_); rintro e wt ⟨rfl, rfl⟩; rw [hsb])
      go_roundw
      case measure => simp [intOf]; omega
      case rel => exact ⟨i + 1, by go_num, by omega, by trivial⟩
    · obtain rfl : i = q5.length := by omega
      go_wp2_with fail
      ((with_reducible refine (containsf_calls _ _ m11 _ ⟨Kd.C_below HR3.out.1 HB2.out, HR3.out.2⟩ false ⟨fun h => absurd h (by decide), fun ⟨x, hx, hs⟩ => absurd (HEN.out x hx) (by omega)⟩).mono ?_); rintro e w3 ⟨rfl, hb⟩)
      have HB3 := Lib.hid (HB2.out.trans (hb.mono HB2.out.size))
      clear hb
      go_wp2_with fail
      go_ret
      exact ⟨rfl, HB3.out⟩

end Go.Proofs.Ytneebjlpeekmbaa
