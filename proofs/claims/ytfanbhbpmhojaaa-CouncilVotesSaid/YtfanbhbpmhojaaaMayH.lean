/- The reference's May, by hand. Conditions: those typed. Printed by wip/tools/mkMayH.py. -/
import Derived.Test.YtfanbhbpmhojaaaMayV
namespace Go.Proofs.Ytfanbhbpmhojaaa
open Go.RowKit Go.Proofs.YtfanbhbpmhojaaaW.PrintWords Go.Proofs.YtfanbhbpmhojaaaW.PrintLast Go.Proofs.YtfanbhbpmhojaaaW.PrintMore PRef
set_option linter.unusedVariables false
set_option linter.unusedSimpArgs false

def MayP (x : Sta) (w : World) (e : Ending) (w' : World) : Prop := ∃ b : Bool, e = .returned (.bool b) ∧ (b = true ↔ mayS x) ∧ Below w.heap.size w w'
set_option maxRecDepth 100000 in
set_option maxHeartbeats 4000000 in
theorem mayh_calls (w : World) (A : Option Addr) (c : Nat) (x : Sta) (hr : Kd.C k39 w A x.log.length x.log) (hv : x.vot.size ≤ 9223372036854775807) (he : ∀ y ∈ x.log, y.f2.size ≤ 9223372036854775807) :
    Calls Try.prog 30 #[.agg #[.int .i64 x.term, .int .i64 x.vote, .int .i64 x.idx, .int .i64 x.past, .string x.vot, .string x.text, .slice A x.log.length c]] w fun e w' => MayP x w e w' := by
  have HR := Lib.hid hr
  have HE := Lib.hid he
  have hlen := Kd.C_max hr
  have HB := Lib.hid ((Below.refl w.heap.size w).alloc (Nat.le_refl _) (.cells #[.int .i64 x.term, .int .i64 x.vote, .int .i64 x.idx, .int .i64 x.past, .string x.vot, .string x.text, .slice A x.log.length c] 47))
  have HK := Lib.hid (blk_new w (.cells #[.int .i64 x.term, .int .i64 x.vote, .int .i64 x.idx, .int .i64 x.past, .string x.vot, .string x.text, .slice A x.log.length c] 47))
  have HVO : Hid (∀ s : ByteArray, s.size ≤ 9223372036854775807 → ∀ W, Calls Try.prog 21 #[.string s] W fun e w' => ∃ v, e = .returned (.tuple #[v, .bool (decide (0 < (votV s).length))]) ∧ Below W.heap.size W w') := Lib.hid (fun s hs W => (lamellaref10_Voters.calls 10 s _ _ W (vref_f s hs 10 (by omega))).mono fun e w' q => by
    obtain ⟨v, h1, _, h2⟩ := q
    exact ⟨v, h1, h2⟩)
  have HIF := Lib.hid (mayS_iff x)
  have HVV := Lib.hid (fun W => HVO.out x.vot hv W)
  clear hr hv he
  go_enter Try.func30, Try.ntmps30
  go_upto_region 1 with fail
  generalize w.alloc (.cells #[.int .i64 x.term, .int .i64 x.vote, .int .i64 x.idx, .int .i64 x.past, .string x.vot, .string x.text, .slice A x.log.length c] 47) = w1 at HB HK ⊢
  have s4 : w1.cell? ⟨w.heap.size, 4, none⟩ = some (.string x.vot) := by rw [blk_cell HK.out]; rfl
  obtain ⟨bv, hbv⟩ : ∃ bv, bv = decide (0 < (votV x.vot).length) := ⟨_, rfl⟩
  rw [← hbv] at HVV
  have HBV : Hid (bv = true ↔ 0 < (votV x.vot).length) := Lib.hid (by rw [hbv, decide_eq_true_iff])
  clear hbv
  go_upto_region 2 with ((with_reducible refine (HVV.out _).mono ?_); rintro e w2 ⟨vv, rfl, hb⟩; have HB2 := Lib.hid (HB.out.trans (hb.mono HB.out.size)); have HK2 := Lib.hid (blk_below HK.out hb); clear hb)
  clear s4 HVV HB HK
  have s0 : w2.cell? ⟨w.heap.size, 0, none⟩ = some (.int .i64 x.term) := by rw [blk_cell HK2.out]; rfl
  have s1 : w2.cell? ⟨w.heap.size, 1, none⟩ = some (.int .i64 x.vote) := by rw [blk_cell HK2.out]; rfl
  have s2 : w2.cell? ⟨w.heap.size, 2, none⟩ = some (.int .i64 x.idx) := by rw [blk_cell HK2.out]; rfl
  have s3 : w2.cell? ⟨w.heap.size, 3, none⟩ = some (.int .i64 x.past) := by rw [blk_cell HK2.out]; rfl
  have s6 : w2.cell? ⟨w.heap.size, 6, none⟩ = some (.slice A x.log.length c) := by rw [blk_cell HK2.out]; rfl
  cases bv
  case false =>
    go_wp2_with fail
    go_ret
    exact ⟨false, rfl, ⟨fun h => (by cases h), fun h => absurd (HBV.out.2 (HIF.out.1 h).1) (by decide)⟩, HB2.out⟩
  by_cases hq : x.term < 0
  · have hqb : decide (x.term < 0) = true := decide_eq_true hq
    have HQ := Lib.hid hq
    clear hq
    go_wp2_with fail
    go_ret
    exact ⟨false, rfl, ⟨fun h => (by cases h), fun h => by have q := HIF.out.1 h; have h1 := HQ.out; omega⟩, HB2.out⟩
  have hqb0 : decide (x.term < 0) = false := decide_eq_false hq
  have HQ0 := Lib.hid hq
  clear hq
  by_cases hq : 1099511627776 < x.term
  · have hqb : decide (1099511627776 < x.term) = true := decide_eq_true hq
    have HQ := Lib.hid hq
    clear hq
    go_wp2_with fail
    go_ret
    exact ⟨false, rfl, ⟨fun h => (by cases h), fun h => by have q := HIF.out.1 h; have h1 := HQ.out; omega⟩, HB2.out⟩
  have hqb1 : decide (1099511627776 < x.term) = false := decide_eq_false hq
  have HQ1 := Lib.hid hq
  clear hq
  by_cases hq : x.vote < -1
  · have hqb : decide (x.vote < -1) = true := decide_eq_true hq
    have HQ := Lib.hid hq
    clear hq
    go_wp2_with fail
    go_ret
    exact ⟨false, rfl, ⟨fun h => (by cases h), fun h => by have q := HIF.out.1 h; have h1 := HQ.out; omega⟩, HB2.out⟩
  have hqb2 : decide (x.vote < -1) = false := decide_eq_false hq
  have HQ2 := Lib.hid hq
  clear hq
  by_cases hq : 6 < x.vote
  · have hqb : decide (6 < x.vote) = true := decide_eq_true hq
    have HQ := Lib.hid hq
    clear hq
    go_wp2_with fail
    go_ret
    exact ⟨false, rfl, ⟨fun h => (by cases h), fun h => by have q := HIF.out.1 h; have h1 := HQ.out; omega⟩, HB2.out⟩
  have hqb3 : decide (6 < x.vote) = false := decide_eq_false hq
  have HQ3 := Lib.hid hq
  clear hq
  by_cases hq : x.idx < 0
  · have hqb : decide (x.idx < 0) = true := decide_eq_true hq
    have HQ := Lib.hid hq
    clear hq
    go_wp2_with fail
    go_ret
    exact ⟨false, rfl, ⟨fun h => (by cases h), fun h => by have q := HIF.out.1 h; have h1 := HQ.out; omega⟩, HB2.out⟩
  have hqb4 : decide (x.idx < 0) = false := decide_eq_false hq
  have HQ4 := Lib.hid hq
  clear hq
  by_cases hq : 1099511627776 < x.idx
  · have hqb : decide (1099511627776 < x.idx) = true := decide_eq_true hq
    have HQ := Lib.hid hq
    clear hq
    go_wp2_with fail
    go_ret
    exact ⟨false, rfl, ⟨fun h => (by cases h), fun h => by have q := HIF.out.1 h; have h1 := HQ.out; omega⟩, HB2.out⟩
  have hqb5 : decide (1099511627776 < x.idx) = false := decide_eq_false hq
  have HQ5 := Lib.hid hq
  clear hq
  by_cases hq : x.past < 0
  · have hqb : decide (x.past < 0) = true := decide_eq_true hq
    have HQ := Lib.hid hq
    clear hq
    go_wp2_with fail
    go_ret
    exact ⟨false, rfl, ⟨fun h => (by cases h), fun h => by have q := HIF.out.1 h; have h1 := HQ.out; omega⟩, HB2.out⟩
  have hqb6 : decide (x.past < 0) = false := decide_eq_false hq
  have HQ6 := Lib.hid hq
  clear hq
  by_cases hq : x.term < x.past
  · have hqb : decide (x.term < x.past) = true := decide_eq_true hq
    have HQ := Lib.hid hq
    clear hq
    go_wp2_with fail
    go_ret
    exact ⟨false, rfl, ⟨fun h => (by cases h), fun h => by have q := HIF.out.1 h; have h1 := HQ.out; omega⟩, HB2.out⟩
  have hqb7 : decide (x.term < x.past) = false := decide_eq_false hq
  have HQ7 := Lib.hid hq
  clear hq
  by_cases hq : (4096 : Int) < (x.log.length : Int)
  · have hqb : decide ((4096 : Int) < (x.log.length : Int)) = true := decide_eq_true hq
    have HQ := Lib.hid hq
    clear hq
    go_wp2_with fail
    go_ret
    exact ⟨false, rfl, ⟨fun h => (by cases h), fun h => by have q := HIF.out.1 h; have h1 := HQ.out; omega⟩, HB2.out⟩
  have hqb8 : decide ((4096 : Int) < (x.log.length : Int)) = false := decide_eq_false hq
  have HQ8 := Lib.hid hq
  clear hq
  go_upto_region 6 with fail
  clear s0 s1 s2 s3 s6 hqb0 hqb1 hqb2 hqb3 hqb4 hqb5 hqb6 hqb7 hqb8
  go_loopw [5, 71] (fun vf vi wr => ∃ i : Nat, i ≤ x.log.length ∧ vi = .int .i64 i ∧ vf = .int .i64 (fromAt x.past x.log i) ∧ Hid (∀ j, j < i → okR x.past x.term x.log j) ∧ Hid (Below w.heap.size w wr) ∧ Hid (wr.heap[w.heap.size]? = some (.cells #[.int .i64 x.term, .int .i64 x.vote, .int .i64 x.idx, .int .i64 x.past, .string x.vot, .string x.text, .slice A x.log.length c] 47 (0, 0)))) (fun _ vi _ => x.log.length - (intOf vi).toNat)
  case atStart => exact ⟨0, by omega, rfl, rfl, Lib.hid (fun j hj => absurd hj (by omega)), HB2, HK2⟩
  case round =>
  obtain ⟨i, hi, rfl, rfl, HOK, HB, HK⟩ := hrel
  obtain ⟨y, hy⟩ : ∃ y, y = fromAt x.past x.log i := ⟨_, rfl⟩
  have HY := Lib.hid hy
  rw [← hy]
  clear hy
  by_cases hlt : i < x.log.length
  · have hltb : decide ((i : Int) < (x.log.length : Int)) = true := decide_eq_true (by omega)
    obtain ⟨ad, rfl, ha0, ha1, ha2⟩ := at_T39 (Kd.C_below HR.out HB.out) (i : Int) (by omega) (by omega)
    have hrx : rd_T39 x.log (i : Int) = x.log.getD i z39 := by unfold rd_T39; rw [Int.toNat_natCast]
    rw [hrx, Int.toNat_natCast] at ha0 ha1 ha2
    obtain ⟨z, hze⟩ : ∃ z, z = x.log.getD i z39 := ⟨_, rfl⟩
    rw [← hze] at ha0 ha1 ha2
    have HZ := Lib.hid hze
    have HVE := Lib.hid (fun W => HVO.out z.f2 (HE.out z (by rw [hze, List.getD_eq_getElem?_getD, List.getElem?_eq_getElem hlt]; exact List.getElem_mem hlt)) W)
    clear hze hrx
    obtain ⟨x0, x1, x2⟩ := z
    dsimp only at ha0 ha1 ha2 HVE
    obtain ⟨bn, hbn⟩ : ∃ bn, bn = decide (0 < (votV x2).length) := ⟨_, rfl⟩
    rw [← hbn] at HVE
    have HBN : Hid (bn = true ↔ 0 < (votV x2).length) := Lib.hid (by rw [hbn, decide_eq_true_iff])
    clear hbn
    have hno : Hid (¬ ((0 ≤ x1 ∧ x1 ≤ 2 ∧ (x1 ≠ 2 ∨ 0 < (votV x2).length) ∧ x2.size ≤ 4096) ∧ y ≤ x0 ∧ x0 ≤ x.term) → ¬ mayS x) := Lib.hid (fun hh q => by
      have q2 := (HIF.out.1 q).2.2.2.2.2.2.2.2.2.2 i hlt
      unfold okR isEnt at q2
      rw [← HZ.out, ← HY.out] at q2
      exact hh q2)
    have hk1 := blk_new wr (.cells #[.int .i64 x0, .int .i64 x1, .string x2] 39)
    have hal := (Below.refl wr.heap.size wr).alloc (Nat.le_refl _) (.cells #[.int .i64 x0, .int .i64 x1, .string x2] 39)
    have HB1 := Lib.hid (HB.out.trans (hal.mono HB.out.size))
    have HK1 := Lib.hid (blk_below HK.out hal)
    go_upto_region 8 with fail
    clear hal ha0 ha1 ha2
    generalize wr.alloc (.cells #[.int .i64 x0, .int .i64 x1, .string x2] 39) = w3 at HB1 HK1 hk1 ⊢
    have e2 : w3.cell? ⟨wr.heap.size, 2, none⟩ = some (.string x2) := by rw [blk_cell hk1]; rfl
    have HE1 := Lib.hid hk1
    clear hk1
    go_upto_region 9 with ((with_reducible refine (HVE.out _).mono ?_); rintro e w4 ⟨vn, rfl, hb⟩; have HB4 := Lib.hid (HB1.out.trans (hb.mono HB1.out.size)); have HK4 := Lib.hid (blk_below HK1.out hb); have HE4 := Lib.hid (blk_below HE1.out hb); clear hb)
    clear e2 HVE HB1 HK1 HE1 HB HK
    have e0 : w4.cell? ⟨wr.heap.size, 0, none⟩ = some (.int .i64 x0) := by rw [blk_cell HE4.out]; rfl
    have e1 : w4.cell? ⟨wr.heap.size, 1, none⟩ = some (.int .i64 x1) := by rw [blk_cell HE4.out]; rfl
    have e2 : w4.cell? ⟨wr.heap.size, 2, none⟩ = some (.string x2) := by rw [blk_cell HE4.out]; rfl
    have s0 : w4.cell? ⟨w.heap.size, 0, none⟩ = some (.int .i64 x.term) := by rw [blk_cell HK4.out]; rfl
    by_cases hq : x0 < y
    · have hqb : decide (x0 < y) = true := decide_eq_true hq
      have HQ := Lib.hid hq
      clear hq
      go_wp2_with fail
      go_ret
      exact ⟨false, rfl, ⟨fun h => (by cases h), fun h => absurd h (hno.out (fun q => by have h1 := HQ.out; omega))⟩, HB4.out⟩
    have hqb0 : decide (x0 < y) = false := decide_eq_false hq
    have HP0 := Lib.hid hq
    clear hq
    by_cases hq : x.term < x0
    · have hqb : decide (x.term < x0) = true := decide_eq_true hq
      have HQ := Lib.hid hq
      clear hq
      go_wp2_with fail
      go_ret
      exact ⟨false, rfl, ⟨fun h => (by cases h), fun h => absurd h (hno.out (fun q => by have h1 := HQ.out; omega))⟩, HB4.out⟩
    have hqb1 : decide (x.term < x0) = false := decide_eq_false hq
    have HP1 := Lib.hid hq
    clear hq
    by_cases hq : x1 < 0
    · have hqb : decide (x1 < 0) = true := decide_eq_true hq
      have HQ := Lib.hid hq
      clear hq
      go_wp2_with fail
      go_ret
      exact ⟨false, rfl, ⟨fun h => (by cases h), fun h => absurd h (hno.out (fun q => by have h1 := HQ.out; omega))⟩, HB4.out⟩
    have hqb2 : decide (x1 < 0) = false := decide_eq_false hq
    have HP2 := Lib.hid hq
    clear hq
    by_cases hq : 2 < x1
    · have hqb : decide (2 < x1) = true := decide_eq_true hq
      have HQ := Lib.hid hq
      clear hq
      go_wp2_with fail
      go_ret
      exact ⟨false, rfl, ⟨fun h => (by cases h), fun h => absurd h (hno.out (fun q => by have h1 := HQ.out; omega))⟩, HB4.out⟩
    have hqb3 : decide (2 < x1) = false := decide_eq_false hq
    have HP3 := Lib.hid hq
    clear hq
    by_cases h2 : x1 = 2
    · have h2b : (x1 == 2) = true := by simp [h2]
      have h2d : decide (x1 = 2) = true := decide_eq_true h2
      have H2 := Lib.hid h2
      clear h2
      cases bn
      case false =>
        go_wp2_with fail
        go_ret
        exact ⟨false, rfl, ⟨fun h => (by cases h), fun h => absurd h (hno.out (fun q => by have h1 := H2.out; rcases q.1.2.2.1 with q1 | q1; exact q1 h1; exact absurd (HBN.out.2 q1) (by decide)))⟩, HB4.out⟩
      by_cases hq : (4096 : Int) < (x2.size : Int)
      · have hqb : decide ((4096 : Int) < (x2.size : Int)) = true := decide_eq_true hq
        have HQ := Lib.hid hq
        clear hq
        go_wp2_with fail
        go_ret
        exact ⟨false, rfl, ⟨fun h => (by cases h), fun h => absurd h (hno.out (fun q => by have h1 := HQ.out; omega))⟩, HB4.out⟩
      have hqb5 : decide ((4096 : Int) < (x2.size : Int)) = false := decide_eq_false hq
      have HP5 := Lib.hid hq
      clear hq
      go_wp2_with fail
      go_roundw
      case measure => simp [intOf]; omega
      case rel =>
        refine ⟨i + 1, by omega, by go_num, by rw [fromAt_succ, ← HZ.out], Lib.hid (fun j hj => ?_), HB4, HK4⟩
        by_cases hji : j = i
        · subst hji
          unfold okR isEnt
          rw [← HZ.out, ← HY.out]
          dsimp only
          have p0 := HP0.out
          have p1 := HP1.out
          have p2 := HP2.out
          have p3 := HP3.out
          have p5 := HP5.out
          exact ⟨⟨by omega, by omega, .inr (HBN.out.1 (by first | rfl | trivial)), by omega⟩, by omega, by omega⟩
        · exact HOK.out j (by omega)
    · have h2b : (x1 == 2) = false := by simp [h2]
      have h2d : decide (x1 = 2) = false := decide_eq_false h2
      have H2 := Lib.hid h2
      clear h2
      by_cases hq : (4096 : Int) < (x2.size : Int)
      · have hqb : decide ((4096 : Int) < (x2.size : Int)) = true := decide_eq_true hq
        have HQ := Lib.hid hq
        clear hq
        go_wp2_with fail
        go_ret
        exact ⟨false, rfl, ⟨fun h => (by cases h), fun h => absurd h (hno.out (fun q => by have h1 := HQ.out; omega))⟩, HB4.out⟩
      have hqb5 : decide ((4096 : Int) < (x2.size : Int)) = false := decide_eq_false hq
      have HP5 := Lib.hid hq
      clear hq
      go_wp2_with fail
      go_roundw
      case measure => simp [intOf]; omega
      case rel =>
        refine ⟨i + 1, by omega, by go_num, by rw [fromAt_succ, ← HZ.out], Lib.hid (fun j hj => ?_), HB4, HK4⟩
        by_cases hji : j = i
        · subst hji
          unfold okR isEnt
          rw [← HZ.out, ← HY.out]
          dsimp only
          have p0 := HP0.out
          have p1 := HP1.out
          have p2 := HP2.out
          have p3 := HP3.out
          have p5 := HP5.out
          exact ⟨⟨by omega, by omega, .inl H2.out, by omega⟩, by omega, by omega⟩
        · exact HOK.out j (by omega)
  · have hltb : decide ((i : Int) < (x.log.length : Int)) = false := decide_eq_false (by omega)
    obtain rfl : i = x.log.length := by omega
    go_wp2_with fail
    go_ret
    refine ⟨true, rfl, ⟨fun _ => HIF.out.2 ?_, fun _ => rfl⟩, HB.out⟩
    have q0 := HQ0.out
    have q1 := HQ1.out
    have q2 := HQ2.out
    have q3 := HQ3.out
    have q4 := HQ4.out
    have q5 := HQ5.out
    have q6 := HQ6.out
    have q7 := HQ7.out
    have q8 := HQ8.out
    exact ⟨HBV.out.1 (by first | rfl | trivial), by omega, by omega, by omega, by omega, by omega, by omega, by omega, by omega, by omega, HOK.out⟩

end Go.Proofs.Ytfanbhbpmhojaaa
