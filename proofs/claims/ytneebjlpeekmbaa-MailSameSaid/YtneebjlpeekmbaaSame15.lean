/- The reference's Same of references, commands, instances, and of mails at two copies of one mail. No conditions beyond those typed. -/
import Derived.Test.YtneebjlpeekmbaaSameA
namespace Go.Proofs.Ytneebjlpeekmbaa
open Go.RowKit Go.Proofs.YtneebjlpeekmbaaW.PrintWords Go.Proofs.YtneebjlpeekmbaaW.PrintLast Go.Proofs.YtneebjlpeekmbaaW.PrintMore PRef
set_option linter.unusedVariables false
set_option linter.unusedSimpArgs false

set_option maxRecDepth 100000 in
set_option maxHeartbeats 4000000 in
theorem samerefs_calls (A B : Option Addr) (c d : Nat) (xs ys : List S23) (w : World) (hx : Kd.C k23 w A xs.length xs) (hc : xs.length ≤ c) (hy : Kd.C k23 w B ys.length ys) (hd : ys.length ≤ d) :
    Calls Try.prog 77 #[.slice A xs.length c, .slice B ys.length d] w fun e w' => e = .returned (.bool (decide (xs.map p23 = ys.map p23))) ∧ Below w.heap.size w w' := by
  have HX := Lib.hid hx
  have HY := Lib.hid hy
  have hlx := hx.2.1
  have hly := hy.2.1
  clear hx hy
  obtain ⟨R, hR⟩ : ∃ R, R = decide (xs.map p23 = ys.map p23) := ⟨_, rfl⟩
  rw [← hR]
  have HR := Lib.hid hR
  clear hR
  by_cases hl : xs.length = ys.length
  · have hlb : ((xs.length : Int) == (ys.length : Int)) = true := by rw [beq_iff_eq]; omega
    have hu23 := Try.underlying23
    go_enter Try.func77, Try.ntmps77
    go_wp2
    repeat (go_quiet (fail); try go_wp2)
    go_loopw [13] (fun vi wr => ∃ i : Nat, vi = .int .i64 i ∧ i ≤ xs.length ∧ Hid (∀ j, j < i → p23 (xs.getD j z23) = p23 (ys.getD j z23)) ∧ Hid (Below w.heap.size w wr)) (fun vi _ => xs.length - (intOf vi).toNat)
    case atStart => exact ⟨0, rfl, by omega, Lib.hid (fun j hj => by omega), Lib.hid (by repeat (first | exact Below.refl _ _ | apply pw_below_drewN | apply below_drew1))⟩
    case round =>
      obtain ⟨i, rfl, hi, HE, HB⟩ := hrel
      by_cases hlt : i < xs.length
      · obtain ⟨ad, rfl, ha0, ha1⟩ := at_T23 (Kd.C_below HX.out HB.out) (i : Int) (by omega) (by omega)
        obtain ⟨bd, rfl, hb0, hb1⟩ := at_T23 (Kd.C_below HY.out HB.out) (i : Int) (by omega) (by omega)
        have hrx : rd_T23 xs (i : Int) = xs.getD i z23 := by unfold rd_T23; rw [Int.toNat_natCast]
        have hry : rd_T23 ys (i : Int) = ys.getD i z23 := by unfold rd_T23; rw [Int.toNat_natCast]
        rw [hrx] at ha0 ha1
        rw [hry] at hb0 hb1
        have HXI := Lib.hid (show xs.getD i z23 = xs.getD i z23 from rfl)
        obtain ⟨x, hxe⟩ : ∃ x, x = xs.getD i z23 := ⟨_, rfl⟩
        obtain ⟨y, hye⟩ : ∃ y, y = ys.getD i z23 := ⟨_, rfl⟩
        rw [← hxe] at ha0 ha1
        rw [← hye] at hb0 hb1
        have HXE := Lib.hid hxe
        have HYE := Lib.hid hye
        clear hrx hry hxe hye HXI
        rw [Int.toNat_natCast] at ha0 ha1 hb0 hb1
        obtain ⟨x0, x1⟩ := x
        obtain ⟨y0, y1⟩ := y
        dsimp only at ha0 ha1 hb0 hb1
        have q0 : (0 : Int) ≤ (i : Int) := by omega
        have q1 : (i : Int) < (xs.length : Int) := by omega
        have q2 : (i : Int) < (ys.length : Int) := by omega
        by_cases h0 : x0 = y0
        · have b0 : (x0 == y0) = true := by rw [beq_iff_eq]; exact h0
          by_cases h1 : x1 = y1
          · have b1 : (x1 == y1) = true := by rw [beq_iff_eq]; exact h1
            have HE2 : Hid (∀ j, j < i + 1 → p23 (xs.getD j z23) = p23 (ys.getD j z23)) := Lib.hid (fun j hj => by
              by_cases hji : j = i
              · rw [hji, ← HXE.out, ← HYE.out]
                unfold p23
                dsimp only
                rw [h0, h1]
              · exact HE.out j (by omega))
            subst h0 h1
            go_wp2
            repeat (go_quiet (fail); try go_wp2)
            go_roundw
            case measure => simp [intOf]; omega
            case rel => exact ⟨i + 1, by go_num, by omega, HE2, Lib.hid (by repeat (first | exact HB.out | apply pw_below_drewN | apply below_drew1))⟩
          · have b1 : (x1 == y1) = false := by rw [beq_eq_false_iff_ne]; exact h1
            obtain rfl : R = false := by
              rw [HR.out, decide_eq_false_iff_not]
              refine map_ne_of p23 z23 xs ys i (by omega) (by omega) ?_
              rw [← HXE.out, ← HYE.out]
              unfold p23
              intro e
              simp only [Prod.mk.injEq] at e
              exact h1 e.2
            go_wp2
            repeat (go_quiet (fail); try go_wp2)
            go_ret
            exact ⟨rfl, by repeat (first | exact HB.out | apply pw_below_drewN | apply below_drew1)⟩
        · have b0 : (x0 == y0) = false := by rw [beq_eq_false_iff_ne]; exact h0
          obtain rfl : R = false := by
            rw [HR.out, decide_eq_false_iff_not]
            refine map_ne_of p23 z23 xs ys i (by omega) (by omega) ?_
            rw [← HXE.out, ← HYE.out]
            unfold p23
            intro e
            simp only [Prod.mk.injEq] at e
            exact h0 e.1
          go_wp2
          repeat (go_quiet (fail); try go_wp2)
          go_ret
          exact ⟨rfl, by repeat (first | exact HB.out | apply pw_below_drewN | apply below_drew1)⟩
      · obtain rfl : i = xs.length := by omega
        obtain rfl : R = true := by
          rw [HR.out, decide_eq_true_iff]
          exact map_eq_of p23 z23 xs ys hl HE.out
        go_wp2
        repeat (go_quiet (fail); try go_wp2)
        go_ret
        exact ⟨rfl, HB.out⟩
  · have hlb : ((xs.length : Int) == (ys.length : Int)) = false := by rw [beq_eq_false_iff_ne]; omega
    obtain rfl : R = false := by rw [HR.out, decide_eq_false_iff_not]; exact len_ne_of _ _ _ hl
    go_enter Try.func77, Try.ntmps77
    go_wp2
    repeat (go_quiet (fail); try go_wp2)
    go_ret
    exact ⟨rfl, by repeat (first | exact Below.refl _ _ | apply pw_below_drewN | apply below_drew1)⟩

theorem samerefsE {A B : Option Addr} {c d : Nat} {xs ys : List S23} {w : World} (r : Bool) (hr : r = true ↔ xs = ys) (hx : InR w A c xs) (hy : InR w B d ys) :
    Calls Try.prog 77 #[.slice A xs.length c, .slice B ys.length d] w fun e w' => e = .returned (.bool r) ∧ Below w.heap.size w w' :=
  (samerefs_calls A B c d xs ys w hx.1 hx.2 hy.1 hy.2).mono fun e w' ⟨h1, h2⟩ => ⟨by rw [h1]; congr 2; rw [Bool.eq_iff_iff, hr, decide_eq_true_iff]; exact map_inj_iff p23 p23_inj xs ys, h2⟩
theorem same5_l0 (xs ys : List ByteArray) (a0 a1 a2 a3 a4 b0 b1 b2 b3 b4 : Int) (hl : xs.length = ys.length) (h63 : xs.length ≤ 9223372036854775807) (r : Bool) (hr : r = true ↔ xs = ys) : ∀ (d i : Nat), i + d = xs.length → (∀ j, j < i → xs.getD j ByteArray.empty = ys.getD j ByteArray.empty) → lamellaref05_SameCmd.l0 (d + 1) (xs.length : Int) i a0 a1 a2 a3 a4 xs b0 b1 b2 b3 b4 ys = some r
  | 0, i, h, he => by
    have hrt : r = true := hr.2 (by
      have := map_eq_of id ByteArray.empty xs ys hl (fun j hj => he j (by omega))
      simpa using this)
    unfold lamellaref05_SameCmd.l0
    rw [if_neg (by omega), hrt]
  | d + 1, i, h, he => by
    unfold lamellaref05_SameCmd.l0
    rw [if_pos (by omega), if_pos (by omega), if_pos (by omega), if_pos (by omega)]
    unfold rdOf
    rw [Int.toNat_natCast]
    by_cases hq : xs.getD i ByteArray.empty = ys.getD i ByteArray.empty
    · rw [if_pos (by rw [hq])]
      have : wrap64 ((i : Int) + 1) = ((i + 1 : Nat) : Int) := by unfold wrap64; omega
      rw [this]
      exact same5_l0 xs ys a0 a1 a2 a3 a4 b0 b1 b2 b3 b4 hl h63 r hr d (i + 1) (by omega) (fun j hj => by
        by_cases hji : j = i
        · rw [hji]; exact hq
        · exact he j (by omega))
    · rw [if_neg (fun e => hq (ba_ext e))]
      have : r = false := by
        cases r with
        | false => rfl
        | true => exact absurd (by rw [hr.1 rfl]) hq
      rw [this]
theorem samecmd5 {A B : Option Addr} {c d : Nat} (x y : Cmd) {w : World} (r : Bool) (hr : r = true ↔ x = y) (hx : InC w A c x.data) (hy : InC w B d y.data) :
    Calls Try.prog 76 #[.agg #[.int .i64 x.op, .int .i64 x.client, .int .i64 x.seq, .int .i64 x.cfrom, .int .i64 x.cto, .slice A x.data.length c], .agg #[.int .i64 y.op, .int .i64 y.client, .int .i64 y.seq, .int .i64 y.cfrom, .int .i64 y.cto, .slice B y.data.length d]] w fun e w' => e = .returned (.bool r) ∧ Below w.heap.size w w' := by
  refine lamellaref05_SameCmd.calls (x.data.length + 2) _ _ _ _ _ _ _ _ _ _ _ _ _ _ _ _ r w hx.1 hx.2 hy.1 hy.2 ?_
  obtain ⟨x0, x1, x2, x3, x4, x5⟩ := x
  obtain ⟨y0, y1, y2, y3, y4, y5⟩ := y
  simp only [Cmd.mk.injEq] at hr
  have hno : ¬ (x0 = y0 ∧ x1 = y1 ∧ x2 = y2 ∧ x3 = y3 ∧ x4 = y4 ∧ x5 = y5) → r = false := fun h => by
    cases r with
    | false => rfl
    | true => exact absurd (hr.1 rfl) h
  unfold lamellaref05_SameCmd.f
  dsimp only
  have hj : ∀ (b : Bool) a0 a1 a2 a3 a4 b0 b1 b2 b3 b4, lamellaref05_SameCmd.j0 (x5.length + 2) b a0 a1 a2 a3 a4 x5 b0 b1 b2 b3 b4 y5 = if b = true then some false else lamellaref05_SameCmd.l0 (x5.length + 1) (x5.length : Int) 0 a0 a1 a2 a3 a4 x5 b0 b1 b2 b3 b4 y5 := fun b a0 a1 a2 a3 a4 b0 b1 b2 b3 b4 => by rw [lamellaref05_SameCmd.j0]
  simp only [hj]
  by_cases h0 : x0 = y0
  · rw [if_pos h0]
    by_cases h1 : x1 = y1
    · rw [if_pos h1]
      by_cases h2 : x2 = y2
      · rw [if_pos h2]
        by_cases h3 : x3 = y3
        · rw [if_pos h3]
          by_cases h4 : x4 = y4
          · rw [if_pos h4]
            by_cases hl : x5.length = y5.length
            · rw [if_neg (by simp; omega)]
              exact same5_l0 x5 y5 _ _ _ _ _ _ _ _ _ _ hl hx.1.2.1 r (by rw [hr]; exact ⟨fun h => h.2.2.2.2.2, fun h => ⟨h0, h1, h2, h3, h4, h⟩⟩) x5.length 0 (by omega) (fun j hj => by omega)
            · rw [if_pos (by simp; omega), hno (fun h => hl (by rw [h.2.2.2.2.2]))]
          · rw [if_neg h4, if_pos trivial, hno (fun h => h4 h.2.2.2.2.1)]
        · rw [if_neg h3, if_pos trivial, hno (fun h => h3 h.2.2.2.1)]
      · rw [if_neg h2, if_pos trivial, hno (fun h => h2 h.2.2.1)]
    · rw [if_neg h1, if_pos trivial, hno (fun h => h1 h.2.1)]
  · rw [if_neg h0, if_pos trivial, hno (fun h => h0 h.1)]

set_option maxRecDepth 100000 in
set_option maxHeartbeats 8000000 in
theorem instsame7 {A1 A2 B1 B2 : Option Addr} {c1 c2 d1 d2 : Nat} (x y : Inst) {w : World} (r : Bool) (hr : r = true ↔ x = y) (hx1 : InC w A1 c1 x.cmd.data) (hx2 : InR w A2 c2 x.deps) (hy1 : InC w B1 d1 y.cmd.data) (hy2 : InR w B2 d2 y.deps) :
    Calls Try.prog 47 #[.agg #[.int .i64 x.lead, .int .i64 x.index, .int .i64 x.bn, .int .i64 x.bnode, .int .i64 x.vn, .int .i64 x.vnode, .int .i64 x.status, .bool x.same, .int .i64 x.cmd.op, .int .i64 x.cmd.client, .int .i64 x.cmd.seq, .int .i64 x.cmd.cfrom, .int .i64 x.cmd.cto, .slice A1 x.cmd.data.length c1, .int .i64 x.iseq, .slice A2 x.deps.length c2], .agg #[.int .i64 y.lead, .int .i64 y.index, .int .i64 y.bn, .int .i64 y.bnode, .int .i64 y.vn, .int .i64 y.vnode, .int .i64 y.status, .bool y.same, .int .i64 y.cmd.op, .int .i64 y.cmd.client, .int .i64 y.cmd.seq, .int .i64 y.cmd.cfrom, .int .i64 y.cmd.cto, .slice B1 y.cmd.data.length d1, .int .i64 y.iseq, .slice B2 y.deps.length d2]] w fun e w' => e = .returned (.bool r) ∧ Below w.heap.size w w' := by
  have HX1 := Lib.hid hx1
  have HX2 := Lib.hid hx2
  have HY1 := Lib.hid hy1
  have HY2 := Lib.hid hy2
  clear hx1 hx2 hy1 hy2
  obtain ⟨x0, x1, x2, x3, x4, x5, x6, x7, x8, x9, x10⟩ := x
  obtain ⟨y0, y1, y2, y3, y4, y5, y6, y7, y8, y9, y10⟩ := y
  obtain ⟨u0x, u1x, u2x, u3x, u4x, u5x⟩ := x8
  obtain ⟨u0y, u1y, u2y, u3y, u4y, u5y⟩ := y8
  simp only [Inst.mk.injEq] at hr
  dsimp only at HX1 HX2 HY1 HY2 ⊢
  have hu31 := Try.underlying31
  have hu23 := Try.underlying23
  have hu25 := Try.underlying25
  have hu28 := Try.underlying28
  by_cases g0 : x0 = y0
  · subst g0
    by_cases g1 : x1 = y1
    · subst g1
      by_cases g2 : x2 = y2
      · subst g2
        by_cases g3 : x3 = y3
        · subst g3
          by_cases g4 : x4 = y4
          · subst g4
            by_cases g5 : x5 = y5
            · subst g5
              by_cases g6 : x6 = y6
              · subst g6
                by_cases g7 : x7 = y7
                · subst g7
                  by_cases g9 : x9 = y9
                  · subst g9
                    by_cases g8 : (⟨u0x, u1x, u2x, u3x, u4x, u5x⟩ : Cmd) = (⟨u0y, u1y, u2y, u3y, u4y, u5y⟩ : Cmd)
                    · have G8 := Lib.hid g8
                      clear g8
                      by_cases g10 : x10 = y10
                      · have G10 := Lib.hid g10
                        clear g10
                        obtain rfl : r = true := hr.2 ⟨rfl, rfl, rfl, rfl, rfl, rfl, rfl, rfl, G8.out, rfl, G10.out⟩
                        clear hr
                        have HBK1 := Lib.hid (blk_alloc (blk_new w (.cells #[.int .i64 x0, .int .i64 x1, .int .i64 x2, .int .i64 x3, .int .i64 x4, .int .i64 x5, .int .i64 x6, .bool x7, .int .i64 u0x, .int .i64 u1x, .int .i64 u2x, .int .i64 u3x, .int .i64 u4x, .slice A1 u5x.length c1, .int .i64 x9, .slice A2 x10.length c2] 31)) (.cells #[.int .i64 x0, .int .i64 x1, .int .i64 x2, .int .i64 x3, .int .i64 x4, .int .i64 x5, .int .i64 x6, .bool x7, .int .i64 u0y, .int .i64 u1y, .int .i64 u2y, .int .i64 u3y, .int .i64 u4y, .slice B1 u5y.length d1, .int .i64 x9, .slice B2 y10.length d2] 31))
                        have HBK2 : Hid (((w.alloc (.cells #[.int .i64 x0, .int .i64 x1, .int .i64 x2, .int .i64 x3, .int .i64 x4, .int .i64 x5, .int .i64 x6, .bool x7, .int .i64 u0x, .int .i64 u1x, .int .i64 u2x, .int .i64 u3x, .int .i64 u4x, .slice A1 u5x.length c1, .int .i64 x9, .slice A2 x10.length c2] 31)).alloc (.cells #[.int .i64 x0, .int .i64 x1, .int .i64 x2, .int .i64 x3, .int .i64 x4, .int .i64 x5, .int .i64 x6, .bool x7, .int .i64 u0y, .int .i64 u1y, .int .i64 u2y, .int .i64 u3y, .int .i64 u4y, .slice B1 u5y.length d1, .int .i64 x9, .slice B2 y10.length d2] 31)).heap[w.heap.size + 1]? = some (.cells #[.int .i64 x0, .int .i64 x1, .int .i64 x2, .int .i64 x3, .int .i64 x4, .int .i64 x5, .int .i64 x6, .bool x7, .int .i64 u0y, .int .i64 u1y, .int .i64 u2y, .int .i64 u3y, .int .i64 u4y, .slice B1 u5y.length d1, .int .i64 x9, .slice B2 y10.length d2] 31)) := Lib.hid (by have := blk_new (w.alloc (.cells #[.int .i64 x0, .int .i64 x1, .int .i64 x2, .int .i64 x3, .int .i64 x4, .int .i64 x5, .int .i64 x6, .bool x7, .int .i64 u0x, .int .i64 u1x, .int .i64 u2x, .int .i64 u3x, .int .i64 u4x, .slice A1 u5x.length c1, .int .i64 x9, .slice A2 x10.length c2] 31)) (.cells #[.int .i64 x0, .int .i64 x1, .int .i64 x2, .int .i64 x3, .int .i64 x4, .int .i64 x5, .int .i64 x6, .bool x7, .int .i64 u0y, .int .i64 u1y, .int .i64 u2y, .int .i64 u3y, .int .i64 u4y, .slice B1 u5y.length d1, .int .i64 x9, .slice B2 y10.length d2] 31); rwa [World.size_alloc] at this)
                        have HB2 := Lib.hid (((Below.refl w.heap.size w).alloc (Nat.le_refl _) (.cells #[.int .i64 x0, .int .i64 x1, .int .i64 x2, .int .i64 x3, .int .i64 x4, .int .i64 x5, .int .i64 x6, .bool x7, .int .i64 u0x, .int .i64 u1x, .int .i64 u2x, .int .i64 u3x, .int .i64 u4x, .slice A1 u5x.length c1, .int .i64 x9, .slice A2 x10.length c2] 31)).alloc (by simp) (.cells #[.int .i64 x0, .int .i64 x1, .int .i64 x2, .int .i64 x3, .int .i64 x4, .int .i64 x5, .int .i64 x6, .bool x7, .int .i64 u0y, .int .i64 u1y, .int .i64 u2y, .int .i64 u3y, .int .i64 u4y, .slice B1 u5y.length d1, .int .i64 x9, .slice B2 y10.length d2] 31))
                        go_enter Try.func47, Try.ntmps47
                        go_wp2_with (first | ((with_reducible refine (samecmd5 ⟨u0x, u1x, u2x, u3x, u4x, u5x⟩ ⟨u0y, u1y, u2y, u3y, u4y, u5y⟩ true ⟨fun _ => G8.out, fun _ => rfl⟩ ⟨Kd.C_below HX1.out.1 HB2.out, HX1.out.2⟩ ⟨Kd.C_below HY1.out.1 HB2.out, HY1.out.2⟩).mono ?_); rintro e w3 ⟨rfl, hb⟩; have k3x15 : w3.cell? ⟨w.heap.size, 15, none⟩ = some (.slice A2 x10.length c2) := (by rw [blk_cell (blk_below HBK1.out hb)]; rfl); have k3y15 : w3.cell? ⟨w.heap.size + 1, 15, none⟩ = some (.slice B2 y10.length d2) := (by rw [blk_cell (blk_below HBK2.out hb)]; rfl); have HB3 := Lib.hid (HB2.out.trans (hb.mono HB2.out.size)); clear hb) | ((with_reducible refine (samerefsE true ⟨fun _ => G10.out, fun _ => rfl⟩ ⟨Kd.C_below HX2.out.1 HB3.out, HX2.out.2⟩ ⟨Kd.C_below HY2.out.1 HB3.out, HY2.out.2⟩).mono ?_); rintro e w4 ⟨rfl, hb⟩; have HB4 := Lib.hid (HB3.out.trans (hb.mono HB3.out.size)); clear hb))
                        go_ret
                        exact ⟨rfl, HB4.out⟩
                      · have hneg := g10
                        obtain rfl : r = false := by
                          cases r with
                          | false => rfl
                          | true => exact absurd ((hr.1 rfl).2.2.2.2.2.2.2.2.2.2) hneg
                        clear hr
                        have HBK1 := Lib.hid (blk_alloc (blk_new w (.cells #[.int .i64 x0, .int .i64 x1, .int .i64 x2, .int .i64 x3, .int .i64 x4, .int .i64 x5, .int .i64 x6, .bool x7, .int .i64 u0x, .int .i64 u1x, .int .i64 u2x, .int .i64 u3x, .int .i64 u4x, .slice A1 u5x.length c1, .int .i64 x9, .slice A2 x10.length c2] 31)) (.cells #[.int .i64 x0, .int .i64 x1, .int .i64 x2, .int .i64 x3, .int .i64 x4, .int .i64 x5, .int .i64 x6, .bool x7, .int .i64 u0y, .int .i64 u1y, .int .i64 u2y, .int .i64 u3y, .int .i64 u4y, .slice B1 u5y.length d1, .int .i64 x9, .slice B2 y10.length d2] 31))
                        have HBK2 : Hid (((w.alloc (.cells #[.int .i64 x0, .int .i64 x1, .int .i64 x2, .int .i64 x3, .int .i64 x4, .int .i64 x5, .int .i64 x6, .bool x7, .int .i64 u0x, .int .i64 u1x, .int .i64 u2x, .int .i64 u3x, .int .i64 u4x, .slice A1 u5x.length c1, .int .i64 x9, .slice A2 x10.length c2] 31)).alloc (.cells #[.int .i64 x0, .int .i64 x1, .int .i64 x2, .int .i64 x3, .int .i64 x4, .int .i64 x5, .int .i64 x6, .bool x7, .int .i64 u0y, .int .i64 u1y, .int .i64 u2y, .int .i64 u3y, .int .i64 u4y, .slice B1 u5y.length d1, .int .i64 x9, .slice B2 y10.length d2] 31)).heap[w.heap.size + 1]? = some (.cells #[.int .i64 x0, .int .i64 x1, .int .i64 x2, .int .i64 x3, .int .i64 x4, .int .i64 x5, .int .i64 x6, .bool x7, .int .i64 u0y, .int .i64 u1y, .int .i64 u2y, .int .i64 u3y, .int .i64 u4y, .slice B1 u5y.length d1, .int .i64 x9, .slice B2 y10.length d2] 31)) := Lib.hid (by have := blk_new (w.alloc (.cells #[.int .i64 x0, .int .i64 x1, .int .i64 x2, .int .i64 x3, .int .i64 x4, .int .i64 x5, .int .i64 x6, .bool x7, .int .i64 u0x, .int .i64 u1x, .int .i64 u2x, .int .i64 u3x, .int .i64 u4x, .slice A1 u5x.length c1, .int .i64 x9, .slice A2 x10.length c2] 31)) (.cells #[.int .i64 x0, .int .i64 x1, .int .i64 x2, .int .i64 x3, .int .i64 x4, .int .i64 x5, .int .i64 x6, .bool x7, .int .i64 u0y, .int .i64 u1y, .int .i64 u2y, .int .i64 u3y, .int .i64 u4y, .slice B1 u5y.length d1, .int .i64 x9, .slice B2 y10.length d2] 31); rwa [World.size_alloc] at this)
                        have HB2 := Lib.hid (((Below.refl w.heap.size w).alloc (Nat.le_refl _) (.cells #[.int .i64 x0, .int .i64 x1, .int .i64 x2, .int .i64 x3, .int .i64 x4, .int .i64 x5, .int .i64 x6, .bool x7, .int .i64 u0x, .int .i64 u1x, .int .i64 u2x, .int .i64 u3x, .int .i64 u4x, .slice A1 u5x.length c1, .int .i64 x9, .slice A2 x10.length c2] 31)).alloc (by simp) (.cells #[.int .i64 x0, .int .i64 x1, .int .i64 x2, .int .i64 x3, .int .i64 x4, .int .i64 x5, .int .i64 x6, .bool x7, .int .i64 u0y, .int .i64 u1y, .int .i64 u2y, .int .i64 u3y, .int .i64 u4y, .slice B1 u5y.length d1, .int .i64 x9, .slice B2 y10.length d2] 31))
                        go_enter Try.func47, Try.ntmps47
                        go_wp2_with (first | ((with_reducible refine (samecmd5 ⟨u0x, u1x, u2x, u3x, u4x, u5x⟩ ⟨u0y, u1y, u2y, u3y, u4y, u5y⟩ true ⟨fun _ => G8.out, fun _ => rfl⟩ ⟨Kd.C_below HX1.out.1 HB2.out, HX1.out.2⟩ ⟨Kd.C_below HY1.out.1 HB2.out, HY1.out.2⟩).mono ?_); rintro e w3 ⟨rfl, hb⟩; have k3x15 : w3.cell? ⟨w.heap.size, 15, none⟩ = some (.slice A2 x10.length c2) := (by rw [blk_cell (blk_below HBK1.out hb)]; rfl); have k3y15 : w3.cell? ⟨w.heap.size + 1, 15, none⟩ = some (.slice B2 y10.length d2) := (by rw [blk_cell (blk_below HBK2.out hb)]; rfl); have HB3 := Lib.hid (HB2.out.trans (hb.mono HB2.out.size)); clear hb) | ((with_reducible refine (samerefsE false ⟨fun h => absurd h (by decide), fun h => absurd h hneg⟩ ⟨Kd.C_below HX2.out.1 HB3.out, HX2.out.2⟩ ⟨Kd.C_below HY2.out.1 HB3.out, HY2.out.2⟩).mono ?_); rintro e w4 ⟨rfl, hb⟩; have HB4 := Lib.hid (HB3.out.trans (hb.mono HB3.out.size)); clear hb))
                        go_ret
                        exact ⟨rfl, HB4.out⟩
                    · have hneg := g8
                      obtain rfl : r = false := by
                        cases r with
                        | false => rfl
                        | true => exact absurd ((hr.1 rfl).2.2.2.2.2.2.2.2.1) hneg
                      clear hr
                      have HBK1 := Lib.hid (blk_alloc (blk_new w (.cells #[.int .i64 x0, .int .i64 x1, .int .i64 x2, .int .i64 x3, .int .i64 x4, .int .i64 x5, .int .i64 x6, .bool x7, .int .i64 u0x, .int .i64 u1x, .int .i64 u2x, .int .i64 u3x, .int .i64 u4x, .slice A1 u5x.length c1, .int .i64 x9, .slice A2 x10.length c2] 31)) (.cells #[.int .i64 x0, .int .i64 x1, .int .i64 x2, .int .i64 x3, .int .i64 x4, .int .i64 x5, .int .i64 x6, .bool x7, .int .i64 u0y, .int .i64 u1y, .int .i64 u2y, .int .i64 u3y, .int .i64 u4y, .slice B1 u5y.length d1, .int .i64 x9, .slice B2 y10.length d2] 31))
                      have HBK2 : Hid (((w.alloc (.cells #[.int .i64 x0, .int .i64 x1, .int .i64 x2, .int .i64 x3, .int .i64 x4, .int .i64 x5, .int .i64 x6, .bool x7, .int .i64 u0x, .int .i64 u1x, .int .i64 u2x, .int .i64 u3x, .int .i64 u4x, .slice A1 u5x.length c1, .int .i64 x9, .slice A2 x10.length c2] 31)).alloc (.cells #[.int .i64 x0, .int .i64 x1, .int .i64 x2, .int .i64 x3, .int .i64 x4, .int .i64 x5, .int .i64 x6, .bool x7, .int .i64 u0y, .int .i64 u1y, .int .i64 u2y, .int .i64 u3y, .int .i64 u4y, .slice B1 u5y.length d1, .int .i64 x9, .slice B2 y10.length d2] 31)).heap[w.heap.size + 1]? = some (.cells #[.int .i64 x0, .int .i64 x1, .int .i64 x2, .int .i64 x3, .int .i64 x4, .int .i64 x5, .int .i64 x6, .bool x7, .int .i64 u0y, .int .i64 u1y, .int .i64 u2y, .int .i64 u3y, .int .i64 u4y, .slice B1 u5y.length d1, .int .i64 x9, .slice B2 y10.length d2] 31)) := Lib.hid (by have := blk_new (w.alloc (.cells #[.int .i64 x0, .int .i64 x1, .int .i64 x2, .int .i64 x3, .int .i64 x4, .int .i64 x5, .int .i64 x6, .bool x7, .int .i64 u0x, .int .i64 u1x, .int .i64 u2x, .int .i64 u3x, .int .i64 u4x, .slice A1 u5x.length c1, .int .i64 x9, .slice A2 x10.length c2] 31)) (.cells #[.int .i64 x0, .int .i64 x1, .int .i64 x2, .int .i64 x3, .int .i64 x4, .int .i64 x5, .int .i64 x6, .bool x7, .int .i64 u0y, .int .i64 u1y, .int .i64 u2y, .int .i64 u3y, .int .i64 u4y, .slice B1 u5y.length d1, .int .i64 x9, .slice B2 y10.length d2] 31); rwa [World.size_alloc] at this)
                      have HB2 := Lib.hid (((Below.refl w.heap.size w).alloc (Nat.le_refl _) (.cells #[.int .i64 x0, .int .i64 x1, .int .i64 x2, .int .i64 x3, .int .i64 x4, .int .i64 x5, .int .i64 x6, .bool x7, .int .i64 u0x, .int .i64 u1x, .int .i64 u2x, .int .i64 u3x, .int .i64 u4x, .slice A1 u5x.length c1, .int .i64 x9, .slice A2 x10.length c2] 31)).alloc (by simp) (.cells #[.int .i64 x0, .int .i64 x1, .int .i64 x2, .int .i64 x3, .int .i64 x4, .int .i64 x5, .int .i64 x6, .bool x7, .int .i64 u0y, .int .i64 u1y, .int .i64 u2y, .int .i64 u3y, .int .i64 u4y, .slice B1 u5y.length d1, .int .i64 x9, .slice B2 y10.length d2] 31))
                      go_enter Try.func47, Try.ntmps47
                      go_wp2_with (((with_reducible refine (samecmd5 ⟨u0x, u1x, u2x, u3x, u4x, u5x⟩ ⟨u0y, u1y, u2y, u3y, u4y, u5y⟩ false ⟨fun h => absurd h (by decide), fun h => absurd h hneg⟩ ⟨Kd.C_below HX1.out.1 HB2.out, HX1.out.2⟩ ⟨Kd.C_below HY1.out.1 HB2.out, HY1.out.2⟩).mono ?_); rintro e w3 ⟨rfl, hb⟩; have k3x15 : w3.cell? ⟨w.heap.size, 15, none⟩ = some (.slice A2 x10.length c2) := (by rw [blk_cell (blk_below HBK1.out hb)]; rfl); have k3y15 : w3.cell? ⟨w.heap.size + 1, 15, none⟩ = some (.slice B2 y10.length d2) := (by rw [blk_cell (blk_below HBK2.out hb)]; rfl); have HB3 := Lib.hid (HB2.out.trans (hb.mono HB2.out.size)); clear hb))
                      go_ret
                      exact ⟨rfl, HB3.out⟩
                  · have hneg := g9
                    have b : (x9 == y9) = false := by rw [beq_eq_false_iff_ne]; exact hneg
                    obtain rfl : r = false := by
                      cases r with
                      | false => rfl
                      | true => exact absurd ((hr.1 rfl).2.2.2.2.2.2.2.2.2.1) hneg
                    clear hr
                    have HBK1 := Lib.hid (blk_alloc (blk_new w (.cells #[.int .i64 x0, .int .i64 x1, .int .i64 x2, .int .i64 x3, .int .i64 x4, .int .i64 x5, .int .i64 x6, .bool x7, .int .i64 u0x, .int .i64 u1x, .int .i64 u2x, .int .i64 u3x, .int .i64 u4x, .slice A1 u5x.length c1, .int .i64 x9, .slice A2 x10.length c2] 31)) (.cells #[.int .i64 x0, .int .i64 x1, .int .i64 x2, .int .i64 x3, .int .i64 x4, .int .i64 x5, .int .i64 x6, .bool x7, .int .i64 u0y, .int .i64 u1y, .int .i64 u2y, .int .i64 u3y, .int .i64 u4y, .slice B1 u5y.length d1, .int .i64 y9, .slice B2 y10.length d2] 31))
                    have HBK2 : Hid (((w.alloc (.cells #[.int .i64 x0, .int .i64 x1, .int .i64 x2, .int .i64 x3, .int .i64 x4, .int .i64 x5, .int .i64 x6, .bool x7, .int .i64 u0x, .int .i64 u1x, .int .i64 u2x, .int .i64 u3x, .int .i64 u4x, .slice A1 u5x.length c1, .int .i64 x9, .slice A2 x10.length c2] 31)).alloc (.cells #[.int .i64 x0, .int .i64 x1, .int .i64 x2, .int .i64 x3, .int .i64 x4, .int .i64 x5, .int .i64 x6, .bool x7, .int .i64 u0y, .int .i64 u1y, .int .i64 u2y, .int .i64 u3y, .int .i64 u4y, .slice B1 u5y.length d1, .int .i64 y9, .slice B2 y10.length d2] 31)).heap[w.heap.size + 1]? = some (.cells #[.int .i64 x0, .int .i64 x1, .int .i64 x2, .int .i64 x3, .int .i64 x4, .int .i64 x5, .int .i64 x6, .bool x7, .int .i64 u0y, .int .i64 u1y, .int .i64 u2y, .int .i64 u3y, .int .i64 u4y, .slice B1 u5y.length d1, .int .i64 y9, .slice B2 y10.length d2] 31)) := Lib.hid (by have := blk_new (w.alloc (.cells #[.int .i64 x0, .int .i64 x1, .int .i64 x2, .int .i64 x3, .int .i64 x4, .int .i64 x5, .int .i64 x6, .bool x7, .int .i64 u0x, .int .i64 u1x, .int .i64 u2x, .int .i64 u3x, .int .i64 u4x, .slice A1 u5x.length c1, .int .i64 x9, .slice A2 x10.length c2] 31)) (.cells #[.int .i64 x0, .int .i64 x1, .int .i64 x2, .int .i64 x3, .int .i64 x4, .int .i64 x5, .int .i64 x6, .bool x7, .int .i64 u0y, .int .i64 u1y, .int .i64 u2y, .int .i64 u3y, .int .i64 u4y, .slice B1 u5y.length d1, .int .i64 y9, .slice B2 y10.length d2] 31); rwa [World.size_alloc] at this)
                    have HB2 := Lib.hid (((Below.refl w.heap.size w).alloc (Nat.le_refl _) (.cells #[.int .i64 x0, .int .i64 x1, .int .i64 x2, .int .i64 x3, .int .i64 x4, .int .i64 x5, .int .i64 x6, .bool x7, .int .i64 u0x, .int .i64 u1x, .int .i64 u2x, .int .i64 u3x, .int .i64 u4x, .slice A1 u5x.length c1, .int .i64 x9, .slice A2 x10.length c2] 31)).alloc (by simp) (.cells #[.int .i64 x0, .int .i64 x1, .int .i64 x2, .int .i64 x3, .int .i64 x4, .int .i64 x5, .int .i64 x6, .bool x7, .int .i64 u0y, .int .i64 u1y, .int .i64 u2y, .int .i64 u3y, .int .i64 u4y, .slice B1 u5y.length d1, .int .i64 y9, .slice B2 y10.length d2] 31))
                    go_enter Try.func47, Try.ntmps47
                    go_wp2_with (fail)
                    go_ret
                    exact ⟨rfl, HB2.out⟩
                · have hneg := g7
                  have b : (x7 == y7) = false := by rw [beq_eq_false_iff_ne]; exact hneg
                  obtain rfl : r = false := by
                    cases r with
                    | false => rfl
                    | true => exact absurd ((hr.1 rfl).2.2.2.2.2.2.2.1) hneg
                  clear hr
                  have HBK1 := Lib.hid (blk_alloc (blk_new w (.cells #[.int .i64 x0, .int .i64 x1, .int .i64 x2, .int .i64 x3, .int .i64 x4, .int .i64 x5, .int .i64 x6, .bool x7, .int .i64 u0x, .int .i64 u1x, .int .i64 u2x, .int .i64 u3x, .int .i64 u4x, .slice A1 u5x.length c1, .int .i64 x9, .slice A2 x10.length c2] 31)) (.cells #[.int .i64 x0, .int .i64 x1, .int .i64 x2, .int .i64 x3, .int .i64 x4, .int .i64 x5, .int .i64 x6, .bool y7, .int .i64 u0y, .int .i64 u1y, .int .i64 u2y, .int .i64 u3y, .int .i64 u4y, .slice B1 u5y.length d1, .int .i64 y9, .slice B2 y10.length d2] 31))
                  have HBK2 : Hid (((w.alloc (.cells #[.int .i64 x0, .int .i64 x1, .int .i64 x2, .int .i64 x3, .int .i64 x4, .int .i64 x5, .int .i64 x6, .bool x7, .int .i64 u0x, .int .i64 u1x, .int .i64 u2x, .int .i64 u3x, .int .i64 u4x, .slice A1 u5x.length c1, .int .i64 x9, .slice A2 x10.length c2] 31)).alloc (.cells #[.int .i64 x0, .int .i64 x1, .int .i64 x2, .int .i64 x3, .int .i64 x4, .int .i64 x5, .int .i64 x6, .bool y7, .int .i64 u0y, .int .i64 u1y, .int .i64 u2y, .int .i64 u3y, .int .i64 u4y, .slice B1 u5y.length d1, .int .i64 y9, .slice B2 y10.length d2] 31)).heap[w.heap.size + 1]? = some (.cells #[.int .i64 x0, .int .i64 x1, .int .i64 x2, .int .i64 x3, .int .i64 x4, .int .i64 x5, .int .i64 x6, .bool y7, .int .i64 u0y, .int .i64 u1y, .int .i64 u2y, .int .i64 u3y, .int .i64 u4y, .slice B1 u5y.length d1, .int .i64 y9, .slice B2 y10.length d2] 31)) := Lib.hid (by have := blk_new (w.alloc (.cells #[.int .i64 x0, .int .i64 x1, .int .i64 x2, .int .i64 x3, .int .i64 x4, .int .i64 x5, .int .i64 x6, .bool x7, .int .i64 u0x, .int .i64 u1x, .int .i64 u2x, .int .i64 u3x, .int .i64 u4x, .slice A1 u5x.length c1, .int .i64 x9, .slice A2 x10.length c2] 31)) (.cells #[.int .i64 x0, .int .i64 x1, .int .i64 x2, .int .i64 x3, .int .i64 x4, .int .i64 x5, .int .i64 x6, .bool y7, .int .i64 u0y, .int .i64 u1y, .int .i64 u2y, .int .i64 u3y, .int .i64 u4y, .slice B1 u5y.length d1, .int .i64 y9, .slice B2 y10.length d2] 31); rwa [World.size_alloc] at this)
                  have HB2 := Lib.hid (((Below.refl w.heap.size w).alloc (Nat.le_refl _) (.cells #[.int .i64 x0, .int .i64 x1, .int .i64 x2, .int .i64 x3, .int .i64 x4, .int .i64 x5, .int .i64 x6, .bool x7, .int .i64 u0x, .int .i64 u1x, .int .i64 u2x, .int .i64 u3x, .int .i64 u4x, .slice A1 u5x.length c1, .int .i64 x9, .slice A2 x10.length c2] 31)).alloc (by simp) (.cells #[.int .i64 x0, .int .i64 x1, .int .i64 x2, .int .i64 x3, .int .i64 x4, .int .i64 x5, .int .i64 x6, .bool y7, .int .i64 u0y, .int .i64 u1y, .int .i64 u2y, .int .i64 u3y, .int .i64 u4y, .slice B1 u5y.length d1, .int .i64 y9, .slice B2 y10.length d2] 31))
                  go_enter Try.func47, Try.ntmps47
                  go_wp2_with (fail)
                  go_ret
                  exact ⟨rfl, HB2.out⟩
              · have hneg := g6
                have b : (x6 == y6) = false := by rw [beq_eq_false_iff_ne]; exact hneg
                obtain rfl : r = false := by
                  cases r with
                  | false => rfl
                  | true => exact absurd ((hr.1 rfl).2.2.2.2.2.2.1) hneg
                clear hr
                have HBK1 := Lib.hid (blk_alloc (blk_new w (.cells #[.int .i64 x0, .int .i64 x1, .int .i64 x2, .int .i64 x3, .int .i64 x4, .int .i64 x5, .int .i64 x6, .bool x7, .int .i64 u0x, .int .i64 u1x, .int .i64 u2x, .int .i64 u3x, .int .i64 u4x, .slice A1 u5x.length c1, .int .i64 x9, .slice A2 x10.length c2] 31)) (.cells #[.int .i64 x0, .int .i64 x1, .int .i64 x2, .int .i64 x3, .int .i64 x4, .int .i64 x5, .int .i64 y6, .bool y7, .int .i64 u0y, .int .i64 u1y, .int .i64 u2y, .int .i64 u3y, .int .i64 u4y, .slice B1 u5y.length d1, .int .i64 y9, .slice B2 y10.length d2] 31))
                have HBK2 : Hid (((w.alloc (.cells #[.int .i64 x0, .int .i64 x1, .int .i64 x2, .int .i64 x3, .int .i64 x4, .int .i64 x5, .int .i64 x6, .bool x7, .int .i64 u0x, .int .i64 u1x, .int .i64 u2x, .int .i64 u3x, .int .i64 u4x, .slice A1 u5x.length c1, .int .i64 x9, .slice A2 x10.length c2] 31)).alloc (.cells #[.int .i64 x0, .int .i64 x1, .int .i64 x2, .int .i64 x3, .int .i64 x4, .int .i64 x5, .int .i64 y6, .bool y7, .int .i64 u0y, .int .i64 u1y, .int .i64 u2y, .int .i64 u3y, .int .i64 u4y, .slice B1 u5y.length d1, .int .i64 y9, .slice B2 y10.length d2] 31)).heap[w.heap.size + 1]? = some (.cells #[.int .i64 x0, .int .i64 x1, .int .i64 x2, .int .i64 x3, .int .i64 x4, .int .i64 x5, .int .i64 y6, .bool y7, .int .i64 u0y, .int .i64 u1y, .int .i64 u2y, .int .i64 u3y, .int .i64 u4y, .slice B1 u5y.length d1, .int .i64 y9, .slice B2 y10.length d2] 31)) := Lib.hid (by have := blk_new (w.alloc (.cells #[.int .i64 x0, .int .i64 x1, .int .i64 x2, .int .i64 x3, .int .i64 x4, .int .i64 x5, .int .i64 x6, .bool x7, .int .i64 u0x, .int .i64 u1x, .int .i64 u2x, .int .i64 u3x, .int .i64 u4x, .slice A1 u5x.length c1, .int .i64 x9, .slice A2 x10.length c2] 31)) (.cells #[.int .i64 x0, .int .i64 x1, .int .i64 x2, .int .i64 x3, .int .i64 x4, .int .i64 x5, .int .i64 y6, .bool y7, .int .i64 u0y, .int .i64 u1y, .int .i64 u2y, .int .i64 u3y, .int .i64 u4y, .slice B1 u5y.length d1, .int .i64 y9, .slice B2 y10.length d2] 31); rwa [World.size_alloc] at this)
                have HB2 := Lib.hid (((Below.refl w.heap.size w).alloc (Nat.le_refl _) (.cells #[.int .i64 x0, .int .i64 x1, .int .i64 x2, .int .i64 x3, .int .i64 x4, .int .i64 x5, .int .i64 x6, .bool x7, .int .i64 u0x, .int .i64 u1x, .int .i64 u2x, .int .i64 u3x, .int .i64 u4x, .slice A1 u5x.length c1, .int .i64 x9, .slice A2 x10.length c2] 31)).alloc (by simp) (.cells #[.int .i64 x0, .int .i64 x1, .int .i64 x2, .int .i64 x3, .int .i64 x4, .int .i64 x5, .int .i64 y6, .bool y7, .int .i64 u0y, .int .i64 u1y, .int .i64 u2y, .int .i64 u3y, .int .i64 u4y, .slice B1 u5y.length d1, .int .i64 y9, .slice B2 y10.length d2] 31))
                go_enter Try.func47, Try.ntmps47
                go_wp2_with (fail)
                go_ret
                exact ⟨rfl, HB2.out⟩
            · have hneg := g5
              have b : (x5 == y5) = false := by rw [beq_eq_false_iff_ne]; exact hneg
              obtain rfl : r = false := by
                cases r with
                | false => rfl
                | true => exact absurd ((hr.1 rfl).2.2.2.2.2.1) hneg
              clear hr
              have HBK1 := Lib.hid (blk_alloc (blk_new w (.cells #[.int .i64 x0, .int .i64 x1, .int .i64 x2, .int .i64 x3, .int .i64 x4, .int .i64 x5, .int .i64 x6, .bool x7, .int .i64 u0x, .int .i64 u1x, .int .i64 u2x, .int .i64 u3x, .int .i64 u4x, .slice A1 u5x.length c1, .int .i64 x9, .slice A2 x10.length c2] 31)) (.cells #[.int .i64 x0, .int .i64 x1, .int .i64 x2, .int .i64 x3, .int .i64 x4, .int .i64 y5, .int .i64 y6, .bool y7, .int .i64 u0y, .int .i64 u1y, .int .i64 u2y, .int .i64 u3y, .int .i64 u4y, .slice B1 u5y.length d1, .int .i64 y9, .slice B2 y10.length d2] 31))
              have HBK2 : Hid (((w.alloc (.cells #[.int .i64 x0, .int .i64 x1, .int .i64 x2, .int .i64 x3, .int .i64 x4, .int .i64 x5, .int .i64 x6, .bool x7, .int .i64 u0x, .int .i64 u1x, .int .i64 u2x, .int .i64 u3x, .int .i64 u4x, .slice A1 u5x.length c1, .int .i64 x9, .slice A2 x10.length c2] 31)).alloc (.cells #[.int .i64 x0, .int .i64 x1, .int .i64 x2, .int .i64 x3, .int .i64 x4, .int .i64 y5, .int .i64 y6, .bool y7, .int .i64 u0y, .int .i64 u1y, .int .i64 u2y, .int .i64 u3y, .int .i64 u4y, .slice B1 u5y.length d1, .int .i64 y9, .slice B2 y10.length d2] 31)).heap[w.heap.size + 1]? = some (.cells #[.int .i64 x0, .int .i64 x1, .int .i64 x2, .int .i64 x3, .int .i64 x4, .int .i64 y5, .int .i64 y6, .bool y7, .int .i64 u0y, .int .i64 u1y, .int .i64 u2y, .int .i64 u3y, .int .i64 u4y, .slice B1 u5y.length d1, .int .i64 y9, .slice B2 y10.length d2] 31)) := Lib.hid (by have := blk_new (w.alloc (.cells #[.int .i64 x0, .int .i64 x1, .int .i64 x2, .int .i64 x3, .int .i64 x4, .int .i64 x5, .int .i64 x6, .bool x7, .int .i64 u0x, .int .i64 u1x, .int .i64 u2x, .int .i64 u3x, .int .i64 u4x, .slice A1 u5x.length c1, .int .i64 x9, .slice A2 x10.length c2] 31)) (.cells #[.int .i64 x0, .int .i64 x1, .int .i64 x2, .int .i64 x3, .int .i64 x4, .int .i64 y5, .int .i64 y6, .bool y7, .int .i64 u0y, .int .i64 u1y, .int .i64 u2y, .int .i64 u3y, .int .i64 u4y, .slice B1 u5y.length d1, .int .i64 y9, .slice B2 y10.length d2] 31); rwa [World.size_alloc] at this)
              have HB2 := Lib.hid (((Below.refl w.heap.size w).alloc (Nat.le_refl _) (.cells #[.int .i64 x0, .int .i64 x1, .int .i64 x2, .int .i64 x3, .int .i64 x4, .int .i64 x5, .int .i64 x6, .bool x7, .int .i64 u0x, .int .i64 u1x, .int .i64 u2x, .int .i64 u3x, .int .i64 u4x, .slice A1 u5x.length c1, .int .i64 x9, .slice A2 x10.length c2] 31)).alloc (by simp) (.cells #[.int .i64 x0, .int .i64 x1, .int .i64 x2, .int .i64 x3, .int .i64 x4, .int .i64 y5, .int .i64 y6, .bool y7, .int .i64 u0y, .int .i64 u1y, .int .i64 u2y, .int .i64 u3y, .int .i64 u4y, .slice B1 u5y.length d1, .int .i64 y9, .slice B2 y10.length d2] 31))
              go_enter Try.func47, Try.ntmps47
              go_wp2_with (fail)
              go_ret
              exact ⟨rfl, HB2.out⟩
          · have hneg := g4
            have b : (x4 == y4) = false := by rw [beq_eq_false_iff_ne]; exact hneg
            obtain rfl : r = false := by
              cases r with
              | false => rfl
              | true => exact absurd ((hr.1 rfl).2.2.2.2.1) hneg
            clear hr
            have HBK1 := Lib.hid (blk_alloc (blk_new w (.cells #[.int .i64 x0, .int .i64 x1, .int .i64 x2, .int .i64 x3, .int .i64 x4, .int .i64 x5, .int .i64 x6, .bool x7, .int .i64 u0x, .int .i64 u1x, .int .i64 u2x, .int .i64 u3x, .int .i64 u4x, .slice A1 u5x.length c1, .int .i64 x9, .slice A2 x10.length c2] 31)) (.cells #[.int .i64 x0, .int .i64 x1, .int .i64 x2, .int .i64 x3, .int .i64 y4, .int .i64 y5, .int .i64 y6, .bool y7, .int .i64 u0y, .int .i64 u1y, .int .i64 u2y, .int .i64 u3y, .int .i64 u4y, .slice B1 u5y.length d1, .int .i64 y9, .slice B2 y10.length d2] 31))
            have HBK2 : Hid (((w.alloc (.cells #[.int .i64 x0, .int .i64 x1, .int .i64 x2, .int .i64 x3, .int .i64 x4, .int .i64 x5, .int .i64 x6, .bool x7, .int .i64 u0x, .int .i64 u1x, .int .i64 u2x, .int .i64 u3x, .int .i64 u4x, .slice A1 u5x.length c1, .int .i64 x9, .slice A2 x10.length c2] 31)).alloc (.cells #[.int .i64 x0, .int .i64 x1, .int .i64 x2, .int .i64 x3, .int .i64 y4, .int .i64 y5, .int .i64 y6, .bool y7, .int .i64 u0y, .int .i64 u1y, .int .i64 u2y, .int .i64 u3y, .int .i64 u4y, .slice B1 u5y.length d1, .int .i64 y9, .slice B2 y10.length d2] 31)).heap[w.heap.size + 1]? = some (.cells #[.int .i64 x0, .int .i64 x1, .int .i64 x2, .int .i64 x3, .int .i64 y4, .int .i64 y5, .int .i64 y6, .bool y7, .int .i64 u0y, .int .i64 u1y, .int .i64 u2y, .int .i64 u3y, .int .i64 u4y, .slice B1 u5y.length d1, .int .i64 y9, .slice B2 y10.length d2] 31)) := Lib.hid (by have := blk_new (w.alloc (.cells #[.int .i64 x0, .int .i64 x1, .int .i64 x2, .int .i64 x3, .int .i64 x4, .int .i64 x5, .int .i64 x6, .bool x7, .int .i64 u0x, .int .i64 u1x, .int .i64 u2x, .int .i64 u3x, .int .i64 u4x, .slice A1 u5x.length c1, .int .i64 x9, .slice A2 x10.length c2] 31)) (.cells #[.int .i64 x0, .int .i64 x1, .int .i64 x2, .int .i64 x3, .int .i64 y4, .int .i64 y5, .int .i64 y6, .bool y7, .int .i64 u0y, .int .i64 u1y, .int .i64 u2y, .int .i64 u3y, .int .i64 u4y, .slice B1 u5y.length d1, .int .i64 y9, .slice B2 y10.length d2] 31); rwa [World.size_alloc] at this)
            have HB2 := Lib.hid (((Below.refl w.heap.size w).alloc (Nat.le_refl _) (.cells #[.int .i64 x0, .int .i64 x1, .int .i64 x2, .int .i64 x3, .int .i64 x4, .int .i64 x5, .int .i64 x6, .bool x7, .int .i64 u0x, .int .i64 u1x, .int .i64 u2x, .int .i64 u3x, .int .i64 u4x, .slice A1 u5x.length c1, .int .i64 x9, .slice A2 x10.length c2] 31)).alloc (by simp) (.cells #[.int .i64 x0, .int .i64 x1, .int .i64 x2, .int .i64 x3, .int .i64 y4, .int .i64 y5, .int .i64 y6, .bool y7, .int .i64 u0y, .int .i64 u1y, .int .i64 u2y, .int .i64 u3y, .int .i64 u4y, .slice B1 u5y.length d1, .int .i64 y9, .slice B2 y10.length d2] 31))
            go_enter Try.func47, Try.ntmps47
            go_wp2_with (fail)
            go_ret
            exact ⟨rfl, HB2.out⟩
        · have hneg := g3
          have b : (x3 == y3) = false := by rw [beq_eq_false_iff_ne]; exact hneg
          obtain rfl : r = false := by
            cases r with
            | false => rfl
            | true => exact absurd ((hr.1 rfl).2.2.2.1) hneg
          clear hr
          have HBK1 := Lib.hid (blk_alloc (blk_new w (.cells #[.int .i64 x0, .int .i64 x1, .int .i64 x2, .int .i64 x3, .int .i64 x4, .int .i64 x5, .int .i64 x6, .bool x7, .int .i64 u0x, .int .i64 u1x, .int .i64 u2x, .int .i64 u3x, .int .i64 u4x, .slice A1 u5x.length c1, .int .i64 x9, .slice A2 x10.length c2] 31)) (.cells #[.int .i64 x0, .int .i64 x1, .int .i64 x2, .int .i64 y3, .int .i64 y4, .int .i64 y5, .int .i64 y6, .bool y7, .int .i64 u0y, .int .i64 u1y, .int .i64 u2y, .int .i64 u3y, .int .i64 u4y, .slice B1 u5y.length d1, .int .i64 y9, .slice B2 y10.length d2] 31))
          have HBK2 : Hid (((w.alloc (.cells #[.int .i64 x0, .int .i64 x1, .int .i64 x2, .int .i64 x3, .int .i64 x4, .int .i64 x5, .int .i64 x6, .bool x7, .int .i64 u0x, .int .i64 u1x, .int .i64 u2x, .int .i64 u3x, .int .i64 u4x, .slice A1 u5x.length c1, .int .i64 x9, .slice A2 x10.length c2] 31)).alloc (.cells #[.int .i64 x0, .int .i64 x1, .int .i64 x2, .int .i64 y3, .int .i64 y4, .int .i64 y5, .int .i64 y6, .bool y7, .int .i64 u0y, .int .i64 u1y, .int .i64 u2y, .int .i64 u3y, .int .i64 u4y, .slice B1 u5y.length d1, .int .i64 y9, .slice B2 y10.length d2] 31)).heap[w.heap.size + 1]? = some (.cells #[.int .i64 x0, .int .i64 x1, .int .i64 x2, .int .i64 y3, .int .i64 y4, .int .i64 y5, .int .i64 y6, .bool y7, .int .i64 u0y, .int .i64 u1y, .int .i64 u2y, .int .i64 u3y, .int .i64 u4y, .slice B1 u5y.length d1, .int .i64 y9, .slice B2 y10.length d2] 31)) := Lib.hid (by have := blk_new (w.alloc (.cells #[.int .i64 x0, .int .i64 x1, .int .i64 x2, .int .i64 x3, .int .i64 x4, .int .i64 x5, .int .i64 x6, .bool x7, .int .i64 u0x, .int .i64 u1x, .int .i64 u2x, .int .i64 u3x, .int .i64 u4x, .slice A1 u5x.length c1, .int .i64 x9, .slice A2 x10.length c2] 31)) (.cells #[.int .i64 x0, .int .i64 x1, .int .i64 x2, .int .i64 y3, .int .i64 y4, .int .i64 y5, .int .i64 y6, .bool y7, .int .i64 u0y, .int .i64 u1y, .int .i64 u2y, .int .i64 u3y, .int .i64 u4y, .slice B1 u5y.length d1, .int .i64 y9, .slice B2 y10.length d2] 31); rwa [World.size_alloc] at this)
          have HB2 := Lib.hid (((Below.refl w.heap.size w).alloc (Nat.le_refl _) (.cells #[.int .i64 x0, .int .i64 x1, .int .i64 x2, .int .i64 x3, .int .i64 x4, .int .i64 x5, .int .i64 x6, .bool x7, .int .i64 u0x, .int .i64 u1x, .int .i64 u2x, .int .i64 u3x, .int .i64 u4x, .slice A1 u5x.length c1, .int .i64 x9, .slice A2 x10.length c2] 31)).alloc (by simp) (.cells #[.int .i64 x0, .int .i64 x1, .int .i64 x2, .int .i64 y3, .int .i64 y4, .int .i64 y5, .int .i64 y6, .bool y7, .int .i64 u0y, .int .i64 u1y, .int .i64 u2y, .int .i64 u3y, .int .i64 u4y, .slice B1 u5y.length d1, .int .i64 y9, .slice B2 y10.length d2] 31))
          go_enter Try.func47, Try.ntmps47
          go_wp2_with (fail)
          go_ret
          exact ⟨rfl, HB2.out⟩
      · have hneg := g2
        have b : (x2 == y2) = false := by rw [beq_eq_false_iff_ne]; exact hneg
        obtain rfl : r = false := by
          cases r with
          | false => rfl
          | true => exact absurd ((hr.1 rfl).2.2.1) hneg
        clear hr
        have HBK1 := Lib.hid (blk_alloc (blk_new w (.cells #[.int .i64 x0, .int .i64 x1, .int .i64 x2, .int .i64 x3, .int .i64 x4, .int .i64 x5, .int .i64 x6, .bool x7, .int .i64 u0x, .int .i64 u1x, .int .i64 u2x, .int .i64 u3x, .int .i64 u4x, .slice A1 u5x.length c1, .int .i64 x9, .slice A2 x10.length c2] 31)) (.cells #[.int .i64 x0, .int .i64 x1, .int .i64 y2, .int .i64 y3, .int .i64 y4, .int .i64 y5, .int .i64 y6, .bool y7, .int .i64 u0y, .int .i64 u1y, .int .i64 u2y, .int .i64 u3y, .int .i64 u4y, .slice B1 u5y.length d1, .int .i64 y9, .slice B2 y10.length d2] 31))
        have HBK2 : Hid (((w.alloc (.cells #[.int .i64 x0, .int .i64 x1, .int .i64 x2, .int .i64 x3, .int .i64 x4, .int .i64 x5, .int .i64 x6, .bool x7, .int .i64 u0x, .int .i64 u1x, .int .i64 u2x, .int .i64 u3x, .int .i64 u4x, .slice A1 u5x.length c1, .int .i64 x9, .slice A2 x10.length c2] 31)).alloc (.cells #[.int .i64 x0, .int .i64 x1, .int .i64 y2, .int .i64 y3, .int .i64 y4, .int .i64 y5, .int .i64 y6, .bool y7, .int .i64 u0y, .int .i64 u1y, .int .i64 u2y, .int .i64 u3y, .int .i64 u4y, .slice B1 u5y.length d1, .int .i64 y9, .slice B2 y10.length d2] 31)).heap[w.heap.size + 1]? = some (.cells #[.int .i64 x0, .int .i64 x1, .int .i64 y2, .int .i64 y3, .int .i64 y4, .int .i64 y5, .int .i64 y6, .bool y7, .int .i64 u0y, .int .i64 u1y, .int .i64 u2y, .int .i64 u3y, .int .i64 u4y, .slice B1 u5y.length d1, .int .i64 y9, .slice B2 y10.length d2] 31)) := Lib.hid (by have := blk_new (w.alloc (.cells #[.int .i64 x0, .int .i64 x1, .int .i64 x2, .int .i64 x3, .int .i64 x4, .int .i64 x5, .int .i64 x6, .bool x7, .int .i64 u0x, .int .i64 u1x, .int .i64 u2x, .int .i64 u3x, .int .i64 u4x, .slice A1 u5x.length c1, .int .i64 x9, .slice A2 x10.length c2] 31)) (.cells #[.int .i64 x0, .int .i64 x1, .int .i64 y2, .int .i64 y3, .int .i64 y4, .int .i64 y5, .int .i64 y6, .bool y7, .int .i64 u0y, .int .i64 u1y, .int .i64 u2y, .int .i64 u3y, .int .i64 u4y, .slice B1 u5y.length d1, .int .i64 y9, .slice B2 y10.length d2] 31); rwa [World.size_alloc] at this)
        have HB2 := Lib.hid (((Below.refl w.heap.size w).alloc (Nat.le_refl _) (.cells #[.int .i64 x0, .int .i64 x1, .int .i64 x2, .int .i64 x3, .int .i64 x4, .int .i64 x5, .int .i64 x6, .bool x7, .int .i64 u0x, .int .i64 u1x, .int .i64 u2x, .int .i64 u3x, .int .i64 u4x, .slice A1 u5x.length c1, .int .i64 x9, .slice A2 x10.length c2] 31)).alloc (by simp) (.cells #[.int .i64 x0, .int .i64 x1, .int .i64 y2, .int .i64 y3, .int .i64 y4, .int .i64 y5, .int .i64 y6, .bool y7, .int .i64 u0y, .int .i64 u1y, .int .i64 u2y, .int .i64 u3y, .int .i64 u4y, .slice B1 u5y.length d1, .int .i64 y9, .slice B2 y10.length d2] 31))
        go_enter Try.func47, Try.ntmps47
        go_wp2_with (fail)
        go_ret
        exact ⟨rfl, HB2.out⟩
    · have hneg := g1
      have b : (x1 == y1) = false := by rw [beq_eq_false_iff_ne]; exact hneg
      obtain rfl : r = false := by
        cases r with
        | false => rfl
        | true => exact absurd ((hr.1 rfl).2.1) hneg
      clear hr
      have HBK1 := Lib.hid (blk_alloc (blk_new w (.cells #[.int .i64 x0, .int .i64 x1, .int .i64 x2, .int .i64 x3, .int .i64 x4, .int .i64 x5, .int .i64 x6, .bool x7, .int .i64 u0x, .int .i64 u1x, .int .i64 u2x, .int .i64 u3x, .int .i64 u4x, .slice A1 u5x.length c1, .int .i64 x9, .slice A2 x10.length c2] 31)) (.cells #[.int .i64 x0, .int .i64 y1, .int .i64 y2, .int .i64 y3, .int .i64 y4, .int .i64 y5, .int .i64 y6, .bool y7, .int .i64 u0y, .int .i64 u1y, .int .i64 u2y, .int .i64 u3y, .int .i64 u4y, .slice B1 u5y.length d1, .int .i64 y9, .slice B2 y10.length d2] 31))
      have HBK2 : Hid (((w.alloc (.cells #[.int .i64 x0, .int .i64 x1, .int .i64 x2, .int .i64 x3, .int .i64 x4, .int .i64 x5, .int .i64 x6, .bool x7, .int .i64 u0x, .int .i64 u1x, .int .i64 u2x, .int .i64 u3x, .int .i64 u4x, .slice A1 u5x.length c1, .int .i64 x9, .slice A2 x10.length c2] 31)).alloc (.cells #[.int .i64 x0, .int .i64 y1, .int .i64 y2, .int .i64 y3, .int .i64 y4, .int .i64 y5, .int .i64 y6, .bool y7, .int .i64 u0y, .int .i64 u1y, .int .i64 u2y, .int .i64 u3y, .int .i64 u4y, .slice B1 u5y.length d1, .int .i64 y9, .slice B2 y10.length d2] 31)).heap[w.heap.size + 1]? = some (.cells #[.int .i64 x0, .int .i64 y1, .int .i64 y2, .int .i64 y3, .int .i64 y4, .int .i64 y5, .int .i64 y6, .bool y7, .int .i64 u0y, .int .i64 u1y, .int .i64 u2y, .int .i64 u3y, .int .i64 u4y, .slice B1 u5y.length d1, .int .i64 y9, .slice B2 y10.length d2] 31)) := Lib.hid (by have := blk_new (w.alloc (.cells #[.int .i64 x0, .int .i64 x1, .int .i64 x2, .int .i64 x3, .int .i64 x4, .int .i64 x5, .int .i64 x6, .bool x7, .int .i64 u0x, .int .i64 u1x, .int .i64 u2x, .int .i64 u3x, .int .i64 u4x, .slice A1 u5x.length c1, .int .i64 x9, .slice A2 x10.length c2] 31)) (.cells #[.int .i64 x0, .int .i64 y1, .int .i64 y2, .int .i64 y3, .int .i64 y4, .int .i64 y5, .int .i64 y6, .bool y7, .int .i64 u0y, .int .i64 u1y, .int .i64 u2y, .int .i64 u3y, .int .i64 u4y, .slice B1 u5y.length d1, .int .i64 y9, .slice B2 y10.length d2] 31); rwa [World.size_alloc] at this)
      have HB2 := Lib.hid (((Below.refl w.heap.size w).alloc (Nat.le_refl _) (.cells #[.int .i64 x0, .int .i64 x1, .int .i64 x2, .int .i64 x3, .int .i64 x4, .int .i64 x5, .int .i64 x6, .bool x7, .int .i64 u0x, .int .i64 u1x, .int .i64 u2x, .int .i64 u3x, .int .i64 u4x, .slice A1 u5x.length c1, .int .i64 x9, .slice A2 x10.length c2] 31)).alloc (by simp) (.cells #[.int .i64 x0, .int .i64 y1, .int .i64 y2, .int .i64 y3, .int .i64 y4, .int .i64 y5, .int .i64 y6, .bool y7, .int .i64 u0y, .int .i64 u1y, .int .i64 u2y, .int .i64 u3y, .int .i64 u4y, .slice B1 u5y.length d1, .int .i64 y9, .slice B2 y10.length d2] 31))
      go_enter Try.func47, Try.ntmps47
      go_wp2_with (fail)
      go_ret
      exact ⟨rfl, HB2.out⟩
  · have hneg := g0
    have b : (x0 == y0) = false := by rw [beq_eq_false_iff_ne]; exact hneg
    obtain rfl : r = false := by
      cases r with
      | false => rfl
      | true => exact absurd ((hr.1 rfl).1) hneg
    clear hr
    have HBK1 := Lib.hid (blk_alloc (blk_new w (.cells #[.int .i64 x0, .int .i64 x1, .int .i64 x2, .int .i64 x3, .int .i64 x4, .int .i64 x5, .int .i64 x6, .bool x7, .int .i64 u0x, .int .i64 u1x, .int .i64 u2x, .int .i64 u3x, .int .i64 u4x, .slice A1 u5x.length c1, .int .i64 x9, .slice A2 x10.length c2] 31)) (.cells #[.int .i64 y0, .int .i64 y1, .int .i64 y2, .int .i64 y3, .int .i64 y4, .int .i64 y5, .int .i64 y6, .bool y7, .int .i64 u0y, .int .i64 u1y, .int .i64 u2y, .int .i64 u3y, .int .i64 u4y, .slice B1 u5y.length d1, .int .i64 y9, .slice B2 y10.length d2] 31))
    have HBK2 : Hid (((w.alloc (.cells #[.int .i64 x0, .int .i64 x1, .int .i64 x2, .int .i64 x3, .int .i64 x4, .int .i64 x5, .int .i64 x6, .bool x7, .int .i64 u0x, .int .i64 u1x, .int .i64 u2x, .int .i64 u3x, .int .i64 u4x, .slice A1 u5x.length c1, .int .i64 x9, .slice A2 x10.length c2] 31)).alloc (.cells #[.int .i64 y0, .int .i64 y1, .int .i64 y2, .int .i64 y3, .int .i64 y4, .int .i64 y5, .int .i64 y6, .bool y7, .int .i64 u0y, .int .i64 u1y, .int .i64 u2y, .int .i64 u3y, .int .i64 u4y, .slice B1 u5y.length d1, .int .i64 y9, .slice B2 y10.length d2] 31)).heap[w.heap.size + 1]? = some (.cells #[.int .i64 y0, .int .i64 y1, .int .i64 y2, .int .i64 y3, .int .i64 y4, .int .i64 y5, .int .i64 y6, .bool y7, .int .i64 u0y, .int .i64 u1y, .int .i64 u2y, .int .i64 u3y, .int .i64 u4y, .slice B1 u5y.length d1, .int .i64 y9, .slice B2 y10.length d2] 31)) := Lib.hid (by have := blk_new (w.alloc (.cells #[.int .i64 x0, .int .i64 x1, .int .i64 x2, .int .i64 x3, .int .i64 x4, .int .i64 x5, .int .i64 x6, .bool x7, .int .i64 u0x, .int .i64 u1x, .int .i64 u2x, .int .i64 u3x, .int .i64 u4x, .slice A1 u5x.length c1, .int .i64 x9, .slice A2 x10.length c2] 31)) (.cells #[.int .i64 y0, .int .i64 y1, .int .i64 y2, .int .i64 y3, .int .i64 y4, .int .i64 y5, .int .i64 y6, .bool y7, .int .i64 u0y, .int .i64 u1y, .int .i64 u2y, .int .i64 u3y, .int .i64 u4y, .slice B1 u5y.length d1, .int .i64 y9, .slice B2 y10.length d2] 31); rwa [World.size_alloc] at this)
    have HB2 := Lib.hid (((Below.refl w.heap.size w).alloc (Nat.le_refl _) (.cells #[.int .i64 x0, .int .i64 x1, .int .i64 x2, .int .i64 x3, .int .i64 x4, .int .i64 x5, .int .i64 x6, .bool x7, .int .i64 u0x, .int .i64 u1x, .int .i64 u2x, .int .i64 u3x, .int .i64 u4x, .slice A1 u5x.length c1, .int .i64 x9, .slice A2 x10.length c2] 31)).alloc (by simp) (.cells #[.int .i64 y0, .int .i64 y1, .int .i64 y2, .int .i64 y3, .int .i64 y4, .int .i64 y5, .int .i64 y6, .bool y7, .int .i64 u0y, .int .i64 u1y, .int .i64 u2y, .int .i64 u3y, .int .i64 u4y, .slice B1 u5y.length d1, .int .i64 y9, .slice B2 y10.length d2] 31))
    go_enter Try.func47, Try.ntmps47
    go_wp2_with (fail)
    go_ret
    exact ⟨rfl, HB2.out⟩

theorem cell_keptS {w w' : World} (h : Below w.heap.size w w') {a : Addr} {v : Value} (hc : w.cell? a = some v) : w'.cell? a = some v := by
  rw [h.cell (World.block_lt_of_cell? w a hc)]; exact hc

set_option maxRecDepth 100000 in
set_option maxHeartbeats 8000000 in
theorem mailsame15_true {A1 A2 A3 B1 B2 B3 : Option Addr} {c1 c2 c3 d1 d2 d3 : Nat} (x : Mail) {w : World} (hx1 : InC w A1 c1 x.inst.cmd.data) (hx2 : InR w A2 c2 x.inst.deps) (hx3 : InE w A3 c3 x.entries) (hy1 : InC w B1 d1 x.inst.cmd.data) (hy2 : InR w B2 d2 x.inst.deps) (hy3 : InE w B3 d3 x.entries) :
    Calls Try.prog 17 #[.agg #[.int .i64 x.kind, .int .i64 x.mfrom, .int .i64 x.mto, .int .i64 x.shard, .int .i64 x.inst.lead, .int .i64 x.inst.index, .int .i64 x.inst.bn, .int .i64 x.inst.bnode, .int .i64 x.inst.vn, .int .i64 x.inst.vnode, .int .i64 x.inst.status, .bool x.inst.same, .int .i64 x.inst.cmd.op, .int .i64 x.inst.cmd.client, .int .i64 x.inst.cmd.seq, .int .i64 x.inst.cmd.cfrom, .int .i64 x.inst.cmd.cto, .slice A1 x.inst.cmd.data.length c1, .int .i64 x.inst.iseq, .slice A2 x.inst.deps.length c2, .bool x.ok, .int .i64 x.term, .int .i64 x.mindex, .int .i64 x.past, .int .i64 x.commit, .int .i64 x.epoch, .slice A3 x.entries.length c3, .string x.text], .agg #[.int .i64 x.kind, .int .i64 x.mfrom, .int .i64 x.mto, .int .i64 x.shard, .int .i64 x.inst.lead, .int .i64 x.inst.index, .int .i64 x.inst.bn, .int .i64 x.inst.bnode, .int .i64 x.inst.vn, .int .i64 x.inst.vnode, .int .i64 x.inst.status, .bool x.inst.same, .int .i64 x.inst.cmd.op, .int .i64 x.inst.cmd.client, .int .i64 x.inst.cmd.seq, .int .i64 x.inst.cmd.cfrom, .int .i64 x.inst.cmd.cto, .slice B1 x.inst.cmd.data.length d1, .int .i64 x.inst.iseq, .slice B2 x.inst.deps.length d2, .bool x.ok, .int .i64 x.term, .int .i64 x.mindex, .int .i64 x.past, .int .i64 x.commit, .int .i64 x.epoch, .slice B3 x.entries.length d3, .string x.text]] w fun e w' => e = .returned (.bool true) ∧ Below w.heap.size w w' := by
  have HX1 := Lib.hid hx1
  have HX2 := Lib.hid hx2
  have HX3 := Lib.hid hx3
  have HY1 := Lib.hid hy1
  have HY2 := Lib.hid hy2
  have HY3 := Lib.hid hy3
  have hlen := hx3.1.2.1
  clear hx1 hx2 hx3 hy1 hy2 hy3
  obtain ⟨m0x, m1x, m2x, m3x, m4x, m5x, m6x, m7x, m8x, m9x, m10x, m11x, m12x⟩ := x
  obtain ⟨x0, x1, x2, x3, x4, x5, x6, x7, x8, x9, x10⟩ := m4x
  obtain ⟨u0x, u1x, u2x, u3x, u4x, u5x⟩ := x8
  dsimp only at HX1 HX2 HX3 HY1 HY2 HY3 hlen ⊢
  have hu31 := Try.underlying31
  have hu34 := Try.underlying34
  have hu60 := Try.underlying60
  have HBK1 := Lib.hid (blk_alloc (blk_new w (.cells #[.int .i64 m0x, .int .i64 m1x, .int .i64 m2x, .int .i64 m3x, .int .i64 x0, .int .i64 x1, .int .i64 x2, .int .i64 x3, .int .i64 x4, .int .i64 x5, .int .i64 x6, .bool x7, .int .i64 u0x, .int .i64 u1x, .int .i64 u2x, .int .i64 u3x, .int .i64 u4x, .slice A1 u5x.length c1, .int .i64 x9, .slice A2 x10.length c2, .bool m5x, .int .i64 m6x, .int .i64 m7x, .int .i64 m8x, .int .i64 m9x, .int .i64 m10x, .slice A3 m11x.length c3, .string m12x] 34)) (.cells #[.int .i64 m0x, .int .i64 m1x, .int .i64 m2x, .int .i64 m3x, .int .i64 x0, .int .i64 x1, .int .i64 x2, .int .i64 x3, .int .i64 x4, .int .i64 x5, .int .i64 x6, .bool x7, .int .i64 u0x, .int .i64 u1x, .int .i64 u2x, .int .i64 u3x, .int .i64 u4x, .slice B1 u5x.length d1, .int .i64 x9, .slice B2 x10.length d2, .bool m5x, .int .i64 m6x, .int .i64 m7x, .int .i64 m8x, .int .i64 m9x, .int .i64 m10x, .slice B3 m11x.length d3, .string m12x] 34))
  have HBK2 : Hid (((w.alloc (.cells #[.int .i64 m0x, .int .i64 m1x, .int .i64 m2x, .int .i64 m3x, .int .i64 x0, .int .i64 x1, .int .i64 x2, .int .i64 x3, .int .i64 x4, .int .i64 x5, .int .i64 x6, .bool x7, .int .i64 u0x, .int .i64 u1x, .int .i64 u2x, .int .i64 u3x, .int .i64 u4x, .slice A1 u5x.length c1, .int .i64 x9, .slice A2 x10.length c2, .bool m5x, .int .i64 m6x, .int .i64 m7x, .int .i64 m8x, .int .i64 m9x, .int .i64 m10x, .slice A3 m11x.length c3, .string m12x] 34)).alloc (.cells #[.int .i64 m0x, .int .i64 m1x, .int .i64 m2x, .int .i64 m3x, .int .i64 x0, .int .i64 x1, .int .i64 x2, .int .i64 x3, .int .i64 x4, .int .i64 x5, .int .i64 x6, .bool x7, .int .i64 u0x, .int .i64 u1x, .int .i64 u2x, .int .i64 u3x, .int .i64 u4x, .slice B1 u5x.length d1, .int .i64 x9, .slice B2 x10.length d2, .bool m5x, .int .i64 m6x, .int .i64 m7x, .int .i64 m8x, .int .i64 m9x, .int .i64 m10x, .slice B3 m11x.length d3, .string m12x] 34)).heap[w.heap.size + 1]? = some (.cells #[.int .i64 m0x, .int .i64 m1x, .int .i64 m2x, .int .i64 m3x, .int .i64 x0, .int .i64 x1, .int .i64 x2, .int .i64 x3, .int .i64 x4, .int .i64 x5, .int .i64 x6, .bool x7, .int .i64 u0x, .int .i64 u1x, .int .i64 u2x, .int .i64 u3x, .int .i64 u4x, .slice B1 u5x.length d1, .int .i64 x9, .slice B2 x10.length d2, .bool m5x, .int .i64 m6x, .int .i64 m7x, .int .i64 m8x, .int .i64 m9x, .int .i64 m10x, .slice B3 m11x.length d3, .string m12x] 34)) := Lib.hid (by have := blk_new (w.alloc (.cells #[.int .i64 m0x, .int .i64 m1x, .int .i64 m2x, .int .i64 m3x, .int .i64 x0, .int .i64 x1, .int .i64 x2, .int .i64 x3, .int .i64 x4, .int .i64 x5, .int .i64 x6, .bool x7, .int .i64 u0x, .int .i64 u1x, .int .i64 u2x, .int .i64 u3x, .int .i64 u4x, .slice A1 u5x.length c1, .int .i64 x9, .slice A2 x10.length c2, .bool m5x, .int .i64 m6x, .int .i64 m7x, .int .i64 m8x, .int .i64 m9x, .int .i64 m10x, .slice A3 m11x.length c3, .string m12x] 34)) (.cells #[.int .i64 m0x, .int .i64 m1x, .int .i64 m2x, .int .i64 m3x, .int .i64 x0, .int .i64 x1, .int .i64 x2, .int .i64 x3, .int .i64 x4, .int .i64 x5, .int .i64 x6, .bool x7, .int .i64 u0x, .int .i64 u1x, .int .i64 u2x, .int .i64 u3x, .int .i64 u4x, .slice B1 u5x.length d1, .int .i64 x9, .slice B2 x10.length d2, .bool m5x, .int .i64 m6x, .int .i64 m7x, .int .i64 m8x, .int .i64 m9x, .int .i64 m10x, .slice B3 m11x.length d3, .string m12x] 34); rwa [World.size_alloc] at this)
  have HB2 := Lib.hid (((Below.refl w.heap.size w).alloc (Nat.le_refl _) (.cells #[.int .i64 m0x, .int .i64 m1x, .int .i64 m2x, .int .i64 m3x, .int .i64 x0, .int .i64 x1, .int .i64 x2, .int .i64 x3, .int .i64 x4, .int .i64 x5, .int .i64 x6, .bool x7, .int .i64 u0x, .int .i64 u1x, .int .i64 u2x, .int .i64 u3x, .int .i64 u4x, .slice A1 u5x.length c1, .int .i64 x9, .slice A2 x10.length c2, .bool m5x, .int .i64 m6x, .int .i64 m7x, .int .i64 m8x, .int .i64 m9x, .int .i64 m10x, .slice A3 m11x.length c3, .string m12x] 34)).alloc (by simp) (.cells #[.int .i64 m0x, .int .i64 m1x, .int .i64 m2x, .int .i64 m3x, .int .i64 x0, .int .i64 x1, .int .i64 x2, .int .i64 x3, .int .i64 x4, .int .i64 x5, .int .i64 x6, .bool x7, .int .i64 u0x, .int .i64 u1x, .int .i64 u2x, .int .i64 u3x, .int .i64 u4x, .slice B1 u5x.length d1, .int .i64 x9, .slice B2 x10.length d2, .bool m5x, .int .i64 m6x, .int .i64 m7x, .int .i64 m8x, .int .i64 m9x, .int .i64 m10x, .slice B3 m11x.length d3, .string m12x] 34))
  go_enter Try.func17, Try.ntmps17
  go_wp2_with (first | ((with_reducible refine (instsame7 ⟨x0, x1, x2, x3, x4, x5, x6, x7, ⟨u0x, u1x, u2x, u3x, u4x, u5x⟩, x9, x10⟩ ⟨x0, x1, x2, x3, x4, x5, x6, x7, ⟨u0x, u1x, u2x, u3x, u4x, u5x⟩, x9, x10⟩ true ⟨fun _ => rfl, fun _ => rfl⟩ ⟨Kd.C_below HX1.out.1 HB2.out, HX1.out.2⟩ ⟨Kd.C_below HX2.out.1 HB2.out, HX2.out.2⟩ ⟨Kd.C_below HY1.out.1 HB2.out, HY1.out.2⟩ ⟨Kd.C_below HY2.out.1 HB2.out, HY2.out.2⟩).mono ?_); rintro e w3 ⟨rfl, hb⟩; have k3x20 : w3.cell? ⟨w.heap.size, 20, none⟩ = some (.bool m5x) := (by rw [blk_cell (blk_below HBK1.out hb)]; rfl); have k3y20 : w3.cell? ⟨w.heap.size + 1, 20, none⟩ = some (.bool m5x) := (by rw [blk_cell (blk_below HBK2.out hb)]; rfl); have k3x21 : w3.cell? ⟨w.heap.size, 21, none⟩ = some (.int .i64 m6x) := (by rw [blk_cell (blk_below HBK1.out hb)]; rfl); have k3y21 : w3.cell? ⟨w.heap.size + 1, 21, none⟩ = some (.int .i64 m6x) := (by rw [blk_cell (blk_below HBK2.out hb)]; rfl); have k3x22 : w3.cell? ⟨w.heap.size, 22, none⟩ = some (.int .i64 m7x) := (by rw [blk_cell (blk_below HBK1.out hb)]; rfl); have k3y22 : w3.cell? ⟨w.heap.size + 1, 22, none⟩ = some (.int .i64 m7x) := (by rw [blk_cell (blk_below HBK2.out hb)]; rfl); have k3x23 : w3.cell? ⟨w.heap.size, 23, none⟩ = some (.int .i64 m8x) := (by rw [blk_cell (blk_below HBK1.out hb)]; rfl); have k3y23 : w3.cell? ⟨w.heap.size + 1, 23, none⟩ = some (.int .i64 m8x) := (by rw [blk_cell (blk_below HBK2.out hb)]; rfl); have k3x24 : w3.cell? ⟨w.heap.size, 24, none⟩ = some (.int .i64 m9x) := (by rw [blk_cell (blk_below HBK1.out hb)]; rfl); have k3y24 : w3.cell? ⟨w.heap.size + 1, 24, none⟩ = some (.int .i64 m9x) := (by rw [blk_cell (blk_below HBK2.out hb)]; rfl); have k3x25 : w3.cell? ⟨w.heap.size, 25, none⟩ = some (.int .i64 m10x) := (by rw [blk_cell (blk_below HBK1.out hb)]; rfl); have k3y25 : w3.cell? ⟨w.heap.size + 1, 25, none⟩ = some (.int .i64 m10x) := (by rw [blk_cell (blk_below HBK2.out hb)]; rfl); have k3x26 : w3.cell? ⟨w.heap.size, 26, none⟩ = some (.slice A3 m11x.length c3) := (by rw [blk_cell (blk_below HBK1.out hb)]; rfl); have k3y26 : w3.cell? ⟨w.heap.size + 1, 26, none⟩ = some (.slice B3 m11x.length d3) := (by rw [blk_cell (blk_below HBK2.out hb)]; rfl); have k3x27 : w3.cell? ⟨w.heap.size, 27, none⟩ = some (.string m12x) := (by rw [blk_cell (blk_below HBK1.out hb)]; rfl); have k3y27 : w3.cell? ⟨w.heap.size + 1, 27, none⟩ = some (.string m12x) := (by rw [blk_cell (blk_below HBK2.out hb)]; rfl); have HB3 := Lib.hid (HB2.out.trans (hb.mono HB2.out.size)); clear hb))
  have hbl1 : w3.cell? ⟨w.heap.size, 26, none⟩ = some (.slice A3 m11x.length c3) := k3x26
  have hbl2 : w3.cell? ⟨w.heap.size + 1, 26, none⟩ = some (.slice B3 m11x.length d3) := k3y26
  have HL1 := Lib.hid hbl1
  have HL2 := Lib.hid hbl2
  clear hbl1 hbl2 k3x20 k3y20 k3x21 k3y21 k3x22 k3y22 k3x23 k3y23 k3x24 k3y24 k3x25 k3y25 k3x26 k3y26 k3x27 k3y27
  go_loopw [101] (fun vi wr => ∃ i : Nat, vi = .int .i64 i ∧ i ≤ m11x.length ∧ Hid (Below w3.heap.size w3 wr)) (fun vi _ => m11x.length - (intOf vi).toNat)
  case atStart => exact ⟨0, rfl, by omega, Lib.hid (Below.refl _ _)⟩
  case round =>
    obtain ⟨i, rfl, hi, HBr⟩ := hrel
    have HBw := Lib.hid (HB3.out.trans (HBr.out.mono HB3.out.size))
    by_cases hlt : i < m11x.length
    · have hk1 := cell_keptS HBr.out HL1.out
      have hk2 := cell_keptS HBr.out HL2.out
      obtain ⟨ad, rfl, ha0, ha1, ha2⟩ := at_T60 (Kd.C_below HX3.out.1 HBw.out) (i : Int) (by omega) (by omega)
      obtain ⟨bd, rfl, hb0, hb1, hb2⟩ := at_T60 (Kd.C_below HY3.out.1 HBw.out) (i : Int) (by omega) (by omega)
      generalize rd_T60 m11x (i : Int) = x at ha0 ha1 ha2 hb0 hb1 hb2
      obtain ⟨p0, p1, p2⟩ := x
      dsimp only at ha0 ha1 ha2 hb0 hb1 hb2
      rw [Int.toNat_natCast] at ha0 ha1 ha2 hb0 hb1 hb2
      have q0 : (0 : Int) ≤ (i : Int) := by omega
      have q1 : (i : Int) < (m11x.length : Int) := by omega
      go_wp2
      repeat (go_quiet (fail); try go_wp2)
      go_roundw
      case measure => simp [intOf]; omega
      case rel => exact ⟨i + 1, by go_num, by omega, Lib.hid (by repeat (first | exact HBr.out | apply pw_below_drewN | apply below_drew1))⟩
    · obtain rfl : i = m11x.length := by omega
      go_wp2
      go_ret
      exact ⟨rfl, HBw.out⟩

end Go.Proofs.Ytneebjlpeekmbaa
