/- The example of the document holds (lives). No conditions. -/
import Derived.Test.YtfanbhbpmhojaaaCoF
namespace Go.Proofs.Ytfanbhbpmhojaaa
open Go.RowKit Go.Proofs.YtfanbhbpmhojaaaW.PrintWords Go.Proofs.YtfanbhbpmhojaaaW.PrintLast Go.Proofs.YtfanbhbpmhojaaaW.PrintMore PRef
attribute [local go_sem] max2_int min2_int max_two min_two
set_option linter.unusedVariables false
set_option linter.unusedSimpArgs false

theorem wpList_field32 {ops : Array Oper} {rest : List Oper} {o : Oper} {a : Act} {w : World} {Q : Exit → Act → World → Prop} (hgd : o.guard = none) (x : Operand) (ho : o.op = .field 32 x 2) (u0 u1 : Value) (A : Option Addr) (n c : Nat) (hx : a.eval x = .agg #[u0, u1, .slice A n c])
    (h : wpList Try.prog ops Q rest (a.put o.dst (.slice A n c)) w) : wpList Try.prog ops Q (o :: rest) a w := by
  refine wpList_plain hgd fun K hK => ?_
  have hu := Try.underlying32
  have hu30 := Try.underlying30
  have hrun : (execOp a.eval o).run Try.prog w = .ok (.value (.slice A n c)) w := by
    unfold execOp
    simp only [ho, hx]
    simp [Instr.field, Sem.run_bind, run_underlying hu, Result.andThen, asAgg, part, isAgg, run_underlying hu30]
  unfold Oper.wp
  rw [hrun]
  exact hK _ _ h

set_option maxRecDepth 100000 in
set_option maxHeartbeats 4000000 in
theorem lives_calls (w : World) : Calls Try.prog 15 #[] w fun e w' => e = .returned (.bool true) ∧ Below w.heap.size w w' := by
  have HNW := Lib.hid (new_one w 0 ⟨#[0]⟩ text0 vot0 (by decide) (by omega) (by omega))
  go_enter Try.func15, Try.ntmps15
  go_wp2_with ((with_reducible refine HNW.out.mono ?_); rintro e w1 ⟨g, rfl, hg, hco, hb⟩; have HC1 := Lib.hid hco; have HB1 := Lib.hid hb; have hgw := hg; clear hco hb hg)
  have hbel : Hid (∀ w1 w2, Chg (fun k => k = g) w1 w2 → Below w.heap.size w w1 → Below w.heap.size w w2) := Lib.hid (fun w1 w2 hc hb => hb.trans (hc.below hb.size (fun i hi hk => by omega)))
  go_loopw [3, 13] (fun vt vi wr => (∃ i : Nat, i ≤ 9 ∧ vt = .int .i64 0 ∧ vi = .int .i64 i ∧ Hid (Co wr g (St.new 0 ⟨#[0]⟩ i) ∧ Below w.heap.size w wr)) ∨ (vt = .int .i64 1 ∧ vi = .int .i64 10 ∧ ∃ S, Hid (Led S 1 ∧ Co wr g S ∧ Below w.heap.size w wr))) (fun _ vi _ => 10 - (intOf vi).toNat)
  case atStart => exact .inl ⟨0, by omega, rfl, rfl, Lib.hid ⟨HC1.out, HB1.out⟩⟩
  case round =>
  rcases hrel with ⟨i, hi, rfl, rfl, HR⟩ | ⟨rfl, rfl, S, HR⟩
  · by_cases h9 : i < 9
    · have HT := Lib.hid (tick_new HR.out.1 (by omega) (by omega) (by omega) (by omega))
      have hlt : decide ((i : Int) < 10) = true := decide_eq_true (by omega)
      go_wp2_with (first | (refine wpList_field32 rfl (.tmp 17) rfl _ _ _ _ _ rfl ?_) | ((with_reducible refine HT.out.mono ?_); rintro e w2 ⟨rfl, hco, hch⟩; have HC2 := Lib.hid hco; have HB2 := Lib.hid (hbel.out _ _ hch HR.out.2); clear hco hch))
      go_roundw
      case measure => first | (simp [intOf]; done) | (simp [intOf]; omega)
      case rel => exact .inl ⟨i + 1, by omega, by go_num, by go_num, Lib.hid ⟨by have := HC2.out; rw [show ((i + 1 : Nat) : Int) = (i : Int) + 1 from by omega]; exact this, HB2.out⟩⟩
    · have HT := Lib.hid (tick_lead 0 rfl vot0 HR.out.1 (by omega) (by omega) (by omega) (by omega) (by omega))
      have hlt : decide ((i : Int) < 10) = true := decide_eq_true (by omega)
      have hi9 : i = 9 := by omega
      go_wp2_with (first | (refine wpList_field32 rfl (.tmp 17) rfl _ _ _ _ _ rfl ?_) | ((with_reducible refine HT.out.mono ?_); rintro e w2 ⟨A, cA, S, rfl, hself, hled, hbi, hco, hch⟩; have HC2 := Lib.hid hco; have HL2 := Lib.hid hled; have HB2 := Lib.hid (hbel.out _ _ hch HR.out.2); clear hco hch hled hself hbi))
      go_roundw
      case measure => first | (simp [intOf]; done) | (simp [intOf]; omega)
      case rel => exact .inr ⟨by go_num, by first | (subst hi9; rfl) | go_num, S, Lib.hid ⟨HL2.out, HC2.out, HB2.out⟩⟩
  · have HO := Lib.hid (offer_led HR.out.2.1 HR.out.1 (by omega) ⟨#[97]⟩ (by decide))
    go_upto_region 10 with ((with_reducible refine HO.out.mono ?_); rintro e w2 ⟨A, cA, S2, rfl, hself, hled, hbi, hco, hch, hnw⟩; have HC2 := Lib.hid hco; have HL2 := Lib.hid hled; have HB2 := Lib.hid (hbel.out _ _ hch HR.out.2.2); have HN2 := Lib.hid hnw; clear hco hch hled hself hbi hnw)
    have hb3 := (Below.refl w2.heap.size w2).alloc (Nat.le_refl _) (.cells #[.bool true, .slice S.mA S.mN S.mC, .slice A 1 cA] 32)
    have hk3 := blk_new w2 (.cells #[.bool true, .slice S.mA S.mN S.mC, .slice A 1 cA] 32)
    generalize w2.alloc (.cells #[.bool true, .slice S.mA S.mN S.mC, .slice A 1 cA] 32) = w3 at hb3 hk3 ⊢
    have HB3 := Lib.hid (HB2.out.trans (hb3.mono HB2.out.size))
    have HC3 := Lib.hid (HC2.out.below hb3)
    obtain ⟨ad, hA, hn0, hn3, hn4⟩ := (HN2.out.below hb3).cells
    subst hA
    have m0 : w3.cell? ⟨w2.heap.size, 0, none⟩ = some (.bool true) := by rw [blk_cell hk3]; rfl
    have m2 : w3.cell? ⟨w2.heap.size, 2, none⟩ = some (.slice (some ad) 1 cA) := by rw [blk_cell hk3]; rfl
    have HLD : Hid (Calls Try.prog 13 #[.pointer (some ⟨g, 0, none⟩)] w3 fun e w' => e = .returned (.bool true) ∧ w3 = w') := Lib.hid (by
      have := leads_calls HC3.out
      rw [HL2.out.role] at this
      exact this)
    have HTD : Hid (Calls Try.prog 14 #[.pointer (some ⟨g, 0, none⟩)] w3 fun e w' => e = .returned (.int .i64 2) ∧ w3 = w') := Lib.hid (by
      have := told_calls HC3.out
      rw [HL2.out.told] at this
      exact this)
    clear hb3 hk3 hn0 hn4
    go_wp2_with (first | ((with_reducible refine HLD.out.mono ?_); rintro e w4 ⟨rfl, rfl⟩) | ((with_reducible refine HTD.out.mono ?_); rintro e w5 ⟨rfl, rfl⟩))
    go_ret
    exact ⟨by rfl, HB3.out⟩

end Go.Proofs.Ytfanbhbpmhojaaa
