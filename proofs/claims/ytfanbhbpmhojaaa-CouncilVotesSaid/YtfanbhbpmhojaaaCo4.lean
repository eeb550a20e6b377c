/- reach: all up to the last entry is committed, and told; where one entry is new. Conditions: as told of a council's block. -/
import Derived.Test.YtfanbhbpmhojaaaReg
namespace Go.Proofs.Ytfanbhbpmhojaaa
open Go.RowKit Go.Proofs.YtfanbhbpmhojaaaW.PrintWords Go.Proofs.YtfanbhbpmhojaaaW.PrintLast Go.Proofs.YtfanbhbpmhojaaaW.PrintMore PRef
attribute [local go_sem] max2_int min2_int max_two min_two
set_option linter.unusedVariables false
set_option linter.unusedSimpArgs false

/-- One news, in a block of one's own. -/
def NewsAt (w0 : World) (g : Nat) (w : World) (A : Option Addr) (c : Nat) (i : Int) (x : S39) : Prop := w.ownsRow w0.heap.size 41 5 (.slice A 1 c) 1 [.int .i64 i, .int .i64 x.f0, .int .i64 x.f1, .string x.f2, .bool false]

set_option maxRecDepth 100000 in
set_option maxHeartbeats 1000000 in
theorem reach_calls {w : World} {g : Nat} {S : St} (h : Co w g S) (hc : S.commit = S.told) (ht : S.told + 1 = S.bidx + S.log.length) (hl : 0 < S.log.length) (hn : S.nA = none ∧ S.nN = 0 ∧ S.nC = 0) :
    Calls Try.prog 94 #[.pointer (some ⟨g, 0, none⟩), .int .i64 (S.bidx + S.log.length)] w fun e w' => ∃ A c, e = .returned (.tuple #[]) ∧ Co w' g { S with commit := S.bidx + S.log.length, told := S.bidx + S.log.length, nA := A, nN := 1, nC := c } ∧ Chg (fun k => k = g) w w' ∧ NewsAt w g w' A c (S.bidx + S.log.length) (S.log.getD (S.log.length - 1) z39) := by
  have c10 := h.c10
  have f10 := h.frozen 10
  have H := Lib.hid h
  have h1 := h.lo
  have h2 := h.hi
  have h3 := h.len
  clear h
  obtain ⟨i, hi⟩ : ∃ i, i = S.bidx + S.log.length := ⟨_, rfl⟩
  have hlc : ∀ n, Hid (Calls Try.prog 17 #[.pointer (some ⟨g, 0, none⟩)] (w.drewN n) fun e w' => e = .returned (.int .i64 i) ∧ ∃ m, w' = (w.drewN n).drewN m) := fun n => Lib.hid (by rw [hi]; exact last_calls (H.out.drewN n))
  rw [← hi] at ht ⊢
  obtain ⟨T, hT⟩ : ∃ T, T = { S with commit := i } := ⟨_, rfl⟩
  have HT : Hid (∀ m, Co ((w.drewN m).setCell ⟨g, 10, none⟩ (.int .i64 i)) g T ∧ Chg (fun k => k = g) w ((w.drewN m).setCell ⟨g, 10, none⟩ (.int .i64 i))) := Lib.hid fun m => by
    have hc2 : Chg (fun k => k = g) w ((w.drewN m).setCell ⟨g, 10, none⟩ (.int .i64 i)) := ((Chg.refl (fun k => k = g) w).drewN m).setCell (p := ⟨g, 10, none⟩) (.inl (by rfl)) _
    refine ⟨?_, hc2⟩
    subst hT
    exact H.out.upd hc2 (blk_set (H.out.drewN m).blk 10 (.int .i64 i)) rfl rfl rfl rfl rfl
  have HI := Lib.hid hi
  have HTT := Lib.hid hT
  have HC := Lib.hid hc
  have HTo := Lib.hid ht
  have HN := Lib.hid hn
  have HL := Lib.hid hl
  have hlt : decide (S.commit < i) = true := decide_eq_true (by omega)
  have hlt2 : S.commit < i := by omega
  have hir : i ≤ 2199023259648 := by omega
  have hir0 : 0 ≤ i := by omega
  clear hi hT hc ht hn hl h1 h2 h3
  go_enter Try.func94, Try.ntmps94
  go_upto_region 0 with fail
  go_cut [] (fun wc => Hid (Co wc g T ∧ Chg (fun k => k = g) w wc))
  case first =>
    clear HTT HC HTo HN HL HI
    go_region_with ((go_at_call 17; refine (hlc _).out.mono ?_; rintro e w1 ⟨rfl, m, rfl⟩))
    all_goals
      simp only [Exit.then]
      go_wp2_with fail
      go_meet
      exact Lib.hid (HT.out _)
  case rest =>
  have e1 : T.commit = i := by rw [HTT.out]
  have e2 : T.told + 1 = i := by rw [HTT.out]; exact HTo.out
  have e3 : i = T.bidx + T.log.length := by rw [HTT.out]; exact HI.out
  have e4 : 0 < T.log.length := by rw [HTT.out]; exact HL.out
  have e5 : T.nA = none ∧ T.nN = 0 ∧ T.nC = 0 := by rw [HTT.out]; exact HN.out
  have HE1 := Lib.hid e1
  have HE2 := Lib.hid e2
  have HE3 := Lib.hid e3
  have HE4 := Lib.hid e4
  have HE5 := Lib.hid e5
  clear e1 e2 e3 e4 e5 HTo HL HN HI HC hlc HT c10 f10 hlt hlt2
  go_wp2_with fail
  go_loopw [16] (fun _ wr => Hid (Co wr g T ∧ Chg (fun k => k = g) w wr) ∨ ∃ A c, Hid (Co wr g { T with told := i, nA := A, nN := 1, nC := c } ∧ Chg (fun k => k = g) w wr ∧ NewsAt w g wr A c i (T.log.getD (T.log.length - 1) z39))) (fun _ wr => match wr.cell? ⟨g, 11, none⟩ with | some (.int _ t) => (i - t).toNat | _ => 0)
  case atStart => exact .inl hcut
  case round =>
  rcases hrel with HR | ⟨A, c, HR⟩
  · have c10 := HR.out.1.c10
    have c11 := HR.out.1.c11
    have f11 := HR.out.1.frozen 11
    have h2 := HE2.out
    have hb : decide (T.told < T.commit) = true := decide_eq_true (by have := HE1.out; omega)
    have ht0 : -1 ≤ T.told := by omega
    have ht1 : T.told ≤ 2199023259648 := by omega
    clear h2
    go_wp2_with fail
    go_quiet (fail)
    go_upto_region 3 with fail
    rw [HE2.out]
    have HC2 : Hid (Co ((wr.drewN nq).setCell ⟨g, 11, none⟩ (.int .i64 i)) g { T with told := i } ∧ Chg (fun k => k = g) w ((wr.drewN nq).setCell ⟨g, 11, none⟩ (.int .i64 i))) := Lib.hid (by
      have hc2 : Chg (fun k => k = g) wr ((wr.drewN nq).setCell ⟨g, 11, none⟩ (.int .i64 i)) := ((Chg.refl (fun k => k = g) wr).drewN nq).setCell (p := ⟨g, 11, none⟩) (.inl (by rfl)) _
      exact ⟨HR.out.1.upd hc2 (blk_set (HR.out.1.drewN nq).blk 11 (.int .i64 i)) rfl rfl rfl rfl rfl, HR.out.2.trans hc2 (fun _ _ h => h)⟩)
    have HM0 := Lib.hid c11
    clear HR c10 c11 f11 hb
    generalize (wr.drewN nq).setCell ⟨g, 11, none⟩ (.int .i64 i) = w2 at HC2 ⊢
    have c11 : w2.cell? ⟨g, 11, none⟩ = some (.int .i64 i) := HC2.out.1.c11
    have c3 : w2.cell? ⟨g, 3, none⟩ = some (.int .i64 T.bidx) := HC2.out.1.c3
    have c36 : w2.cell? ⟨g, 36, none⟩ = some (.slice none 0 0) := by
      have := HC2.out.1.c36
      dsimp only at this
      rw [HE5.out.1, HE5.out.2.1, HE5.out.2.2] at this
      exact this
    have c7 : w2.cell? ⟨g, 7, none⟩ = some (.slice T.A T.log.length T.cap) := HC2.out.1.c7
    have f36 := HC2.out.1.frozen 36
    have hll := HC2.out.1.len
    dsimp only at hll
    have hj0 := HE4.out
    obtain ⟨j, hj⟩ : ∃ j : Nat, T.log.length = j + 1 := ⟨T.log.length - 1, by omega⟩
    obtain ⟨ad, hA, hc0, hc1, hc2⟩ := at_T39 HC2.out.1.row (j : Int) (by omega) (by show (j : Int) < (T.log.length : Nat); omega)
    have hd : rd_T39 T.log (j : Int) = T.log.getD j z39 := by unfold rd_T39; rw [Int.toNat_natCast]
    dsimp only at hA hc0 hc1 hc2
    rw [hd, Int.toNat_natCast] at hc0 hc1 hc2
    obtain ⟨x, hx⟩ : ∃ x, x = T.log.getD j z39 := ⟨_, rfl⟩
    rw [← hx] at hc0 hc1 hc2
    have HX : Hid (x = T.log.getD (T.log.length - 1) z39) := Lib.hid (by rw [hx, hj]; rfl)
    clear hx
    rw [hA, hj] at c7
    have hij : i - T.bidx - 1 = (j : Int) := by have := HE3.out; omega
    have hb0 := HC2.out.1.lo
    have hb1 := HC2.out.1.hi
    dsimp only at hb0 hb1
    have hjj : j ≤ 4096 := by omega
    have hgl := HC2.out.1.lt
    have HA := Lib.hid hA
    clear hj hj0 hll hA hd
    have hw1 : IntKind.i64.wrap (i - T.bidx) = i - T.bidx := IntWalk.i64_in _ (by omega)
    have hw2 : IntKind.i64.wrap (i - T.bidx - 1) = (j : Int) := by rw [hij]; exact IntWalk.i64_in _ (by omega)
    have HCd := Lib.hid (show Co w2.drew g { T with told := i } from HC2.out.1.drewN 1)
    refine reach_last _ _ _ _ _ _ _ _ _ _ _ _ _ _ _ _ _ _ _ _ _ _ _ _ _ _ _ _ _ _ _ _ _ _ _ _ _ _ _ _ _ _ _ _ _ _ _ _ _ _ _ _ _ _ _ _ _ _ _ _ _ _ _ _ g w2 _ i T.bidx ad j T.cap x (fun _ _ _ _ _ h => h) c11 c3 c7 c36 hc0 hc1 hc2 hw1 hw2 (fun w' hb => (HCd.out.below hb).frozen 36) ?_
    intro A1 c1 w3 hown hB
    have hcs : Chg (fun k => k = g) w3 (w3.setCell ⟨g, 36, none⟩ (.slice A1 1 c1)) := (Chg.refl (fun k => k = g) w3).setCell (p := ⟨g, 36, none⟩) (.inl (by rfl)) _
    have hne : ∀ k, (Value.slice A1 1 c1).ownBlock = some k → k ≠ g := fun k hk e => by
      have h1 := own_base hown k hk
      have h2 : g < w2.drew.heap.size := hgl
      omega
    have HC4 : Hid (Co (w3.setCell ⟨g, 36, none⟩ (.slice A1 1 c1)) g { T with told := i, nA := A1, nN := 1, nC := c1 } ∧ Chg (fun k => k = g) w (w3.setCell ⟨g, 36, none⟩ (.slice A1 1 c1)) ∧ NewsAt w g (w3.setCell ⟨g, 36, none⟩ (.slice A1 1 c1)) A1 c1 i x) := Lib.hid (by
      refine ⟨(HCd.out.below hB).upd hcs (blk_set (HCd.out.below hB).blk 36 (.slice A1 1 c1)) rfl rfl rfl rfl rfl, ?_, ?_⟩
      · exact ((HC2.out.2.drewN 1).trans (Chg.of_same hB (fun k => k = g)) (fun _ _ h => h)).trans hcs (fun _ _ h => h)
      · exact own_weaken (own_move hown (fun k hk => hcs.block k (own_lt hown k hk) (hne k hk))) HC2.out.2.size)
    have HM1 := Lib.hid HC4.out.1.c11
    simp only [Exit.then, Exit.inBlock]
    go_wp2_with fail
    refine ⟨.inr ⟨A1, c1, Lib.hid ⟨HC4.out.1, HC4.out.2.1, by rw [← HX.out]; exact HC4.out.2.2⟩⟩, ?_⟩
    rw [HM1.out, HM0.out]
    have := HE2.out
    show (i - i).toNat < (i - T.told).toNat
    omega
  · have c10 : wr.cell? ⟨g, 10, none⟩ = some (.int .i64 T.commit) := HR.out.1.c10
    have c11 : wr.cell? ⟨g, 11, none⟩ = some (.int .i64 i) := HR.out.1.c11
    have hb : decide (i < T.commit) = false := decide_eq_false (by have := HE1.out; omega)
    go_wp2_with fail
    go_quiet (fail)
    go_wp2_with fail
    go_end0
    refine ⟨A, c, rfl, ?_, HR.out.2.1.drewN _, ?_⟩
    · have := HR.out.1.drewN nq
      rw [HTT.out] at this
      exact this
    · have := HR.out.2.2
      rw [HTT.out] at this
      exact own_move this (fun _ _ => rfl)

end Go.Proofs.Ytfanbhbpmhojaaa
