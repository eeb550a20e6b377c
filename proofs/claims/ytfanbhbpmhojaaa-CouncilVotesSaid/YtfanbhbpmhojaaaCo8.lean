/- A voter alone: elect, may, Tick. Conditions: as told of a council's block; its one voter is itself. -/
import Derived.Test.YtfanbhbpmhojaaaCo7
namespace Go.Proofs.Ytfanbhbpmhojaaa
open Go.RowKit Go.Proofs.YtfanbhbpmhojaaaW.PrintWords Go.Proofs.YtfanbhbpmhojaaaW.PrintLast Go.Proofs.YtfanbhbpmhojaaaW.PrintMore PRef
attribute [local go_sem] max2_int min2_int max_two min_two
set_option linter.unusedVariables false
set_option linter.unusedSimpArgs false

/-- It asks for votes in the next term; it has its own. -/
def St.asks (S : St) (j : Nat) : St := { S with term := S.term + 1, vote := S.self, keep := true, role := 1, leader := -1, clock := 0, vs := fun k => k == j }
theorem Near.asks {S : St} (h : Near S) (j : Nat) : Near (S.asks j) := ⟨⟨h.lone.s0, h.lone.s7, h.lone.bv, h.lone.ks⟩, h.com, h.told, h.room, h.news⟩

set_option maxRecDepth 100000 in
set_option maxHeartbeats 2000000 in
theorem elect_calls {w : World} {g : Nat} {S : St} (j : Nat) (hj : S.self = j) (h : Co w g S) (hn : Near S) (ht0 : 0 ≤ S.term) (ht1 : S.term < 1099511627776) :
    Calls Try.prog 46 #[.pointer (some ⟨g, 0, none⟩)] w fun e w' => ∃ nx mt A1 c1 A c, e = .returned (.tuple #[]) ∧ Co w' g (((S.asks j).lead nx mt).put (zeroEnt (S.term + 1)) A1 c1 A c) ∧ Chg (fun k => k = g) w w' ∧ NewsAt w g w' A c (S.bidx + S.log.length + 1) (zeroEnt (S.term + 1)) := by
  have c1 := h.c1
  have H := Lib.hid h
  have HN := Lib.hid hn
  have HJ := Lib.hid hj
  have hj7 : j < 7 := by have := hn.lone.s7; omega
  have hd : decide ((1099511627776 : Int) ≤ S.term) = false := decide_eq_false (by omega)
  clear h hn hj
  go_enter Try.func46, Try.ntmps46
  go_upto_region 2 with ((with_reducible refine (follow_calls H.out (S.term + 1) (by omega)).mono ?_); rintro e w1 ⟨rfl, hco, hch⟩; have HC1 := Lib.hid hco; have HH1 := Lib.hid hch; clear hco hch)
  clear c1
  have c0 := HC1.out.c0
  have c8 := HC1.out.c8
  have c2 := HC1.out.c2
  have c12 := HC1.out.c12
  have f8 := HC1.out.frozen 8
  have f2 := HC1.out.frozen 2
  have f12 := HC1.out.frozen 12
  dsimp only at c0 c8 c2 c12
  go_upto_region 3 with fail
  have HC2 : Hid (Co (((w1.setCell ⟨g, 8, none⟩ (.int .i64 1)).setCell ⟨g, 2, none⟩ (.int .i64 S.self)).setCell ⟨g, 12, none⟩ (.int .i64 0)) g { S with term := S.term + 1, vote := S.self, keep := true, role := 1, leader := -1, clock := 0 } ∧ Chg (fun k => k = g) w (((w1.setCell ⟨g, 8, none⟩ (.int .i64 1)).setCell ⟨g, 2, none⟩ (.int .i64 S.self)).setCell ⟨g, 12, none⟩ (.int .i64 0))) := Lib.hid (by
    have hc : Chg (fun k => k = g) w1 (((w1.setCell ⟨g, 8, none⟩ (.int .i64 1)).setCell ⟨g, 2, none⟩ (.int .i64 S.self)).setCell ⟨g, 12, none⟩ (.int .i64 0)) := ((((Chg.refl (fun k => k = g) w1).setCell (p := ⟨g, 8, none⟩) (.inl (by rfl)) _).setCell (p := ⟨g, 2, none⟩) (.inl (by rfl)) _).setCell (p := ⟨g, 12, none⟩) (.inl (by rfl)) _)
    exact ⟨HC1.out.upd hc (blk_set (blk_set (blk_set HC1.out.blk 8 (.int .i64 1)) 2 (.int .i64 S.self)) 12 (.int .i64 0)) rfl rfl rfl rfl rfl, HH1.out.trans hc (fun _ _ h => h)⟩)
  clear c0 c8 c2 c12 f8 f2 f12
  generalize ((w1.setCell ⟨g, 8, none⟩ (.int .i64 1)).setCell ⟨g, 2, none⟩ (.int .i64 S.self)).setCell ⟨g, 12, none⟩ (.int .i64 0) = w2 at HC2 ⊢
  have k13 : w2.cell? ⟨g, 13, none⟩ = some (.bool (S.vs 0)) := by rw [HC2.out.1.cell]; rfl
  have l13 := HC2.out.1.frozen 13
  have k14 : w2.cell? ⟨g, 14, none⟩ = some (.bool (S.vs 1)) := by rw [HC2.out.1.cell]; rfl
  have l14 := HC2.out.1.frozen 14
  have k15 : w2.cell? ⟨g, 15, none⟩ = some (.bool (S.vs 2)) := by rw [HC2.out.1.cell]; rfl
  have l15 := HC2.out.1.frozen 15
  have k16 : w2.cell? ⟨g, 16, none⟩ = some (.bool (S.vs 3)) := by rw [HC2.out.1.cell]; rfl
  have l16 := HC2.out.1.frozen 16
  have k17 : w2.cell? ⟨g, 17, none⟩ = some (.bool (S.vs 4)) := by rw [HC2.out.1.cell]; rfl
  have l17 := HC2.out.1.frozen 17
  have k18 : w2.cell? ⟨g, 18, none⟩ = some (.bool (S.vs 5)) := by rw [HC2.out.1.cell]; rfl
  have l18 := HC2.out.1.frozen 18
  have k19 : w2.cell? ⟨g, 19, none⟩ = some (.bool (S.vs 6)) := by rw [HC2.out.1.cell]; rfl
  have l19 := HC2.out.1.frozen 19
  go_upto_region 4 with fail
  have HC3 : Hid (Co (((((((w2.setCell ⟨g, 13, none⟩ (.bool false)).setCell ⟨g, 14, none⟩ (.bool false)).setCell ⟨g, 15, none⟩ (.bool false)).setCell ⟨g, 16, none⟩ (.bool false)).setCell ⟨g, 17, none⟩ (.bool false)).setCell ⟨g, 18, none⟩ (.bool false)).setCell ⟨g, 19, none⟩ (.bool false)) g { S with term := S.term + 1, vote := S.self, keep := true, role := 1, leader := -1, clock := 0, vs := fun _ => false } ∧ Chg (fun k => k = g) w (((((((w2.setCell ⟨g, 13, none⟩ (.bool false)).setCell ⟨g, 14, none⟩ (.bool false)).setCell ⟨g, 15, none⟩ (.bool false)).setCell ⟨g, 16, none⟩ (.bool false)).setCell ⟨g, 17, none⟩ (.bool false)).setCell ⟨g, 18, none⟩ (.bool false)).setCell ⟨g, 19, none⟩ (.bool false))) := Lib.hid (by
    have hc : Chg (fun k => k = g) w2 (((((((w2.setCell ⟨g, 13, none⟩ (.bool false)).setCell ⟨g, 14, none⟩ (.bool false)).setCell ⟨g, 15, none⟩ (.bool false)).setCell ⟨g, 16, none⟩ (.bool false)).setCell ⟨g, 17, none⟩ (.bool false)).setCell ⟨g, 18, none⟩ (.bool false)).setCell ⟨g, 19, none⟩ (.bool false)) := (((((((Chg.refl (fun k => k = g) w2).setCell (p := ⟨g, 13, none⟩) (.inl (by rfl)) (.bool false)).setCell (p := ⟨g, 14, none⟩) (.inl (by rfl)) (.bool false)).setCell (p := ⟨g, 15, none⟩) (.inl (by rfl)) (.bool false)).setCell (p := ⟨g, 16, none⟩) (.inl (by rfl)) (.bool false)).setCell (p := ⟨g, 17, none⟩) (.inl (by rfl)) (.bool false)).setCell (p := ⟨g, 18, none⟩) (.inl (by rfl)) (.bool false)).setCell (p := ⟨g, 19, none⟩) (.inl (by rfl)) (.bool false)
    exact ⟨HC2.out.1.upd hc (blk_set (blk_set (blk_set (blk_set (blk_set (blk_set (blk_set HC2.out.1.blk 13 (.bool false)) 14 (.bool false)) 15 (.bool false)) 16 (.bool false)) 17 (.bool false)) 18 (.bool false)) 19 (.bool false)) rfl rfl rfl rfl rfl, HC2.out.2.trans hc (fun _ _ h => h)⟩)
  clear k13 l13 k14 l14 k15 l15 k16 l16 k17 l17 k18 l18 k19 l19
  generalize ((((((w2.setCell ⟨g, 13, none⟩ (.bool false)).setCell ⟨g, 14, none⟩ (.bool false)).setCell ⟨g, 15, none⟩ (.bool false)).setCell ⟨g, 16, none⟩ (.bool false)).setCell ⟨g, 17, none⟩ (.bool false)).setCell ⟨g, 18, none⟩ (.bool false)).setCell ⟨g, 19, none⟩ (.bool false) = w3 at HC3 ⊢
  have c0 : w3.cell? ⟨g, 0, none⟩ = some (.int .i64 (j : Int)) := by have := HC3.out.1.c0; rw [← HJ.out]; exact this
  refine elect_own _ _ _ _ _ _ _ _ _ _ _ _ _ _ _ _ _ _ _ _ _ _ _ _ _ _ _ _ _ _ _ _ _ _ _ _ _ _ _ _ _ _ _ _ _ _ _ _ _ _ _ _ _ _ _ _ _ _ _ _ _ _ _ _ _ _ g j w3 _ (fun _ _ _ _ _ h => h) c0 hj7 (cell_vote HC3.out.1 j hj7) (HC3.out.1.frozen _) ?_
  have HC4 : Hid (Co (w3.drew.setCell ⟨g, 13 + j, none⟩ (.bool true)) g (S.asks j) ∧ Chg (fun k => k = g) w (w3.drew.setCell ⟨g, 13 + j, none⟩ (.bool true))) := Lib.hid (by
    have hco : Co w3.drew g _ := HC3.out.1.drewN 1
    have hc : Chg (fun k => k = g) w3.drew (w3.drew.setCell ⟨g, 13 + j, none⟩ (.bool true)) := (Chg.refl (fun k => k = g) w3.drew).setCell (p := ⟨g, 13 + j, none⟩) (.inl (by rfl)) _
    refine ⟨hco.upd hc ((blk_set hco.blk (13 + j) (.bool true)).trans ?_) rfl rfl rfl rfl rfl, (HC3.out.2.drewN 1).trans hc (fun _ _ h => h)⟩
    obtain rfl | rfl | rfl | rfl | rfl | rfl | rfl : j = 0 ∨ j = 1 ∨ j = 2 ∨ j = 3 ∨ j = 4 ∨ j = 5 ∨ j = 6 := by omega
    all_goals rfl)
  clear c0
  generalize w3.drew.setCell ⟨g, 13 + j, none⟩ (.bool true) = w4 at HC4 ⊢
  have HNA := Lib.hid (HN.out.asks j)
  simp only [Exit.then]
  go_wp2_with (((with_reducible refine (lvoters_calls HC4.out.1 HNA.out.lone).mono ?_); rintro e w5 ⟨ad, c, rfl, hca, hb⟩; have HB5 := Lib.hid hb; have HA := Lib.hid hca; clear hb hca))
  go_loopw [44] (fun vi wr => ∃ (i : Nat), vi = .int .i64 i ∧ i ≤ 1 ∧ w5 = wr) (fun vi _ => 1 - (intOf vi).toNat)
  case atStart => exact ⟨0, rfl, by omega, rfl⟩
  case round =>
  obtain ⟨i, rfl, hi, hwr⟩ := hrel
  subst hwr
  by_cases h0 : i = 0
  · subst h0
    have c0 : w5.cell? ⟨g, 0, none⟩ = some (.int .i64 S.self) := (HC4.out.1.below HB5.out).c0
    have ca : w5.cell? ad = some (.int .i64 S.self) := HA.out
    go_wp2_with fail
    go_roundw
    case measure => first | (simp [intOf]; done) | (simp [intOf]; omega)
    case rel => exact ⟨1, by go_num, by omega, by first | rfl | trivial⟩
  · obtain rfl : i = 1 := by omega
    have hvj : (S.asks j).vs j = true := by show (j == j) = true; simp
    have HW := Lib.hid (won_calls j (show (S.asks j).self = j from HJ.out) hvj (HC4.out.1.below HB5.out) HNA.out)
    clear hvj
    go_wp2_with (((with_reducible refine HW.out.mono ?_); rintro e w6 ⟨nx, mt, A1, c1, A, c2, rfl, h1, h2, h3⟩; have HF1 := Lib.hid h1; have HF2 := Lib.hid h2; have HF3 := Lib.hid h3; clear h1 h2 h3))
    go_end0
    exact ⟨nx, mt, A1, c1, A, c2, rfl, HF1.out, (HC4.out.2.trans (Chg.of_same HB5.out (fun k => k = g)) (fun _ _ h => h)).trans HF2.out (fun _ _ h => h), HF3.out.weaken (Nat.le_trans HC4.out.2.size HB5.out.size)⟩

set_option maxRecDepth 100000 in
theorem may_calls {w : World} {g : Nat} {S : St} (h : Co w g S) (hl : Lone S) (hc0 : -4611686018427387904 ≤ S.commit) (hc1 : S.commit ≤ 4611686018427387904) :
    Calls Try.prog 45 #[.pointer (some ⟨g, 0, none⟩)] w fun e w' => e = .returned (.bool true) ∧ Below w.heap.size w w' := by
  have c10 := h.c10
  have H := Lib.hid h
  have hsz := h.bv
  have HVA : Hid (Calls Try.prog 48 #[.pointer (some ⟨g, 0, none⟩), .int .i64 S.commit] w fun e w' => e = .returned (.string S.bvot) ∧ ∃ m, w' = w.drewN m) := Lib.hid (by
    have := votersAt_calls h S.commit hc0 hc1
    rw [hl.at_] at this
    exact this)
  have HIS : Hid (∀ w', Below w.heap.size w w' → Calls Try.prog 41 #[.pointer (some ⟨g, 0, none⟩), .int .i64 S.self] w' fun e w'' => e = .returned (.bool true) ∧ Below w'.heap.size w' w'') := Lib.hid (fun w' hb => by
    have := is_calls (h.below hb) S.self
    rw [hl.voters] at this
    simpa using this)
  clear h hl
  go_enter Try.func45, Try.ntmps45
  go_wp2_with (first | ((with_reducible refine HVA.out.mono ?_); rintro e w1 ⟨rfl, m, rfl⟩) | ((with_reducible refine (voters_calls S.bvot _ hsz).mono ?_); rintro e w2 ⟨v, rfl, ho, hb⟩; have HB2 := Lib.hid ((pw_below_drewN (Below.refl w.heap.size w) m).trans hb); clear ho hb c10; have c0 := (H.out.below HB2.out).c0) | ((with_reducible refine (HIS.out _ HB2.out).mono ?_); rintro e w3 ⟨rfl, hb⟩; have HB3 := Lib.hid (HB2.out.trans (hb.mono HB2.out.size)); clear hb))
  go_ret
  exact ⟨rfl, HB3.out⟩

end Go.Proofs.Ytfanbhbpmhojaaa
