/- A voter alone: won, elect, Tick. Conditions: as told of a council's block; its one voter is itself. -/
import Derived.Test.YtfanbhbpmhojaaaCo6
import Derived.Test.YtfanbhbpmhojaaaReg2
namespace Go.Proofs.Ytfanbhbpmhojaaa
open Go.RowKit Go.Proofs.YtfanbhbpmhojaaaW.PrintWords Go.Proofs.YtfanbhbpmhojaaaW.PrintLast Go.Proofs.YtfanbhbpmhojaaaW.PrintMore PRef
attribute [local go_sem] max2_int min2_int max_two min_two
set_option linter.unusedVariables false
set_option linter.unusedSimpArgs false

/-- What a voter alone has to have before it wins. -/
structure Near (S : St) : Prop where
  lone : Lone S
  com : S.commit = S.bidx + S.log.length
  told : S.told = S.bidx + S.log.length
  room : S.log.length < 4096
  news : S.nA = none ∧ S.nN = 0 ∧ S.nC = 0

/-- It leads. -/
def St.lead (S : St) (nx mt : Nat → Int) : St := { S with role := 2, leader := S.self, clock := 0, nx := nx, mt := mt }
def zeroEnt (t : Int) : S39 := ⟨t, 0, ⟨#[]⟩⟩

theorem cell_next {w : World} {g : Nat} {S : St} (h : Co w g S) (j : Nat) (hj : j < 7) : ∃ u, w.cell? ⟨g, 20 + j, none⟩ = some u := by
  rw [h.cell]
  obtain rfl | rfl | rfl | rfl | rfl | rfl | rfl : j = 0 ∨ j = 1 ∨ j = 2 ∨ j = 3 ∨ j = 4 ∨ j = 5 ∨ j = 6 := by omega
  all_goals exact ⟨_, rfl⟩
theorem cell_match {w : World} {g : Nat} {S : St} (h : Co w g S) (j : Nat) (hj : j < 7) : ∃ u, w.cell? ⟨g, 27 + j, none⟩ = some u := by
  rw [h.cell]
  obtain rfl | rfl | rfl | rfl | rfl | rfl | rfl : j = 0 ∨ j = 1 ∨ j = 2 ∨ j = 3 ∨ j = 4 ∨ j = 5 ∨ j = 6 := by omega
  all_goals exact ⟨_, rfl⟩
theorem cell_vote {w : World} {g : Nat} {S : St} (h : Co w g S) (j : Nat) (hj : j < 7) : ∃ u, w.cell? ⟨g, 13 + j, none⟩ = some u := by
  rw [h.cell]
  obtain rfl | rfl | rfl | rfl | rfl | rfl | rfl : j = 0 ∨ j = 1 ∨ j = 2 ∨ j = 3 ∨ j = 4 ∨ j = 5 ∨ j = 6 := by omega
  all_goals exact ⟨_, rfl⟩
theorem Co.next {w : World} {g : Nat} {S : St} {nx mt : Nat → Int} (h : Co w g (S.lead nx mt)) (j : Nat) (hj : j < 7) (a b : Int) :
    ∃ nx mt, Co ((w.setCell ⟨g, 20 + j, none⟩ (.int .i64 a)).setCell ⟨g, 27 + j, none⟩ (.int .i64 b)) g (S.lead nx mt) := by
  refine ⟨fun k => if k = j then a else nx k, fun k => if k = j then b else mt k, ?_⟩
  have hc : Chg (fun k => k = g) w ((w.setCell ⟨g, 20 + j, none⟩ (.int .i64 a)).setCell ⟨g, 27 + j, none⟩ (.int .i64 b)) := (((Chg.refl (fun k => k = g) w).setCell (p := ⟨g, 20 + j, none⟩) (.inl (by rfl)) _).setCell (p := ⟨g, 27 + j, none⟩) (.inl (by rfl)) _)
  refine h.upd hc ((blk_set (blk_set h.blk (20 + j) (.int .i64 a)) (27 + j) (.int .i64 b)).trans ?_) rfl rfl rfl rfl rfl
  obtain rfl | rfl | rfl | rfl | rfl | rfl | rfl : j = 0 ∨ j = 1 ∨ j = 2 ∨ j = 3 ∨ j = 4 ∨ j = 5 ∨ j = 6 := by omega
  all_goals rfl

theorem cell_apart {w : World} {b g i : Nat} {v u : Value} (h : w.cell? ⟨b, 0, none⟩ = some u) (hg : g < b) : (w.setCell ⟨g, i, none⟩ v).cell? ⟨b, 0, none⟩ = some u :=
  (World.cell?_setCell_other w ⟨g, i, none⟩ ⟨b, 0, none⟩ v (fun e => by injection e with e1; omega)).trans h

set_option maxRecDepth 100000 in
set_option maxHeartbeats 1000000 in
theorem won_calls {w : World} {g : Nat} {S : St} (j : Nat) (hj : S.self = j) (hv : S.vs j = true) (h : Co w g S) (hn : Near S) :
    Calls Try.prog 83 #[.pointer (some ⟨g, 0, none⟩)] w fun e w' => ∃ nx mt A1 c1 A c, e = .returned (.tuple #[]) ∧ Co w' g ((S.lead nx mt).put (zeroEnt S.term) A1 c1 A c) ∧ Chg (fun k => k = g) w w' ∧ NewsAt w g w' A c (S.bidx + S.log.length + 1) (zeroEnt S.term) := by
  have hbk := blk_new w (.cells #[.pointer (some ⟨g, 0, none⟩)] 24)
  have HB1 := Lib.hid ((Below.refl w.heap.size w).alloc (Nat.le_refl _) (.cells #[.pointer (some ⟨g, 0, none⟩)] 24))
  have HBK := Lib.hid hbk
  have H := Lib.hid h
  have HN := Lib.hid hn
  have HJ := Lib.hid hj
  have HV := Lib.hid hv
  have hgl := h.lt
  have hj7 : j < 7 := by have := hn.lone.s7; omega
  clear h hn hbk hj hv
  go_enter Try.func83, Try.ntmps83
  go_upto_region 1 with fail
  generalize w.alloc (.cells #[.pointer (some ⟨g, 0, none⟩)] 24) = w1 at HB1 HBK ⊢
  have HC1 := Lib.hid (H.out.below HB1.out)
  have hp1 : w1.cell? ⟨w.heap.size, 0, none⟩ = some (.pointer (some ⟨g, 0, none⟩)) := by rw [blk_cell HBK.out]; rfl
  have hd1 : ∀ w', Below w1.drew.heap.size w1.drew w' → Below w1.heap.size w1 w' := fun w' hb => (pw_below_drewN (Below.refl w1.heap.size w1) 1).trans hb
  have HLV : Hid (((S.voters.length : Nat) : Int) = 1) := Lib.hid (by rw [HN.out.lone.voters]; rfl)
  refine won_first _ _ _ _ _ _ _ _ _ _ _ _ _ _ _ _ _ _ _ _ _ _ _ _ _ _ _ _ _ _ _ _ _ _ _ _ _ _ _ _ _ _ _ _ _ _ _ _ _ _ _ _ _ g w.heap.size w1 _ S.A S.log.length S.cap 1 (fun _ _ _ _ _ h => h) hp1 HC1.out.c7 (decide_eq_false (by have := HN.out.room; omega)) (fun w' hb => count104_calls (HC1.out.below (hd1 w' hb)) HN.out.lone (pw_cell_below (hd1 w' hb) hp1) j HJ.out hj7 HV.out) (fun w' hb => ?_) ?_
  · have := isMajority_calls (HC1.out.below (hd1 w' hb)) 1 (by omega) (by omega)
    rw [HLV.out] at this
    exact this
  intro w2 hb2
  have HB2 := Lib.hid (HB1.out.trans ((hd1 w2 hb2).mono HB1.out.size))
  have HP2 := Lib.hid (pw_cell_below (hd1 w2 hb2) hp1)
  have HC2 := Lib.hid (H.out.below HB2.out)
  clear hp1 hd1 hb2 HC1
  simp only [Exit.then]
  go_upto_region 2 with fail
  refine won_second _ _ _ _ _ _ _ _ _ _ _ _ _ _ _ _ _ _ _ _ _ _ _ _ _ _ _ _ _ _ _ _ _ _ _ _ _ _ _ _ _ _ _ _ _ _ _ _ _ _ _ _ _ g w.heap.size w2 _ S.self (fun _ _ _ _ _ h => h) HP2.out HC2.out.c0 (by omega) ⟨_, HC2.out.c8⟩ ⟨_, HC2.out.c9⟩ ⟨_, HC2.out.c12⟩ (HC2.out.frozen 8) (HC2.out.frozen 9) (HC2.out.frozen 12) ?_
  have HC3 : Hid (Co (((w2.drew.setCell ⟨g, 8, none⟩ (.int .i64 2)).setCell ⟨g, 9, none⟩ (.int .i64 S.self)).setCell ⟨g, 12, none⟩ (.int .i64 0)) g (S.lead S.nx S.mt) ∧ Chg (fun k => k = g) w (((w2.drew.setCell ⟨g, 8, none⟩ (.int .i64 2)).setCell ⟨g, 9, none⟩ (.int .i64 S.self)).setCell ⟨g, 12, none⟩ (.int .i64 0))) := Lib.hid (by
    have hc : Chg (fun k => k = g) w2.drew (((w2.drew.setCell ⟨g, 8, none⟩ (.int .i64 2)).setCell ⟨g, 9, none⟩ (.int .i64 S.self)).setCell ⟨g, 12, none⟩ (.int .i64 0)) := ((((Chg.refl (fun k => k = g) w2.drew).setCell (p := ⟨g, 8, none⟩) (.inl (by rfl)) _).setCell (p := ⟨g, 9, none⟩) (.inl (by rfl)) _).setCell (p := ⟨g, 12, none⟩) (.inl (by rfl)) _)
    have hco : Co w2.drew g S := HC2.out.drewN 1
    exact ⟨hco.upd hc (blk_set (blk_set (blk_set hco.blk 8 (.int .i64 2)) 9 (.int .i64 S.self)) 12 (.int .i64 0)) rfl rfl rfl rfl rfl, ((Chg.of_same HB2.out (fun k => k = g)).drewN 1).trans hc (fun _ _ h => h)⟩)
  have HP3 : Hid ((((w2.drew.setCell ⟨g, 8, none⟩ (.int .i64 2)).setCell ⟨g, 9, none⟩ (.int .i64 S.self)).setCell ⟨g, 12, none⟩ (.int .i64 0)).cell? ⟨w.heap.size, 0, none⟩ = some (.pointer (some ⟨g, 0, none⟩))) := Lib.hid (cell_apart (cell_apart (cell_apart HP2.out hgl) hgl) hgl)
  simp only [Exit.then]
  go_wp2_with fail
  generalize ((w2.drew.setCell ⟨g, 8, none⟩ (.int .i64 2)).setCell ⟨g, 9, none⟩ (.int .i64 S.self)).setCell ⟨g, 12, none⟩ (.int .i64 0) = w3 at HC3 HP3 ⊢
  have hlo := H.out.lo
  have hhi := H.out.hi
  have hln := H.out.len
  go_loopw [30] (fun vi wr => ∃ (i : Nat), vi = .int .i64 i ∧ i ≤ 7 ∧ ∃ nx mt, Hid (Co wr g (S.lead nx mt) ∧ Chg (fun k => k = g) w wr ∧ wr.cell? ⟨w.heap.size, 0, none⟩ = some (.pointer (some ⟨g, 0, none⟩)))) (fun vi _ => 7 - (intOf vi).toNat)
  case atStart => exact ⟨0, rfl, by omega, S.nx, S.mt, Lib.hid ⟨HC3.out.1, HC3.out.2, HP3.out⟩⟩
  case round =>
  obtain ⟨i, rfl, hi, nx, mt, HR⟩ := hrel
  by_cases hi7 : i < 7
  · have hlt : decide ((i : Int) < 7) = true := decide_eq_true (by omega)
    go_upto_region 6 with fail
    have hdr : ∀ w', Below wr.drew.heap.size wr.drew w' → Below wr.heap.size wr w' := fun w' hb => (pw_below_drewN (Below.refl wr.heap.size wr) 1).trans hb
    refine won_loop _ _ _ _ _ _ _ _ _ _ _ _ _ _ _ _ _ _ _ _ _ _ _ _ _ _ _ _ _ _ _ _ _ _ _ _ _ _ _ _ _ _ _ _ _ _ _ _ _ _ _ _ g w.heap.size i wr _ (S.bidx + S.log.length) (S.bidx + S.log.length + 1) (fun _ _ _ _ _ h => h) HR.out.2.2 (by omega) hi7 (IntWalk.i64_in _ (by omega)) (fun w' hb => (last_calls (HR.out.1.below (hdr w' hb))).mono (fun e w'' ⟨he, m, hm⟩ => ⟨he, by rw [hm]; exact pw_below_drewN (Below.refl _ _) m⟩)) (fun w' hb => cell_next (HR.out.1.below (hdr w' hb)) i hi7) (fun w' hb => cell_match (HR.out.1.below (hdr w' hb)) i hi7) (fun w' hb => (HR.out.1.below (hdr w' hb)).frozen _) (fun w' hb => (HR.out.1.below (hdr w' hb)).frozen _) ?_
    intro w4 hb4
    have hb := hdr w4 hb4
    obtain ⟨nx', mt', hco⟩ := (HR.out.1.below hb).next i hi7 (S.bidx + S.log.length + 1) 0
    have hch : Chg (fun k => k = g) w ((w4.setCell ⟨g, 20 + i, none⟩ (.int .i64 (S.bidx + S.log.length + 1))).setCell ⟨g, 27 + i, none⟩ (.int .i64 0)) := ((HR.out.2.1.trans (Chg.of_same hb (fun k => k = g)) (fun _ _ h => h)).setCell (p := ⟨g, 20 + i, none⟩) (.inl (by rfl)) _).setCell (p := ⟨g, 27 + i, none⟩) (.inl (by rfl)) _
    have hcp : ((w4.setCell ⟨g, 20 + i, none⟩ (.int .i64 (S.bidx + S.log.length + 1))).setCell ⟨g, 27 + i, none⟩ (.int .i64 0)).cell? ⟨w.heap.size, 0, none⟩ = some (.pointer (some ⟨g, 0, none⟩)) := cell_apart (cell_apart (pw_cell_below hb HR.out.2.2) hgl) hgl
    have HR4 := Lib.hid (And.intro hco (And.intro hch hcp))
    clear hco hch hcp hb hb4 hdr
    generalize (w4.setCell ⟨g, 20 + i, none⟩ (.int .i64 (S.bidx + S.log.length + 1))).setCell ⟨g, 27 + i, none⟩ (.int .i64 0) = w5 at HR4 ⊢
    simp only [Exit.then]
    go_wp2_with fail
    go_roundw
    case measure => first | (simp [intOf]; done) | (simp [intOf]; omega)
    case rel => exact ⟨i + 1, by go_num, by omega, nx', mt', HR4⟩
  · have hlt : decide ((i : Int) < 7) = false := decide_eq_false (by omega)
    go_upto_region 8 with fail
    have hfit : Fit (S.lead nx mt) (zeroEnt S.term) := ⟨⟨HN.out.lone.s0, HN.out.lone.s7, HN.out.lone.bv, HN.out.lone.ks⟩, rfl, rfl, (by show (0 : Int) ≠ 2; omega), HN.out.com, HN.out.told, HN.out.room, HN.out.news, by show (0 : Nat) ≤ _; omega⟩
    refine won_last _ _ _ _ _ _ _ _ _ _ _ _ _ _ _ _ _ _ _ _ _ _ _ _ _ _ _ _ _ _ _ _ _ _ _ _ _ _ _ _ _ _ _ _ _ _ _ _ _ _ _ _ _ g w.heap.size wr _ S.term (fun w' => ∃ A1 c1 A c, Co w' g ((S.lead nx mt).put (zeroEnt S.term) A1 c1 A c) ∧ Chg (fun k => k = g) wr.drew w' ∧ NewsAt wr.drew g w' A c (S.bidx + S.log.length + 1) (zeroEnt S.term)) (fun _ _ _ _ _ h => h) HR.out.2.2 HR.out.1.c1 ?_ ?_
    · refine (add_calls (zeroEnt S.term) (HR.out.1.drewN 1) hfit).mono ?_
      rintro e w' ⟨A1, c1, A, c, he, h1, h2, h3⟩
      exact ⟨he, A1, c1, A, c, h1, h2, h3⟩
    rintro w6 ⟨A1, c1, A, c, h1, h2, h3⟩
    have HF1 := Lib.hid h1
    have HF2 := Lib.hid h2
    have HF3 := Lib.hid h3
    clear h1 h2 h3 hfit
    simp only [Exit.then]
    go_wp2_with fail
    go_end0
    exact ⟨nx, mt, A1, c1, A, c, rfl, HF1.out, (HR.out.2.1.drewN 1).trans HF2.out (fun _ _ h => h), HF3.out.weaken HR.out.2.1.size⟩

end Go.Proofs.Ytfanbhbpmhojaaa
