/- A council's isMail, of a mail of kind 11 without entries, and its mail. Conditions: those typed. Printed by wip/tools/mkHrA.py. A council's mail, and asked. Conditions: those typed. Printed by wip/tools/mkHrB.py. A council that hears a mail of kind 11. Conditions: it neither leads nor follows anybody, nothing is asked for. Printed by wip/tools/mkHrC.py. -/
import Derived.Test.YtfanbhbpmhojaaaLo1
import Derived.Test.YtfanbhbpmhojaaaVtX
import Derived.Test.YtfanbhbpmhojaaaWGuard
namespace Go.Proofs.Ytfanbhbpmhojaaa
open Go.RowKit Go.Proofs.YtfanbhbpmhojaaaW.PrintWords Go.Proofs.YtfanbhbpmhojaaaW.PrintLast Go.Proofs.YtfanbhbpmhojaaaW.PrintMore PRef
set_option linter.unusedVariables false
set_option linter.unusedSimpArgs false

/-- A mail's cells, as far as the council looks at them. -/
structure IsML (cs : Array Value) (k fr tt tm ix ps cm : Int) : Prop where
  size : cs.size = 28
  one : cs.all (·.oneCell') = true
  c0 : cs[0]? = some (.int .i64 k)
  c1 : cs[1]? = some (.int .i64 fr)
  c2 : cs[2]? = some (.int .i64 tt)
  c21 : cs[21]? = some (.int .i64 tm)
  c22 : cs[22]? = some (.int .i64 ix)
  c23 : cs[23]? = some (.int .i64 ps)
  c24 : cs[24]? = some (.int .i64 cm)
  c26 : cs[26]? = some (.slice none 0 0)
def isR (self fr tt tm ix ps cm : Int) : Prop := tt = self ∧ fr ≠ self ∧ 0 ≤ fr ∧ fr < 7 ∧ (0 ≤ ix ∧ ix ≤ 1099511627776) ∧ (0 ≤ ps ∧ ps ≤ 1099511627776) ∧ (0 ≤ cm ∧ cm ≤ 1099511627776) ∧ 1 ≤ tm ∧ tm ≤ 1099511627776 ∧ ps ≤ tm
def IsMP (self fr tt tm ix ps cm : Int) (w : World) (e : Ending) (w' : World) : Prop := ∃ b : Bool, e = .returned (.bool b) ∧ (b = true ↔ isR self fr tt tm ix ps cm) ∧ Below w.heap.size w w'
theorem isNode_any (a : Int) : council_isNode.f a = some (decide (0 ≤ a ∧ a < 7)) := by
  unfold council_isNode.f
  by_cases h : 0 ≤ a
  · rw [if_pos h]
    congr 1
    by_cases h7 : a < 7
    · rw [decide_eq_true h7, decide_eq_true ⟨h, h7⟩]
    · rw [decide_eq_false h7, decide_eq_false (fun q => h7 q.2)]
  · rw [if_neg h, decide_eq_false (fun q => h q.1)]

set_option maxRecDepth 100000 in
set_option maxHeartbeats 4000000 in
theorem ismail_calls {w : World} {g : Nat} {S : St} (h : Co w g S) {cs : Array Value} {fr tt tm ix ps cm : Int} (hm : IsML cs 11 fr tt tm ix ps cm) :
    Calls Try.prog 65 #[.pointer (some ⟨g, 0, none⟩), .agg cs] w fun e w' => IsMP S.self fr tt tm ix ps cm w e w' := by
  have HB := Lib.hid ((Below.refl w.heap.size w).alloc (Nat.le_refl _) (.cells cs 70))
  have HK := Lib.hid (blk_new w (.cells cs 70))
  have H := Lib.hid h
  have HM := Lib.hid hm
  clear h hm
  obtain ⟨self, hself⟩ : ∃ self, self = S.self := ⟨_, rfl⟩
  have HS := Lib.hid hself
  rw [← hself]
  clear hself
  go_enter Try.func65, Try.ntmps65
  go_upto_region 1 with fail
  generalize w.alloc (.cells cs 70) = w1 at HB HK ⊢
  have c0 : w1.cell? ⟨g, 0, none⟩ = some (.int .i64 self) := by rw [HS.out]; exact (H.out.below HB.out).c0
  have m0 : w1.cell? ⟨w.heap.size, 0, none⟩ = some (.int .i64 11) := by rw [blk_cell HK.out]; exact HM.out.c0
  have m1 : w1.cell? ⟨w.heap.size, 1, none⟩ = some (.int .i64 fr) := by rw [blk_cell HK.out]; exact HM.out.c1
  have m2 : w1.cell? ⟨w.heap.size, 2, none⟩ = some (.int .i64 tt) := by rw [blk_cell HK.out]; exact HM.out.c2
  obtain ⟨b1, hb1⟩ : ∃ b, (tt != self) = b := ⟨_, rfl⟩
  obtain ⟨b2, hb2⟩ : ∃ b, (fr == self) = b := ⟨_, rfl⟩
  obtain ⟨b3, hb3⟩ : ∃ b, decide (0 ≤ fr ∧ fr < 7) = b := ⟨_, rfl⟩
  refine ism_first _ _ _ _ _ _ _ _ _ _ _ _ _ _ _ _ _ _ _ _ _ _ _ _ _ _ _ _ _ _ _ _ _ _ _ _ _ _ _ _ _ _ _ _ _ _ _ _ _ _ _ _ _ _ _ _ _ _ _ _ _ _ _ _ _ _ _ _ _ _ _ _ _ _ _ _ _ _ _ _ _ _ _ _ _ _ _ _ _ _ _ _ _ _ _ _ _ _ _ _ _ _ _ _ _ _ _ _ _ _ _ _ g w.heap.size w1 _ self tt fr b1 b2 b3 (fun _ _ _ _ _ h => h) c0 m2 m1 m0 hb1 hb2 (fun w' _ => ((council_isNode.calls fr b3 w' (by rw [isNode_any, hb3])).mono (fun e w'' hq => ⟨hq.1, hq.2.below⟩))) ?_
  intro w2 hB2
  have HB2 := Lib.hid (HB.out.trans (((pw_below_drewN (Below.refl w1.heap.size w1) 1).trans hB2).mono HB.out.size))
  have HK2 := Lib.hid (blk_below (blk_drew HK.out) hB2)
  clear hB2 c0 m0 m1 m2
  have HB1 := Lib.hid hb1
  have HB2' := Lib.hid hb2
  have HB3 := Lib.hid hb3
  clear hb1 hb2 hb3
  (try simp only [Exit.then])
  cases b1
  case true =>
    simp only [Bool.true_or, Bool.false_or, Bool.or_true, Bool.or_false, Bool.not_true, Bool.not_false]
    go_wp2_with fail
    go_ret
    exact ⟨false, rfl, ⟨fun h => (by cases h), fun h => absurd h (fun q => by have h1 := HB1.out; rw [q.1] at h1; simp at h1)⟩, HB2.out⟩
  cases b2
  case true =>
    simp only [Bool.true_or, Bool.false_or, Bool.or_true, Bool.or_false, Bool.not_true, Bool.not_false]
    go_wp2_with fail
    go_ret
    exact ⟨false, rfl, ⟨fun h => (by cases h), fun h => absurd h (fun q => by have h1 := HB2'.out; simp only [beq_iff_eq] at h1; exact q.2.1 h1)⟩, HB2.out⟩
  cases b3
  case false =>
    go_wp2_with fail
    go_ret
    exact ⟨false, rfl, ⟨fun h => (by cases h), fun h => absurd h (fun q => by have h1 := HB3.out; rw [decide_eq_false_iff_not] at h1; exact h1 ⟨q.2.2.1, q.2.2.2.1⟩)⟩, HB2.out⟩
  have HOK : Hid (tt = self ∧ fr ≠ self ∧ 0 ≤ fr ∧ fr < 7) := Lib.hid (by
    have h1 := HB1.out
    have h2 := HB2'.out
    have h3 := HB3.out
    simp only [bne_eq_false_iff_eq] at h1
    simp only [beq_eq_false_iff_ne] at h2
    rw [decide_eq_true_iff] at h3
    exact ⟨h1, h2, h3.1, h3.2⟩)
  clear HB1 HB2' HB3
  have m22 : w2.cell? ⟨w.heap.size, 22, none⟩ = some (.int .i64 ix) := by rw [blk_cell HK2.out]; exact HM.out.c22
  have m23 : w2.cell? ⟨w.heap.size, 23, none⟩ = some (.int .i64 ps) := by rw [blk_cell HK2.out]; exact HM.out.c23
  have m24 : w2.cell? ⟨w.heap.size, 24, none⟩ = some (.int .i64 cm) := by rw [blk_cell HK2.out]; exact HM.out.c24
  go_upto_region 4 with fail
  have HK3 := Lib.hid (blk_new w2 (.cells #[.int .i64 ix, .int .i64 ps, .int .i64 cm] 3))
  have HB3 := Lib.hid (HB2.out.alloc HB2.out.size (.cells #[.int .i64 ix, .int .i64 ps, .int .i64 cm] 3))
  have HK2b := Lib.hid (blk_below HK2.out ((Below.refl w2.heap.size w2).alloc (Nat.le_refl _) (.cells #[.int .i64 ix, .int .i64 ps, .int .i64 cm] 3)))
  clear m22 m23 m24 HK2
  generalize hw3 : w2.alloc (.cells #[.int .i64 ix, .int .i64 ps, .int .i64 cm] 3) = w3 at HK3 HB3 HK2b ⊢
  clear hw3
  go_loopw [47] (fun vi wr => ∃ i : Nat, i ≤ 3 ∧ vi = .int .i64 i ∧ Hid (∀ j, j < i → 0 ≤ [ix, ps, cm].getD j 0 ∧ [ix, ps, cm].getD j 0 ≤ 1099511627776) ∧ Hid (wr = w3)) (fun vi _ => 3 - (intOf vi).toNat)
  case atStart => exact ⟨0, by omega, rfl, Lib.hid (fun j hj => absurd hj (by omega)), Lib.hid rfl⟩
  case round =>
  obtain ⟨i, hi, rfl, HO, HW⟩ := hrel
  obtain rfl := HW.out
  by_cases hlt : i < 3
  · have hcell : wr.cell? ⟨w2.heap.size, i, none⟩ = some (.int .i64 ([ix, ps, cm].getD i 0)) := by
      rw [blk_cell HK3.out]
      have : i = 0 ∨ i = 1 ∨ i = 2 := by omega
      rcases this with rfl | rfl | rfl <;> rfl
    obtain ⟨z, hz⟩ : ∃ z, z = [ix, ps, cm].getD i 0 := ⟨_, rfl⟩
    rw [← hz] at hcell
    have HZ := Lib.hid hz
    have hno : Hid (¬ (0 ≤ z ∧ z ≤ 1099511627776) → ¬ isR self fr tt tm ix ps cm) := Lib.hid (fun hh q => by
      apply hh
      rw [hz]
      have : i = 0 ∨ i = 1 ∨ i = 2 := by omega
      rcases this with rfl | rfl | rfl
      · exact q.2.2.2.2.1
      · exact q.2.2.2.2.2.1
      · exact q.2.2.2.2.2.2.1)
    clear hz
    by_cases h1 : z < 0
    · have h1b : decide (z < 0) = true := decide_eq_true h1
      have H1 := Lib.hid h1
      clear h1
      go_wp2_with fail
      go_ret
      exact ⟨false, rfl, ⟨fun h => (by cases h), fun h => absurd h (hno.out (fun q => by have := H1.out; have := q.1; omega))⟩, HB3.out⟩
    · have h1b : decide (z < 0) = false := decide_eq_false h1
      have H1 := Lib.hid h1
      clear h1
      by_cases h2 : 1099511627776 < z
      · have h2b : decide (1099511627776 < z) = true := decide_eq_true h2
        have H2 := Lib.hid h2
        clear h2
        go_wp2_with fail
        go_ret
        exact ⟨false, rfl, ⟨fun h => (by cases h), fun h => absurd h (hno.out (fun q => by have := H2.out; have := q.2; omega))⟩, HB3.out⟩
      · have h2b : decide (1099511627776 < z) = false := decide_eq_false h2
        have H2 := Lib.hid h2
        clear h2
        go_wp2_with fail
        go_roundw
        case measure => simp [intOf]; omega
        case rel =>
          refine ⟨i + 1, by omega, by go_num, Lib.hid (fun j hj => ?_), Lib.hid (by first | rfl | trivial)⟩
          by_cases hji : j = i
          · subst hji
            rw [← HZ.out]
            have := H1.out
            have := H2.out
            omega
          · exact HO.out j (by omega)
  obtain rfl : i = 3 := by omega
  have HO3 : Hid ((0 ≤ ix ∧ ix ≤ 1099511627776) ∧ (0 ≤ ps ∧ ps ≤ 1099511627776) ∧ (0 ≤ cm ∧ cm ≤ 1099511627776)) := Lib.hid ⟨HO.out 0 (by omega), HO.out 1 (by omega), HO.out 2 (by omega)⟩
  clear HO hi hlt
  have m0 : wr.cell? ⟨w.heap.size, 0, none⟩ = some (.int .i64 11) := by rw [blk_cell HK2b.out]; exact HM.out.c0
  have m21 : wr.cell? ⟨w.heap.size, 21, none⟩ = some (.int .i64 tm) := by rw [blk_cell HK2b.out]; exact HM.out.c21
  have m23 : wr.cell? ⟨w.heap.size, 23, none⟩ = some (.int .i64 ps) := by rw [blk_cell HK2b.out]; exact HM.out.c23
  have m26 : wr.cell? ⟨w.heap.size, 26, none⟩ = some (.slice none 0 0) := by rw [blk_cell HK2b.out]; exact HM.out.c26
  have HRI : Hid (Calls Try.prog 56 #[.slice none 0 0, .int .i64 ps, .int .i64 tm] wr fun e w' => RiseP ps tm [] wr e w') := Lib.hid (rise_calls wr none 0 [] ps tm ⟨rfl, by decide, fun h => absurd h (by decide)⟩ (fun x hx => by cases hx))
  by_cases hq : tm < 1
  · have hqb : decide (tm < 1) = true := decide_eq_true hq
    have HQ := Lib.hid hq
    clear hq
    go_wp2_with fail
    go_ret
    exact ⟨false, rfl, ⟨fun h => (by cases h), fun h => absurd h (fun q => by have h1 := HQ.out; have h2 := q.2.2.2.2.2.2.2; omega)⟩, HB3.out⟩
  have hqb0 : decide (tm < 1) = false := decide_eq_false hq
  have HQ0 := Lib.hid hq
  clear hq
  by_cases hq : 1099511627776 < tm
  · have hqb : decide (1099511627776 < tm) = true := decide_eq_true hq
    have HQ := Lib.hid hq
    clear hq
    go_wp2_with fail
    go_ret
    exact ⟨false, rfl, ⟨fun h => (by cases h), fun h => absurd h (fun q => by have h1 := HQ.out; have h2 := q.2.2.2.2.2.2.2; omega)⟩, HB3.out⟩
  have hqb1 : decide (1099511627776 < tm) = false := decide_eq_false hq
  have HQ1 := Lib.hid hq
  clear hq
  by_cases hq : tm < ps
  · have hqb : decide (tm < ps) = true := decide_eq_true hq
    have HQ := Lib.hid hq
    clear hq
    go_wp2_with fail
    go_ret
    exact ⟨false, rfl, ⟨fun h => (by cases h), fun h => absurd h (fun q => by have h1 := HQ.out; have h2 := q.2.2.2.2.2.2.2; omega)⟩, HB3.out⟩
  have hqb2 : decide (tm < ps) = false := decide_eq_false hq
  have HQ2 := Lib.hid hq
  clear hq
  go_wp2_with ((with_reducible refine HRI.out.mono ?_); rintro e wq ⟨b, rfl, hb⟩; have HRQ := Lib.hid hb; clear hb)
  go_ret
  refine ⟨b, rfl, ?_, HB3.out.trans (HRQ.out.2.mono HB3.out.size)⟩
  rw [HRQ.out.1]
  have q0 := HQ0.out
  have q1 := HQ1.out
  have q2 := HQ2.out
  constructor
  · intro hr
    exact ⟨HOK.out.1, HOK.out.2.1, HOK.out.2.2.1, HOK.out.2.2.2, HO3.out.1, HO3.out.2.1, HO3.out.2.2, by omega, by omega, by omega⟩
  · intro hr
    refine ⟨fun i hi => absurd hi (by simp), ?_⟩
    show ps ≤ tm
    exact hr.2.2.2.2.2.2.2.2.2

end Go.Proofs.Ytfanbhbpmhojaaa

namespace Go.Proofs.Ytfanbhbpmhojaaa
open Go.RowKit Go.Proofs.YtfanbhbpmhojaaaW.PrintWords Go.Proofs.YtfanbhbpmhojaaaW.PrintLast Go.Proofs.YtfanbhbpmhojaaaW.PrintMore PRef
set_option linter.unusedVariables false
set_option linter.unusedSimpArgs false

/-- A mail as it is sent. -/
def mailV (cs : Array Value) (self term : Int) : Array Value := (cs.setIfInBounds 1 (.int .i64 self)).setIfInBounds 21 (.int .i64 term)
theorem mailV_size (cs : Array Value) (self term : Int) : (mailV cs self term).size = cs.size := by unfold mailV; simp
theorem mem_set {l : List Value} {i : Nat} {u x : Value} (h : x ∈ l.set i u) : x ∈ l ∨ x = u := List.mem_or_eq_of_mem_set h
theorem mailV_one (cs : Array Value) (self term : Int) (h : cs.all (·.oneCell') = true) : ∀ x ∈ (mailV cs self term).toList, x.oneCell' = true := by
  intro x hx
  unfold mailV at hx
  rw [Array.toList_setIfInBounds, Array.toList_setIfInBounds] at hx
  rcases mem_set hx with hx | rfl
  · rcases mem_set hx with hx | rfl
    · rw [Array.all_eq_true_iff_forall_mem] at h
      exact h x (Array.mem_toList_iff.1 hx)
    · rfl
  · rfl
theorem Co.old {w w1 : World} {g : Nat} {S : St} (h : Co w g S) (hb : Below w.heap.size w w1) : Co w1 g S := h.below hb

set_option maxRecDepth 100000 in
set_option maxHeartbeats 4000000 in
theorem mail_calls {w : World} {g : Nat} {S : St} (h : Co w g S) (hn : S.mA = none ∧ S.mN = 0 ∧ S.mC = 0) {cs : Array Value} (hs : cs.size = 28) (h1 : cs.all (·.oneCell') = true) :
    Calls Try.prog 82 #[.pointer (some ⟨g, 0, none⟩), .agg cs] w fun e w' => ∃ A c, e = .returned (.tuple #[]) ∧ Co w' g { S with mA := A, mN := 1, mC := c } ∧ Chg (fun k => k = g) w w' ∧ w'.ownsRow w.heap.size 70 28 (.slice A 1 c) 1 (mailV cs S.self S.term).toList := by
  have HB := Lib.hid ((Below.refl w.heap.size w).alloc (Nat.le_refl _) (.cells cs 70))
  have HK := Lib.hid (blk_new w (.cells cs 70))
  have H := Lib.hid h
  have HN := Lib.hid hn
  have HS := Lib.hid hs
  have HO := Lib.hid h1
  have hgl := h.lt
  have HGL := Lib.hid hgl
  clear h hn hs h1
  obtain ⟨self, hself⟩ : ∃ self, self = S.self := ⟨_, rfl⟩
  obtain ⟨term, hterm⟩ : ∃ term, term = S.term := ⟨_, rfl⟩
  have HSE := Lib.hid hself
  have HTE := Lib.hid hterm
  rw [← hself, ← hterm]
  clear hself hterm
  go_enter Try.func82, Try.ntmps82
  go_upto_region 1 with fail
  generalize w.alloc (.cells cs 70) = w1 at HB HK ⊢
  have c0 : w1.cell? ⟨g, 0, none⟩ = some (.int .i64 self) := by rw [HSE.out]; exact (H.out.below HB.out).c0
  have c1 : w1.cell? ⟨g, 1, none⟩ = some (.int .i64 term) := by rw [HTE.out]; exact (H.out.below HB.out).c1
  obtain ⟨o1, ho1⟩ : ∃ v, cs[1]? = some v := ⟨_, Array.getElem?_eq_getElem (by rw [HS.out]; decide)⟩
  obtain ⟨o21, ho21⟩ : ∃ v, cs[21]? = some v := ⟨_, Array.getElem?_eq_getElem (by rw [HS.out]; decide)⟩
  have m1 : w1.cell? ⟨w.heap.size, 1, none⟩ = some o1 := by rw [blk_cell HK.out]; exact ho1
  have m21 : w1.cell? ⟨w.heap.size, 21, none⟩ = some o21 := by rw [blk_cell HK.out]; exact ho21
  have f1 := blk_frozen HK.out 1
  have f21 := blk_frozen HK.out 21
  have hne : g ≠ w.heap.size := by omega
  have hne2 : w.heap.size ≠ g := by omega
  clear ho1 ho21
  go_region
  (try simp only [Exit.then])
  have HK2 : Hid (((w1.setCell ⟨w.heap.size, 1, none⟩ (.int .i64 self)).setCell ⟨w.heap.size, 21, none⟩ (.int .i64 term)).drew.heap[w.heap.size]? = some (.cells (mailV cs self term) 70 (0, 0))) := Lib.hid (blk_drew (blk_set (blk_set HK.out 1 (.int .i64 self)) 21 (.int .i64 term)))
  have HB2 : Hid (Below w.heap.size w ((w1.setCell ⟨w.heap.size, 1, none⟩ (.int .i64 self)).setCell ⟨w.heap.size, 21, none⟩ (.int .i64 term)).drew) := Lib.hid (below_drew (below_set (below_set HB.out (Nat.le_refl _)) (Nat.le_refl _)))
  clear c0 c1 m1 m21 f1 f21
  go_upto_region 2 with fail
  generalize ((w1.setCell ⟨w.heap.size, 1, none⟩ (.int .i64 self)).setCell ⟨w.heap.size, 21, none⟩ (.int .i64 term)).drew = w2 at HK2 HB2 ⊢
  have HC2 := Lib.hid (H.out.below HB2.out)
  have c35 : w2.cell? ⟨g, 35, none⟩ = some (.slice none 0 0) := by rw [HC2.out.c35, HN.out.1, HN.out.2.1, HN.out.2.2]
  have HCd := Lib.hid (show Co w2.drew g S from HC2.out.drewN 1)
  refine mail_last _ _ _ _ _ _ _ _ _ _ _ _ _ _ _ _ _ _ _ _ _ _ _ _ g w.heap.size w2 _ (mailV cs self term) (fun _ _ _ _ _ h => h) c35 HK2.out (by rw [mailV_size]; exact HS.out) (mailV_one cs self term HO.out) (fun w' hb => (HCd.out.below hb).frozen 35) ?_
  intro A1 c1 w3 hown hB
  have hcs : Chg (fun k => k = g) w3 (w3.setCell ⟨g, 35, none⟩ (.slice A1 1 c1)) := (Chg.refl (fun k => k = g) w3).setCell (p := ⟨g, 35, none⟩) (.inl (by rfl)) _
  have hne : ∀ k, (Value.slice A1 1 c1).ownBlock = some k → k ≠ g := fun k hk e => by
    have h1 := own_base hown k hk
    have h2 : g < w2.drew.heap.size := HC2.out.lt
    omega
  have HC4 : Hid (Co (w3.setCell ⟨g, 35, none⟩ (.slice A1 1 c1)) g { S with mA := A1, mN := 1, mC := c1 } ∧ Chg (fun k => k = g) w (w3.setCell ⟨g, 35, none⟩ (.slice A1 1 c1)) ∧ (w3.setCell ⟨g, 35, none⟩ (.slice A1 1 c1)).ownsRow w.heap.size 70 28 (.slice A1 1 c1) 1 (mailV cs self term).toList) := Lib.hid (by
    refine ⟨(HCd.out.below hB).upd hcs (blk_set (HCd.out.below hB).blk 35 (.slice A1 1 c1)) rfl rfl rfl rfl rfl, ?_, ?_⟩
    · exact ((Chg.of_same ((below_drew HB2.out).trans (hB.mono (below_drew HB2.out).size)) (fun k => k = g))).trans hcs (fun _ _ h => h)
    · exact own_weaken (own_move hown (fun k hk => hcs.block k (own_lt hown k hk) (hne k hk))) (below_drew HB2.out).size)
  clear hcs hne hown hB c35
  (try simp only [Exit.then, Exit.inBlock])
  go_wp2_with fail
  go_end0
  obtain rfl := HSE.out
  obtain rfl := HTE.out
  exact ⟨A1, c1, rfl, HC4.out.1, HC4.out.2.1, HC4.out.2.2⟩

/-- What asked does. -/
def folS (S : St) (tm : Int) : St := if S.term < tm then { S with term := tm, vote := -1, keep := true, role := 0, leader := -1 } else S
def okS (S : St) (fr tm ix ps : Int) : Bool := ((tm == S.term) && (S.vote == -1 || S.vote == fr)) && (decide (atV S (S.bidx + S.log.length) < ps) || ((ps == atV S (S.bidx + S.log.length)) && decide (S.bidx + S.log.length ≤ ix)))
def givS (S : St) (fr : Int) (ok : Bool) : St := if ok then { S with keep := S.keep || (S.vote != fr), vote := fr, clock := 0 } else S
def votedC (tt : Int) (ok : Bool) : Array Value := #[.int .i64 12, .int .i64 0, .int .i64 tt, .int .i64 0, .int .i64 0, .int .i64 0, .int .i64 0, .int .i64 0, .int .i64 0, .int .i64 0, .int .i64 0, .bool false, .int .i64 0, .int .i64 0, .int .i64 0, .int .i64 0, .int .i64 0, .slice none 0 0, .int .i64 0, .slice none 0 0, .bool ok, .int .i64 0, .int .i64 0, .int .i64 0, .int .i64 0, .int .i64 0, .slice none 0 0, .string ⟨#[]⟩]
theorem votedC_one (tt : Int) (ok : Bool) : (votedC tt ok).all (·.oneCell') = true := by simp [votedC, Value.oneCell']
theorem folS_co (S : St) (tm : Int) : (folS S tm).role = (if S.term < tm then 0 else S.role) := by unfold folS; split <;> rfl

set_option maxRecDepth 100000 in
set_option maxHeartbeats 4000000 in
/-- asked, behind its follow. -/
theorem asked_calls {w : World} {g : Nat} {S : St} (h : Co w g S) (hr : S.role = 0) (hl : S.leader = -1) (hn : S.mA = none ∧ S.mN = 0 ∧ S.mC = 0) {cs : Array Value} {fr tt tm ix ps cm : Int} (hm : IsML cs 11 fr tt tm ix ps cm) :
    Calls Try.prog 66 #[.pointer (some ⟨g, 0, none⟩), .agg cs] w fun e w' => ∃ A c, e = .returned (.tuple #[]) ∧ Co w' g { givS (folS S tm) fr (okS (folS S tm) fr tm ix ps) with mA := A, mN := 1, mC := c } ∧ Chg (fun k => k = g) w w' ∧ w'.ownsRow w.heap.size 70 28 (.slice A 1 c) 1 (mailV (votedC fr (okS (folS S tm) fr tm ix ps)) S.self (folS S tm).term).toList := by
  have HB := Lib.hid ((Below.refl w.heap.size w).alloc (Nat.le_refl _) (.cells cs 70))
  have HK := Lib.hid (blk_new w (.cells cs 70))
  have H := Lib.hid h
  have HM := Lib.hid hm
  have HGL := Lib.hid h.lt
  have HR := Lib.hid hr
  have HL := Lib.hid hl
  obtain ⟨T, hT⟩ : ∃ T, T = folS S tm := ⟨_, rfl⟩
  have HTN : Hid (T.mA = none ∧ T.mN = 0 ∧ T.mC = 0) := Lib.hid (by
    rw [hT]
    unfold folS
    split
    · exact hn
    · exact hn)
  have HTS : Hid (T.self = S.self) := Lib.hid (by
    rw [hT]
    unfold folS
    split <;> rfl)
  rw [← hT, ← HTS.out]
  have HT := Lib.hid hT
  clear hT hn h hm hr hl
  go_enter Try.func66, Try.ntmps66
  go_upto_region 1 with fail
  generalize w.alloc (.cells cs 70) = w1 at HB HK ⊢
  have HC1 := Lib.hid (H.out.below HB.out)
  have c8 : w1.cell? ⟨g, 8, none⟩ = some (.int .i64 0) := by rw [HC1.out.c8, HR.out]
  have c9 : w1.cell? ⟨g, 9, none⟩ = some (.int .i64 (-1)) := by rw [HC1.out.c9, HL.out]
  go_upto_region 2 with fail
  clear c8 c9
  have c1 := HC1.out.c1
  have m21 : w1.cell? ⟨w.heap.size, 21, none⟩ = some (.int .i64 tm) := by rw [blk_cell HK.out]; exact HM.out.c21
  by_cases ht : S.term < tm
  · have htb : decide (S.term < tm) = true := decide_eq_true ht
    have HTT : Hid (T = { S with term := tm, vote := -1, keep := true, role := 0, leader := -1 }) := Lib.hid (by rw [HT.out]; unfold folS; rw [if_pos ht])
    have HTQ := Lib.hid ht
    clear ht
    have HFC : Hid (∀ n, Calls Try.prog 67 #[.pointer (some ⟨g, 0, none⟩), .int .i64 tm] (w1.drewN n) fun e w' => e = .returned (.tuple #[]) ∧ Co w' g T ∧ Chg (fun k => k = g) (w1.drewN n) w') := Lib.hid (fun n => by rw [HTT.out]; exact follow_calls (HC1.out.drewN n) tm HTQ.out)
    go_region
    (try simp only [Exit.then])
    have HFD : Hid (Calls Try.prog 67 #[.pointer (some ⟨g, 0, none⟩), .int .i64 tm] w1.drew fun e w' => e = .returned (.tuple #[]) ∧ Co w' g T ∧ Chg (fun k => k = g) w1.drew w') := Lib.hid (HFC.out 1)
    go_upto_region 4 with ((with_reducible refine HFD.out.mono ?_); rintro e wa ⟨rfl, hco, hch⟩; have HCA := Lib.hid hco; have HHA := Lib.hid hch; clear hco hch)
    have HWA : Hid (Chg (fun k => k = g) w wa) := Lib.hid (((Chg.of_same HB.out (fun k => k = g)).drew).trans HHA.out (fun _ _ h => h))
    have HKA : Hid (wa.heap[w.heap.size]? = some (.cells cs 70 (0, 0))) := Lib.hid (HHA.out.get (blk_drew HK.out) (by have := HGL.out; show ¬ w.heap.size = g; omega))
    clear c1 m21
    have hwa := HWA.out
    have m21a : wa.cell? ⟨w.heap.size, 21, none⟩ = some (.int .i64 tm) := by rw [blk_cell HKA.out]; exact HM.out.c21
    have HLO := Lib.hid HCA.out.lo
    have HHI := Lib.hid HCA.out.hi
    have HLE := Lib.hid HCA.out.len
    obtain ⟨li, hli⟩ : ∃ li, li = T.bidx + T.log.length := ⟨_, rfl⟩
    obtain ⟨lt, hlt⟩ : ∃ lt, lt = atV T (T.bidx + T.log.length) := ⟨_, rfl⟩
    have HLI := Lib.hid hli
    have HLT := Lib.hid hlt
    have HLC : Hid (∀ wx, Co wx g T → Calls Try.prog 17 #[.pointer (some ⟨g, 0, none⟩)] wx fun e w' => e = .returned (.int .i64 li) ∧ ∃ m, w' = wx.drewN m) := Lib.hid (fun wx hx => by rw [hli]; exact last_calls hx)
    have HAC : Hid (∀ wx, Co wx g T → Calls Try.prog 47 #[.pointer (some ⟨g, 0, none⟩), .int .i64 li] wx fun e w' => e = .returned (.int .i64 lt) ∧ ∃ m, w' = wx.drewN m) := Lib.hid (fun wx hx => by
      have := HLO.out
      have := HHI.out
      have := HLE.out
      rw [hli, hlt]
      exact at_calls hx _ (by omega) (by omega))
    clear hli hlt hwa m21a
    go_upto_region 5 with (first | ((with_reducible refine (HLC.out _ HCA.out).mono ?_); rintro e w4 ⟨rfl, m4, rfl⟩; have HCB := Lib.hid (HCA.out.drewN m4)) | ((with_reducible refine (HAC.out _ HCB.out).mono ?_); rintro e w5 ⟨rfl, m5, rfl⟩; have HCC := Lib.hid (HCB.out.drewN m5)))
    have HKC := Lib.hid (blk_drewN HKA.out (m4 + m5))
    have HWC := Lib.hid (HWA.out.drewN (m4 + m5))
    have HCD := Lib.hid (HCA.out.drewN (m4 + m5))
    clear HCB HCC
    have HCC := HCD
    clear HCD
    generalize wa.drewN (m4 + m5) = wc at HCC HKC HWC ⊢
    have c1 := HCC.out.c1
    have c2 := HCC.out.c2
    have m21 : wc.cell? ⟨w.heap.size, 21, none⟩ = some (.int .i64 tm) := by rw [blk_cell HKC.out]; exact HM.out.c21
    have m22 : wc.cell? ⟨w.heap.size, 22, none⟩ = some (.int .i64 ix) := by rw [blk_cell HKC.out]; exact HM.out.c22
    have m23 : wc.cell? ⟨w.heap.size, 23, none⟩ = some (.int .i64 ps) := by rw [blk_cell HKC.out]; exact HM.out.c23
    have m1 : wc.cell? ⟨w.heap.size, 1, none⟩ = some (.int .i64 fr) := by rw [blk_cell HKC.out]; exact HM.out.c1
    refine asked_ok _ _ _ _ _ _ _ _ _ _ _ _ _ _ _ _ _ _ _ _ _ _ _ _ _ _ _ _ _ _ _ _ _ _ _ _ _ _ _ _ _ _ _ _ _ _ _ _ _ _ _ _ _ _ _ _ _ _ _ _ _ _ _ _ _ _ _ _ _ _ _ _ _ _ _ _ _ _ _ _ _ _ _ _ _ _ _ _ _ _ _ _ _ _ _ _ _ _ _ _ _ _ _ _ _ _ _ _ _ _ _ _ g w.heap.size wc _ T.term T.vote tm fr ps ix lt li _ _ _ _ _ _ _ (fun _ _ _ _ _ h => h) c1 c2 m21 m1 m23 m22 rfl rfl rfl rfl rfl rfl rfl (fun w' hb => (HLC.out w' ((HCC.out.drewN 1).below hb)).mono (fun e w'' hq => ⟨hq.1, by obtain ⟨m, rfl⟩ := hq.2; exact pw_below_drewN (Below.refl _ _) m⟩)) ?_
    intro w6 hB6
    have HC6 := Lib.hid (Co.below (HCC.out.drewN 1) hB6)
    have HK6 := Lib.hid (blk_below (blk_drew HKC.out) hB6)
    have HW6 := Lib.hid (HWC.out.drew.trans (Chg.of_same hB6 (fun k => k = g)) (fun _ _ h => h))
    clear hB6 c1 c2 m21 m22 m23 m1
    generalize hok : (((tm == T.term) && (T.vote == -1 || T.vote == fr)) && (decide (lt < ps) || ((ps == lt) && decide (li ≤ ix)))) = ok
    have HOK : Hid (okS T fr tm ix ps = ok) := Lib.hid (by
      rw [← hok, HLT.out, HLI.out]
      rfl)
    clear hok
    (try simp only [Exit.then])
    cases ok
    case false =>
      have m1 : w6.cell? ⟨w.heap.size, 1, none⟩ = some (.int .i64 fr) := by rw [blk_cell HK6.out]; exact HM.out.c1
      have HML := Lib.hid (mail_calls HC6.out HTN.out (cs := votedC fr false) rfl (votedC_one fr false))
      unfold votedC at HML
      go_wp2_with ((with_reducible refine HML.out.mono ?_); rintro e w9 ⟨A, c, rfl, hco, hch, hown⟩; have HC9 := Lib.hid hco; have HH9 := Lib.hid hch; have HO9 := Lib.hid hown; clear hco hch hown)
      go_end0
      rw [HOK.out]
      refine ⟨A, c, rfl, HC9.out, HW6.out.trans HH9.out (fun _ _ h => h), own_weaken HO9.out HW6.out.size⟩
    case true =>
      have c34 := HC6.out.c34
      have c2 := HC6.out.c2
      have m1 : w6.cell? ⟨w.heap.size, 1, none⟩ = some (.int .i64 fr) := by rw [blk_cell HK6.out]; exact HM.out.c1
      go_upto_region 7 with fail
      refine asked_keep _ _ _ _ _ _ _ _ _ _ _ _ _ _ _ _ _ _ _ _ _ _ _ _ _ _ _ _ _ _ _ _ _ _ _ _ _ _ _ _ _ _ _ _ _ _ _ _ _ _ _ _ _ _ _ _ _ _ _ _ _ _ _ _ _ _ _ _ _ _ _ _ _ _ _ _ _ _ _ _ _ _ _ _ _ _ _ _ _ _ _ _ _ _ _ _ _ _ _ _ _ _ _ _ _ _ _ _ _ _ _ _ _ g w.heap.size w6 _ T.vote fr T.keep _ (fun _ _ _ _ _ h => h) c34 c2 m1 rfl ((HC6.out.drewN 1).frozen 34) ?_
      have hc7 : Chg (fun k => k = g) w6 (w6.drew.setCell ⟨g, 34, none⟩ (.bool (T.keep || T.vote != fr))) := ((Chg.refl (fun k => k = g) w6).drew).setCell (p := ⟨g, 34, none⟩) (.inl (by rfl)) _
      have HC7 : Hid (Co (w6.drew.setCell ⟨g, 34, none⟩ (.bool (T.keep || T.vote != fr))) g { T with keep := T.keep || T.vote != fr }) := Lib.hid (HC6.out.upd hc7 (blk_set (blk_drew HC6.out.blk) 34 (.bool (T.keep || T.vote != fr))) rfl rfl rfl rfl rfl)
      have HK7 : Hid ((w6.drew.setCell ⟨g, 34, none⟩ (.bool (T.keep || T.vote != fr))).heap[w.heap.size]? = some (.cells cs 70 (0, 0))) := Lib.hid (hc7.get HK6.out (by have := HGL.out; show ¬ w.heap.size = g; omega))
      have HW7 := Lib.hid (HW6.out.trans hc7 (fun _ _ h => h))
      clear hc7 c34 c2 m1
      generalize w6.drew.setCell ⟨g, 34, none⟩ (.bool (T.keep || T.vote != fr)) = w7 at HC7 HK7 HW7 ⊢
      (try simp only [Exit.then])
      have c2 := HC7.out.c2
      have c12 := HC7.out.c12
      have f2 := HC7.out.frozen 2
      have f12 := HC7.out.frozen 12
      have m1 : w7.cell? ⟨w.heap.size, 1, none⟩ = some (.int .i64 fr) := by rw [blk_cell HK7.out]; exact HM.out.c1
      go_upto_region 9 with fail
      have hc8 : Chg (fun k => k = g) w7 ((w7.setCell ⟨g, 2, none⟩ (.int .i64 fr)).setCell ⟨g, 12, none⟩ (.int .i64 0)) := ((Chg.refl (fun k => k = g) w7).setCell (p := ⟨g, 2, none⟩) (.inl (by rfl)) _).setCell (p := ⟨g, 12, none⟩) (.inl (by rfl)) _
      have HC8 : Hid (Co ((w7.setCell ⟨g, 2, none⟩ (.int .i64 fr)).setCell ⟨g, 12, none⟩ (.int .i64 0)) g (givS T fr true)) := Lib.hid (HC7.out.upd hc8 (blk_set (blk_set HC7.out.blk 2 (.int .i64 fr)) 12 (.int .i64 0)) rfl rfl rfl rfl rfl)
      have HK8 : Hid (((w7.setCell ⟨g, 2, none⟩ (.int .i64 fr)).setCell ⟨g, 12, none⟩ (.int .i64 0)).heap[w.heap.size]? = some (.cells cs 70 (0, 0))) := Lib.hid (hc8.get HK7.out (by have := HGL.out; show ¬ w.heap.size = g; omega))
      have HW8 := Lib.hid (HW7.out.trans hc8 (fun _ _ h => h))
      clear hc8 c2 c12 f2 f12 m1
      generalize (w7.setCell ⟨g, 2, none⟩ (.int .i64 fr)).setCell ⟨g, 12, none⟩ (.int .i64 0) = w8 at HC8 HK8 HW8 ⊢
      have m1 : w8.cell? ⟨w.heap.size, 1, none⟩ = some (.int .i64 fr) := by rw [blk_cell HK8.out]; exact HM.out.c1
      have HML := Lib.hid (mail_calls HC8.out HTN.out (cs := votedC fr true) rfl (votedC_one fr true))
      unfold votedC at HML
      go_wp2_with ((with_reducible refine HML.out.mono ?_); rintro e w9 ⟨A, c, rfl, hco, hch, hown⟩; have HC9 := Lib.hid hco; have HH9 := Lib.hid hch; have HO9 := Lib.hid hown; clear hco hch hown)
      go_end0
      rw [HOK.out]
      refine ⟨A, c, rfl, HC9.out, HW8.out.trans HH9.out (fun _ _ h => h), own_weaken HO9.out HW8.out.size⟩
  · have htb : decide (S.term < tm) = false := decide_eq_false ht
    have HTT : Hid (T = S) := Lib.hid (by rw [HT.out]; unfold folS; rw [if_neg ht])
    clear ht
    go_region
    (try simp only [Exit.then])
    have HCA0 : Hid (Co w1.drew g T) := Lib.hid (by rw [HTT.out]; exact HC1.out.drewN 1)
    have HKA0 := Lib.hid (blk_drew HK.out)
    have HWA0 : Hid (Chg (fun k => k = g) w w1.drew) := Lib.hid ((Chg.of_same HB.out (fun k => k = g)).drew)
    clear c1 m21
    go_upto_region 4 with fail
    obtain ⟨wa, hwa⟩ : ∃ wa, wa = w1.drew := ⟨_, rfl⟩
    rw [← hwa] at HCA0 HKA0 HWA0 ⊢
    clear hwa
    have HCA := HCA0
    have HKA := HKA0
    have HWA := HWA0
    clear HCA0 HKA0 HWA0
    have hwa := HWA.out
    have m21a : wa.cell? ⟨w.heap.size, 21, none⟩ = some (.int .i64 tm) := by rw [blk_cell HKA.out]; exact HM.out.c21
    have HLO := Lib.hid HCA.out.lo
    have HHI := Lib.hid HCA.out.hi
    have HLE := Lib.hid HCA.out.len
    obtain ⟨li, hli⟩ : ∃ li, li = T.bidx + T.log.length := ⟨_, rfl⟩
    obtain ⟨lt, hlt⟩ : ∃ lt, lt = atV T (T.bidx + T.log.length) := ⟨_, rfl⟩
    have HLI := Lib.hid hli
    have HLT := Lib.hid hlt
    have HLC : Hid (∀ wx, Co wx g T → Calls Try.prog 17 #[.pointer (some ⟨g, 0, none⟩)] wx fun e w' => e = .returned (.int .i64 li) ∧ ∃ m, w' = wx.drewN m) := Lib.hid (fun wx hx => by rw [hli]; exact last_calls hx)
    have HAC : Hid (∀ wx, Co wx g T → Calls Try.prog 47 #[.pointer (some ⟨g, 0, none⟩), .int .i64 li] wx fun e w' => e = .returned (.int .i64 lt) ∧ ∃ m, w' = wx.drewN m) := Lib.hid (fun wx hx => by
      have := HLO.out
      have := HHI.out
      have := HLE.out
      rw [hli, hlt]
      exact at_calls hx _ (by omega) (by omega))
    clear hli hlt hwa m21a
    go_upto_region 5 with (first | ((with_reducible refine (HLC.out _ HCA.out).mono ?_); rintro e w4 ⟨rfl, m4, rfl⟩; have HCB := Lib.hid (HCA.out.drewN m4)) | ((with_reducible refine (HAC.out _ HCB.out).mono ?_); rintro e w5 ⟨rfl, m5, rfl⟩; have HCC := Lib.hid (HCB.out.drewN m5)))
    have HKC := Lib.hid (blk_drewN HKA.out (m4 + m5))
    have HWC := Lib.hid (HWA.out.drewN (m4 + m5))
    have HCD := Lib.hid (HCA.out.drewN (m4 + m5))
    clear HCB HCC
    have HCC := HCD
    clear HCD
    generalize wa.drewN (m4 + m5) = wc at HCC HKC HWC ⊢
    have c1 := HCC.out.c1
    have c2 := HCC.out.c2
    have m21 : wc.cell? ⟨w.heap.size, 21, none⟩ = some (.int .i64 tm) := by rw [blk_cell HKC.out]; exact HM.out.c21
    have m22 : wc.cell? ⟨w.heap.size, 22, none⟩ = some (.int .i64 ix) := by rw [blk_cell HKC.out]; exact HM.out.c22
    have m23 : wc.cell? ⟨w.heap.size, 23, none⟩ = some (.int .i64 ps) := by rw [blk_cell HKC.out]; exact HM.out.c23
    have m1 : wc.cell? ⟨w.heap.size, 1, none⟩ = some (.int .i64 fr) := by rw [blk_cell HKC.out]; exact HM.out.c1
    refine asked_ok _ _ _ _ _ _ _ _ _ _ _ _ _ _ _ _ _ _ _ _ _ _ _ _ _ _ _ _ _ _ _ _ _ _ _ _ _ _ _ _ _ _ _ _ _ _ _ _ _ _ _ _ _ _ _ _ _ _ _ _ _ _ _ _ _ _ _ _ _ _ _ _ _ _ _ _ _ _ _ _ _ _ _ _ _ _ _ _ _ _ _ _ _ _ _ _ _ _ _ _ _ _ _ _ _ _ _ _ _ _ _ _ g w.heap.size wc _ T.term T.vote tm fr ps ix lt li _ _ _ _ _ _ _ (fun _ _ _ _ _ h => h) c1 c2 m21 m1 m23 m22 rfl rfl rfl rfl rfl rfl rfl (fun w' hb => (HLC.out w' ((HCC.out.drewN 1).below hb)).mono (fun e w'' hq => ⟨hq.1, by obtain ⟨m, rfl⟩ := hq.2; exact pw_below_drewN (Below.refl _ _) m⟩)) ?_
    intro w6 hB6
    have HC6 := Lib.hid (Co.below (HCC.out.drewN 1) hB6)
    have HK6 := Lib.hid (blk_below (blk_drew HKC.out) hB6)
    have HW6 := Lib.hid (HWC.out.drew.trans (Chg.of_same hB6 (fun k => k = g)) (fun _ _ h => h))
    clear hB6 c1 c2 m21 m22 m23 m1
    generalize hok : (((tm == T.term) && (T.vote == -1 || T.vote == fr)) && (decide (lt < ps) || ((ps == lt) && decide (li ≤ ix)))) = ok
    have HOK : Hid (okS T fr tm ix ps = ok) := Lib.hid (by
      rw [← hok, HLT.out, HLI.out]
      rfl)
    clear hok
    (try simp only [Exit.then])
    cases ok
    case false =>
      have m1 : w6.cell? ⟨w.heap.size, 1, none⟩ = some (.int .i64 fr) := by rw [blk_cell HK6.out]; exact HM.out.c1
      have HML := Lib.hid (mail_calls HC6.out HTN.out (cs := votedC fr false) rfl (votedC_one fr false))
      unfold votedC at HML
      go_wp2_with ((with_reducible refine HML.out.mono ?_); rintro e w9 ⟨A, c, rfl, hco, hch, hown⟩; have HC9 := Lib.hid hco; have HH9 := Lib.hid hch; have HO9 := Lib.hid hown; clear hco hch hown)
      go_end0
      rw [HOK.out]
      refine ⟨A, c, rfl, HC9.out, HW6.out.trans HH9.out (fun _ _ h => h), own_weaken HO9.out HW6.out.size⟩
    case true =>
      have c34 := HC6.out.c34
      have c2 := HC6.out.c2
      have m1 : w6.cell? ⟨w.heap.size, 1, none⟩ = some (.int .i64 fr) := by rw [blk_cell HK6.out]; exact HM.out.c1
      go_upto_region 7 with fail
      refine asked_keep _ _ _ _ _ _ _ _ _ _ _ _ _ _ _ _ _ _ _ _ _ _ _ _ _ _ _ _ _ _ _ _ _ _ _ _ _ _ _ _ _ _ _ _ _ _ _ _ _ _ _ _ _ _ _ _ _ _ _ _ _ _ _ _ _ _ _ _ _ _ _ _ _ _ _ _ _ _ _ _ _ _ _ _ _ _ _ _ _ _ _ _ _ _ _ _ _ _ _ _ _ _ _ _ _ _ _ _ _ _ _ _ _ g w.heap.size w6 _ T.vote fr T.keep _ (fun _ _ _ _ _ h => h) c34 c2 m1 rfl ((HC6.out.drewN 1).frozen 34) ?_
      have hc7 : Chg (fun k => k = g) w6 (w6.drew.setCell ⟨g, 34, none⟩ (.bool (T.keep || T.vote != fr))) := ((Chg.refl (fun k => k = g) w6).drew).setCell (p := ⟨g, 34, none⟩) (.inl (by rfl)) _
      have HC7 : Hid (Co (w6.drew.setCell ⟨g, 34, none⟩ (.bool (T.keep || T.vote != fr))) g { T with keep := T.keep || T.vote != fr }) := Lib.hid (HC6.out.upd hc7 (blk_set (blk_drew HC6.out.blk) 34 (.bool (T.keep || T.vote != fr))) rfl rfl rfl rfl rfl)
      have HK7 : Hid ((w6.drew.setCell ⟨g, 34, none⟩ (.bool (T.keep || T.vote != fr))).heap[w.heap.size]? = some (.cells cs 70 (0, 0))) := Lib.hid (hc7.get HK6.out (by have := HGL.out; show ¬ w.heap.size = g; omega))
      have HW7 := Lib.hid (HW6.out.trans hc7 (fun _ _ h => h))
      clear hc7 c34 c2 m1
      generalize w6.drew.setCell ⟨g, 34, none⟩ (.bool (T.keep || T.vote != fr)) = w7 at HC7 HK7 HW7 ⊢
      (try simp only [Exit.then])
      have c2 := HC7.out.c2
      have c12 := HC7.out.c12
      have f2 := HC7.out.frozen 2
      have f12 := HC7.out.frozen 12
      have m1 : w7.cell? ⟨w.heap.size, 1, none⟩ = some (.int .i64 fr) := by rw [blk_cell HK7.out]; exact HM.out.c1
      go_upto_region 9 with fail
      have hc8 : Chg (fun k => k = g) w7 ((w7.setCell ⟨g, 2, none⟩ (.int .i64 fr)).setCell ⟨g, 12, none⟩ (.int .i64 0)) := ((Chg.refl (fun k => k = g) w7).setCell (p := ⟨g, 2, none⟩) (.inl (by rfl)) _).setCell (p := ⟨g, 12, none⟩) (.inl (by rfl)) _
      have HC8 : Hid (Co ((w7.setCell ⟨g, 2, none⟩ (.int .i64 fr)).setCell ⟨g, 12, none⟩ (.int .i64 0)) g (givS T fr true)) := Lib.hid (HC7.out.upd hc8 (blk_set (blk_set HC7.out.blk 2 (.int .i64 fr)) 12 (.int .i64 0)) rfl rfl rfl rfl rfl)
      have HK8 : Hid (((w7.setCell ⟨g, 2, none⟩ (.int .i64 fr)).setCell ⟨g, 12, none⟩ (.int .i64 0)).heap[w.heap.size]? = some (.cells cs 70 (0, 0))) := Lib.hid (hc8.get HK7.out (by have := HGL.out; show ¬ w.heap.size = g; omega))
      have HW8 := Lib.hid (HW7.out.trans hc8 (fun _ _ h => h))
      clear hc8 c2 c12 f2 f12 m1
      generalize (w7.setCell ⟨g, 2, none⟩ (.int .i64 fr)).setCell ⟨g, 12, none⟩ (.int .i64 0) = w8 at HC8 HK8 HW8 ⊢
      have m1 : w8.cell? ⟨w.heap.size, 1, none⟩ = some (.int .i64 fr) := by rw [blk_cell HK8.out]; exact HM.out.c1
      have HML := Lib.hid (mail_calls HC8.out HTN.out (cs := votedC fr true) rfl (votedC_one fr true))
      unfold votedC at HML
      go_wp2_with ((with_reducible refine HML.out.mono ?_); rintro e w9 ⟨A, c, rfl, hco, hch, hown⟩; have HC9 := Lib.hid hco; have HH9 := Lib.hid hch; have HO9 := Lib.hid hown; clear hco hch hown)
      go_end0
      rw [HOK.out]
      refine ⟨A, c, rfl, HC9.out, HW8.out.trans HH9.out (fun _ _ h => h), own_weaken HO9.out HW8.out.size⟩

end Go.Proofs.Ytfanbhbpmhojaaa

namespace Go.Proofs.Ytfanbhbpmhojaaa
open Go.RowKit Go.Proofs.YtfanbhbpmhojaaaW.PrintWords Go.Proofs.YtfanbhbpmhojaaaW.PrintLast Go.Proofs.YtfanbhbpmhojaaaW.PrintMore PRef
set_option linter.unusedVariables false
set_option linter.unusedSimpArgs false

/-- The council behind a mail that may be its. -/
def heardS (S : St) (fr tm ix ps : Int) : St := givS (folS S tm) fr (okS (folS S tm) fr tm ix ps)
def HearP (S : St) (g : Nat) (fr tt tm ix ps cm : Int) (w : World) (e : Ending) (w' : World) : Prop :=
  (¬ isR S.self fr tt tm ix ps cm ∧ e = .returned (.agg #[.bool false, .slice none 0 0, .slice none 0 0]) ∧ Co w' g S ∧ Chg (fun k => k = g) w w') ∨
  (isR S.self fr tt tm ix ps cm ∧ ∃ A c, e = .returned (.agg #[.bool (heardS S fr tm ix ps).keep, .slice A 1 c, .slice none 0 0]) ∧ Co w' g (heardS S fr tm ix ps).quit ∧ Chg (fun k => k = g) w w' ∧ w'.ownsRow w.heap.size 70 28 (.slice A 1 c) 1 (mailV (votedC fr (okS (folS S tm) fr tm ix ps)) S.self (folS S tm).term).toList)
theorem heard_na (S : St) (fr tm ix ps : Int) : (heardS S fr tm ix ps).nA = S.nA ∧ (heardS S fr tm ix ps).nN = S.nN ∧ (heardS S fr tm ix ps).nC = S.nC := by
  unfold heardS givS folS
  split <;> split <;> exact ⟨rfl, rfl, rfl⟩

set_option maxRecDepth 100000 in
set_option maxHeartbeats 4000000 in
theorem hear_calls {w : World} {g : Nat} {S : St} (h : Co w g S) (hr : S.role = 0) (hl : S.leader = -1) (hn : S.mA = none ∧ S.mN = 0 ∧ S.mC = 0) (hna : S.nA = none ∧ S.nN = 0 ∧ S.nC = 0) {cs : Array Value} {fr tt tm ix ps cm : Int} (hm : IsML cs 11 fr tt tm ix ps cm) :
    Calls Try.prog 29 #[.pointer (some ⟨g, 0, none⟩), .agg cs] w fun e w' => HearP S g fr tt tm ix ps cm w e w' := by
  have HB0 := Lib.hid ((Below.refl w.heap.size w).alloc (Nat.le_refl _) (.cells cs 70))
  have HK0 := Lib.hid (blk_new w (.cells cs 70))
  have hs0 : (w.alloc (.cells cs 70)).heap.size = w.heap.size + 1 := by simp
  have HS0 := Lib.hid hs0
  have H := Lib.hid h
  have HM := Lib.hid hm
  have HGL := Lib.hid h.lt
  have HINF : Hid ((Try.prog.info? 70).map (·.size) = some cs.size) := Lib.hid (by rw [hm.size]; exact inf70)
  have HPR := Lib.hid (And.intro hr (And.intro hl (And.intro hn hna)))
  clear h hm hr hl hn hna hs0
  go_enter Try.func29, Try.ntmps29
  go_upto_region 1 with fail
  have HK : Hid (((w.alloc (.cells cs 70)).alloc (.cells #[.bool false, .slice none 0 0, .slice none 0 0] 32)).heap[w.heap.size]? = some (.cells cs 70 (0, 0))) := Lib.hid (blk_below HK0.out ((Below.refl _ _).alloc (Nat.le_refl _) _))
  have HR : Hid (((w.alloc (.cells cs 70)).alloc (.cells #[.bool false, .slice none 0 0, .slice none 0 0] 32)).heap[w.heap.size + 1]? = some (.cells #[.bool false, .slice none 0 0, .slice none 0 0] 32 (0, 0))) := Lib.hid (by rw [← HS0.out]; exact blk_new _ _)
  have HB : Hid (Below w.heap.size w ((w.alloc (.cells cs 70)).alloc (.cells #[.bool false, .slice none 0 0, .slice none 0 0] 32))) := Lib.hid (HB0.out.alloc HB0.out.size _)
  have hsz := HS0.out
  (try rw [hsz])
  clear hsz HS0 HK0 HB0
  generalize (w.alloc (.cells cs 70)).alloc (.cells #[.bool false, .slice none 0 0, .slice none 0 0] 32) = w1 at HK HR HB ⊢
  have HC1 := Lib.hid (H.out.below HB.out)
  have HIM := Lib.hid (ismail_calls HC1.out HM.out)
  by_cases hR : isR S.self fr tt tm ix ps cm
  · have HRR := Lib.hid hR
    have HI2 : Hid (Calls Try.prog 65 #[.pointer (some ⟨g, 0, none⟩), .agg cs] w1 fun e w' => e = .returned (.bool true) ∧ Below w1.heap.size w1 w') := Lib.hid (HIM.out.mono (fun e w' q => by
      obtain ⟨b, he, hb, hbb⟩ := q
      have := hb.2 HRR.out
      subst this
      exact ⟨he, hbb⟩))
    clear hR HIM
    go_upto_region 3 with (first | (refine gate_guard (by rfl) ?_; dsimp only; refine wpList_load_row rfl 70 (.tmp 3) rfl w.heap.size rfl 70 cs (0, 0) _ HK.out Try.underlying70 rfl HINF.out ?_) | ((with_reducible refine HI2.out.mono ?_); rintro e w3 ⟨rfl, hb⟩; have HB3 := Lib.hid hb; clear hb))
    have HC3 := Lib.hid (HC1.out.below HB3.out)
    have HK3 := Lib.hid (blk_below HK.out HB3.out)
    have HR3 := Lib.hid (blk_below HR.out HB3.out)
    have HW3 := Lib.hid (Chg.of_same (HB.out.trans (HB3.out.mono HB.out.size)) (fun k => k = g))
    have HRL := Lib.hid (blk_lt HR3.out)
    clear HC1 HK HR HB HB3 HI2
    have m0 : w3.cell? ⟨w.heap.size, 0, none⟩ = some (.int .i64 11) := by rw [blk_cell HK3.out]; exact HM.out.c0
    have HAS := Lib.hid (asked_calls HC3.out HPR.out.1 HPR.out.2.1 HPR.out.2.2.1 HM.out)
    go_upto_region 5 with (first | (refine wpList_load_row rfl 70 (.tmp 3) rfl w.heap.size rfl 70 cs (0, 0) _ HK3.out Try.underlying70 rfl HINF.out ?_) | ((with_reducible refine HAS.out.mono ?_); rintro e w4 ⟨A, c, rfl, hco, hch, hown⟩; have HC4 := Lib.hid hco; have HH4 := Lib.hid hch; have HO4 := Lib.hid hown; clear hco hch hown))
    have HR4 : Hid (w4.heap[w.heap.size + 1]? = some (.cells #[.bool false, .slice none 0 0, .slice none 0 0] 32 (0, 0))) := Lib.hid (HH4.out.get HR3.out (by have := HGL.out; show ¬ w.heap.size + 1 = g; omega))
    have HW4 := Lib.hid (HW3.out.trans HH4.out (fun _ _ h => h))
    clear m0 HAS HR3
    obtain ⟨T, hT⟩ : ∃ T, T = heardS S fr tm ix ps := ⟨_, rfl⟩
    have HT := Lib.hid hT
    have HC5 : Hid (Co w4 g { T with mA := A, mN := 1, mC := c }) := Lib.hid (by rw [hT]; exact HC4.out)
    have HNA : Hid (T.nA = none ∧ T.nN = 0 ∧ T.nC = 0) := Lib.hid (by
      rw [hT]
      have h := heard_na S fr tm ix ps
      rw [h.1, h.2.1, h.2.2]
      exact HPR.out.2.2.2)
    have HTK : Hid (Calls Try.prog 43 #[.pointer (some ⟨g, 0, none⟩)] w4 fun e w' => e = .returned (.agg #[.bool T.keep, .slice A 1 c, .slice none 0 0]) ∧ Co w' g T.quit ∧ Chg (fun k => k = g) w4 w') := Lib.hid ((take_calls HC5.out).mono (fun e w' q => by
      refine ⟨?_, q.2.1, q.2.2⟩
      rw [q.1]
      show Ending.returned (.agg #[.bool T.keep, .slice A 1 c, .slice T.nA T.nN T.nC]) = _
      rw [HNA.out.1, HNA.out.2.1, HNA.out.2.2]))
    clear hT HC4
    go_wp2_with (first | ((with_reducible refine HTK.out.mono ?_); rintro e w5 ⟨rfl, hco, hch⟩; have HC6 := Lib.hid hco; have HH5 := Lib.hid hch; clear hco hch; have HR5 : Hid (w5.heap[w.heap.size + 1]? = some (.cells #[.bool false, .slice none 0 0, .slice none 0 0] 32 (0, 0))) := Lib.hid (HH5.out.get HR4.out (by have := HGL.out; show ¬ w.heap.size + 1 = g; omega))) | (refine wpList_store_row rfl 32 (.tmp 4) (.tmp 21) rfl (w.heap.size + 1) #[.bool T.keep, .slice A 1 c, .slice none 0 0] rfl rfl 32 _ HR5.out inf32 rfl (by simp [Value.oneCell']) ?_))
    (try simp only [Exit.inBlock, Exit.then])
    refine bodyPost_ret (results_cell_row rfl _ _ (w.heap.size + 1) 32 _ (0, 0) _ rfl (setRow_heap _ _ _ _ _ _ HR5.out) Try.underlying32 rfl inf32) rfl ?_
    have hcr : Chg (fun k => k = g) w (w5.setRow (w.heap.size + 1) #[.bool T.keep, .slice A 1 c, .slice none 0 0]) := (HW4.out.trans HH5.out (fun _ _ h => h)).trans (chg_setRow _ _ _) (fun i hi hk => by omega)
    have hne : ∀ k, (Value.slice A 1 c).ownBlock = some k → k ≠ g ∧ k ≠ w.heap.size + 1 := fun k hk => by
      have h1 := own_base HO4.out k hk
      have h2 := HC3.out.lt
      have h3 := blk_lt HK3.out
      have h4 := HH4.out.size
      refine ⟨by omega, fun e => ?_⟩
      have h5 : w.heap.size + 1 < w3.heap.size := HRL.out
      omega
    refine .inr ⟨HRR.out, A, c, by rw [← HT.out], by rw [← HT.out]; exact HC6.out.row_far (by have := HGL.out; omega) HR5.out, hcr, ?_⟩
    have h1 := own_move HO4.out (w1 := w5.setRow (w.heap.size + 1) #[.bool T.keep, .slice A 1 c, .slice none 0 0]) (fun k hk => ((HH5.out.mono (ok' := fun k => k = g ∨ k = w.heap.size + 1) (fun i hi => .inl hi)).trans (chg_setRow _ _ _) (fun i _ hi => .inr hi)).block k (own_lt HO4.out k hk) (fun hh => by have := hne k hk; rcases hh with hh | hh; exact this.1 hh; exact this.2 hh))
    exact own_weaken h1 HW3.out.size
  · have HRR := Lib.hid hR
    have HI2 : Hid (Calls Try.prog 65 #[.pointer (some ⟨g, 0, none⟩), .agg cs] w1 fun e w' => e = .returned (.bool false) ∧ Below w1.heap.size w1 w') := Lib.hid (HIM.out.mono (fun e w' q => by
      obtain ⟨b, he, hb, hbb⟩ := q
      cases b
      · exact ⟨he, hbb⟩
      · exact absurd (hb.1 rfl) HRR.out))
    clear hR HIM
    go_wp2_with (first | (refine gate_guard (by rfl) ?_; dsimp only; refine wpList_load_row rfl 70 (.tmp 3) rfl w.heap.size rfl 70 cs (0, 0) _ HK.out Try.underlying70 rfl HINF.out ?_) | ((with_reducible refine HI2.out.mono ?_); rintro e w3 ⟨rfl, hb⟩; have HB3 := Lib.hid hb; clear hb; have HR3 := Lib.hid (blk_below HR.out HB3.out)) | (refine wpList_store_row rfl 32 (.tmp 4) (.tmp 13) rfl (w.heap.size + 1) #[.bool false, .slice none 0 0, .slice none 0 0] rfl rfl 32 _ HR3.out inf32 rfl (by simp [Value.oneCell']) ?_))
    (try simp only [Exit.inBlock, Exit.then])
    refine bodyPost_ret (results_cell_row rfl _ _ (w.heap.size + 1) 32 _ (0, 0) _ rfl (setRow_heap _ _ _ _ _ _ HR3.out) Try.underlying32 rfl inf32) rfl ?_
    refine .inl ⟨HRR.out, rfl, (HC1.out.below HB3.out).row_far (by have := HGL.out; omega) HR3.out, (Chg.of_same (HB.out.trans (HB3.out.mono HB.out.size)) (fun k => k = g)).trans (chg_setRow _ _ _) (fun i hi hk => by omega)⟩

end Go.Proofs.Ytfanbhbpmhojaaa
