/- The methods of a council that write, at any council: take, follow. Conditions: as told of a council's block. -/
import Derived.Test.YtfanbhbpmhojaaaCo2
namespace Go.Proofs.Ytfanbhbpmhojaaa
open Go.RowKit Go.Proofs.YtfanbhbpmhojaaaW.PrintWords Go.Proofs.YtfanbhbpmhojaaaW.PrintLast Go.Proofs.YtfanbhbpmhojaaaW.PrintMore PRef
attribute [local go_sem] max2_int min2_int max_two min_two
set_option linter.unusedVariables false
set_option linter.unusedSimpArgs false

theorem inf32 : (Try.prog.info? 32).map (·.size) = some 3 := by kernel_rfl
theorem chg_setCells (b : Nat) : ∀ (vs : List Value) (o : Nat) (w : World), Chg (fun k => k = b) w (w.setCells b o vs)
  | [], _, w => Chg.refl _ w
  | v :: vs, o, w => by
    rw [World.setCells]
    exact ((Chg.refl (fun k => k = b) w).setCell (p := ⟨b, o, none⟩) (.inl (by rfl)) v).trans (chg_setCells b vs (o + 1) _) (fun _ _ h => h)
/-- A council of which nothing is asked for. -/
def St.quit (S : St) : St := { S with keep := false, mA := none, mN := 0, mC := 0, nA := none, nN := 0, nC := 0 }

set_option maxRecDepth 100000 in
theorem take_calls {w : World} {g : Nat} {S : St} (h : Co w g S) :
    Calls Try.prog 43 #[.pointer (some ⟨g, 0, none⟩)] w fun e w' => e = .returned (.agg #[.bool S.keep, .slice S.mA S.mN S.mC, .slice S.nA S.nN S.nC]) ∧ Co w' g S.quit ∧ Chg (fun k => k = g) w w' := by
  have c34 := h.c34
  have c35 := h.c35
  have c36 := h.c36
  have f34 := h.frozen 34
  have f35 := h.frozen 35
  have f36 := h.frozen 36
  have hg := h.lt
  have H := Lib.hid h
  clear h
  go_enter Try.func43, Try.ntmps43
  go_wp2_with fail
  have e1 := blk_set H.out.blk 34 (.bool false)
  have e2 := blk_set e1 35 (.slice none 0 0)
  have e3 := blk_set e2 36 (.slice none 0 0)
  have hc := ((((Chg.refl (fun k => k = g) w).setCell (p := ⟨g, 34, none⟩) (.inl (by rfl)) (.bool false)).setCell (p := ⟨g, 35, none⟩) (.inl (by rfl)) (.slice none 0 0)).setCell (p := ⟨g, 36, none⟩) (.inl (by rfl)) (.slice none 0 0))
  have hsz : (((w.setCell ⟨g, 34, none⟩ (.bool false)).setCell ⟨g, 35, none⟩ (.slice none 0 0)).setCell ⟨g, 36, none⟩ (.slice none 0 0)).heap.size = w.heap.size := by simp
  have HC3 : Hid (Co (((w.setCell ⟨g, 34, none⟩ (.bool false)).setCell ⟨g, 35, none⟩ (.slice none 0 0)).setCell ⟨g, 36, none⟩ (.slice none 0 0)) g S.quit) := Lib.hid (H.out.upd hc e3 rfl rfl rfl rfl rfl)
  clear e1 e2 e3
  generalize (((w.setCell ⟨g, 34, none⟩ (.bool false)).setCell ⟨g, 35, none⟩ (.slice none 0 0)).setCell ⟨g, 36, none⟩ (.slice none 0 0)) = w3 at hc hsz HC3 ⊢
  have k1 := blk_new w3 (.cells #[.bool S.keep, .slice S.mA S.mN S.mC, .slice S.nA S.nN S.nC] 32)
  have b1 := (Below.refl w3.heap.size w3).alloc (Nat.le_refl _) (.cells #[.bool S.keep, .slice S.mA S.mN S.mC, .slice S.nA S.nN S.nC] 32)
  generalize w3.alloc (.cells #[.bool S.keep, .slice S.mA S.mN S.mC, .slice S.nA S.nN S.nC] 32) = w4 at k1 b1 ⊢
  have b2 := (Below.refl w4.heap.size w4).alloc (Nat.le_refl _) (.cells #[.bool S.keep, .slice S.mA S.mN S.mC, .slice S.nA S.nN S.nC] 32)
  rw [hsz] at k1
  have k2 := blk_below k1 b2
  (try simp only [Exit.inBlock, Exit.then])
  refine bodyPost_ret (results_cell_row rfl _ _ w.heap.size 32 _ (0, 0) _ rfl k2 Try.underlying32 rfl inf32) rfl ?_
  have b3 := b1.trans (b2.mono b1.size)
  exact ⟨rfl, HC3.out.below b3, hc.trans (Chg.of_same b3 _) (fun _ _ h => h)⟩

set_option maxRecDepth 100000 in
theorem follow_calls {w : World} {g : Nat} {S : St} (h : Co w g S) (t : Int) (hst : S.term < t) :
    Calls Try.prog 67 #[.pointer (some ⟨g, 0, none⟩), .int .i64 t] w fun e w' => e = .returned (.tuple #[]) ∧ Co w' g { S with term := t, vote := -1, keep := true, role := 0, leader := -1 } ∧ Chg (fun k => k = g) w w' := by
  have c1 := h.c1
  have c2 := h.c2
  have c8 := h.c8
  have c9 := h.c9
  have c34 := h.c34
  have f1 := h.frozen 1
  have f2 := h.frozen 2
  have f8 := h.frozen 8
  have f9 := h.frozen 9
  have f34 := h.frozen 34
  have H := Lib.hid h
  have hb : decide (S.term < t) = true := decide_eq_true hst
  clear h hst
  go_enter Try.func67, Try.ntmps67
  go_wp2_with fail
  go_end0
  have e1 := blk_set H.out.blk 1 (.int .i64 t)
  have e2 := blk_set e1 2 (.int .i64 (-1))
  have e3 := blk_set e2 34 (.bool true)
  have e4 := blk_set e3 8 (.int .i64 0)
  have e5 := blk_set e4 9 (.int .i64 (-1))
  have hc := ((((((Chg.refl (fun k => k = g) w).setCell (p := ⟨g, 1, none⟩) (.inl (by rfl)) (.int .i64 t)).setCell (p := ⟨g, 2, none⟩) (.inl (by rfl)) (.int .i64 (-1))).setCell (p := ⟨g, 34, none⟩) (.inl (by rfl)) (.bool true)).setCell (p := ⟨g, 8, none⟩) (.inl (by rfl)) (.int .i64 0)).setCell (p := ⟨g, 9, none⟩) (.inl (by rfl)) (.int .i64 (-1)))
  exact ⟨rfl, H.out.upd hc e5 rfl rfl rfl rfl rfl, hc⟩

end Go.Proofs.Ytfanbhbpmhojaaa
