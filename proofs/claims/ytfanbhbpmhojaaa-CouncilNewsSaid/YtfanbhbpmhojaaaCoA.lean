/- A voter alone: open, Offer. Conditions: as told of a council's block; its one voter is itself. -/
import Derived.Test.YtfanbhbpmhojaaaCo9
namespace Go.Proofs.Ytfanbhbpmhojaaa
open Go.RowKit Go.Proofs.YtfanbhbpmhojaaaW.PrintWords Go.Proofs.YtfanbhbpmhojaaaW.PrintLast Go.Proofs.YtfanbhbpmhojaaaW.PrintMore PRef
attribute [local go_sem] max2_int min2_int max_two min_two
set_option linter.unusedVariables false
set_option linter.unusedSimpArgs false

theorem ret_word {fn : Func} {p q : Tmp} (h : fn.results = #[.cell p 32, .tmp q]) (tmps : Array Value) (w : World) (g : Nat) (t : TypeId) (cs : Array Value)
    (hp : tmps.getD p undef = .pointer (some ⟨g, 0, none⟩)) (hg : w.heap[g]? = some (.cells cs t (0, 0))) (hi : (Try.prog.info? 32).map (·.size) = some cs.size) :
    (results fn tmps).run Try.prog w = .ok (.tuple #[.agg cs, tmps.getD q undef]) w := by
  rw [results_cell_tmp h, hp]
  simp [asAddr, Result.andThen, run_loadVar_row w g t 32 cs (0, 0) _ hg Try.underlying32 rfl hi]
/-- A word that asks for nothing. -/
abbrev noWord : Value := .agg #[.bool false, .slice none 0 0, .slice none 0 0]

set_option maxRecDepth 100000 in
theorem open_calls {w : World} {g : Nat} {S : St} (h : Co w g S) (hc : S.commit = S.bidx + S.log.length) (ht : atV S (S.bidx + S.log.length) = S.term) :
    Calls Try.prog 39 #[.pointer (some ⟨g, 0, none⟩)] w fun e w' => e = .returned (.bool false) ∧ ∃ m, w' = w.drewN m := by
  have c10 := h.c10
  have c1 := h.c1
  have hlo := h.lo
  have hhi := h.hi
  have hln := h.len
  rw [hc] at c10
  have H := Lib.hid h
  obtain ⟨i, hi⟩ : ∃ i, i = S.bidx + S.log.length := ⟨_, rfl⟩
  have hi0 : 0 ≤ i := by omega
  have hi1 : i ≤ 2199023259648 := by omega
  have HLA : Hid (Calls Try.prog 17 #[.pointer (some ⟨g, 0, none⟩)] w fun e w' => e = .returned (.int .i64 i) ∧ ∃ k, w' = w.drewN k) := Lib.hid (by rw [hi]; exact last_calls h)
  have HAT : ∀ k m, Hid (Calls Try.prog 47 #[.pointer (some ⟨g, 0, none⟩), .int .i64 i] ((w.drewN k).drewN m) fun e w' => e = .returned (.int .i64 S.term) ∧ ∃ n, w' = ((w.drewN k).drewN m).drewN n) := fun k m => Lib.hid (by
    have := at_calls ((h.drewN k).drewN m) i (by omega) (by omega)
    rw [hi, ht] at this
    rw [hi]
    exact this)
  rw [← hi] at c10
  clear h hc ht hi hlo hhi hln
  go_enter Try.func39, Try.ntmps39
  go_wp2_with fail
  go_loopw [3] (fun vi wr => vi = .int .i64 (i + 1) ∧ w = wr) (fun _ _ => 0)
  case atStart => exact ⟨rfl, rfl⟩
  case round =>
  obtain ⟨rfl, hwr⟩ := hrel
  subst hwr
  have hd : decide (i + 1 ≤ i) = false := decide_eq_false (by omega)
  go_wp2_with ((with_reducible refine HLA.out.mono ?_); rintro e w1 ⟨rfl, m, hm⟩; have c10a : w1.cell? ⟨g, 10, none⟩ = some (.int .i64 i) := (by rw [hm]; exact c10); have c1a : w1.cell? ⟨g, 1, none⟩ = some (.int .i64 S.term) := (by rw [hm]; exact c1); have HAW : ∀ n, Hid (Calls Try.prog 47 #[.pointer (some ⟨g, 0, none⟩), .int .i64 i] (w1.drewN n) fun e w' => e = .returned (.int .i64 S.term) ∧ ∃ k, w' = (w1.drewN n).drewN k) := (fun n => by rw [hm]; exact HAT m n); have HM := Lib.hid hm; clear hm)
  go_quiet ((go_at_call 47; exact Calls.quiet_of (HAW _).out))
  go_wp2_with fail
  go_ret
  exact ⟨rfl, _, by rw [HM.out]; exact World.drewN_drewN _ _ _⟩

end Go.Proofs.Ytfanbhbpmhojaaa
