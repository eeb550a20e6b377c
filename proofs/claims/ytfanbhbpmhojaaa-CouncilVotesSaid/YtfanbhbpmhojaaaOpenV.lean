/- How arguments that are states and mails are opened into the walks' words. No conditions beyond those typed. Printed by wip/tools/mkOpenV.py. -/
import Derived.Test.YtfanbhbpmhojaaaVotesL
import Derived.Test.YtfanbhbpmhojaaaRows
import Derived.OpenShut
import Derived.DataReads
import Derived.DataElems
import Derived.Deep.Matrix
import Derived.ChangeSlices
namespace Go.Proofs.Ytfanbhbpmhojaaa
open Go.RowKit Go.Deep Go.ChangeShapes Go.WideShapes Go.Proofs.YtfanbhbpmhojaaaW.PrintWords Go.Proofs.YtfanbhbpmhojaaaW.PrintMore PRef
set_option linter.unusedVariables false
set_option linter.unusedSimpArgs false

section
variable {H : Type} {enc : TypeId × Value → H} {w : World} {base : Nat} {held : Bool} {spare : Nat → Bool}
/-- A slice that came in, element by element, as the print's kinds read it. -/
theorem open_rowK {α : Type} (d : Kd α) (W : α → Prop) {t e : TypeId} {fuel : Nat} {a : Option Addr} {len cap : Nat} {x : DataW H × List MemPlace} (ht : Try.prog.underlying t = some (.slice e)) (hc : Try.prog.cellsOf e = d.sz)
    (each : ∀ n cs y, DataW.trod enc Try.prog w base spare held n e cs = some y → ∃ p, d.K w p cs ∧ W p)
    (h : DataW.trod enc Try.prog w base spare held fuel t [.slice a len cap] = some x) : ∃ ps : List α, ps.length = len ∧ len ≤ cap ∧ d.C w a len ps ∧ ∀ p ∈ ps, W p := by
  rcases DataW.trod_slice ht h with ⟨h0, _⟩ | ⟨ad, l, c, elems, rest, n, _, h0, _, hb, hl, hm, hlen, hel, _, _⟩
  · simp at h0
    obtain ⟨rfl, rfl, rfl⟩ := h0
    exact ⟨[], rfl, Nat.le_refl _, ⟨rfl, by omega, fun h => absurd h (by omega)⟩, fun p hp => by cases hp⟩
  · simp at h0
    obtain ⟨rfl, rfl, rfl⟩ := h0
    have hq : ∀ i : Fin len, ∃ p : α, W p ∧ ∃ cs, d.K w p cs ∧ w.cells? base (ad.add (i * Try.prog.cellsOf e)) (Try.prog.cellsOf e) = some cs := fun i => by
      have h1 := hel i i.2
      obtain ⟨y, hy⟩ : ∃ y, elems[(i : Nat)]? = some y := ⟨_, List.getElem?_eq_getElem (by have := i.2; omega)⟩
      rw [hy, Option.bind_eq_some_iff] at h1
      obtain ⟨cs, h2, h3⟩ := h1
      obtain ⟨p, h4, h5⟩ := each n cs y h3
      exact ⟨p, h5, cs, h4, h2⟩
    refine ⟨List.ofFn fun i => Classical.choose (hq i), by simp, hl, ⟨by simp, by unfold maxLen at hm; omega, fun hp => ⟨ad, rfl, fun j p hj => ?_⟩⟩, fun p hp => ?_⟩
    · rw [List.getElem?_ofFn] at hj
      split at hj
      · rename_i hjl
        injection hj with hj
        obtain ⟨hw, cs, hk, hcs⟩ := Classical.choose_spec (hq ⟨j, hjl⟩)
        rw [hj] at hk
        obtain ⟨_, h2, h3⟩ := World.cells?_some hcs
        refine ⟨cs, d.K_len hk, hk, fun i u hu => ?_⟩
        have hi : i < cs.length := by
          rcases Nat.lt_or_ge i cs.length with h | h
          · exact h
          · rw [List.getElem?_eq_none h] at hu; cases hu
        have := h3 i (by omega)
        rw [hu] at this
        rw [← this, Addr.add_add, ← hc]
      · cases hj
    · rw [List.mem_ofFn] at hp
      obtain ⟨i, rfl⟩ := hp
      exact (Classical.choose_spec (hq i)).1
theorem op_int {t : TypeId} {n : Nat} {cs : List Value} {y : DataW H × List MemPlace} (ht : Try.prog.underlying t = some (.int .i64)) (h : DataW.trod enc Try.prog w base spare held n t cs = some y) : ∃ v, cs = [.int .i64 v] ∧ I64 v := by
  obtain ⟨v, h1, _, h2⟩ := DataW.trod_int ht h
  exact ⟨v, h1, bounds_i64 h2⟩
theorem op_row {α : Type} (d : Kd α) (W : α → Prop) {t e : TypeId} {n : Nat} {cs : List Value} {y : DataW H × List MemPlace} (ht : Try.prog.underlying t = some (.slice e)) (hc : Try.prog.cellsOf e = d.sz)
    (each : ∀ n cs y, DataW.trod enc Try.prog w base spare held n e cs = some y → ∃ p, d.K w p cs ∧ W p) (h : DataW.trod enc Try.prog w base spare held n t cs = some y) : ∃ a cap ps, cs = [.slice a ps.length cap] ∧ (d.C w a ps.length ps ∧ ps.length ≤ cap) ∧ ∀ p ∈ ps, W p := by
  obtain ⟨a, len, cap, rfl⟩ : ∃ a len cap, cs = [.slice a len cap] := by
    rcases DataW.trod_slice ht h with ⟨h0, _⟩ | ⟨ad, l, c, elems, rest, n, _, h0, _⟩
    · exact ⟨_, _, _, h0⟩
    · exact ⟨_, _, _, h0⟩
  obtain ⟨ps, h1, h2, h3, h4⟩ := open_rowK d W ht hc each h
  subst h1
  exact ⟨a, cap, ps, rfl, ⟨h3, h2⟩, h4⟩
theorem cut_drop {l p : List Value} {o s : Nat} (h : (l.drop o).take s = p) : l.drop o = p ++ l.drop (o + s) := by
  rw [← h, ← List.drop_drop, List.take_append_drop]
theorem op9 : ∀ n cs y, DataW.trod enc Try.prog w base spare held n 9 cs = some y → ∃ p, Kd.string.K w p cs ∧ p.size ≤ 9223372036854775807 := fun n cs y h => by
  obtain ⟨v, h1, _, h2⟩ := DataW.trod_string Try.underlying9 h
  exact ⟨v, h1, by unfold maxLen at h2; omega⟩
theorem op_sl {t e : TypeId} {n : Nat} {cs : List Value} {y : DataW H × List MemPlace} (ht : Try.prog.underlying t = some (.slice e)) (h : DataW.trod enc Try.prog w base spare held n t cs = some y) : ∃ a len cap, cs = [.slice a len cap] := by
  rcases DataW.trod_slice ht h with ⟨h0, _⟩ | ⟨ad, l, c, elems, rest, n, _, h0, _⟩
  · exact ⟨_, _, _, h0⟩
  · exact ⟨_, _, _, h0⟩
set_option maxRecDepth 100000 in
theorem op39 : ∀ n cs y, DataW.trod enc Try.prog w base spare held n 39 cs = some y → ∃ p, k39.K w p cs ∧ p.f2.size ≤ 9223372036854775807 := fun n cs y h => by
  obtain ⟨xs, m, _, _, hl, hx, hf⟩ := DataW.trod_struct Try.underlying39 h
  rw [show Try.prog.cellsOf 39 = 3 from by kernel_rfl] at hl
  obtain ⟨y0, hy0⟩ : ∃ y, xs[0]? = some y := ⟨_, List.getElem?_eq_getElem (by rw [hx]; decide)⟩
  have g0 : DataW.trod enc Try.prog w base spare held m 3 (List.take (Try.prog.cellsOf 3) (List.drop 0 cs)) = xs[0]? := hf 0 _ rfl
  rw [hy0] at g0
  rw [show Try.prog.cellsOf 3 = 1 from by kernel_rfl] at g0
  obtain ⟨a, e0, ia⟩ := op_int Try.underlying3 g0
  have d0 := cut_drop e0
  obtain ⟨y1, hy1⟩ : ∃ y, xs[1]? = some y := ⟨_, List.getElem?_eq_getElem (by rw [hx]; decide)⟩
  have g1 : DataW.trod enc Try.prog w base spare held m 3 (List.take (Try.prog.cellsOf 3) (List.drop 1 cs)) = xs[1]? := hf 1 _ rfl
  rw [hy1] at g1
  rw [show Try.prog.cellsOf 3 = 1 from by kernel_rfl] at g1
  obtain ⟨b, e1, ib⟩ := op_int Try.underlying3 g1
  have d1 := cut_drop e1
  obtain ⟨y2, hy2⟩ : ∃ y, xs[2]? = some y := ⟨_, List.getElem?_eq_getElem (by rw [hx]; decide)⟩
  have g2 : DataW.trod enc Try.prog w base spare held m 9 (List.take (Try.prog.cellsOf 9) (List.drop 2 cs)) = xs[2]? := hf 2 _ rfl
  rw [hy2] at g2
  rw [show Try.prog.cellsOf 9 = 1 from by kernel_rfl] at g2
  obtain ⟨s, e2, _, zs⟩ := DataW.trod_string Try.underlying9 g2
  have d2 := cut_drop e2
  have dn : cs.drop 3 = [] := List.drop_of_length_le (by omega)
  have ec : cs = cs.drop 0 := rfl
  rw [d0, d1, d2, dn] at ec
  subst ec
  exact ⟨⟨a, b, s⟩, k39_mk w ⟨a, b, s⟩, by unfold maxLen at zs; exact Nat.le_trans zs (by decide)⟩
set_option maxRecDepth 100000 in
theorem op61 : ∀ n cs y, DataW.trod enc Try.prog w base spare held n 61 cs = some y → ∃ a b, cs = [.int .i64 a, .int .i64 b] := fun n cs y h => by
  obtain ⟨xs, m, _, _, hl, hx, hf⟩ := DataW.trod_struct Try.underlying61 h
  rw [show Try.prog.cellsOf 61 = 2 from by kernel_rfl] at hl
  obtain ⟨y0, hy0⟩ : ∃ y, xs[0]? = some y := ⟨_, List.getElem?_eq_getElem (by rw [hx]; decide)⟩
  have g0 : DataW.trod enc Try.prog w base spare held m 3 (List.take (Try.prog.cellsOf 3) (List.drop 0 cs)) = xs[0]? := hf 0 _ rfl
  rw [hy0] at g0
  rw [show Try.prog.cellsOf 3 = 1 from by kernel_rfl] at g0
  obtain ⟨a, e0, ia⟩ := op_int Try.underlying3 g0
  have d0 := cut_drop e0
  obtain ⟨y1, hy1⟩ : ∃ y, xs[1]? = some y := ⟨_, List.getElem?_eq_getElem (by rw [hx]; decide)⟩
  have g1 : DataW.trod enc Try.prog w base spare held m 3 (List.take (Try.prog.cellsOf 3) (List.drop 1 cs)) = xs[1]? := hf 1 _ rfl
  rw [hy1] at g1
  rw [show Try.prog.cellsOf 3 = 1 from by kernel_rfl] at g1
  obtain ⟨b, e1, ib⟩ := op_int Try.underlying3 g1
  have d1 := cut_drop e1
  have dn : cs.drop 2 = [] := List.drop_of_length_le (by omega)
  have ec : cs = cs.drop 0 := rfl
  rw [d0, d1, dn] at ec
  subst ec
  exact ⟨a, b, rfl⟩
set_option maxRecDepth 100000 in
theorem op63 : ∀ n cs y, DataW.trod enc Try.prog w base spare held n 63 cs = some y → ∃ a b, cs = [.int .i64 a, .int .i64 b] := fun n cs y h => by
  obtain ⟨xs, m, _, _, hl, hx, hf⟩ := DataW.trod_struct Try.underlying63 h
  rw [show Try.prog.cellsOf 63 = 2 from by kernel_rfl] at hl
  obtain ⟨y0, hy0⟩ : ∃ y, xs[0]? = some y := ⟨_, List.getElem?_eq_getElem (by rw [hx]; decide)⟩
  have g0 : DataW.trod enc Try.prog w base spare held m 3 (List.take (Try.prog.cellsOf 3) (List.drop 0 cs)) = xs[0]? := hf 0 _ rfl
  rw [hy0] at g0
  rw [show Try.prog.cellsOf 3 = 1 from by kernel_rfl] at g0
  obtain ⟨a, e0, ia⟩ := op_int Try.underlying3 g0
  have d0 := cut_drop e0
  obtain ⟨y1, hy1⟩ : ∃ y, xs[1]? = some y := ⟨_, List.getElem?_eq_getElem (by rw [hx]; decide)⟩
  have g1 : DataW.trod enc Try.prog w base spare held m 3 (List.take (Try.prog.cellsOf 3) (List.drop 1 cs)) = xs[1]? := hf 1 _ rfl
  rw [hy1] at g1
  rw [show Try.prog.cellsOf 3 = 1 from by kernel_rfl] at g1
  obtain ⟨b, e1, ib⟩ := op_int Try.underlying3 g1
  have d1 := cut_drop e1
  have dn : cs.drop 2 = [] := List.drop_of_length_le (by omega)
  have ec : cs = cs.drop 0 := rfl
  rw [d0, d1, dn] at ec
  subst ec
  exact ⟨a, b, rfl⟩
set_option maxRecDepth 100000 in
theorem op65 : ∀ n cs y, DataW.trod enc Try.prog w base spare held n 65 cs = some y → ∃ (a b c d e : Int) (A : Option Addr) (n k : Nat), cs = [.int .i64 a, .int .i64 b, .int .i64 c, .int .i64 d, .int .i64 e, .slice A n k] := fun n cs y h => by
  obtain ⟨xs, m, _, _, hl, hx, hf⟩ := DataW.trod_struct Try.underlying65 h
  rw [show Try.prog.cellsOf 65 = 6 from by kernel_rfl] at hl
  obtain ⟨y0, hy0⟩ : ∃ y, xs[0]? = some y := ⟨_, List.getElem?_eq_getElem (by rw [hx]; decide)⟩
  have g0 : DataW.trod enc Try.prog w base spare held m 3 (List.take (Try.prog.cellsOf 3) (List.drop 0 cs)) = xs[0]? := hf 0 _ rfl
  rw [hy0] at g0
  rw [show Try.prog.cellsOf 3 = 1 from by kernel_rfl] at g0
  obtain ⟨a, e0, ia⟩ := op_int Try.underlying3 g0
  have d0 := cut_drop e0
  obtain ⟨y1, hy1⟩ : ∃ y, xs[1]? = some y := ⟨_, List.getElem?_eq_getElem (by rw [hx]; decide)⟩
  have g1 : DataW.trod enc Try.prog w base spare held m 3 (List.take (Try.prog.cellsOf 3) (List.drop 1 cs)) = xs[1]? := hf 1 _ rfl
  rw [hy1] at g1
  rw [show Try.prog.cellsOf 3 = 1 from by kernel_rfl] at g1
  obtain ⟨b, e1, ib⟩ := op_int Try.underlying3 g1
  have d1 := cut_drop e1
  obtain ⟨y2, hy2⟩ : ∃ y, xs[2]? = some y := ⟨_, List.getElem?_eq_getElem (by rw [hx]; decide)⟩
  have g2 : DataW.trod enc Try.prog w base spare held m 3 (List.take (Try.prog.cellsOf 3) (List.drop 2 cs)) = xs[2]? := hf 2 _ rfl
  rw [hy2] at g2
  rw [show Try.prog.cellsOf 3 = 1 from by kernel_rfl] at g2
  obtain ⟨c, e2, ic⟩ := op_int Try.underlying3 g2
  have d2 := cut_drop e2
  obtain ⟨y3, hy3⟩ : ∃ y, xs[3]? = some y := ⟨_, List.getElem?_eq_getElem (by rw [hx]; decide)⟩
  have g3 : DataW.trod enc Try.prog w base spare held m 3 (List.take (Try.prog.cellsOf 3) (List.drop 3 cs)) = xs[3]? := hf 3 _ rfl
  rw [hy3] at g3
  rw [show Try.prog.cellsOf 3 = 1 from by kernel_rfl] at g3
  obtain ⟨d, e3, id⟩ := op_int Try.underlying3 g3
  have d3 := cut_drop e3
  obtain ⟨y4, hy4⟩ : ∃ y, xs[4]? = some y := ⟨_, List.getElem?_eq_getElem (by rw [hx]; decide)⟩
  have g4 : DataW.trod enc Try.prog w base spare held m 3 (List.take (Try.prog.cellsOf 3) (List.drop 4 cs)) = xs[4]? := hf 4 _ rfl
  rw [hy4] at g4
  rw [show Try.prog.cellsOf 3 = 1 from by kernel_rfl] at g4
  obtain ⟨e, e4, ie⟩ := op_int Try.underlying3 g4
  have d4 := cut_drop e4
  obtain ⟨y5, hy5⟩ : ∃ y, xs[5]? = some y := ⟨_, List.getElem?_eq_getElem (by rw [hx]; decide)⟩
  have g5 : DataW.trod enc Try.prog w base spare held m 22 (List.take (Try.prog.cellsOf 22) (List.drop 5 cs)) = xs[5]? := hf 5 _ rfl
  rw [hy5] at g5
  rw [show Try.prog.cellsOf 22 = 1 from by kernel_rfl] at g5
  obtain ⟨Adt, ndt, cdt, e5⟩ := op_sl Try.underlying22 g5
  have d5 := cut_drop e5
  have dn : cs.drop 6 = [] := List.drop_of_length_le (by omega)
  have ec : cs = cs.drop 0 := rfl
  rw [d0, d1, d2, d3, d4, d5, dn] at ec
  subst ec
  exact ⟨a, b, c, d, e, Adt, ndt, cdt, rfl⟩
set_option maxRecDepth 100000 in
theorem op68 : ∀ n cs y, DataW.trod enc Try.prog w base spare held n 68 cs = some y → ∃ (a0 a1 a2 a3 a4 a5 a6 : Int) (b : Bool) (c0 c1 c2 c3 c4 : Int) (A1 : Option Addr) (n1 k1 : Nat) (s : Int) (A2 : Option Addr) (n2 k2 : Nat), cs = [.int .i64 a0, .int .i64 a1, .int .i64 a2, .int .i64 a3, .int .i64 a4, .int .i64 a5, .int .i64 a6, .bool b, .int .i64 c0, .int .i64 c1, .int .i64 c2, .int .i64 c3, .int .i64 c4, .slice A1 n1 k1, .int .i64 s, .slice A2 n2 k2] := fun n cs y h => by
  obtain ⟨xs, m, _, _, hl, hx, hf⟩ := DataW.trod_struct Try.underlying68 h
  rw [show Try.prog.cellsOf 68 = 16 from by kernel_rfl] at hl
  obtain ⟨y0, hy0⟩ : ∃ y, xs[0]? = some y := ⟨_, List.getElem?_eq_getElem (by rw [hx]; decide)⟩
  have g0 : DataW.trod enc Try.prog w base spare held m 61 (List.take (Try.prog.cellsOf 61) (List.drop 0 cs)) = xs[0]? := hf 0 _ rfl
  rw [hy0] at g0
  rw [show Try.prog.cellsOf 61 = 2 from by kernel_rfl] at g0
  obtain ⟨a0, a1, e0⟩ := op61 _ _ _ g0
  have d0 := cut_drop e0
  obtain ⟨y1, hy1⟩ : ∃ y, xs[1]? = some y := ⟨_, List.getElem?_eq_getElem (by rw [hx]; decide)⟩
  have g1 : DataW.trod enc Try.prog w base spare held m 63 (List.take (Try.prog.cellsOf 63) (List.drop 2 cs)) = xs[1]? := hf 1 _ rfl
  rw [hy1] at g1
  rw [show Try.prog.cellsOf 63 = 2 from by kernel_rfl] at g1
  obtain ⟨a2, a3, e1⟩ := op63 _ _ _ g1
  have d1 := cut_drop e1
  obtain ⟨y2, hy2⟩ : ∃ y, xs[2]? = some y := ⟨_, List.getElem?_eq_getElem (by rw [hx]; decide)⟩
  have g2 : DataW.trod enc Try.prog w base spare held m 63 (List.take (Try.prog.cellsOf 63) (List.drop 4 cs)) = xs[2]? := hf 2 _ rfl
  rw [hy2] at g2
  rw [show Try.prog.cellsOf 63 = 2 from by kernel_rfl] at g2
  obtain ⟨a4, a5, e2⟩ := op63 _ _ _ g2
  have d2 := cut_drop e2
  obtain ⟨y3, hy3⟩ : ∃ y, xs[3]? = some y := ⟨_, List.getElem?_eq_getElem (by rw [hx]; decide)⟩
  have g3 : DataW.trod enc Try.prog w base spare held m 3 (List.take (Try.prog.cellsOf 3) (List.drop 6 cs)) = xs[3]? := hf 3 _ rfl
  rw [hy3] at g3
  rw [show Try.prog.cellsOf 3 = 1 from by kernel_rfl] at g3
  obtain ⟨a6, e3, ia6⟩ := op_int Try.underlying3 g3
  have d3 := cut_drop e3
  obtain ⟨y4, hy4⟩ : ∃ y, xs[4]? = some y := ⟨_, List.getElem?_eq_getElem (by rw [hx]; decide)⟩
  have g4 : DataW.trod enc Try.prog w base spare held m 4 (List.take (Try.prog.cellsOf 4) (List.drop 7 cs)) = xs[4]? := hf 4 _ rfl
  rw [hy4] at g4
  rw [show Try.prog.cellsOf 4 = 1 from by kernel_rfl] at g4
  obtain ⟨b, e4, _⟩ := DataW.trod_bool Try.underlying4 g4
  have d4 := cut_drop e4
  obtain ⟨y5, hy5⟩ : ∃ y, xs[5]? = some y := ⟨_, List.getElem?_eq_getElem (by rw [hx]; decide)⟩
  have g5 : DataW.trod enc Try.prog w base spare held m 65 (List.take (Try.prog.cellsOf 65) (List.drop 8 cs)) = xs[5]? := hf 5 _ rfl
  rw [hy5] at g5
  rw [show Try.prog.cellsOf 65 = 6 from by kernel_rfl] at g5
  obtain ⟨c0, c1, c2, c3, c4, A1, n1, k1, e5⟩ := op65 _ _ _ g5
  have d5 := cut_drop e5
  obtain ⟨y6, hy6⟩ : ∃ y, xs[6]? = some y := ⟨_, List.getElem?_eq_getElem (by rw [hx]; decide)⟩
  have g6 : DataW.trod enc Try.prog w base spare held m 3 (List.take (Try.prog.cellsOf 3) (List.drop 14 cs)) = xs[6]? := hf 6 _ rfl
  rw [hy6] at g6
  rw [show Try.prog.cellsOf 3 = 1 from by kernel_rfl] at g6
  obtain ⟨s, e6, is⟩ := op_int Try.underlying3 g6
  have d6 := cut_drop e6
  obtain ⟨y7, hy7⟩ : ∃ y, xs[7]? = some y := ⟨_, List.getElem?_eq_getElem (by rw [hx]; decide)⟩
  have g7 : DataW.trod enc Try.prog w base spare held m 66 (List.take (Try.prog.cellsOf 66) (List.drop 15 cs)) = xs[7]? := hf 7 _ rfl
  rw [hy7] at g7
  rw [show Try.prog.cellsOf 66 = 1 from by kernel_rfl] at g7
  obtain ⟨Adp, ndp, cdp, e7⟩ := op_sl Try.underlying66 g7
  have d7 := cut_drop e7
  have dn : cs.drop 16 = [] := List.drop_of_length_le (by omega)
  have ec : cs = cs.drop 0 := rfl
  rw [d0, d1, d2, d3, d4, d5, d6, d7, dn] at ec
  subst ec
  exact ⟨a0, a1, a2, a3, a4, a5, a6, b, c0, c1, c2, c3, c4, A1, n1, k1, s, Adp, ndp, cdp, rfl⟩
set_option maxRecDepth 100000 in
theorem op70 : ∀ n cs y, DataW.trod enc Try.prog w base spare held n 70 cs = some y → ∃ fr tt tm ix ps cm, RawM cs.toArray fr tt tm ix ps cm := fun n cs y h => by
  obtain ⟨xs, m, _, _, hl, hx, hf⟩ := DataW.trod_struct Try.underlying70 h
  rw [show Try.prog.cellsOf 70 = 28 from by kernel_rfl] at hl
  obtain ⟨y0, hy0⟩ : ∃ y, xs[0]? = some y := ⟨_, List.getElem?_eq_getElem (by rw [hx]; decide)⟩
  have g0 : DataW.trod enc Try.prog w base spare held m 3 (List.take (Try.prog.cellsOf 3) (List.drop 0 cs)) = xs[0]? := hf 0 _ rfl
  rw [hy0] at g0
  rw [show Try.prog.cellsOf 3 = 1 from by kernel_rfl] at g0
  obtain ⟨k0, e0, ik0⟩ := op_int Try.underlying3 g0
  have d0 := cut_drop e0
  obtain ⟨y1, hy1⟩ : ∃ y, xs[1]? = some y := ⟨_, List.getElem?_eq_getElem (by rw [hx]; decide)⟩
  have g1 : DataW.trod enc Try.prog w base spare held m 3 (List.take (Try.prog.cellsOf 3) (List.drop 1 cs)) = xs[1]? := hf 1 _ rfl
  rw [hy1] at g1
  rw [show Try.prog.cellsOf 3 = 1 from by kernel_rfl] at g1
  obtain ⟨fr, e1, ifr⟩ := op_int Try.underlying3 g1
  have d1 := cut_drop e1
  obtain ⟨y2, hy2⟩ : ∃ y, xs[2]? = some y := ⟨_, List.getElem?_eq_getElem (by rw [hx]; decide)⟩
  have g2 : DataW.trod enc Try.prog w base spare held m 3 (List.take (Try.prog.cellsOf 3) (List.drop 2 cs)) = xs[2]? := hf 2 _ rfl
  rw [hy2] at g2
  rw [show Try.prog.cellsOf 3 = 1 from by kernel_rfl] at g2
  obtain ⟨tt, e2, itt⟩ := op_int Try.underlying3 g2
  have d2 := cut_drop e2
  obtain ⟨y3, hy3⟩ : ∃ y, xs[3]? = some y := ⟨_, List.getElem?_eq_getElem (by rw [hx]; decide)⟩
  have g3 : DataW.trod enc Try.prog w base spare held m 3 (List.take (Try.prog.cellsOf 3) (List.drop 3 cs)) = xs[3]? := hf 3 _ rfl
  rw [hy3] at g3
  rw [show Try.prog.cellsOf 3 = 1 from by kernel_rfl] at g3
  obtain ⟨k3, e3, ik3⟩ := op_int Try.underlying3 g3
  have d3 := cut_drop e3
  obtain ⟨y4, hy4⟩ : ∃ y, xs[4]? = some y := ⟨_, List.getElem?_eq_getElem (by rw [hx]; decide)⟩
  have g4 : DataW.trod enc Try.prog w base spare held m 68 (List.take (Try.prog.cellsOf 68) (List.drop 4 cs)) = xs[4]? := hf 4 _ rfl
  rw [hy4] at g4
  rw [show Try.prog.cellsOf 68 = 16 from by kernel_rfl] at g4
  obtain ⟨a0, a1, a2, a3, a4, a5, a6, b, c0, c1, c2, c3, c4, A1, n1, k1, s, A2, n2, k2, e4⟩ := op68 _ _ _ g4
  have d4 := cut_drop e4
  obtain ⟨y5, hy5⟩ : ∃ y, xs[5]? = some y := ⟨_, List.getElem?_eq_getElem (by rw [hx]; decide)⟩
  have g5 : DataW.trod enc Try.prog w base spare held m 4 (List.take (Try.prog.cellsOf 4) (List.drop 20 cs)) = xs[5]? := hf 5 _ rfl
  rw [hy5] at g5
  rw [show Try.prog.cellsOf 4 = 1 from by kernel_rfl] at g5
  obtain ⟨ok, e5, _⟩ := DataW.trod_bool Try.underlying4 g5
  have d5 := cut_drop e5
  obtain ⟨y6, hy6⟩ : ∃ y, xs[6]? = some y := ⟨_, List.getElem?_eq_getElem (by rw [hx]; decide)⟩
  have g6 : DataW.trod enc Try.prog w base spare held m 3 (List.take (Try.prog.cellsOf 3) (List.drop 21 cs)) = xs[6]? := hf 6 _ rfl
  rw [hy6] at g6
  rw [show Try.prog.cellsOf 3 = 1 from by kernel_rfl] at g6
  obtain ⟨tm, e6, itm⟩ := op_int Try.underlying3 g6
  have d6 := cut_drop e6
  obtain ⟨y7, hy7⟩ : ∃ y, xs[7]? = some y := ⟨_, List.getElem?_eq_getElem (by rw [hx]; decide)⟩
  have g7 : DataW.trod enc Try.prog w base spare held m 3 (List.take (Try.prog.cellsOf 3) (List.drop 22 cs)) = xs[7]? := hf 7 _ rfl
  rw [hy7] at g7
  rw [show Try.prog.cellsOf 3 = 1 from by kernel_rfl] at g7
  obtain ⟨ix, e7, iix⟩ := op_int Try.underlying3 g7
  have d7 := cut_drop e7
  obtain ⟨y8, hy8⟩ : ∃ y, xs[8]? = some y := ⟨_, List.getElem?_eq_getElem (by rw [hx]; decide)⟩
  have g8 : DataW.trod enc Try.prog w base spare held m 3 (List.take (Try.prog.cellsOf 3) (List.drop 23 cs)) = xs[8]? := hf 8 _ rfl
  rw [hy8] at g8
  rw [show Try.prog.cellsOf 3 = 1 from by kernel_rfl] at g8
  obtain ⟨ps, e8, ips⟩ := op_int Try.underlying3 g8
  have d8 := cut_drop e8
  obtain ⟨y9, hy9⟩ : ∃ y, xs[9]? = some y := ⟨_, List.getElem?_eq_getElem (by rw [hx]; decide)⟩
  have g9 : DataW.trod enc Try.prog w base spare held m 3 (List.take (Try.prog.cellsOf 3) (List.drop 24 cs)) = xs[9]? := hf 9 _ rfl
  rw [hy9] at g9
  rw [show Try.prog.cellsOf 3 = 1 from by kernel_rfl] at g9
  obtain ⟨cm, e9, icm⟩ := op_int Try.underlying3 g9
  have d9 := cut_drop e9
  obtain ⟨y10, hy10⟩ : ∃ y, xs[10]? = some y := ⟨_, List.getElem?_eq_getElem (by rw [hx]; decide)⟩
  have g10 : DataW.trod enc Try.prog w base spare held m 3 (List.take (Try.prog.cellsOf 3) (List.drop 25 cs)) = xs[10]? := hf 10 _ rfl
  rw [hy10] at g10
  rw [show Try.prog.cellsOf 3 = 1 from by kernel_rfl] at g10
  obtain ⟨ep, e10, iep⟩ := op_int Try.underlying3 g10
  have d10 := cut_drop e10
  obtain ⟨y11, hy11⟩ : ∃ y, xs[11]? = some y := ⟨_, List.getElem?_eq_getElem (by rw [hx]; decide)⟩
  have g11 : DataW.trod enc Try.prog w base spare held m 45 (List.take (Try.prog.cellsOf 45) (List.drop 26 cs)) = xs[11]? := hf 11 _ rfl
  rw [hy11] at g11
  rw [show Try.prog.cellsOf 45 = 1 from by kernel_rfl] at g11
  obtain ⟨Aen, nen, cen, e11⟩ := op_sl Try.underlying45 g11
  have d11 := cut_drop e11
  obtain ⟨y12, hy12⟩ : ∃ y, xs[12]? = some y := ⟨_, List.getElem?_eq_getElem (by rw [hx]; decide)⟩
  have g12 : DataW.trod enc Try.prog w base spare held m 9 (List.take (Try.prog.cellsOf 9) (List.drop 27 cs)) = xs[12]? := hf 12 _ rfl
  rw [hy12] at g12
  rw [show Try.prog.cellsOf 9 = 1 from by kernel_rfl] at g12
  obtain ⟨tx, e12, _, ztx⟩ := DataW.trod_string Try.underlying9 g12
  have d12 := cut_drop e12
  have dn : cs.drop 28 = [] := List.drop_of_length_le (by omega)
  have ec : cs = cs.drop 0 := rfl
  rw [d0, d1, d2, d3, d4, d5, d6, d7, d8, d9, d10, d11, d12, dn] at ec
  subst ec
  refine ⟨fr, tt, tm, ix, ps, cm, rfl, by simp [Value.oneCell'], ⟨k0, rfl⟩, rfl, rfl, rfl, rfl, rfl, rfl, ⟨Aen, nen, cen, rfl⟩, ?_⟩
  · show ∀ (i : Nat) (s : ByteArray), _ → i = 27
    intro i s h
    rcases Nat.lt_or_ge i 28 with hi | hi
    · have hq : i = 0 ∨ i = 1 ∨ i = 2 ∨ i = 3 ∨ i = 4 ∨ i = 5 ∨ i = 6 ∨ i = 7 ∨ i = 8 ∨ i = 9 ∨ i = 10 ∨ i = 11 ∨ i = 12 ∨ i = 13 ∨ i = 14 ∨ i = 15 ∨ i = 16 ∨ i = 17 ∨ i = 18 ∨ i = 19 ∨ i = 20 ∨ i = 21 ∨ i = 22 ∨ i = 23 ∨ i = 24 ∨ i = 25 ∨ i = 26 ∨ i = 27 := by omega
      rcases hq with rfl | rfl | rfl | rfl | rfl | rfl | rfl | rfl | rfl | rfl | rfl | rfl | rfl | rfl | rfl | rfl | rfl | rfl | rfl | rfl | rfl | rfl | rfl | rfl | rfl | rfl | rfl | rfl
      all_goals first | rfl | (simp at h)
    · rw [List.getElem?_toArray, List.getElem?_eq_none (by simp; omega)] at h
      cases h
set_option maxRecDepth 100000 in
theorem op47 : ∀ n cs y, DataW.trod enc Try.prog w base spare held n 47 cs = some y → ∃ x A c, cs.toArray = staC x A c ∧ Kd.C k39 w A x.log.length x.log ∧ x.log.length ≤ c ∧ x.vot.size ≤ 9223372036854775807 ∧ ∀ y ∈ x.log, y.f2.size ≤ 9223372036854775807 := fun n cs y h => by
  obtain ⟨xs, m, _, _, hl, hx, hf⟩ := DataW.trod_struct Try.underlying47 h
  rw [show Try.prog.cellsOf 47 = 7 from by kernel_rfl] at hl
  obtain ⟨y0, hy0⟩ : ∃ y, xs[0]? = some y := ⟨_, List.getElem?_eq_getElem (by rw [hx]; decide)⟩
  have g0 : DataW.trod enc Try.prog w base spare held m 3 (List.take (Try.prog.cellsOf 3) (List.drop 0 cs)) = xs[0]? := hf 0 _ rfl
  rw [hy0] at g0
  rw [show Try.prog.cellsOf 3 = 1 from by kernel_rfl] at g0
  obtain ⟨t, e0, it⟩ := op_int Try.underlying3 g0
  have d0 := cut_drop e0
  obtain ⟨y1, hy1⟩ : ∃ y, xs[1]? = some y := ⟨_, List.getElem?_eq_getElem (by rw [hx]; decide)⟩
  have g1 : DataW.trod enc Try.prog w base spare held m 3 (List.take (Try.prog.cellsOf 3) (List.drop 1 cs)) = xs[1]? := hf 1 _ rfl
  rw [hy1] at g1
  rw [show Try.prog.cellsOf 3 = 1 from by kernel_rfl] at g1
  obtain ⟨v, e1, iv⟩ := op_int Try.underlying3 g1
  have d1 := cut_drop e1
  obtain ⟨y2, hy2⟩ : ∃ y, xs[2]? = some y := ⟨_, List.getElem?_eq_getElem (by rw [hx]; decide)⟩
  have g2 : DataW.trod enc Try.prog w base spare held m 3 (List.take (Try.prog.cellsOf 3) (List.drop 2 cs)) = xs[2]? := hf 2 _ rfl
  rw [hy2] at g2
  rw [show Try.prog.cellsOf 3 = 1 from by kernel_rfl] at g2
  obtain ⟨i, e2, ii⟩ := op_int Try.underlying3 g2
  have d2 := cut_drop e2
  obtain ⟨y3, hy3⟩ : ∃ y, xs[3]? = some y := ⟨_, List.getElem?_eq_getElem (by rw [hx]; decide)⟩
  have g3 : DataW.trod enc Try.prog w base spare held m 3 (List.take (Try.prog.cellsOf 3) (List.drop 3 cs)) = xs[3]? := hf 3 _ rfl
  rw [hy3] at g3
  rw [show Try.prog.cellsOf 3 = 1 from by kernel_rfl] at g3
  obtain ⟨p, e3, ip⟩ := op_int Try.underlying3 g3
  have d3 := cut_drop e3
  obtain ⟨y4, hy4⟩ : ∃ y, xs[4]? = some y := ⟨_, List.getElem?_eq_getElem (by rw [hx]; decide)⟩
  have g4 : DataW.trod enc Try.prog w base spare held m 9 (List.take (Try.prog.cellsOf 9) (List.drop 4 cs)) = xs[4]? := hf 4 _ rfl
  rw [hy4] at g4
  rw [show Try.prog.cellsOf 9 = 1 from by kernel_rfl] at g4
  obtain ⟨vo, e4, _, zvo⟩ := DataW.trod_string Try.underlying9 g4
  have d4 := cut_drop e4
  obtain ⟨y5, hy5⟩ : ∃ y, xs[5]? = some y := ⟨_, List.getElem?_eq_getElem (by rw [hx]; decide)⟩
  have g5 : DataW.trod enc Try.prog w base spare held m 9 (List.take (Try.prog.cellsOf 9) (List.drop 5 cs)) = xs[5]? := hf 5 _ rfl
  rw [hy5] at g5
  rw [show Try.prog.cellsOf 9 = 1 from by kernel_rfl] at g5
  obtain ⟨tx, e5, _, ztx⟩ := DataW.trod_string Try.underlying9 g5
  have d5 := cut_drop e5
  obtain ⟨y6, hy6⟩ : ∃ y, xs[6]? = some y := ⟨_, List.getElem?_eq_getElem (by rw [hx]; decide)⟩
  have g6 : DataW.trod enc Try.prog w base spare held m 45 (List.take (Try.prog.cellsOf 45) (List.drop 6 cs)) = xs[6]? := hf 6 _ rfl
  rw [hy6] at g6
  rw [show Try.prog.cellsOf 45 = 1 from by kernel_rfl] at g6
  obtain ⟨Alg, clg, lg, e6, rlg, wlg⟩ := op_row k39 (fun p => p.f2.size ≤ 9223372036854775807) Try.underlying45 (show Try.prog.cellsOf 39 = _ from by kernel_rfl) op39 g6
  have d6 := cut_drop e6
  have dn : cs.drop 7 = [] := List.drop_of_length_le (by omega)
  have ec : cs = cs.drop 0 := rfl
  rw [d0, d1, d2, d3, d4, d5, d6, dn] at ec
  subst ec
  exact ⟨⟨t, v, i, p, vo, tx, lg⟩, Alg, clg, rfl, rlg.1, rlg.2, by unfold maxLen at zvo; exact Nat.le_trans zvo (by decide), wlg⟩
set_option maxRecDepth 100000
theorem mail_open {r : Reach} {b0 : Nat} {v : Value} {d : DataW H} {p : List MemPlace} (hv : Value.okWide Try.prog w r b0 70 v) (h : DataW.Trod enc Try.prog w base spare held 70 v d p) : ∃ cs fr tt tm ix ps cm, v = .agg cs ∧ RawM cs fr tt tm ix ps cm := by
  obtain ⟨cs, rfl, hsz⟩ := okWide_struct Try.underlying70 hv
  obtain ⟨fuel, hf⟩ := h
  have hcs : Value.cells (.agg cs) = cs := rfl
  rw [hcs] at hf
  obtain ⟨fr, tt, tm, ix, ps, cm, h1⟩ := op70 _ _ _ hf
  exact ⟨cs, fr, tt, tm, ix, ps, cm, rfl, h1⟩
theorem sta_open {r : Reach} {b0 : Nat} {v : Value} {d : DataW H} {p : List MemPlace} (hv : Value.okWide Try.prog w r b0 47 v) (h : DataW.Trod enc Try.prog w base spare held 47 v d p) : ∃ x A c, v = .agg (staC x A c) ∧ Kd.C k39 w A x.log.length x.log ∧ x.log.length ≤ c ∧ x.vot.size ≤ 9223372036854775807 ∧ ∀ y ∈ x.log, y.f2.size ≤ 9223372036854775807 := by
  obtain ⟨cs, rfl, hsz⟩ := okWide_struct Try.underlying47 hv
  obtain ⟨fuel, hf⟩ := h
  have hcs : Value.cells (.agg cs) = cs := rfl
  rw [hcs] at hf
  obtain ⟨x, A, c, h1, h2⟩ := op47 _ _ _ hf
  exact ⟨x, A, c, by rw [← h1], h2⟩
end
end Go.Proofs.Ytfanbhbpmhojaaa
