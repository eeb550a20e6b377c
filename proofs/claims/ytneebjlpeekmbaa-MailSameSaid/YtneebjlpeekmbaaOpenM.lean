/- How an argument that is a mail is opened into the walks' words. No conditions beyond those typed. -/
import Derived.Test.YtneebjlpeekmbaaAbL
import Derived.Test.YtneebjlpeekmbaaRows
import Derived.OpenShut
import Derived.DataReads
import Derived.DataElems
import Derived.Deep.Matrix
import Derived.ChangeSlices
namespace Go.Proofs.Ytneebjlpeekmbaa
open Go.RowKit Go.Deep Go.ChangeShapes Go.WideShapes Go.Proofs.YtneebjlpeekmbaaW.PrintWords Go.Proofs.YtneebjlpeekmbaaW.PrintMore PRef
set_option linter.unusedVariables false
set_option linter.unusedSimpArgs false

section
variable {H : Type} {enc : TypeId × Value → H} {w : World} {base : Nat} {held : Bool} {spare : Nat → Bool}
/-- A slice that came in, element by element, as the print's kinds read it. -/
theorem open_rowK {α : Type} (d : Kd α) (W : α → Prop) {t e : TypeId} {fuel : Nat} {a : Option Addr} {len cap : Nat} {x : DataW H × List MemPlace} (ht : Try.prog.underlying t = some (.slice e)) (hc : Try.prog.cellsOf e = d.sz)
    (each : ∀ n cs y, DataW.trod enc Try.prog w base spare held n e cs = some y → ∃ p, d.K w p cs ∧ W p)
    (h : DataW.trod enc Try.prog w base spare held fuel t [.slice a len cap] = some x) : ∃ ps : List α, ps.length = len ∧ len ≤ cap ∧ d.C w a len ps ∧ ∀ p ∈ ps, W p := by
  rcases DataW.trod_slice ht h with ⟨h0, _⟩ | ⟨ad, l, c, elems, rest, n, _, h0, _, hb, hl, hm, hlen, hel, _, _⟩
  · simp at h0
    obtain ⟨rfl, rfl, rfl⟩ := h0
    exact ⟨[], rfl, Nat.le_refl _, ⟨rfl, by omega, fun h => absurd h (by omega)⟩, fun p hp => by cases hp⟩
  · simp at h0
    obtain ⟨rfl, rfl, rfl⟩ := h0
    have hq : ∀ i : Fin len, ∃ p : α, W p ∧ ∃ cs, d.K w p cs ∧ w.cells? base (ad.add (i * Try.prog.cellsOf e)) (Try.prog.cellsOf e) = some cs := fun i => by
      have h1 := hel i i.2
      obtain ⟨y, hy⟩ : ∃ y, elems[(i : Nat)]? = some y := ⟨_, List.getElem?_eq_getElem (by have := i.2; omega)⟩
      rw [hy, Option.bind_eq_some_iff] at h1
      obtain ⟨cs, h2, h3⟩ := h1
      obtain ⟨p, h4, h5⟩ := each n cs y h3
      exact ⟨p, h5, cs, h4, h2⟩
    refine ⟨List.ofFn fun i => Classical.choose (hq i), by simp, hl, ⟨by simp, by unfold maxLen at hm; omega, fun hp => ⟨ad, rfl, fun j p hj => ?_⟩⟩, fun p hp => ?_⟩
    · rw [List.getElem?_ofFn] at hj
      split at hj
      · rename_i hjl
        injection hj with hj
        obtain ⟨hw, cs, hk, hcs⟩ := Classical.choose_spec (hq ⟨j, hjl⟩)
        rw [hj] at hk
        obtain ⟨_, h2, h3⟩ := World.cells?_some hcs
        refine ⟨cs, d.K_len hk, hk, fun i u hu => ?_⟩
        have hi : i < cs.length := by
          rcases Nat.lt_or_ge i cs.length with h | h
          · exact h
          · rw [List.getElem?_eq_none h] at hu; cases hu
        have := h3 i (by omega)
        rw [hu] at this
        rw [← this, Addr.add_add, ← hc]
      · cases hj
    · rw [List.mem_ofFn] at hp
      obtain ⟨i, rfl⟩ := hp
      exact (Classical.choose_spec (hq i)).1
theorem i64_of {n : Int} (h : (Lit.int .i64 n).wf = true) : I64 n := bounds_i64 h
theorem op_int {t : TypeId} {n : Nat} {cs : List Value} {y : DataW H × List MemPlace} (ht : Try.prog.underlying t = some (.int .i64)) (h : DataW.trod enc Try.prog w base spare held n t cs = some y) : ∃ v, cs = [.int .i64 v] ∧ I64 v := by
  obtain ⟨v, h1, _, h2⟩ := DataW.trod_int ht h
  exact ⟨v, h1, bounds_i64 h2⟩
theorem op_row {α : Type} (d : Kd α) (W : α → Prop) {t e : TypeId} {n : Nat} {cs : List Value} {y : DataW H × List MemPlace} (ht : Try.prog.underlying t = some (.slice e)) (hc : Try.prog.cellsOf e = d.sz)
    (each : ∀ n cs y, DataW.trod enc Try.prog w base spare held n e cs = some y → ∃ p, d.K w p cs ∧ W p) (h : DataW.trod enc Try.prog w base spare held n t cs = some y) : ∃ a cap ps, cs = [.slice a ps.length cap] ∧ (d.C w a ps.length ps ∧ ps.length ≤ cap) ∧ ∀ p ∈ ps, W p := by
  obtain ⟨a, len, cap, rfl⟩ : ∃ a len cap, cs = [.slice a len cap] := by
    rcases DataW.trod_slice ht h with ⟨h0, _⟩ | ⟨ad, l, c, elems, rest, n, _, h0, _⟩
    · exact ⟨_, _, _, h0⟩
    · exact ⟨_, _, _, h0⟩
  obtain ⟨ps, h1, h2, h3, h4⟩ := open_rowK d W ht hc each h
  subst h1
  exact ⟨a, cap, ps, rfl, ⟨h3, h2⟩, h4⟩
theorem cut_drop {l p : List Value} {o s : Nat} (h : (l.drop o).take s = p) : l.drop o = p ++ l.drop (o + s) := by
  rw [← h, ← List.drop_drop, List.take_append_drop]
theorem op9 : ∀ n cs y, DataW.trod enc Try.prog w base spare held n 9 cs = some y → ∃ p, Kd.string.K w p cs ∧ p.size ≤ 9223372036854775807 := fun n cs y h => by
  obtain ⟨v, h1, _, h2⟩ := DataW.trod_string Try.underlying9 h
  exact ⟨v, h1, by unfold maxLen at h2; omega⟩
set_option maxRecDepth 100000 in
theorem op23 : ∀ n cs y, DataW.trod enc Try.prog w base spare held n 23 cs = some y → ∃ p, k23.K w p cs ∧ (I64 p.f0 ∧ I64 p.f1) := fun n cs y h => by
  obtain ⟨xs, m, _, _, hl, hx, hf⟩ := DataW.trod_struct Try.underlying23 h
  rw [show Try.prog.cellsOf 23 = 2 from by kernel_rfl] at hl
  obtain ⟨y0, hy0⟩ : ∃ y, xs[0]? = some y := ⟨_, List.getElem?_eq_getElem (by rw [hx]; decide)⟩
  have g0 : DataW.trod enc Try.prog w base spare held m 3 (List.take (Try.prog.cellsOf 3) (List.drop 0 cs)) = xs[0]? := hf 0 _ rfl
  rw [hy0] at g0
  rw [show Try.prog.cellsOf 3 = 1 from by kernel_rfl] at g0
  obtain ⟨a, e0, ia⟩ := op_int Try.underlying3 g0
  have d0 := cut_drop e0
  obtain ⟨y1, hy1⟩ : ∃ y, xs[1]? = some y := ⟨_, List.getElem?_eq_getElem (by rw [hx]; decide)⟩
  have g1 : DataW.trod enc Try.prog w base spare held m 3 (List.take (Try.prog.cellsOf 3) (List.drop 1 cs)) = xs[1]? := hf 1 _ rfl
  rw [hy1] at g1
  rw [show Try.prog.cellsOf 3 = 1 from by kernel_rfl] at g1
  obtain ⟨b, e1, ib⟩ := op_int Try.underlying3 g1
  have d1 := cut_drop e1
  have dn : cs.drop 2 = [] := List.drop_of_length_le (by omega)
  have ec : cs = cs.drop 0 := rfl
  rw [d0, d1, dn] at ec
  subst ec
  exact ⟨⟨a, b⟩, k23_mk w ⟨a, b⟩, ia, ib⟩
set_option maxRecDepth 100000 in
theorem op60 : ∀ n cs y, DataW.trod enc Try.prog w base spare held n 60 cs = some y → ∃ p, k60.K w p cs ∧ (I64 p.f0 ∧ I64 p.f1) := fun n cs y h => by
  obtain ⟨xs, m, _, _, hl, hx, hf⟩ := DataW.trod_struct Try.underlying60 h
  rw [show Try.prog.cellsOf 60 = 3 from by kernel_rfl] at hl
  obtain ⟨y0, hy0⟩ : ∃ y, xs[0]? = some y := ⟨_, List.getElem?_eq_getElem (by rw [hx]; decide)⟩
  have g0 : DataW.trod enc Try.prog w base spare held m 3 (List.take (Try.prog.cellsOf 3) (List.drop 0 cs)) = xs[0]? := hf 0 _ rfl
  rw [hy0] at g0
  rw [show Try.prog.cellsOf 3 = 1 from by kernel_rfl] at g0
  obtain ⟨a, e0, ia⟩ := op_int Try.underlying3 g0
  have d0 := cut_drop e0
  obtain ⟨y1, hy1⟩ : ∃ y, xs[1]? = some y := ⟨_, List.getElem?_eq_getElem (by rw [hx]; decide)⟩
  have g1 : DataW.trod enc Try.prog w base spare held m 3 (List.take (Try.prog.cellsOf 3) (List.drop 1 cs)) = xs[1]? := hf 1 _ rfl
  rw [hy1] at g1
  rw [show Try.prog.cellsOf 3 = 1 from by kernel_rfl] at g1
  obtain ⟨b, e1, ib⟩ := op_int Try.underlying3 g1
  have d1 := cut_drop e1
  obtain ⟨y2, hy2⟩ : ∃ y, xs[2]? = some y := ⟨_, List.getElem?_eq_getElem (by rw [hx]; decide)⟩
  have g2 : DataW.trod enc Try.prog w base spare held m 9 (List.take (Try.prog.cellsOf 9) (List.drop 2 cs)) = xs[2]? := hf 2 _ rfl
  rw [hy2] at g2
  rw [show Try.prog.cellsOf 9 = 1 from by kernel_rfl] at g2
  obtain ⟨s, e2, _, zs⟩ := DataW.trod_string Try.underlying9 g2
  have d2 := cut_drop e2
  have dn : cs.drop 3 = [] := List.drop_of_length_le (by omega)
  have ec : cs = cs.drop 0 := rfl
  rw [d0, d1, d2, dn] at ec
  subst ec
  exact ⟨⟨a, b, s⟩, k60_mk w ⟨a, b, s⟩, ia, ib⟩
set_option maxRecDepth 100000 in
theorem op25 : ∀ n cs y, DataW.trod enc Try.prog w base spare held n 25 cs = some y → ∃ a b, cs = [.int .i64 a, .int .i64 b] ∧ I64 a ∧ I64 b := fun n cs y h => by
  obtain ⟨xs, m, _, _, hl, hx, hf⟩ := DataW.trod_struct Try.underlying25 h
  rw [show Try.prog.cellsOf 25 = 2 from by kernel_rfl] at hl
  obtain ⟨y0, hy0⟩ : ∃ y, xs[0]? = some y := ⟨_, List.getElem?_eq_getElem (by rw [hx]; decide)⟩
  have g0 : DataW.trod enc Try.prog w base spare held m 3 (List.take (Try.prog.cellsOf 3) (List.drop 0 cs)) = xs[0]? := hf 0 _ rfl
  rw [hy0] at g0
  rw [show Try.prog.cellsOf 3 = 1 from by kernel_rfl] at g0
  obtain ⟨a, e0, ia⟩ := op_int Try.underlying3 g0
  have d0 := cut_drop e0
  obtain ⟨y1, hy1⟩ : ∃ y, xs[1]? = some y := ⟨_, List.getElem?_eq_getElem (by rw [hx]; decide)⟩
  have g1 : DataW.trod enc Try.prog w base spare held m 3 (List.take (Try.prog.cellsOf 3) (List.drop 1 cs)) = xs[1]? := hf 1 _ rfl
  rw [hy1] at g1
  rw [show Try.prog.cellsOf 3 = 1 from by kernel_rfl] at g1
  obtain ⟨b, e1, ib⟩ := op_int Try.underlying3 g1
  have d1 := cut_drop e1
  have dn : cs.drop 2 = [] := List.drop_of_length_le (by omega)
  have ec : cs = cs.drop 0 := rfl
  rw [d0, d1, dn] at ec
  subst ec
  exact ⟨a, b, rfl, ia, ib⟩
theorem op23b : ∀ n cs y, DataW.trod enc Try.prog w base spare held n 23 cs = some y → ∃ a b, cs = [.int .i64 a, .int .i64 b] ∧ I64 a ∧ I64 b := fun n cs y h => by
  obtain ⟨p, h1, h2, h3⟩ := op23 n cs y h
  exact ⟨p.f0, p.f1, k23_open h1, h2, h3⟩
set_option maxRecDepth 100000 in
theorem op28 : ∀ n cs y, DataW.trod enc Try.prog w base spare held n 28 cs = some y → ∃ (c : Cmd) (A : Option Addr) (k : Nat), cs = [.int .i64 c.op, .int .i64 c.client, .int .i64 c.seq, .int .i64 c.cfrom, .int .i64 c.cto, .slice A c.data.length k] ∧ InC w A k c.data ∧ (I64 c.client ∧ I64 c.seq ∧ I64 c.cfrom ∧ I64 c.cto) := fun n cs y h => by
  obtain ⟨xs, m, _, _, hl, hx, hf⟩ := DataW.trod_struct Try.underlying28 h
  rw [show Try.prog.cellsOf 28 = 6 from by kernel_rfl] at hl
  obtain ⟨y0, hy0⟩ : ∃ y, xs[0]? = some y := ⟨_, List.getElem?_eq_getElem (by rw [hx]; decide)⟩
  have g0 : DataW.trod enc Try.prog w base spare held m 3 (List.take (Try.prog.cellsOf 3) (List.drop 0 cs)) = xs[0]? := hf 0 _ rfl
  rw [hy0] at g0
  rw [show Try.prog.cellsOf 3 = 1 from by kernel_rfl] at g0
  obtain ⟨op, e0, iop⟩ := op_int Try.underlying3 g0
  have d0 := cut_drop e0
  obtain ⟨y1, hy1⟩ : ∃ y, xs[1]? = some y := ⟨_, List.getElem?_eq_getElem (by rw [hx]; decide)⟩
  have g1 : DataW.trod enc Try.prog w base spare held m 3 (List.take (Try.prog.cellsOf 3) (List.drop 1 cs)) = xs[1]? := hf 1 _ rfl
  rw [hy1] at g1
  rw [show Try.prog.cellsOf 3 = 1 from by kernel_rfl] at g1
  obtain ⟨cl, e1, icl⟩ := op_int Try.underlying3 g1
  have d1 := cut_drop e1
  obtain ⟨y2, hy2⟩ : ∃ y, xs[2]? = some y := ⟨_, List.getElem?_eq_getElem (by rw [hx]; decide)⟩
  have g2 : DataW.trod enc Try.prog w base spare held m 3 (List.take (Try.prog.cellsOf 3) (List.drop 2 cs)) = xs[2]? := hf 2 _ rfl
  rw [hy2] at g2
  rw [show Try.prog.cellsOf 3 = 1 from by kernel_rfl] at g2
  obtain ⟨sq, e2, isq⟩ := op_int Try.underlying3 g2
  have d2 := cut_drop e2
  obtain ⟨y3, hy3⟩ : ∃ y, xs[3]? = some y := ⟨_, List.getElem?_eq_getElem (by rw [hx]; decide)⟩
  have g3 : DataW.trod enc Try.prog w base spare held m 3 (List.take (Try.prog.cellsOf 3) (List.drop 3 cs)) = xs[3]? := hf 3 _ rfl
  rw [hy3] at g3
  rw [show Try.prog.cellsOf 3 = 1 from by kernel_rfl] at g3
  obtain ⟨fr, e3, ifr⟩ := op_int Try.underlying3 g3
  have d3 := cut_drop e3
  obtain ⟨y4, hy4⟩ : ∃ y, xs[4]? = some y := ⟨_, List.getElem?_eq_getElem (by rw [hx]; decide)⟩
  have g4 : DataW.trod enc Try.prog w base spare held m 3 (List.take (Try.prog.cellsOf 3) (List.drop 4 cs)) = xs[4]? := hf 4 _ rfl
  rw [hy4] at g4
  rw [show Try.prog.cellsOf 3 = 1 from by kernel_rfl] at g4
  obtain ⟨tt, e4, itt⟩ := op_int Try.underlying3 g4
  have d4 := cut_drop e4
  obtain ⟨y5, hy5⟩ : ∃ y, xs[5]? = some y := ⟨_, List.getElem?_eq_getElem (by rw [hx]; decide)⟩
  have g5 : DataW.trod enc Try.prog w base spare held m 26 (List.take (Try.prog.cellsOf 26) (List.drop 5 cs)) = xs[5]? := hf 5 _ rfl
  rw [hy5] at g5
  rw [show Try.prog.cellsOf 26 = 1 from by kernel_rfl] at g5
  obtain ⟨Adt, cdt, dt, e5, rdt, wdt⟩ := op_row Kd.string (fun p => p.size ≤ 9223372036854775807) Try.underlying26 (show Try.prog.cellsOf 9 = _ from by kernel_rfl) op9 g5
  have d5 := cut_drop e5
  have dn : cs.drop 6 = [] := List.drop_of_length_le (by omega)
  have ec : cs = cs.drop 0 := rfl
  rw [d0, d1, d2, d3, d4, d5, dn] at ec
  subst ec
  exact ⟨⟨op, cl, sq, fr, tt, dt⟩, Adt, cdt, rfl, rdt, icl, isq, ifr, itt⟩
set_option maxRecDepth 100000 in
theorem op31 : ∀ n cs y, DataW.trod enc Try.prog w base spare held n 31 cs = some y → ∃ (x : Inst) (A1 : Option Addr) (c1 : Nat) (A2 : Option Addr) (c2 : Nat), cs = [.int .i64 x.lead, .int .i64 x.index, .int .i64 x.bn, .int .i64 x.bnode, .int .i64 x.vn, .int .i64 x.vnode, .int .i64 x.status, .bool x.same, .int .i64 x.cmd.op, .int .i64 x.cmd.client, .int .i64 x.cmd.seq, .int .i64 x.cmd.cfrom, .int .i64 x.cmd.cto, .slice A1 x.cmd.data.length c1, .int .i64 x.iseq, .slice A2 x.deps.length c2] ∧ InC w A1 c1 x.cmd.data ∧ InR w A2 c2 x.deps ∧ InstI x := fun n cs y h => by
  obtain ⟨xs, m, _, _, hl, hx, hf⟩ := DataW.trod_struct Try.underlying31 h
  rw [show Try.prog.cellsOf 31 = 16 from by kernel_rfl] at hl
  obtain ⟨y0, hy0⟩ : ∃ y, xs[0]? = some y := ⟨_, List.getElem?_eq_getElem (by rw [hx]; decide)⟩
  have g0 : DataW.trod enc Try.prog w base spare held m 23 (List.take (Try.prog.cellsOf 23) (List.drop 0 cs)) = xs[0]? := hf 0 _ rfl
  rw [hy0] at g0
  rw [show Try.prog.cellsOf 23 = 2 from by kernel_rfl] at g0
  obtain ⟨ra, rb, e0, hra, hrb⟩ := op23b _ _ _ g0
  have d0 := cut_drop e0
  obtain ⟨y1, hy1⟩ : ∃ y, xs[1]? = some y := ⟨_, List.getElem?_eq_getElem (by rw [hx]; decide)⟩
  have g1 : DataW.trod enc Try.prog w base spare held m 25 (List.take (Try.prog.cellsOf 25) (List.drop 2 cs)) = xs[1]? := hf 1 _ rfl
  rw [hy1] at g1
  rw [show Try.prog.cellsOf 25 = 2 from by kernel_rfl] at g1
  obtain ⟨ba, bb, e1, hba, hbb⟩ := op25 _ _ _ g1
  have d1 := cut_drop e1
  obtain ⟨y2, hy2⟩ : ∃ y, xs[2]? = some y := ⟨_, List.getElem?_eq_getElem (by rw [hx]; decide)⟩
  have g2 : DataW.trod enc Try.prog w base spare held m 25 (List.take (Try.prog.cellsOf 25) (List.drop 4 cs)) = xs[2]? := hf 2 _ rfl
  rw [hy2] at g2
  rw [show Try.prog.cellsOf 25 = 2 from by kernel_rfl] at g2
  obtain ⟨va, vb, e2, hva, hvb⟩ := op25 _ _ _ g2
  have d2 := cut_drop e2
  obtain ⟨y3, hy3⟩ : ∃ y, xs[3]? = some y := ⟨_, List.getElem?_eq_getElem (by rw [hx]; decide)⟩
  have g3 : DataW.trod enc Try.prog w base spare held m 3 (List.take (Try.prog.cellsOf 3) (List.drop 6 cs)) = xs[3]? := hf 3 _ rfl
  rw [hy3] at g3
  rw [show Try.prog.cellsOf 3 = 1 from by kernel_rfl] at g3
  obtain ⟨st, e3, ist⟩ := op_int Try.underlying3 g3
  have d3 := cut_drop e3
  obtain ⟨y4, hy4⟩ : ∃ y, xs[4]? = some y := ⟨_, List.getElem?_eq_getElem (by rw [hx]; decide)⟩
  have g4 : DataW.trod enc Try.prog w base spare held m 4 (List.take (Try.prog.cellsOf 4) (List.drop 7 cs)) = xs[4]? := hf 4 _ rfl
  rw [hy4] at g4
  rw [show Try.prog.cellsOf 4 = 1 from by kernel_rfl] at g4
  obtain ⟨sm, e4, _⟩ := DataW.trod_bool Try.underlying4 g4
  have d4 := cut_drop e4
  obtain ⟨y5, hy5⟩ : ∃ y, xs[5]? = some y := ⟨_, List.getElem?_eq_getElem (by rw [hx]; decide)⟩
  have g5 : DataW.trod enc Try.prog w base spare held m 28 (List.take (Try.prog.cellsOf 28) (List.drop 8 cs)) = xs[5]? := hf 5 _ rfl
  rw [hy5] at g5
  rw [show Try.prog.cellsOf 28 = 6 from by kernel_rfl] at g5
  obtain ⟨cc, Ac, kc, e5, hc, hk⟩ := op28 _ _ _ g5
  have d5 := cut_drop e5
  obtain ⟨y6, hy6⟩ : ∃ y, xs[6]? = some y := ⟨_, List.getElem?_eq_getElem (by rw [hx]; decide)⟩
  have g6 : DataW.trod enc Try.prog w base spare held m 3 (List.take (Try.prog.cellsOf 3) (List.drop 14 cs)) = xs[6]? := hf 6 _ rfl
  rw [hy6] at g6
  rw [show Try.prog.cellsOf 3 = 1 from by kernel_rfl] at g6
  obtain ⟨sq, e6, isq⟩ := op_int Try.underlying3 g6
  have d6 := cut_drop e6
  obtain ⟨y7, hy7⟩ : ∃ y, xs[7]? = some y := ⟨_, List.getElem?_eq_getElem (by rw [hx]; decide)⟩
  have g7 : DataW.trod enc Try.prog w base spare held m 29 (List.take (Try.prog.cellsOf 29) (List.drop 15 cs)) = xs[7]? := hf 7 _ rfl
  rw [hy7] at g7
  rw [show Try.prog.cellsOf 29 = 1 from by kernel_rfl] at g7
  obtain ⟨Adp, cdp, dp, e7, rdp, wdp⟩ := op_row k23 (fun p => I64 p.f0 ∧ I64 p.f1) Try.underlying29 (show Try.prog.cellsOf 23 = _ from by kernel_rfl) op23 g7
  have d7 := cut_drop e7
  have dn : cs.drop 16 = [] := List.drop_of_length_le (by omega)
  have ec : cs = cs.drop 0 := rfl
  rw [d0, d1, d2, d3, d4, d5, d6, d7, dn] at ec
  subst ec
  exact ⟨⟨ra, rb, ba, bb, va, vb, st, sm, cc, sq, dp⟩, Ac, kc, Adp, cdp, rfl, hc, rdp, ⟨hra, hrb, hba, hbb, hva, hvb, ist, hk.1, hk.2.1, hk.2.2.1, hk.2.2.2, isq, wdp⟩⟩
set_option maxRecDepth 100000 in
theorem op34 : ∀ n cs y, DataW.trod enc Try.prog w base spare held n 34 cs = some y → ∃ (x : Mail), InM w cs.toArray x ∧ MailI x ∧ x.text.size ≤ 9223372036854775807 := fun n cs y h => by
  obtain ⟨xs, m, _, _, hl, hx, hf⟩ := DataW.trod_struct Try.underlying34 h
  rw [show Try.prog.cellsOf 34 = 28 from by kernel_rfl] at hl
  obtain ⟨y0, hy0⟩ : ∃ y, xs[0]? = some y := ⟨_, List.getElem?_eq_getElem (by rw [hx]; decide)⟩
  have g0 : DataW.trod enc Try.prog w base spare held m 3 (List.take (Try.prog.cellsOf 3) (List.drop 0 cs)) = xs[0]? := hf 0 _ rfl
  rw [hy0] at g0
  rw [show Try.prog.cellsOf 3 = 1 from by kernel_rfl] at g0
  obtain ⟨k0, e0, ik0⟩ := op_int Try.underlying3 g0
  have d0 := cut_drop e0
  obtain ⟨y1, hy1⟩ : ∃ y, xs[1]? = some y := ⟨_, List.getElem?_eq_getElem (by rw [hx]; decide)⟩
  have g1 : DataW.trod enc Try.prog w base spare held m 3 (List.take (Try.prog.cellsOf 3) (List.drop 1 cs)) = xs[1]? := hf 1 _ rfl
  rw [hy1] at g1
  rw [show Try.prog.cellsOf 3 = 1 from by kernel_rfl] at g1
  obtain ⟨k1, e1, ik1⟩ := op_int Try.underlying3 g1
  have d1 := cut_drop e1
  obtain ⟨y2, hy2⟩ : ∃ y, xs[2]? = some y := ⟨_, List.getElem?_eq_getElem (by rw [hx]; decide)⟩
  have g2 : DataW.trod enc Try.prog w base spare held m 3 (List.take (Try.prog.cellsOf 3) (List.drop 2 cs)) = xs[2]? := hf 2 _ rfl
  rw [hy2] at g2
  rw [show Try.prog.cellsOf 3 = 1 from by kernel_rfl] at g2
  obtain ⟨k2, e2, ik2⟩ := op_int Try.underlying3 g2
  have d2 := cut_drop e2
  obtain ⟨y3, hy3⟩ : ∃ y, xs[3]? = some y := ⟨_, List.getElem?_eq_getElem (by rw [hx]; decide)⟩
  have g3 : DataW.trod enc Try.prog w base spare held m 3 (List.take (Try.prog.cellsOf 3) (List.drop 3 cs)) = xs[3]? := hf 3 _ rfl
  rw [hy3] at g3
  rw [show Try.prog.cellsOf 3 = 1 from by kernel_rfl] at g3
  obtain ⟨k3, e3, ik3⟩ := op_int Try.underlying3 g3
  have d3 := cut_drop e3
  obtain ⟨y4, hy4⟩ : ∃ y, xs[4]? = some y := ⟨_, List.getElem?_eq_getElem (by rw [hx]; decide)⟩
  have g4 : DataW.trod enc Try.prog w base spare held m 31 (List.take (Try.prog.cellsOf 31) (List.drop 4 cs)) = xs[4]? := hf 4 _ rfl
  rw [hy4] at g4
  rw [show Try.prog.cellsOf 31 = 16 from by kernel_rfl] at g4
  obtain ⟨im, A1, c1, A2, c2, e4, hc, hr, hI⟩ := op31 _ _ _ g4
  have d4 := cut_drop e4
  obtain ⟨y5, hy5⟩ : ∃ y, xs[5]? = some y := ⟨_, List.getElem?_eq_getElem (by rw [hx]; decide)⟩
  have g5 : DataW.trod enc Try.prog w base spare held m 4 (List.take (Try.prog.cellsOf 4) (List.drop 20 cs)) = xs[5]? := hf 5 _ rfl
  rw [hy5] at g5
  rw [show Try.prog.cellsOf 4 = 1 from by kernel_rfl] at g5
  obtain ⟨ok, e5, _⟩ := DataW.trod_bool Try.underlying4 g5
  have d5 := cut_drop e5
  obtain ⟨y6, hy6⟩ : ∃ y, xs[6]? = some y := ⟨_, List.getElem?_eq_getElem (by rw [hx]; decide)⟩
  have g6 : DataW.trod enc Try.prog w base spare held m 3 (List.take (Try.prog.cellsOf 3) (List.drop 21 cs)) = xs[6]? := hf 6 _ rfl
  rw [hy6] at g6
  rw [show Try.prog.cellsOf 3 = 1 from by kernel_rfl] at g6
  obtain ⟨k6, e6, ik6⟩ := op_int Try.underlying3 g6
  have d6 := cut_drop e6
  obtain ⟨y7, hy7⟩ : ∃ y, xs[7]? = some y := ⟨_, List.getElem?_eq_getElem (by rw [hx]; decide)⟩
  have g7 : DataW.trod enc Try.prog w base spare held m 3 (List.take (Try.prog.cellsOf 3) (List.drop 22 cs)) = xs[7]? := hf 7 _ rfl
  rw [hy7] at g7
  rw [show Try.prog.cellsOf 3 = 1 from by kernel_rfl] at g7
  obtain ⟨k7, e7, ik7⟩ := op_int Try.underlying3 g7
  have d7 := cut_drop e7
  obtain ⟨y8, hy8⟩ : ∃ y, xs[8]? = some y := ⟨_, List.getElem?_eq_getElem (by rw [hx]; decide)⟩
  have g8 : DataW.trod enc Try.prog w base spare held m 3 (List.take (Try.prog.cellsOf 3) (List.drop 23 cs)) = xs[8]? := hf 8 _ rfl
  rw [hy8] at g8
  rw [show Try.prog.cellsOf 3 = 1 from by kernel_rfl] at g8
  obtain ⟨k8, e8, ik8⟩ := op_int Try.underlying3 g8
  have d8 := cut_drop e8
  obtain ⟨y9, hy9⟩ : ∃ y, xs[9]? = some y := ⟨_, List.getElem?_eq_getElem (by rw [hx]; decide)⟩
  have g9 : DataW.trod enc Try.prog w base spare held m 3 (List.take (Try.prog.cellsOf 3) (List.drop 24 cs)) = xs[9]? := hf 9 _ rfl
  rw [hy9] at g9
  rw [show Try.prog.cellsOf 3 = 1 from by kernel_rfl] at g9
  obtain ⟨k9, e9, ik9⟩ := op_int Try.underlying3 g9
  have d9 := cut_drop e9
  obtain ⟨y10, hy10⟩ : ∃ y, xs[10]? = some y := ⟨_, List.getElem?_eq_getElem (by rw [hx]; decide)⟩
  have g10 : DataW.trod enc Try.prog w base spare held m 3 (List.take (Try.prog.cellsOf 3) (List.drop 25 cs)) = xs[10]? := hf 10 _ rfl
  rw [hy10] at g10
  rw [show Try.prog.cellsOf 3 = 1 from by kernel_rfl] at g10
  obtain ⟨k10, e10, ik10⟩ := op_int Try.underlying3 g10
  have d10 := cut_drop e10
  obtain ⟨y11, hy11⟩ : ∃ y, xs[11]? = some y := ⟨_, List.getElem?_eq_getElem (by rw [hx]; decide)⟩
  have g11 : DataW.trod enc Try.prog w base spare held m 32 (List.take (Try.prog.cellsOf 32) (List.drop 26 cs)) = xs[11]? := hf 11 _ rfl
  rw [hy11] at g11
  rw [show Try.prog.cellsOf 32 = 1 from by kernel_rfl] at g11
  obtain ⟨Aen, cen, en, e11, ren, wen⟩ := op_row k60 (fun p => I64 p.f0 ∧ I64 p.f1) Try.underlying32 (show Try.prog.cellsOf 60 = _ from by kernel_rfl) op60 g11
  have d11 := cut_drop e11
  obtain ⟨y12, hy12⟩ : ∃ y, xs[12]? = some y := ⟨_, List.getElem?_eq_getElem (by rw [hx]; decide)⟩
  have g12 : DataW.trod enc Try.prog w base spare held m 9 (List.take (Try.prog.cellsOf 9) (List.drop 27 cs)) = xs[12]? := hf 12 _ rfl
  rw [hy12] at g12
  rw [show Try.prog.cellsOf 9 = 1 from by kernel_rfl] at g12
  obtain ⟨tx, e12, _, ztx⟩ := DataW.trod_string Try.underlying9 g12
  have d12 := cut_drop e12
  have dn : cs.drop 28 = [] := List.drop_of_length_le (by omega)
  have ec : cs = cs.drop 0 := rfl
  rw [d0, d1, d2, d3, d4, d5, d6, d7, d8, d9, d10, d11, d12, dn] at ec
  subst ec
  exact ⟨⟨k0, k1, k2, k3, im, ok, k6, k7, k8, k9, k10, en, tx⟩, ⟨A1, c1, A2, c2, Aen, cen, rfl, hc, hr, ren⟩, ⟨ik0, ik1, ik2, ik3, hI, ik6, ik7, ik8, ik9, ik10, wen⟩, by unfold maxLen at ztx; exact Nat.le_trans ztx (by decide)⟩
set_option maxRecDepth 100000
theorem mail_open {r : Reach} {b0 : Nat} {v : Value} {d : DataW H} {p : List MemPlace} (hv : Value.okWide Try.prog w r b0 34 v) (h : DataW.Trod enc Try.prog w base spare held 34 v d p) : ∃ cs x, v = .agg cs ∧ InM w cs x ∧ MailI x ∧ x.text.size ≤ 9223372036854775807 := by
  obtain ⟨cs, rfl, hsz⟩ := okWide_struct Try.underlying34 hv
  obtain ⟨fuel, hf⟩ := h
  have hcs : Value.cells (.agg cs) = cs := rfl
  rw [hcs] at hf
  obtain ⟨x, h1, h2, h3⟩ := op34 _ _ _ hf
  exact ⟨cs, x, rfl, h1, h2, h3⟩
theorem okWide_arr {r : Reach} {b0 : Nat} {t e : TypeId} {n : Nat} {v : Value} (ht : Try.prog.underlying t = some (.array n e)) (h : Value.okWide Try.prog w r b0 t v) : ∃ cs, v = .agg cs := by
  simp only [Value.okWide, ht] at h
  obtain ⟨cs, h1, _⟩ := h
  exact ⟨cs, h1⟩
theorem two_open {r : Reach} {b0 : Nat} {v : Value} {d : DataW H} {p : List MemPlace} (hv : Value.okWide Try.prog w r b0 53 v) (h : DataW.Trod enc Try.prog w base spare held 53 v d p) : ∃ a b : Nat, v = .agg #[.int .u64 a, .int .u64 b] ∧ a < 18446744073709551616 ∧ b < 18446744073709551616 := by
  obtain ⟨cs, rfl⟩ := okWide_arr Try.underlying53 hv
  obtain ⟨fuel, hf⟩ := h
  have hcs : Value.cells (.agg cs) = cs := rfl
  rw [hcs] at hf
  obtain ⟨xs, m, _, _, hl, hx, hg⟩ := DataW.trod_array Try.underlying53 hf
  rw [show Try.prog.cellsOf 52 = 1 from by kernel_rfl] at hg
  rw [show Try.prog.cellsOf 53 = 2 from by kernel_rfl] at hl
  obtain ⟨y0, hy0⟩ : ∃ y, xs[0]? = some y := ⟨_, List.getElem?_eq_getElem (by omega)⟩
  obtain ⟨y1, hy1⟩ : ∃ y, xs[1]? = some y := ⟨_, List.getElem?_eq_getElem (by omega)⟩
  have g0 := hg 0 (by omega)
  have g1 := hg 1 (by omega)
  rw [hy0] at g0
  rw [hy1] at g1
  obtain ⟨a, e0, _, w0⟩ := DataW.trod_int Try.underlying52 g0
  obtain ⟨b, e1, _, w1⟩ := DataW.trod_int Try.underlying52 g1
  have d0 := cut_drop e0
  have d1 := cut_drop e1
  have dn : cs.toList.drop 2 = [] := List.drop_of_length_le (by omega)
  have ec : cs.toList = cs.toList.drop (0 * 1) := rfl
  rw [d0] at ec
  change cs.toList = _ ++ cs.toList.drop (1 * 1) at ec
  rw [d1] at ec
  change cs.toList = _ ++ (_ ++ cs.toList.drop 2) at ec
  rw [dn] at ec
  obtain ⟨l0, u0⟩ := bounds_u64 w0
  obtain ⟨l1, u1⟩ := bounds_u64 w1
  obtain ⟨a, rfl⟩ := Int.eq_ofNat_of_zero_le l0
  obtain ⟨b, rfl⟩ := Int.eq_ofNat_of_zero_le l1
  refine ⟨a, b, ?_, by omega, by omega⟩
  have : cs = #[.int .u64 a, .int .u64 b] := Array.toList_inj.1 ec
  rw [this]
end
end Go.Proofs.Ytneebjlpeekmbaa
