/- mail.Same and the document's Same at mails that differ (part of the texts SameF): they say no. No conditions beyond those typed. -/
import Derived.Test.YtneebjlpeekmbaaAbT
import Derived.Deep.MidRow
namespace Go.Proofs.Ytneebjlpeekmbaa
open Go.RowKit Go.Proofs.YtneebjlpeekmbaaW.PrintWords Go.Proofs.YtneebjlpeekmbaaW.PrintLast Go.Proofs.YtneebjlpeekmbaaW.PrintMore PRef
set_option linter.unusedVariables false
set_option linter.unusedSimpArgs false

theorem inM_0 {w : World} {cx : Array Value} {x : Mail} (h : InM w cx x) : cx[0]? = some (.int .i64 x.kind) := by
  obtain ⟨_, _, _, _, _, _, rfl, _⟩ := h
  rfl
theorem inM_1 {w : World} {cx : Array Value} {x : Mail} (h : InM w cx x) : cx[1]? = some (.int .i64 x.mfrom) := by
  obtain ⟨_, _, _, _, _, _, rfl, _⟩ := h
  rfl
theorem inM_2 {w : World} {cx : Array Value} {x : Mail} (h : InM w cx x) : cx[2]? = some (.int .i64 x.mto) := by
  obtain ⟨_, _, _, _, _, _, rfl, _⟩ := h
  rfl
theorem inM_3 {w : World} {cx : Array Value} {x : Mail} (h : InM w cx x) : cx[3]? = some (.int .i64 x.shard) := by
  obtain ⟨_, _, _, _, _, _, rfl, _⟩ := h
  rfl
theorem inM_20 {w : World} {cx : Array Value} {x : Mail} (h : InM w cx x) : cx[20]? = some (.bool x.ok) := by
  obtain ⟨_, _, _, _, _, _, rfl, _⟩ := h
  rfl
theorem inM_21 {w : World} {cx : Array Value} {x : Mail} (h : InM w cx x) : cx[21]? = some (.int .i64 x.term) := by
  obtain ⟨_, _, _, _, _, _, rfl, _⟩ := h
  rfl
theorem inM_22 {w : World} {cx : Array Value} {x : Mail} (h : InM w cx x) : cx[22]? = some (.int .i64 x.mindex) := by
  obtain ⟨_, _, _, _, _, _, rfl, _⟩ := h
  rfl
theorem inM_23 {w : World} {cx : Array Value} {x : Mail} (h : InM w cx x) : cx[23]? = some (.int .i64 x.past) := by
  obtain ⟨_, _, _, _, _, _, rfl, _⟩ := h
  rfl
theorem inM_24 {w : World} {cx : Array Value} {x : Mail} (h : InM w cx x) : cx[24]? = some (.int .i64 x.commit) := by
  obtain ⟨_, _, _, _, _, _, rfl, _⟩ := h
  rfl
theorem inM_25 {w : World} {cx : Array Value} {x : Mail} (h : InM w cx x) : cx[25]? = some (.int .i64 x.epoch) := by
  obtain ⟨_, _, _, _, _, _, rfl, _⟩ := h
  rfl
theorem inM_27 {w : World} {cx : Array Value} {x : Mail} (h : InM w cx x) : cx[27]? = some (.string x.text) := by
  obtain ⟨_, _, _, _, _, _, rfl, _⟩ := h
  rfl
theorem inM_open {w : World} {cx : Array Value} {x : Mail} (h : InM w cx x) : ∃ A1 c1 A2 c2 A3 c3, (∀ j v, ([.int .i64 x.inst.lead, .int .i64 x.inst.index, .int .i64 x.inst.bn, .int .i64 x.inst.bnode, .int .i64 x.inst.vn, .int .i64 x.inst.vnode, .int .i64 x.inst.status, .bool x.inst.same, .int .i64 x.inst.cmd.op, .int .i64 x.inst.cmd.client, .int .i64 x.inst.cmd.seq, .int .i64 x.inst.cmd.cfrom, .int .i64 x.inst.cmd.cto, .slice A1 x.inst.cmd.data.length c1, .int .i64 x.inst.iseq, .slice A2 x.inst.deps.length c2] : List Value)[j]? = some v → cx[4 + j]? = some v) ∧ cx[26]? = some (.slice A3 x.entries.length c3) ∧ InC w A1 c1 x.inst.cmd.data ∧ InR w A2 c2 x.inst.deps ∧ InE w A3 c3 x.entries := by
  obtain ⟨A1, c1, A2, c2, A3, c3, rfl, h1, h2, h3⟩ := h
  refine ⟨A1, c1, A2, c2, A3, c3, fun j v hj => ?_, rfl, h1, h2, h3⟩
  have hlt : j < 16 := by
    rcases Nat.lt_or_ge j 16 with h | h
    · exact h
    · rw [List.getElem?_eq_none (by simpa using h)] at hj; cases hj
  rw [← hj]
  match j, hlt with
  | 0, _ | 1, _ | 2, _ | 3, _ | 4, _ | 5, _ | 6, _ | 7, _ | 8, _ | 9, _ | 10, _ | 11, _ | 12, _ | 13, _ | 14, _ | 15, _ => rfl
theorem is_f {A1 A2 B1 B2 : Option Addr} {c1 c2 d1 d2 : Nat} {x y : Inst} {w : World} (hx1 : InC w A1 c1 x.cmd.data) (hx2 : InR w A2 c2 x.deps) (hne : x ≠ y) (hy1 : InC w B1 d1 y.cmd.data) (hy2 : InR w B2 d2 y.deps) : Calls Try.prog 53 #[.agg #[.int .i64 x.lead, .int .i64 x.index, .int .i64 x.bn, .int .i64 x.bnode, .int .i64 x.vn, .int .i64 x.vnode, .int .i64 x.status, .bool x.same, .int .i64 x.cmd.op, .int .i64 x.cmd.client, .int .i64 x.cmd.seq, .int .i64 x.cmd.cfrom, .int .i64 x.cmd.cto, .slice A1 x.cmd.data.length c1, .int .i64 x.iseq, .slice A2 x.deps.length c2], .agg #[.int .i64 y.lead, .int .i64 y.index, .int .i64 y.bn, .int .i64 y.bnode, .int .i64 y.vn, .int .i64 y.vnode, .int .i64 y.status, .bool y.same, .int .i64 y.cmd.op, .int .i64 y.cmd.client, .int .i64 y.cmd.seq, .int .i64 y.cmd.cfrom, .int .i64 y.cmd.cto, .slice B1 y.cmd.data.length d1, .int .i64 y.iseq, .slice B2 y.deps.length d2]] w fun e w' => e = .returned (.bool false) ∧ Below w.heap.size w w' := instsame x y false ⟨fun h => (by cases h), fun h => absurd h hne⟩ hx1 hx2 hy1 hy2
theorem is_t {A1 A2 B1 B2 : Option Addr} {c1 c2 d1 d2 : Nat} {x : Inst} {w : World} (hx1 : InC w A1 c1 x.cmd.data) (hx2 : InR w A2 c2 x.deps) (hy1 : InC w B1 d1 x.cmd.data) (hy2 : InR w B2 d2 x.deps) : Calls Try.prog 53 #[.agg #[.int .i64 x.lead, .int .i64 x.index, .int .i64 x.bn, .int .i64 x.bnode, .int .i64 x.vn, .int .i64 x.vnode, .int .i64 x.status, .bool x.same, .int .i64 x.cmd.op, .int .i64 x.cmd.client, .int .i64 x.cmd.seq, .int .i64 x.cmd.cfrom, .int .i64 x.cmd.cto, .slice A1 x.cmd.data.length c1, .int .i64 x.iseq, .slice A2 x.deps.length c2], .agg #[.int .i64 x.lead, .int .i64 x.index, .int .i64 x.bn, .int .i64 x.bnode, .int .i64 x.vn, .int .i64 x.vnode, .int .i64 x.status, .bool x.same, .int .i64 x.cmd.op, .int .i64 x.cmd.client, .int .i64 x.cmd.seq, .int .i64 x.cmd.cfrom, .int .i64 x.cmd.cto, .slice B1 x.cmd.data.length d1, .int .i64 x.iseq, .slice B2 x.deps.length d2]] w fun e w' => e = .returned (.bool true) ∧ Below w.heap.size w w' := instsame x x true ⟨fun _ => rfl, fun _ => rfl⟩ hx1 hx2 hy1 hy2
theorem is7_f {A1 A2 B1 B2 : Option Addr} {c1 c2 d1 d2 : Nat} {x y : Inst} {w : World} (hx1 : InC w A1 c1 x.cmd.data) (hx2 : InR w A2 c2 x.deps) (hne : x ≠ y) (hy1 : InC w B1 d1 y.cmd.data) (hy2 : InR w B2 d2 y.deps) : Calls Try.prog 47 #[.agg #[.int .i64 x.lead, .int .i64 x.index, .int .i64 x.bn, .int .i64 x.bnode, .int .i64 x.vn, .int .i64 x.vnode, .int .i64 x.status, .bool x.same, .int .i64 x.cmd.op, .int .i64 x.cmd.client, .int .i64 x.cmd.seq, .int .i64 x.cmd.cfrom, .int .i64 x.cmd.cto, .slice A1 x.cmd.data.length c1, .int .i64 x.iseq, .slice A2 x.deps.length c2], .agg #[.int .i64 y.lead, .int .i64 y.index, .int .i64 y.bn, .int .i64 y.bnode, .int .i64 y.vn, .int .i64 y.vnode, .int .i64 y.status, .bool y.same, .int .i64 y.cmd.op, .int .i64 y.cmd.client, .int .i64 y.cmd.seq, .int .i64 y.cmd.cfrom, .int .i64 y.cmd.cto, .slice B1 y.cmd.data.length d1, .int .i64 y.iseq, .slice B2 y.deps.length d2]] w fun e w' => e = .returned (.bool false) ∧ Below w.heap.size w w' := instsame7 x y false ⟨fun h => (by cases h), fun h => absurd h hne⟩ hx1 hx2 hy1 hy2
theorem is7_t {A1 A2 B1 B2 : Option Addr} {c1 c2 d1 d2 : Nat} {x : Inst} {w : World} (hx1 : InC w A1 c1 x.cmd.data) (hx2 : InR w A2 c2 x.deps) (hy1 : InC w B1 d1 x.cmd.data) (hy2 : InR w B2 d2 x.deps) : Calls Try.prog 47 #[.agg #[.int .i64 x.lead, .int .i64 x.index, .int .i64 x.bn, .int .i64 x.bnode, .int .i64 x.vn, .int .i64 x.vnode, .int .i64 x.status, .bool x.same, .int .i64 x.cmd.op, .int .i64 x.cmd.client, .int .i64 x.cmd.seq, .int .i64 x.cmd.cfrom, .int .i64 x.cmd.cto, .slice A1 x.cmd.data.length c1, .int .i64 x.iseq, .slice A2 x.deps.length c2], .agg #[.int .i64 x.lead, .int .i64 x.index, .int .i64 x.bn, .int .i64 x.bnode, .int .i64 x.vn, .int .i64 x.vnode, .int .i64 x.status, .bool x.same, .int .i64 x.cmd.op, .int .i64 x.cmd.client, .int .i64 x.cmd.seq, .int .i64 x.cmd.cfrom, .int .i64 x.cmd.cto, .slice B1 x.cmd.data.length d1, .int .i64 x.iseq, .slice B2 x.deps.length d2]] w fun e w' => e = .returned (.bool true) ∧ Below w.heap.size w w' := instsame7 x x true ⟨fun _ => rfl, fun _ => rfl⟩ hx1 hx2 hy1 hy2
theorem str_ne {a b : ByteArray} (h : a ≠ b) : (a.toList == b.toList) = false := by rw [beq_eq_false_iff_ne]; exact fun e => h (ba_ext e)
theorem str_ne' {a b : ByteArray} (h : a ≠ b) : (a.toList != b.toList) = true := by rw [bne_iff_ne]; exact fun e => h (ba_ext e)
theorem ee_f {A B : Option Addr} {c d : Nat} {xs ys : List S60} {w : World} (hne : xs ≠ ys) (hx : InE w A c xs) (hy : InE w B d ys) : Calls Try.prog 54 #[.slice A xs.length c, .slice B ys.length d] w fun e w' => e = .returned (.bool false) ∧ Below w.heap.size w w' := eqents false ⟨fun h => (by cases h), fun h => absurd h hne⟩ hx hy
theorem ee_t {A B : Option Addr} {c d : Nat} {xs : List S60} {w : World} (hx : InE w A c xs) (hy : InE w B d xs) : Calls Try.prog 54 #[.slice A xs.length c, .slice B xs.length d] w fun e w' => e = .returned (.bool true) ∧ Below w.heap.size w w' := eqents true ⟨fun _ => rfl, fun _ => rfl⟩ hx hy

end Go.Proofs.Ytneebjlpeekmbaa
