/- Statements whose order is open, each as a theorem of its own: reach's last, add's first. No conditions beyond those typed. Printed by wip/tools/mkco4.py. -/
import Derived.Test.YtfanbhbpmhojaaaCo3
namespace Go.Proofs.Ytfanbhbpmhojaaa
open Go.RowKit Go.Proofs.YtfanbhbpmhojaaaW.PrintWords Go.Proofs.YtfanbhbpmhojaaaW.PrintLast Go.Proofs.YtfanbhbpmhojaaaW.PrintMore PRef
set_option linter.unusedVariables false
set_option linter.unusedSimpArgs false

/-- A region's mask: the first k of n are done. -/
def ms (n k : Nat) : Array Bool := (List.replicate k true ++ List.replicate (n - k) false).toArray
def regionOf (n : Nat) : Code → Option Code
  | .region i o d => if i = n then some (.region i o d) else none
  | .loop c => regionOf n c
  | .seq a b => match regionOf n a with
    | some c => some c
    | none => regionOf n b
  | .block _ c => regionOf n c
  | .scope c => regionOf n c
  | .cond _ a b => match regionOf n a with
    | some c => some c
    | none => regionOf n b
  | _ => none
theorem wpAnyLast_eq {P : Program} {md : Region.Mode} {ops : Array Oper} {Q : Exit → Act → World → Prop} {S : World → Prop} {ds : List Nat} {n : Nat} {l : Array Bool} {a a' : Act} {w : World} (he : a = a') (h : wpAnyLast P md ops Q S ds n l a' w) : wpAnyLast P md ops Q S ds n l a w := by
  rw [he]; exact h
section
variable {a : Act} {o1 : Oper} {w : World}
theorem y_move {P : Program} {x : Operand} {v : Value} (ho : o1.op = .move x) (hx : a.eval x = v) : (execOp a.eval o1).run P w = .ok (.value v) w := by
  unfold execOp
  simp only [ho, hx]
  go_simp
theorem y_assign {P : Program} {x : Operand} {v : Value} (ho : o1.op = .assign x) (hx : a.eval x = v) : (execOp a.eval o1).run P w = .ok (.value v) w := by
  unfold execOp
  simp only [ho, hx]
  go_simp
theorem y_not {P : Program} {x : Operand} {v : Bool} {t : TypeId} (ho : o1.op = .unOp .not t x) (hx : a.eval x = .bool v) : (execOp a.eval o1).run P w = .ok (.value (.bool !v)) w := by
  unfold execOp
  simp only [ho, hx]
  go_simp
theorem y_eqc {x : Operand} {n k : Int} (ho : o1.op = .binOp .eql 3 x (.const (.int .i64 k)) 3) (hx : a.eval x = .int .i64 n) (hn : (n == k) = true) : (execOp a.eval o1).run Try.prog w = .ok (.value (.bool true)) w := by
  have hu3 := Try.underlying3
  unfold execOp
  simp only [ho, hx]
  go_simp
theorem y_pick_f {P : Program} {x y z : Operand} {v : Value} (ho : o1.op = .pick x y z) (hx : a.eval x = .bool false) (hz : a.eval z = v) : (execOp a.eval o1).run P w = .ok (.value v) w := by
  unfold execOp
  simp only [ho, hx, hz]
  go_simp
theorem y_pick_t {P : Program} {x y z : Operand} {v : Value} (ho : o1.op = .pick x y z) (hx : a.eval x = .bool true) (hz : a.eval y = v) : (execOp a.eval o1).run P w = .ok (.value v) w := by
  unfold execOp
  simp only [ho, hx, hz]
  go_simp
theorem y_func2 {P : Program} {f : FuncId} {s t : Tmp} {u v : Value} (ho : o1.op = .makeFunc (.func f) #[] #[.tmp s, .tmp t]) (hx : a.eval (.tmp s) = u) (hy : a.eval (.tmp t) = v) : (execOp a.eval o1).run P w = .ok (.value (.func (.func f) #[] #[u, v])) w := by
  have hx' : a.tmps[s]?.getD undef = u := by unfold Act.eval at hx; simpa using hx
  have hy' : a.tmps[t]?.getD undef = v := by unfold Act.eval at hy; simpa using hy
  unfold execOp
  simp only [ho]
  go_simp
theorem y_func1 {P : Program} {f : FuncId} {s : Tmp} {u : Value} (ho : o1.op = .makeFunc (.func f) #[] #[.tmp s]) (hx : a.eval (.tmp s) = u) : (execOp a.eval o1).run P w = .ok (.value (.func (.func f) #[] #[u])) w := by
  have hx' : a.tmps[s]?.getD undef = u := by unfold Act.eval at hx; simpa using hx
  unfold execOp
  simp only [ho]
  go_simp
theorem y_extract0 {P : Program} {x : Operand} {u v : Value} (ho : o1.op = .extract x 0) (hx : a.eval x = .tuple #[u, v]) : (execOp a.eval o1).run P w = .ok (.value u) w := by
  unfold execOp
  simp only [ho, hx]
  go_simp
theorem y_extract1 {P : Program} {x : Operand} {u v : Value} (ho : o1.op = .extract x 1) (hx : a.eval x = .tuple #[u, v]) : (execOp a.eval o1).run P w = .ok (.value v) w := by
  unfold execOp
  simp only [ho, hx]
  go_simp
theorem y_nil {P : Program} {x : Operand} {b i : Nat} (ho : o1.op = .nilCheck x) (hx : a.eval x = .pointer (some ⟨b, i, none⟩)) : (execOp a.eval o1).run P w = .ok (.value (.pointer (some ⟨b, i, none⟩))) w := by
  unfold execOp
  simp only [ho, hx]
  go_simp
theorem y_f94_0 {x : Operand} {b o : Nat} (ho : o1.op = .fieldAddr 94 x 0) (hx : a.eval x = .pointer (some ⟨b, o, none⟩)) : (execOp a.eval o1).run Try.prog w = .ok (.value (.pointer (some ⟨b, o + 0, none⟩))) w := by
  have hu := Try.underlying94
  unfold execOp
  simp only [ho, hx]
  go_simp
theorem y_f94_1 {x : Operand} {b o : Nat} (ho : o1.op = .fieldAddr 94 x 1) (hx : a.eval x = .pointer (some ⟨b, o, none⟩)) : (execOp a.eval o1).run Try.prog w = .ok (.value (.pointer (some ⟨b, o + 1, none⟩))) w := by
  have hu := Try.underlying94
  unfold execOp
  simp only [ho, hx]
  go_simp
theorem y_f94_3 {x : Operand} {b o : Nat} (ho : o1.op = .fieldAddr 94 x 3) (hx : a.eval x = .pointer (some ⟨b, o, none⟩)) : (execOp a.eval o1).run Try.prog w = .ok (.value (.pointer (some ⟨b, o + 3, none⟩))) w := by
  have hu := Try.underlying94
  unfold execOp
  simp only [ho, hx]
  go_simp
theorem y_f94_4 {x : Operand} {b o : Nat} (ho : o1.op = .fieldAddr 94 x 4) (hx : a.eval x = .pointer (some ⟨b, o, none⟩)) : (execOp a.eval o1).run Try.prog w = .ok (.value (.pointer (some ⟨b, o + 7, none⟩))) w := by
  have hu := Try.underlying94
  unfold execOp
  simp only [ho, hx]
  go_simp
theorem y_f94_5 {x : Operand} {b o : Nat} (ho : o1.op = .fieldAddr 94 x 5) (hx : a.eval x = .pointer (some ⟨b, o, none⟩)) : (execOp a.eval o1).run Try.prog w = .ok (.value (.pointer (some ⟨b, o + 8, none⟩))) w := by
  have hu := Try.underlying94
  unfold execOp
  simp only [ho, hx]
  go_simp
theorem y_f94_7 {x : Operand} {b o : Nat} (ho : o1.op = .fieldAddr 94 x 7) (hx : a.eval x = .pointer (some ⟨b, o, none⟩)) : (execOp a.eval o1).run Try.prog w = .ok (.value (.pointer (some ⟨b, o + 10, none⟩))) w := by
  have hu := Try.underlying94
  unfold execOp
  simp only [ho, hx]
  go_simp
theorem y_f94_8 {x : Operand} {b o : Nat} (ho : o1.op = .fieldAddr 94 x 8) (hx : a.eval x = .pointer (some ⟨b, o, none⟩)) : (execOp a.eval o1).run Try.prog w = .ok (.value (.pointer (some ⟨b, o + 11, none⟩))) w := by
  have hu := Try.underlying94
  unfold execOp
  simp only [ho, hx]
  go_simp
theorem y_f94_13 {x : Operand} {b o : Nat} (ho : o1.op = .fieldAddr 94 x 13) (hx : a.eval x = .pointer (some ⟨b, o, none⟩)) : (execOp a.eval o1).run Try.prog w = .ok (.value (.pointer (some ⟨b, o + 34, none⟩))) w := by
  have hu := Try.underlying94
  unfold execOp
  simp only [ho, hx]
  go_simp
theorem y_f90_0 {x : Operand} {b o : Nat} (ho : o1.op = .fieldAddr 90 x 0) (hx : a.eval x = .pointer (some ⟨b, o, none⟩)) : (execOp a.eval o1).run Try.prog w = .ok (.value (.pointer (some ⟨b, o + 0, none⟩))) w := by
  have hu := Try.underlying90
  unfold execOp
  simp only [ho, hx]
  go_simp
theorem y_f32_2 {x : Operand} {b o : Nat} (ho : o1.op = .fieldAddr 32 x 2) (hx : a.eval x = .pointer (some ⟨b, o, none⟩)) : (execOp a.eval o1).run Try.prog w = .ok (.value (.pointer (some ⟨b, o + 2, none⟩))) w := by
  have hu := Try.underlying32
  unfold execOp
  simp only [ho, hx]
  go_simp
theorem y_f94_6 {x : Operand} {b o : Nat} (ho : o1.op = .fieldAddr 94 x 6) (hx : a.eval x = .pointer (some ⟨b, o, none⟩)) : (execOp a.eval o1).run Try.prog w = .ok (.value (.pointer (some ⟨b, o + 9, none⟩))) w := by
  have hu := Try.underlying94
  unfold execOp
  simp only [ho, hx]
  go_simp
theorem y_f94_9 {x : Operand} {b o : Nat} (ho : o1.op = .fieldAddr 94 x 9) (hx : a.eval x = .pointer (some ⟨b, o, none⟩)) : (execOp a.eval o1).run Try.prog w = .ok (.value (.pointer (some ⟨b, o + 12, none⟩))) w := by
  have hu := Try.underlying94
  unfold execOp
  simp only [ho, hx]
  go_simp
theorem y_f94_10 {x : Operand} {b o : Nat} (ho : o1.op = .fieldAddr 94 x 10) (hx : a.eval x = .pointer (some ⟨b, o, none⟩)) : (execOp a.eval o1).run Try.prog w = .ok (.value (.pointer (some ⟨b, o + 13, none⟩))) w := by
  have hu := Try.underlying94
  unfold execOp
  simp only [ho, hx]
  go_simp
theorem y_f94_11 {x : Operand} {b o : Nat} (ho : o1.op = .fieldAddr 94 x 11) (hx : a.eval x = .pointer (some ⟨b, o, none⟩)) : (execOp a.eval o1).run Try.prog w = .ok (.value (.pointer (some ⟨b, o + 20, none⟩))) w := by
  have hu := Try.underlying94
  unfold execOp
  simp only [ho, hx]
  go_simp
theorem y_f94_12 {x : Operand} {b o : Nat} (ho : o1.op = .fieldAddr 94 x 12) (hx : a.eval x = .pointer (some ⟨b, o, none⟩)) : (execOp a.eval o1).run Try.prog w = .ok (.value (.pointer (some ⟨b, o + 27, none⟩))) w := by
  have hu := Try.underlying94
  unfold execOp
  simp only [ho, hx]
  go_simp
theorem y_load3 {x : Operand} {b i : Nat} {v : Int} (ho : o1.op = .load 3 x) (hx : a.eval x = .pointer (some ⟨b, i, none⟩)) (hc : w.cell? ⟨b, i, none⟩ = some (.int .i64 v)) : (execOp a.eval o1).run Try.prog w = .ok (.value (.int .i64 v)) w := by
  have hu := Try.underlying3
  unfold execOp
  simp only [ho, hx]
  go_simp
theorem y_load24 {x : Operand} {b i : Nat} {p : Option Addr} (ho : o1.op = .load 24 x) (hx : a.eval x = .pointer (some ⟨b, i, none⟩)) (hc : w.cell? ⟨b, i, none⟩ = some (.pointer p)) : (execOp a.eval o1).run Try.prog w = .ok (.value (.pointer p)) w := by
  have hu := Try.underlying24
  unfold execOp
  simp only [ho, hx]
  go_simp
theorem y_load30 {x : Operand} {b i : Nat} {A : Option Addr} {n c : Nat} (ho : o1.op = .load 30 x) (hx : a.eval x = .pointer (some ⟨b, i, none⟩)) (hc : w.cell? ⟨b, i, none⟩ = some (.slice A n c)) : (execOp a.eval o1).run Try.prog w = .ok (.value (.slice A n c)) w := by
  have hu := Try.underlying30
  unfold execOp
  simp only [ho, hx]
  go_simp
theorem y_load45 {x : Operand} {b i : Nat} {A : Option Addr} {n c : Nat} (ho : o1.op = .load 45 x) (hx : a.eval x = .pointer (some ⟨b, i, none⟩)) (hc : w.cell? ⟨b, i, none⟩ = some (.slice A n c)) : (execOp a.eval o1).run Try.prog w = .ok (.value (.slice A n c)) w := by
  have hu := Try.underlying45
  unfold execOp
  simp only [ho, hx]
  go_simp
theorem y_load39 {x : Operand} {p : Addr} {v0 v1 : Int} {v2 : ByteArray} (ho : o1.op = .load 39 x) (hx : a.eval x = .pointer (some p)) (h0 : w.cell? p = some (.int .i64 v0)) (h1 : w.cell? ⟨p.block, p.off + 1, none⟩ = some (.int .i64 v1)) (h2 : w.cell? ⟨p.block, p.off + 2, none⟩ = some (.string v2)) : (execOp a.eval o1).run Try.prog w = .ok (.value (.agg #[.int .i64 v0, .int .i64 v1, .string v2])) w := by
  have hu := Try.underlying39
  unfold execOp
  simp only [ho, hx]
  go_simp
theorem y_sub {x y : Operand} {m n r : Int} (ho : o1.op = .binOp .sub 3 x y 3) (hx : a.eval x = .int .i64 m) (hy : a.eval y = .int .i64 n) (hr : IntKind.i64.wrap (m - n) = r) : (execOp a.eval o1).run Try.prog w = .ok (.value (.int .i64 r)) w := by
  have hu := Try.underlying3
  unfold execOp
  simp only [ho, hx, hy]
  go_simp
theorem y_index45 {x y : Operand} {ad : Addr} {n c j : Nat} (ho : o1.op = .indexAddr 45 x y) (hx : a.eval x = .slice (some ad) n c) (hy : a.eval y = .int .i64 (j : Int)) (hj : j < n) : (execOp a.eval o1).run Try.prog w = .ok (.value (.pointer (some (ad.add (j * 3))))) w := by
  have hu := Try.underlying45
  unfold execOp
  simp only [ho, hx, hy]
  go_simp
theorem y_build41 {s t : Tmp} {i v0 v1 : Int} {v2 : ByteArray} (ho : o1.op = .build 41 #[(0, .tmp s), (1, .tmp t)]) (hx : a.eval (.tmp s) = .int .i64 i) (hy : a.eval (.tmp t) = .agg #[.int .i64 v0, .int .i64 v1, .string v2]) : (execOp a.eval o1).run Try.prog w = .ok (.value (.agg #[.int .i64 i, .int .i64 v0, .int .i64 v1, .string v2, .bool false])) w := by
  have hu := Try.underlying41
  have hu2 := Try.underlying39
  have hx' : a.tmps[s]?.getD undef = .int .i64 i := by unfold Act.eval at hx; simpa using hx
  have hy' : a.tmps[t]?.getD undef = .agg #[.int .i64 v0, .int .i64 v1, .string v2] := by unfold Act.eval at hy; simpa using hy
  unfold execOp
  simp only [ho]
  go_simp
theorem y_bs41 {s : Tmp} {i v0 v1 : Int} {v2 : ByteArray} {b : Bool} (ho : o1.op = .buildSlice 30 1 #[(0, .tmp s)]) (hx : a.eval (.tmp s) = .agg #[.int .i64 i, .int .i64 v0, .int .i64 v1, .string v2, .bool b]) : (execOp a.eval o1).run Try.prog w = .ok (.value (.slice (some ⟨w.heap.size, 0, none⟩) 1 1)) (w.alloc (.cells #[.int .i64 i, .int .i64 v0, .int .i64 v1, .string v2, .bool b] 41)) := by
  have hu := Try.underlying30
  have hx' : a.tmps[s]?.getD undef = .agg #[.int .i64 i, .int .i64 v0, .int .i64 v1, .string v2, .bool b] := by unfold Act.eval at hx; simpa using hx
  unfold execOp
  simp only [ho]
  go_simp
theorem y_store30 {x y : Operand} {b i n c : Nat} {A : Option Addr} {u : Value} (ho : o1.op = .store 30 x y) (hx : a.eval x = .pointer (some ⟨b, i, none⟩)) (hy : a.eval y = .slice A n c) (hc : w.cell? ⟨b, i, none⟩ = some u) (hf : w.frozen? ⟨b, i, none⟩ = false) : (execOp a.eval o1).run Try.prog w = .ok .skip (w.setCell ⟨b, i, none⟩ (.slice A n c)) := by
  have hu := Try.underlying30
  unfold execOp
  simp only [ho, hx, hy]
  go_simp
end
theorem info41 : (Try.prog.info? 41).map (fun i => (i.zero, i.size, i.bytes)) = some (some (.agg #[.int .i64 0, .int .i64 0, .int .i64 0, .string ⟨#[]⟩, .bool false]), 5, 48) := by kernel_rfl

noncomputable def reach_last_reg : Code := (Try.f94.body.bind (regionOf 3)).getD .skip
set_option maxRecDepth 1000000 in
set_option maxHeartbeats 4000000 in
/-- reach's last statement: the news take one more. -/
theorem reach_last (u1 u2 u3 u4 u5 u6 u7 u8 u9 u10 u11 u12 u13 u14 u15 u16 u17 u18 u19 u20 u21 u22 u23 u24 u25 u26 u27 u28 u29 u30 u31 u32 u33 u34 u35 u36 u37 u38 u39 u40 u41 u42 u43 u44 u45 u46 u47 u48 u49 u50 u51 u52 u53 u54 u55 u56 u57 u58 u59 u60 u61 u62 u63 u64 : Value) (g : Nat) (w : World) (Q : Exit → Act → World → Prop) (i bidx : Int) (ad : Addr) (j cap : Nat) (x : S39) (hP : ∀ x a d v w, Q (.panic x) (a.put (some d) v) w → Q (.panic x) a w) (c11 : w.cell? ⟨g, 11, none⟩ = some (.int .i64 i)) (c3 : w.cell? ⟨g, 3, none⟩ = some (.int .i64 bidx)) (c7 : w.cell? ⟨g, 7, none⟩ = some (.slice (some ad) (j + 1) cap)) (c36 : w.cell? ⟨g, 36, none⟩ = some (.slice none 0 0)) (hc0 : w.cell? (ad.add (j * 3)) = some (.int .i64 x.f0)) (hc1 : w.cell? ⟨(ad.add (j * 3)).block, (ad.add (j * 3)).off + 1, none⟩ = some (.int .i64 x.f1)) (hc2 : w.cell? ⟨(ad.add (j * 3)).block, (ad.add (j * 3)).off + 2, none⟩ = some (.string x.f2)) (hw1 : IntKind.i64.wrap (i - bidx) = i - bidx) (hw2 : IntKind.i64.wrap (i - bidx - 1) = (j : Int)) (HF : ∀ w', Below w.drew.heap.size w.drew w' → w'.frozen? ⟨g, 36, none⟩ = false)
    (h : ∀ A1 c1 w3, w3.ownsRow w.drew.heap.size 41 5 (.slice A1 1 c1) 1 [.int .i64 i, .int .i64 x.f0, .int .i64 x.f1, .string x.f2, .bool false] → Below w.drew.heap.size w.drew w3 → Q .normal ⟨[.pointer (some ⟨g, 0, none⟩), u1, u2, u3, u4, u5, u6, u7, u8, u9, u10, u11, u12, u13, u14, u15, u16, u17, u18, u19, u20, u21, u22, u23, u24, u25, u26, u27, u28, u29, u30, u31, .pointer (some ⟨g, 0, none⟩), .pointer (some ⟨g, 0, none⟩), .pointer (some ⟨g, 0, none⟩), .pointer (some ⟨g, 34, none⟩), .pointer (some ⟨g, 36, none⟩), .slice none 0 0, .pointer (some ⟨g, 0, none⟩), .pointer (some ⟨g, 0, none⟩), .pointer (some ⟨g, 11, none⟩), .int .i64 i, .pointer (some ⟨g, 0, none⟩), .pointer (some ⟨g, 0, none⟩), .pointer (some ⟨g, 7, none⟩), .slice (some ad) (j + 1) cap, .pointer (some ⟨g, 0, none⟩), .pointer (some ⟨g, 0, none⟩), .pointer (some ⟨g, 11, none⟩), .int .i64 i, .pointer (some ⟨g, 0, none⟩), .pointer (some ⟨g, 0, none⟩), .pointer (some ⟨g, 3, none⟩), .pointer (some ⟨g, 3, none⟩), .int .i64 bidx, .int .i64 (i - bidx), .int .i64 (j : Int), .pointer (some (ad.add (j * 3))), .agg #[.int .i64 x.f0, .int .i64 x.f1, .string x.f2], .agg #[.int .i64 i, .int .i64 x.f0, .int .i64 x.f1, .string x.f2, .bool false], .slice (some ⟨w.drew.heap.size, 0, none⟩) 1 1, .slice A1 1 c1, .pointer (some ⟨g, 0, none⟩), .pointer (some ⟨g, 34, none⟩), .pointer (some ⟨g, 36, none⟩)].toArray, []⟩ (w3.setCell ⟨g, 36, none⟩ (.slice A1 1 c1))) :
    Code.wp Try.prog reach_last_reg Q ⟨[.pointer (some ⟨g, 0, none⟩), u1, u2, u3, u4, u5, u6, u7, u8, u9, u10, u11, u12, u13, u14, u15, u16, u17, u18, u19, u20, u21, u22, u23, u24, u25, u26, u27, u28, u29, u30, u31, u32, u33, u34, u35, u36, u37, u38, u39, u40, u41, u42, u43, u44, u45, u46, u47, u48, u49, u50, u51, u52, u53, u54, u55, u56, u57, u58, u59, u60, u61, u62, u63, u64].toArray, []⟩ w := by
  conv => arg 2; whnf
  have HS1 : ∀ w', Below w.drew.heap.size w.drew w' → w'.cell? ⟨g, 11, none⟩ = some (.int .i64 i) ∧ w'.cell? ⟨g, 3, none⟩ = some (.int .i64 bidx) ∧ w'.cell? ⟨g, 7, none⟩ = some (.slice (some ad) (j + 1) cap) ∧ w'.cell? ⟨g, 36, none⟩ = some (.slice none 0 0) ∧ w'.cell? (ad.add (j * 3)) = some (.int .i64 x.f0) ∧ w'.cell? ⟨(ad.add (j * 3)).block, (ad.add (j * 3)).off + 1, none⟩ = some (.int .i64 x.f1) ∧ w'.cell? ⟨(ad.add (j * 3)).block, (ad.add (j * 3)).off + 2, none⟩ = some (.string x.f2) := fun w' hb => ⟨pw_cell_below hb c11, pw_cell_below hb c3, pw_cell_below hb c7, pw_cell_below hb c36, pw_cell_below hb hc0, pw_cell_below hb hc1, pw_cell_below hb hc2⟩
  refine start_ (n := 34) (S := fun w' => w'.cell? ⟨g, 11, none⟩ = some (.int .i64 i) ∧ w'.cell? ⟨g, 3, none⟩ = some (.int .i64 bidx) ∧ w'.cell? ⟨g, 7, none⟩ = some (.slice (some ad) (j + 1) cap) ∧ w'.cell? ⟨g, 36, none⟩ = some (.slice none 0 0) ∧ w'.cell? (ad.add (j * 3)) = some (.int .i64 x.f0) ∧ w'.cell? ⟨(ad.add (j * 3)).block, (ad.add (j * 3)).off + 1, none⟩ = some (.int .i64 x.f1) ∧ w'.cell? ⟨(ad.add (j * 3)).block, (ad.add (j * 3)).off + 2, none⟩ = some (.string x.f2)) (ds := [33]) (ms 34 0) (by kernel_rfl) rfl rfl ⟨c11, c3, c7, c36, hc0, hc1, hc2⟩ (fun hHeld => ?_)
  refine pure_ (i := 0) (N := some 32) (v := .pointer (some ⟨g, 0, none⟩)) (ms 34 1) rfl rfl (by kernel_rfl) (fun _ _ _ h => hP _ _ _ _ _ h) (Or.inl ⟨by rfl, ?_⟩) rfl ?_
  · intro w'
    exact y_move rfl rfl
  refine pure_ (i := 1) (N := some 33) (v := .pointer (some ⟨g, 0, none⟩)) (ms 34 2) rfl rfl (by kernel_rfl) (fun _ _ _ h => hP _ _ _ _ _ h) (Or.inl ⟨by rfl, ?_⟩) rfl ?_
  · intro w'
    exact y_move rfl rfl
  refine pure_ (i := 2) (N := some 34) (v := .pointer (some ⟨g, 0, none⟩)) (ms 34 3) rfl rfl (by kernel_rfl) (fun _ _ _ h => hP _ _ _ _ _ h) (Or.inl ⟨by rfl, ?_⟩) rfl ?_
  · intro w'
    exact y_nil rfl rfl
  refine pure_ (i := 3) (N := some 35) (v := .pointer (some ⟨g, 34, none⟩)) (a' := ⟨[.pointer (some ⟨g, 0, none⟩), u1, u2, u3, u4, u5, u6, u7, u8, u9, u10, u11, u12, u13, u14, u15, u16, u17, u18, u19, u20, u21, u22, u23, u24, u25, u26, u27, u28, u29, u30, u31, .pointer (some ⟨g, 0, none⟩), .pointer (some ⟨g, 0, none⟩), .pointer (some ⟨g, 0, none⟩), .pointer (some ⟨g, 34, none⟩), u36, u37, u38, u39, u40, u41, u42, u43, u44, u45, u46, u47, u48, u49, u50, u51, u52, u53, u54, u55, u56, u57, u58, u59, u60, u61, u62, u63, u64].toArray, []⟩) (ms 34 4) rfl rfl (by kernel_rfl) (fun _ _ _ h => hP _ _ _ _ _ h) (Or.inl ⟨by rfl, ?_⟩) rfl ?_
  · intro w'
    exact y_f94_13 rfl rfl
  refine pure_ (i := 4) (N := some 36) (v := .pointer (some ⟨g, 36, none⟩)) (ms 34 5) rfl rfl (by kernel_rfl) (fun _ _ _ h => hP _ _ _ _ _ h) (Or.inl ⟨by rfl, ?_⟩) rfl ?_
  · intro w'
    exact y_f32_2 rfl rfl
  refine take_ (i := 5) (N := some 37) (v := .slice none 0 0) (ms 34 6) rfl rfl (by kernel_rfl) (fun _ _ _ h => hP _ _ _ _ _ h) (Or.inl ⟨by rfl, ?_⟩) hHeld rfl ?_
  · rintro w' ⟨q1, q2, q3, q4, q5, q6, q7⟩
    exact y_load30 rfl rfl q4
  refine pure_ (i := 6) (N := some 38) (v := .pointer (some ⟨g, 0, none⟩)) (ms 34 7) rfl rfl (by kernel_rfl) (fun _ _ _ h => hP _ _ _ _ _ h) (Or.inl ⟨by rfl, ?_⟩) rfl ?_
  · intro w'
    exact y_move rfl rfl
  refine pure_ (i := 7) (N := some 39) (v := .pointer (some ⟨g, 0, none⟩)) (a' := ⟨[.pointer (some ⟨g, 0, none⟩), u1, u2, u3, u4, u5, u6, u7, u8, u9, u10, u11, u12, u13, u14, u15, u16, u17, u18, u19, u20, u21, u22, u23, u24, u25, u26, u27, u28, u29, u30, u31, .pointer (some ⟨g, 0, none⟩), .pointer (some ⟨g, 0, none⟩), .pointer (some ⟨g, 0, none⟩), .pointer (some ⟨g, 34, none⟩), .pointer (some ⟨g, 36, none⟩), .slice none 0 0, .pointer (some ⟨g, 0, none⟩), .pointer (some ⟨g, 0, none⟩), u40, u41, u42, u43, u44, u45, u46, u47, u48, u49, u50, u51, u52, u53, u54, u55, u56, u57, u58, u59, u60, u61, u62, u63, u64].toArray, []⟩) (ms 34 8) rfl rfl (by kernel_rfl) (fun _ _ _ h => hP _ _ _ _ _ h) (Or.inl ⟨by rfl, ?_⟩) rfl ?_
  · intro w'
    exact y_nil rfl rfl
  refine pure_ (i := 8) (N := some 40) (v := .pointer (some ⟨g, 11, none⟩)) (ms 34 9) rfl rfl (by kernel_rfl) (fun _ _ _ h => hP _ _ _ _ _ h) (Or.inl ⟨by rfl, ?_⟩) rfl ?_
  · intro w'
    exact y_f94_8 rfl rfl
  refine take_ (i := 9) (N := some 41) (v := .int .i64 i) (ms 34 10) rfl rfl (by kernel_rfl) (fun _ _ _ h => hP _ _ _ _ _ h) (Or.inl ⟨by rfl, ?_⟩) hHeld rfl ?_
  · rintro w' ⟨q1, q2, q3, q4, q5, q6, q7⟩
    exact y_load3 rfl rfl q1
  refine pure_ (i := 10) (N := some 42) (v := .pointer (some ⟨g, 0, none⟩)) (ms 34 11) rfl rfl (by kernel_rfl) (fun _ _ _ h => hP _ _ _ _ _ h) (Or.inl ⟨by rfl, ?_⟩) rfl ?_
  · intro w'
    exact y_move rfl rfl
  refine pure_ (i := 11) (N := some 43) (v := .pointer (some ⟨g, 0, none⟩)) (a' := ⟨[.pointer (some ⟨g, 0, none⟩), u1, u2, u3, u4, u5, u6, u7, u8, u9, u10, u11, u12, u13, u14, u15, u16, u17, u18, u19, u20, u21, u22, u23, u24, u25, u26, u27, u28, u29, u30, u31, .pointer (some ⟨g, 0, none⟩), .pointer (some ⟨g, 0, none⟩), .pointer (some ⟨g, 0, none⟩), .pointer (some ⟨g, 34, none⟩), .pointer (some ⟨g, 36, none⟩), .slice none 0 0, .pointer (some ⟨g, 0, none⟩), .pointer (some ⟨g, 0, none⟩), .pointer (some ⟨g, 11, none⟩), .int .i64 i, .pointer (some ⟨g, 0, none⟩), .pointer (some ⟨g, 0, none⟩), u44, u45, u46, u47, u48, u49, u50, u51, u52, u53, u54, u55, u56, u57, u58, u59, u60, u61, u62, u63, u64].toArray, []⟩) (ms 34 12) rfl rfl (by kernel_rfl) (fun _ _ _ h => hP _ _ _ _ _ h) (Or.inl ⟨by rfl, ?_⟩) rfl ?_
  · intro w'
    exact y_nil rfl rfl
  refine pure_ (i := 12) (N := some 44) (v := .pointer (some ⟨g, 7, none⟩)) (ms 34 13) rfl rfl (by kernel_rfl) (fun _ _ _ h => hP _ _ _ _ _ h) (Or.inl ⟨by rfl, ?_⟩) rfl ?_
  · intro w'
    exact y_f94_4 rfl rfl
  refine take_ (i := 13) (N := some 45) (v := .slice (some ad) (j + 1) cap) (ms 34 14) rfl rfl (by kernel_rfl) (fun _ _ _ h => hP _ _ _ _ _ h) (Or.inl ⟨by rfl, ?_⟩) hHeld rfl ?_
  · rintro w' ⟨q1, q2, q3, q4, q5, q6, q7⟩
    exact y_load45 rfl rfl q3
  refine pure_ (i := 14) (N := some 46) (v := .pointer (some ⟨g, 0, none⟩)) (ms 34 15) rfl rfl (by kernel_rfl) (fun _ _ _ h => hP _ _ _ _ _ h) (Or.inl ⟨by rfl, ?_⟩) rfl ?_
  · intro w'
    exact y_move rfl rfl
  refine pure_ (i := 15) (N := some 47) (v := .pointer (some ⟨g, 0, none⟩)) (a' := ⟨[.pointer (some ⟨g, 0, none⟩), u1, u2, u3, u4, u5, u6, u7, u8, u9, u10, u11, u12, u13, u14, u15, u16, u17, u18, u19, u20, u21, u22, u23, u24, u25, u26, u27, u28, u29, u30, u31, .pointer (some ⟨g, 0, none⟩), .pointer (some ⟨g, 0, none⟩), .pointer (some ⟨g, 0, none⟩), .pointer (some ⟨g, 34, none⟩), .pointer (some ⟨g, 36, none⟩), .slice none 0 0, .pointer (some ⟨g, 0, none⟩), .pointer (some ⟨g, 0, none⟩), .pointer (some ⟨g, 11, none⟩), .int .i64 i, .pointer (some ⟨g, 0, none⟩), .pointer (some ⟨g, 0, none⟩), .pointer (some ⟨g, 7, none⟩), .slice (some ad) (j + 1) cap, .pointer (some ⟨g, 0, none⟩), .pointer (some ⟨g, 0, none⟩), u48, u49, u50, u51, u52, u53, u54, u55, u56, u57, u58, u59, u60, u61, u62, u63, u64].toArray, []⟩) (ms 34 16) rfl rfl (by kernel_rfl) (fun _ _ _ h => hP _ _ _ _ _ h) (Or.inl ⟨by rfl, ?_⟩) rfl ?_
  · intro w'
    exact y_nil rfl rfl
  refine pure_ (i := 16) (N := some 48) (v := .pointer (some ⟨g, 11, none⟩)) (ms 34 17) rfl rfl (by kernel_rfl) (fun _ _ _ h => hP _ _ _ _ _ h) (Or.inl ⟨by rfl, ?_⟩) rfl ?_
  · intro w'
    exact y_f94_8 rfl rfl
  refine take_ (i := 17) (N := some 49) (v := .int .i64 i) (ms 34 18) rfl rfl (by kernel_rfl) (fun _ _ _ h => hP _ _ _ _ _ h) (Or.inl ⟨by rfl, ?_⟩) hHeld rfl ?_
  · rintro w' ⟨q1, q2, q3, q4, q5, q6, q7⟩
    exact y_load3 rfl rfl q1
  refine pure_ (i := 18) (N := some 50) (v := .pointer (some ⟨g, 0, none⟩)) (ms 34 19) rfl rfl (by kernel_rfl) (fun _ _ _ h => hP _ _ _ _ _ h) (Or.inl ⟨by rfl, ?_⟩) rfl ?_
  · intro w'
    exact y_move rfl rfl
  refine pure_ (i := 19) (N := some 51) (v := .pointer (some ⟨g, 0, none⟩)) (a' := ⟨[.pointer (some ⟨g, 0, none⟩), u1, u2, u3, u4, u5, u6, u7, u8, u9, u10, u11, u12, u13, u14, u15, u16, u17, u18, u19, u20, u21, u22, u23, u24, u25, u26, u27, u28, u29, u30, u31, .pointer (some ⟨g, 0, none⟩), .pointer (some ⟨g, 0, none⟩), .pointer (some ⟨g, 0, none⟩), .pointer (some ⟨g, 34, none⟩), .pointer (some ⟨g, 36, none⟩), .slice none 0 0, .pointer (some ⟨g, 0, none⟩), .pointer (some ⟨g, 0, none⟩), .pointer (some ⟨g, 11, none⟩), .int .i64 i, .pointer (some ⟨g, 0, none⟩), .pointer (some ⟨g, 0, none⟩), .pointer (some ⟨g, 7, none⟩), .slice (some ad) (j + 1) cap, .pointer (some ⟨g, 0, none⟩), .pointer (some ⟨g, 0, none⟩), .pointer (some ⟨g, 11, none⟩), .int .i64 i, .pointer (some ⟨g, 0, none⟩), .pointer (some ⟨g, 0, none⟩), u52, u53, u54, u55, u56, u57, u58, u59, u60, u61, u62, u63, u64].toArray, []⟩) (ms 34 20) rfl rfl (by kernel_rfl) (fun _ _ _ h => hP _ _ _ _ _ h) (Or.inl ⟨by rfl, ?_⟩) rfl ?_
  · intro w'
    exact y_nil rfl rfl
  refine pure_ (i := 20) (N := some 52) (v := .pointer (some ⟨g, 3, none⟩)) (ms 34 21) rfl rfl (by kernel_rfl) (fun _ _ _ h => hP _ _ _ _ _ h) (Or.inl ⟨by rfl, ?_⟩) rfl ?_
  · intro w'
    exact y_f94_3 rfl rfl
  refine pure_ (i := 21) (N := some 53) (v := .pointer (some ⟨g, 3, none⟩)) (ms 34 22) rfl rfl (by kernel_rfl) (fun _ _ _ h => hP _ _ _ _ _ h) (Or.inl ⟨by rfl, ?_⟩) rfl ?_
  · intro w'
    exact y_f90_0 rfl rfl
  refine take_ (i := 22) (N := some 54) (v := .int .i64 bidx) (ms 34 23) rfl rfl (by kernel_rfl) (fun _ _ _ h => hP _ _ _ _ _ h) (Or.inl ⟨by rfl, ?_⟩) hHeld rfl ?_
  · rintro w' ⟨q1, q2, q3, q4, q5, q6, q7⟩
    exact y_load3 rfl rfl q2
  refine pure_ (i := 23) (N := some 55) (v := .int .i64 (i - bidx)) (a' := ⟨[.pointer (some ⟨g, 0, none⟩), u1, u2, u3, u4, u5, u6, u7, u8, u9, u10, u11, u12, u13, u14, u15, u16, u17, u18, u19, u20, u21, u22, u23, u24, u25, u26, u27, u28, u29, u30, u31, .pointer (some ⟨g, 0, none⟩), .pointer (some ⟨g, 0, none⟩), .pointer (some ⟨g, 0, none⟩), .pointer (some ⟨g, 34, none⟩), .pointer (some ⟨g, 36, none⟩), .slice none 0 0, .pointer (some ⟨g, 0, none⟩), .pointer (some ⟨g, 0, none⟩), .pointer (some ⟨g, 11, none⟩), .int .i64 i, .pointer (some ⟨g, 0, none⟩), .pointer (some ⟨g, 0, none⟩), .pointer (some ⟨g, 7, none⟩), .slice (some ad) (j + 1) cap, .pointer (some ⟨g, 0, none⟩), .pointer (some ⟨g, 0, none⟩), .pointer (some ⟨g, 11, none⟩), .int .i64 i, .pointer (some ⟨g, 0, none⟩), .pointer (some ⟨g, 0, none⟩), .pointer (some ⟨g, 3, none⟩), .pointer (some ⟨g, 3, none⟩), .int .i64 bidx, .int .i64 (i - bidx), u56, u57, u58, u59, u60, u61, u62, u63, u64].toArray, []⟩) (ms 34 24) rfl rfl (by kernel_rfl) (fun _ _ _ h => hP _ _ _ _ _ h) (Or.inl ⟨by rfl, ?_⟩) rfl ?_
  · intro w'
    exact y_sub rfl rfl rfl hw1
  refine pure_ (i := 24) (N := some 56) (v := .int .i64 (j : Int)) (ms 34 25) rfl rfl (by kernel_rfl) (fun _ _ _ h => hP _ _ _ _ _ h) (Or.inl ⟨by rfl, ?_⟩) rfl ?_
  · intro w'
    exact y_sub rfl rfl rfl hw2
  refine pure_ (i := 25) (N := some 57) (v := .pointer (some (ad.add (j * 3)))) (ms 34 26) rfl rfl (by kernel_rfl) (fun _ _ _ h => hP _ _ _ _ _ h) (Or.inl ⟨by rfl, ?_⟩) rfl ?_
  · intro w'
    exact y_index45 rfl rfl rfl (Nat.lt_succ_self j)
  refine take_ (i := 26) (N := some 58) (v := .agg #[.int .i64 x.f0, .int .i64 x.f1, .string x.f2]) (ms 34 27) rfl rfl (by kernel_rfl) (fun _ _ _ h => hP _ _ _ _ _ h) (Or.inl ⟨by rfl, ?_⟩) hHeld rfl ?_
  · rintro w' ⟨q1, q2, q3, q4, q5, q6, q7⟩
    exact y_load39 rfl rfl q5 q6 q7
  refine pure_ (i := 27) (N := some 59) (v := .agg #[.int .i64 i, .int .i64 x.f0, .int .i64 x.f1, .string x.f2, .bool false]) (a' := ⟨[.pointer (some ⟨g, 0, none⟩), u1, u2, u3, u4, u5, u6, u7, u8, u9, u10, u11, u12, u13, u14, u15, u16, u17, u18, u19, u20, u21, u22, u23, u24, u25, u26, u27, u28, u29, u30, u31, .pointer (some ⟨g, 0, none⟩), .pointer (some ⟨g, 0, none⟩), .pointer (some ⟨g, 0, none⟩), .pointer (some ⟨g, 34, none⟩), .pointer (some ⟨g, 36, none⟩), .slice none 0 0, .pointer (some ⟨g, 0, none⟩), .pointer (some ⟨g, 0, none⟩), .pointer (some ⟨g, 11, none⟩), .int .i64 i, .pointer (some ⟨g, 0, none⟩), .pointer (some ⟨g, 0, none⟩), .pointer (some ⟨g, 7, none⟩), .slice (some ad) (j + 1) cap, .pointer (some ⟨g, 0, none⟩), .pointer (some ⟨g, 0, none⟩), .pointer (some ⟨g, 11, none⟩), .int .i64 i, .pointer (some ⟨g, 0, none⟩), .pointer (some ⟨g, 0, none⟩), .pointer (some ⟨g, 3, none⟩), .pointer (some ⟨g, 3, none⟩), .int .i64 bidx, .int .i64 (i - bidx), .int .i64 (j : Int), .pointer (some (ad.add (j * 3))), .agg #[.int .i64 x.f0, .int .i64 x.f1, .string x.f2], .agg #[.int .i64 i, .int .i64 x.f0, .int .i64 x.f1, .string x.f2, .bool false], u60, u61, u62, u63, u64].toArray, []⟩) (ms 34 28) rfl rfl (by kernel_rfl) (fun _ _ _ h => hP _ _ _ _ _ h) (Or.inl ⟨by rfl, ?_⟩) rfl ?_
  · intro w'
    exact y_build41 rfl rfl rfl
  refine one_ (i := 28) (N := some 60) (ms 34 29) rfl rfl (by kernel_rfl) (by decide) (fun K hK => ?_)
  refine value_ (v := .slice (some ⟨w.drew.heap.size, 0, none⟩) 1 1) (w1 := w.drew.alloc (.cells #[.int .i64 i, .int .i64 x.f0, .int .i64 x.f1, .string x.f2, .bool false] 41)) (by rfl) rfl (y_bs41 rfl rfl) ?_
  refine hK.out _ _ ?_ ?_
  · exact HS1 _ ((Below.refl _ _).alloc (Nat.le_refl _) _)
  intro hHeld1
  refine wpAnyLast_eq (a' := ⟨[.pointer (some ⟨g, 0, none⟩), u1, u2, u3, u4, u5, u6, u7, u8, u9, u10, u11, u12, u13, u14, u15, u16, u17, u18, u19, u20, u21, u22, u23, u24, u25, u26, u27, u28, u29, u30, u31, .pointer (some ⟨g, 0, none⟩), .pointer (some ⟨g, 0, none⟩), .pointer (some ⟨g, 0, none⟩), .pointer (some ⟨g, 34, none⟩), .pointer (some ⟨g, 36, none⟩), .slice none 0 0, .pointer (some ⟨g, 0, none⟩), .pointer (some ⟨g, 0, none⟩), .pointer (some ⟨g, 11, none⟩), .int .i64 i, .pointer (some ⟨g, 0, none⟩), .pointer (some ⟨g, 0, none⟩), .pointer (some ⟨g, 7, none⟩), .slice (some ad) (j + 1) cap, .pointer (some ⟨g, 0, none⟩), .pointer (some ⟨g, 0, none⟩), .pointer (some ⟨g, 11, none⟩), .int .i64 i, .pointer (some ⟨g, 0, none⟩), .pointer (some ⟨g, 0, none⟩), .pointer (some ⟨g, 3, none⟩), .pointer (some ⟨g, 3, none⟩), .int .i64 bidx, .int .i64 (i - bidx), .int .i64 (j : Int), .pointer (some (ad.add (j * 3))), .agg #[.int .i64 x.f0, .int .i64 x.f1, .string x.f2], .agg #[.int .i64 i, .int .i64 x.f0, .int .i64 x.f1, .string x.f2, .bool false], .slice (some ⟨w.drew.heap.size, 0, none⟩) 1 1, u61, u62, u63, u64].toArray, []⟩) rfl ?_
  refine one_ (i := 29) (N := some 61) (ms 34 30) rfl rfl (by kernel_rfl) (by decide) (fun K hK => ?_)
  refine step_append_cells (w0 := w.drew) w.drew.heap.size (by rfl) (.tmp 37) (.tmp 60) 30 41 _ 5 48 (by rfl) Try.underlying30 info41 rfl (by decide) (by decide) (.slice none 0 0) 0 [] [.int .i64 i, .int .i64 x.f0, .int .i64 x.f1, .string x.f2, .bool false] (by rfl) (by rfl) rfl (by simp [Value.oneCell']) (own_nil _ _ _ _) (Below.refl _ _) (Nat.le_refl _) (by decide) ?_
  intro v1 w3 hown hB hg hat
  obtain ⟨A1, c1, rfl⟩ := own_slice hown
  refine hK.out _ _ ?_ ?_
  · exact HS1 _ hB
  intro hHeld2
  refine wpAnyLast_eq (a' := ⟨[.pointer (some ⟨g, 0, none⟩), u1, u2, u3, u4, u5, u6, u7, u8, u9, u10, u11, u12, u13, u14, u15, u16, u17, u18, u19, u20, u21, u22, u23, u24, u25, u26, u27, u28, u29, u30, u31, .pointer (some ⟨g, 0, none⟩), .pointer (some ⟨g, 0, none⟩), .pointer (some ⟨g, 0, none⟩), .pointer (some ⟨g, 34, none⟩), .pointer (some ⟨g, 36, none⟩), .slice none 0 0, .pointer (some ⟨g, 0, none⟩), .pointer (some ⟨g, 0, none⟩), .pointer (some ⟨g, 11, none⟩), .int .i64 i, .pointer (some ⟨g, 0, none⟩), .pointer (some ⟨g, 0, none⟩), .pointer (some ⟨g, 7, none⟩), .slice (some ad) (j + 1) cap, .pointer (some ⟨g, 0, none⟩), .pointer (some ⟨g, 0, none⟩), .pointer (some ⟨g, 11, none⟩), .int .i64 i, .pointer (some ⟨g, 0, none⟩), .pointer (some ⟨g, 0, none⟩), .pointer (some ⟨g, 3, none⟩), .pointer (some ⟨g, 3, none⟩), .int .i64 bidx, .int .i64 (i - bidx), .int .i64 (j : Int), .pointer (some (ad.add (j * 3))), .agg #[.int .i64 x.f0, .int .i64 x.f1, .string x.f2], .agg #[.int .i64 i, .int .i64 x.f0, .int .i64 x.f1, .string x.f2, .bool false], .slice (some ⟨w.drew.heap.size, 0, none⟩) 1 1, .slice A1 1 c1, u62, u63, u64].toArray, []⟩) rfl ?_
  refine pure_ (i := 30) (N := some 62) (v := .pointer (some ⟨g, 0, none⟩)) (ms 34 31) rfl rfl (by kernel_rfl) (fun _ _ _ h => hP _ _ _ _ _ h) (Or.inl ⟨by rfl, ?_⟩) rfl ?_
  · intro w'
    exact y_nil rfl rfl
  refine pure_ (i := 31) (N := some 63) (v := .pointer (some ⟨g, 34, none⟩)) (ms 34 32) rfl rfl (by kernel_rfl) (fun _ _ _ h => hP _ _ _ _ _ h) (Or.inl ⟨by rfl, ?_⟩) rfl ?_
  · intro w'
    exact y_f94_13 rfl rfl
  refine pure_ (i := 32) (N := some 64) (v := .pointer (some ⟨g, 36, none⟩)) (a' := ⟨[.pointer (some ⟨g, 0, none⟩), u1, u2, u3, u4, u5, u6, u7, u8, u9, u10, u11, u12, u13, u14, u15, u16, u17, u18, u19, u20, u21, u22, u23, u24, u25, u26, u27, u28, u29, u30, u31, .pointer (some ⟨g, 0, none⟩), .pointer (some ⟨g, 0, none⟩), .pointer (some ⟨g, 0, none⟩), .pointer (some ⟨g, 34, none⟩), .pointer (some ⟨g, 36, none⟩), .slice none 0 0, .pointer (some ⟨g, 0, none⟩), .pointer (some ⟨g, 0, none⟩), .pointer (some ⟨g, 11, none⟩), .int .i64 i, .pointer (some ⟨g, 0, none⟩), .pointer (some ⟨g, 0, none⟩), .pointer (some ⟨g, 7, none⟩), .slice (some ad) (j + 1) cap, .pointer (some ⟨g, 0, none⟩), .pointer (some ⟨g, 0, none⟩), .pointer (some ⟨g, 11, none⟩), .int .i64 i, .pointer (some ⟨g, 0, none⟩), .pointer (some ⟨g, 0, none⟩), .pointer (some ⟨g, 3, none⟩), .pointer (some ⟨g, 3, none⟩), .int .i64 bidx, .int .i64 (i - bidx), .int .i64 (j : Int), .pointer (some (ad.add (j * 3))), .agg #[.int .i64 x.f0, .int .i64 x.f1, .string x.f2], .agg #[.int .i64 i, .int .i64 x.f0, .int .i64 x.f1, .string x.f2, .bool false], .slice (some ⟨w.drew.heap.size, 0, none⟩) 1 1, .slice A1 1 c1, .pointer (some ⟨g, 0, none⟩), .pointer (some ⟨g, 34, none⟩), .pointer (some ⟨g, 36, none⟩)].toArray, []⟩) (ms 34 33) rfl rfl (by kernel_rfl) (fun _ _ _ h => hP _ _ _ _ _ h) (Or.inl ⟨by rfl, ?_⟩) rfl ?_
  · intro w'
    exact y_f32_2 rfl rfl
  refine last_ (i := 33) (N := none) (ms 34 34) rfl rfl (by kernel_rfl) (by decide) (fun K hK => ?_)
  refine skip_ (w1 := w3.setCell ⟨g, 36, none⟩ (.slice A1 1 c1)) (by rfl) rfl (y_store30 rfl rfl rfl hHeld2.2.2.2.1 (HF _ hB)) ?_
  refine hK.out _ _ ?_
  refine done_ (by kernel_rfl) ?_
  exact h A1 c1 w3 hown hB

section
variable {a : Act} {o1 : Oper} {w : World}
theorem y_len45 {t : Tmp} {n c : Nat} {A : Option Addr} (ho : o1.op = .call { callee := .builtin .len, args := #[.tmp t], argTypes := #[45] }) (hx : a.eval (.tmp t) = .slice A n c) : (execOp a.eval o1).run Try.prog w = .ok (.value (.int .i64 n)) w := by
  have hu := Try.underlying45
  have hx' : a.tmps[t]?.getD undef = .slice A n c := by unfold Act.eval at hx; simpa using hx
  unfold execOp
  simp only [ho]
  go_simp
theorem y_slice45 {x y z : Operand} {n c : Nat} {A : Option Addr} (ho : o1.op = .slice 45 x none (some y) (some z)) (hx : a.eval x = .slice A n c) (hy : a.eval y = .int .i64 n) (hz : a.eval z = .int .i64 n) (hc : n ≤ c) : (execOp a.eval o1).run Try.prog w = .ok (.value (.slice A n n)) w := by
  have hu := Try.underlying45
  unfold execOp
  simp only [ho, hx, hy, hz, Option.map]
  go_simp
theorem y_bs39 {s : Tmp} {v0 v1 : Int} {v2 : ByteArray} (ho : o1.op = .buildSlice 45 1 #[(0, .tmp s)]) (hx : a.eval (.tmp s) = .agg #[.int .i64 v0, .int .i64 v1, .string v2]) : (execOp a.eval o1).run Try.prog w = .ok (.value (.slice (some ⟨w.heap.size, 0, none⟩) 1 1)) (w.alloc (.cells #[.int .i64 v0, .int .i64 v1, .string v2] 39)) := by
  have hu := Try.underlying45
  have hx' : a.tmps[s]?.getD undef = .agg #[.int .i64 v0, .int .i64 v1, .string v2] := by unfold Act.eval at hx; simpa using hx
  unfold execOp
  simp only [ho]
  go_simp
theorem y_store45 {x y : Operand} {b i n c : Nat} {A : Option Addr} {u : Value} (ho : o1.op = .store 45 x y) (hx : a.eval x = .pointer (some ⟨b, i, none⟩)) (hy : a.eval y = .slice A n c) (hc : w.cell? ⟨b, i, none⟩ = some u) (hf : w.frozen? ⟨b, i, none⟩ = false) : (execOp a.eval o1).run Try.prog w = .ok .skip (w.setCell ⟨b, i, none⟩ (.slice A n c)) := by
  have hu := Try.underlying45
  unfold execOp
  simp only [ho, hx, hy]
  go_simp
theorem info39 : ∃ i, Try.prog.info? 39 = some i ∧ i.zero = some (.agg #[.int .i64 0, .int .i64 0, .string ⟨#[]⟩]) ∧ i.size = 3 ∧ i.bytes = 32 := by
  have h : (Try.prog.info? 39).map (fun i => (i.zero, i.size, i.bytes)) = some (some (.agg #[.int .i64 0, .int .i64 0, .string ⟨#[]⟩]), 3, 32) := by kernel_rfl
  obtain ⟨i, h1, h2⟩ := Option.map_eq_some_iff.1 h
  simp only [Prod.mk.injEq] at h2
  exact ⟨i, h1, h2.1, h2.2.1, h2.2.2⟩
/-- append of one entry to a full row: a new row. -/
theorem y_grow45 {s x : Tmp} (ho : o1.op = .call { callee := .builtin .append, args := #[.tmp s, .tmp x], argTypes := #[45, 45] }) (ao : Option Addr) (n : Nat) (olds : List Value) (hs : a.eval (.tmp s) = .slice ao n n) (hnone : ao = none → n = 0) (hlo : olds.length = n * 3) (holds : ∀ b, ao = some b → ∀ j u, olds[j]? = some u → w.cell? (b.add j) = some u)
    (ad : Addr) (c : Nat) (v0 v1 : Int) (v2 : ByteArray) (hx : a.eval (.tmp x) = .slice (some ad) 1 c) (hc : ∀ j u, [Value.int .i64 v0, .int .i64 v1, .string v2][j]? = some u → w.cell? (ad.add j) = some u) (hl : n ≤ 4096) :
    ∃ v' w', (execOp a.eval o1).run Try.prog w = .ok (.value v') w' ∧ w'.ownsRow w.heap.size 39 3 v' (n + 1) (olds ++ [.int .i64 v0, .int .i64 v1, .string v2]) ∧ w.grownBy w' none := by
  obtain ⟨i, h1, h2, h3, h4⟩ := info39
  have hs' : a.tmps[s]?.getD undef = .slice ao n n := by unfold Act.eval at hs; simpa using hs
  have hx' : a.tmps[x]?.getD undef = .slice (some ad) 1 c := by unfold Act.eval at hx; simpa using hx
  have hm : n + 1 ≤ maxLen := by unfold maxLen; omega
  cases ao with
  | some b =>
    obtain ⟨v', w', hrun, r1, r2⟩ := run_append_arg_grows (P := Try.prog) w 45 o1.type 39 i _ 3 32 Try.underlying45 h1 h2 h3 h4 rfl (by decide) b n n olds hlo (holds b rfl) ad 1 c [.int .i64 v0, .int .i64 v1, .string v2] rfl hc (by omega) hm (by omega)
    refine ⟨v', w', ?_, r1, r2⟩
    simp [execOp, ho, resolve, invoke, builtin, Act.eval, hs', hx', hrun, Result.andThen]
  | none =>
    obtain rfl := hnone rfl
    obtain rfl : olds = [] := List.eq_nil_of_length_eq_zero (by simpa using hlo)
    obtain ⟨v', w', hrun, r1, r2, _⟩ := run_append_own (P := Try.prog) w w.heap.size 45 o1.type 39 i _ 3 32 Try.underlying45 h1 h2 h3 h4 rfl (by decide) (.slice none 0 0) 0 [] (World.ownsRow_nil w _ 39 3) ad 1 c [.int .i64 v0, .int .i64 v1, .string v2] rfl hc (by simp [Value.oneCell']) hm (by omega) (Nat.le_refl _)
    refine ⟨v', w', ?_, r1, r2⟩
    simp [execOp, ho, resolve, invoke, builtin, Act.eval, hs', hx', hrun, Result.andThen]
end
theorem lit39 (w : World) (v0 v1 : Int) (v2 : ByteArray) : ∀ j u, [Value.int .i64 v0, .int .i64 v1, .string v2][j]? = some u → (w.alloc (.cells #[.int .i64 v0, .int .i64 v1, .string v2] 39)).cell? ((⟨w.heap.size, 0, none⟩ : Addr).add j) = some u := fun j u h => by
  rw [Addr.add_lit, Nat.zero_add, blk_cell (blk_new w _)]
  simpa using h

noncomputable def add_first_reg : Code := (Try.f42.body.bind (regionOf 1)).getD .skip
set_option maxRecDepth 1000000 in
set_option maxHeartbeats 4000000 in
/-- add's first statement: a new row with one entry more. -/
theorem add_first (u1 u2 u4 u5 u6 u7 u8 u9 u10 u11 u12 u13 u14 u15 u16 u17 u18 u19 u20 u21 u22 u23 u24 u25 u26 u27 u28 u29 u30 u31 u32 : Value) (g b3 : Nat) (w : World) (Q : Exit → Act → World → Prop) (A : Option Addr) (n cap : Nat) (v0 v1 : Int) (v2 : ByteArray) (olds : List Value) (hP : ∀ x a d v w, Q (.panic x) (a.put (some d) v) w → Q (.panic x) a w) (c7 : w.cell? ⟨g, 7, none⟩ = some (.slice A n cap)) (hc0 : w.cell? ⟨b3, 0, none⟩ = some (.int .i64 v0)) (hc1 : w.cell? ⟨b3, 1, none⟩ = some (.int .i64 v1)) (hc2 : w.cell? ⟨b3, 2, none⟩ = some (.string v2)) (hcap : n ≤ cap) (hl : n ≤ 4096) (hnone : A = none → n = 0) (hlo : olds.length = n * 3) (hold : ∀ w', Below w.drew.heap.size w.drew w' → ∀ b, A = some b → ∀ j u, olds[j]? = some u → w'.cell? (b.add j) = some u) (HF : ∀ w', Below w.drew.heap.size w.drew w' → w'.frozen? ⟨g, 7, none⟩ = false)
    (h : ∀ A1 c1 w3, w3.ownsRow w.drew.heap.size 39 3 (.slice A1 (n + 1) c1) (n + 1) (olds ++ [.int .i64 v0, .int .i64 v1, .string v2]) → Below w.drew.heap.size w.drew w3 → Q .normal ⟨[.pointer (some ⟨g, 0, none⟩), u1, u2, .pointer (some ⟨b3, 0, none⟩), .pointer (some ⟨g, 0, none⟩), .pointer (some ⟨g, 0, none⟩), .pointer (some ⟨g, 0, none⟩), .pointer (some ⟨g, 7, none⟩), .slice A n cap, .pointer (some ⟨g, 0, none⟩), .pointer (some ⟨g, 0, none⟩), .pointer (some ⟨g, 7, none⟩), .slice A n cap, .int .i64 n, .pointer (some ⟨g, 0, none⟩), .pointer (some ⟨g, 0, none⟩), .pointer (some ⟨g, 7, none⟩), .slice A n cap, .int .i64 n, .slice A n n, .agg #[.int .i64 v0, .int .i64 v1, .string v2], .slice (some ⟨w.drew.heap.size, 0, none⟩) 1 1, .slice A1 (n + 1) c1, .pointer (some ⟨g, 0, none⟩), .pointer (some ⟨g, 7, none⟩), u25, u26, u27, u28, u29, u30, u31, u32].toArray, []⟩ (w3.setCell ⟨g, 7, none⟩ (.slice A1 (n + 1) c1))) :
    Code.wp Try.prog add_first_reg Q ⟨[.pointer (some ⟨g, 0, none⟩), u1, u2, .pointer (some ⟨b3, 0, none⟩), u4, u5, u6, u7, u8, u9, u10, u11, u12, u13, u14, u15, u16, u17, u18, u19, u20, u21, u22, u23, u24, u25, u26, u27, u28, u29, u30, u31, u32].toArray, []⟩ w := by
  conv => arg 2; whnf
  have HS1 : ∀ w', Below w.drew.heap.size w.drew w' → w'.cell? ⟨g, 7, none⟩ = some (.slice A n cap) ∧ w'.cell? ⟨b3, 0, none⟩ = some (.int .i64 v0) ∧ w'.cell? ⟨b3, 1, none⟩ = some (.int .i64 v1) ∧ w'.cell? ⟨b3, 2, none⟩ = some (.string v2) := fun w' hb => ⟨pw_cell_below hb c7, pw_cell_below hb hc0, pw_cell_below hb hc1, pw_cell_below hb hc2⟩
  refine start_ (n := 22) (S := fun w' => w'.cell? ⟨g, 7, none⟩ = some (.slice A n cap) ∧ w'.cell? ⟨b3, 0, none⟩ = some (.int .i64 v0) ∧ w'.cell? ⟨b3, 1, none⟩ = some (.int .i64 v1) ∧ w'.cell? ⟨b3, 2, none⟩ = some (.string v2)) (ds := [21]) (ms 22 0) (by kernel_rfl) rfl rfl ⟨c7, hc0, hc1, hc2⟩ (fun hHeld => ?_)
  refine pure_ (i := 0) (N := some 4) (v := .pointer (some ⟨g, 0, none⟩)) (ms 22 1) rfl rfl (by kernel_rfl) (fun _ _ _ h => hP _ _ _ _ _ h) (Or.inl ⟨by rfl, ?_⟩) rfl ?_
  · intro w'
    exact y_move rfl rfl
  refine pure_ (i := 1) (N := some 5) (v := .pointer (some ⟨g, 0, none⟩)) (ms 22 2) rfl rfl (by kernel_rfl) (fun _ _ _ h => hP _ _ _ _ _ h) (Or.inl ⟨by rfl, ?_⟩) rfl ?_
  · intro w'
    exact y_move rfl rfl
  refine pure_ (i := 2) (N := some 6) (v := .pointer (some ⟨g, 0, none⟩)) (ms 22 3) rfl rfl (by kernel_rfl) (fun _ _ _ h => hP _ _ _ _ _ h) (Or.inl ⟨by rfl, ?_⟩) rfl ?_
  · intro w'
    exact y_nil rfl rfl
  refine pure_ (i := 3) (N := some 7) (v := .pointer (some ⟨g, 7, none⟩)) (a' := ⟨[.pointer (some ⟨g, 0, none⟩), u1, u2, .pointer (some ⟨b3, 0, none⟩), .pointer (some ⟨g, 0, none⟩), .pointer (some ⟨g, 0, none⟩), .pointer (some ⟨g, 0, none⟩), .pointer (some ⟨g, 7, none⟩), u8, u9, u10, u11, u12, u13, u14, u15, u16, u17, u18, u19, u20, u21, u22, u23, u24, u25, u26, u27, u28, u29, u30, u31, u32].toArray, []⟩) (ms 22 4) rfl rfl (by kernel_rfl) (fun _ _ _ h => hP _ _ _ _ _ h) (Or.inl ⟨by rfl, ?_⟩) rfl ?_
  · intro w'
    exact y_f94_4 rfl rfl
  refine take_ (i := 4) (N := some 8) (v := .slice A n cap) (ms 22 5) rfl rfl (by kernel_rfl) (fun _ _ _ h => hP _ _ _ _ _ h) (Or.inl ⟨by rfl, ?_⟩) hHeld rfl ?_
  · rintro w' ⟨q1, q2, q3, q4⟩
    exact y_load45 rfl rfl q1
  refine pure_ (i := 5) (N := some 9) (v := .pointer (some ⟨g, 0, none⟩)) (ms 22 6) rfl rfl (by kernel_rfl) (fun _ _ _ h => hP _ _ _ _ _ h) (Or.inl ⟨by rfl, ?_⟩) rfl ?_
  · intro w'
    exact y_move rfl rfl
  refine pure_ (i := 6) (N := some 10) (v := .pointer (some ⟨g, 0, none⟩)) (ms 22 7) rfl rfl (by kernel_rfl) (fun _ _ _ h => hP _ _ _ _ _ h) (Or.inl ⟨by rfl, ?_⟩) rfl ?_
  · intro w'
    exact y_nil rfl rfl
  refine pure_ (i := 7) (N := some 11) (v := .pointer (some ⟨g, 7, none⟩)) (a' := ⟨[.pointer (some ⟨g, 0, none⟩), u1, u2, .pointer (some ⟨b3, 0, none⟩), .pointer (some ⟨g, 0, none⟩), .pointer (some ⟨g, 0, none⟩), .pointer (some ⟨g, 0, none⟩), .pointer (some ⟨g, 7, none⟩), .slice A n cap, .pointer (some ⟨g, 0, none⟩), .pointer (some ⟨g, 0, none⟩), .pointer (some ⟨g, 7, none⟩), u12, u13, u14, u15, u16, u17, u18, u19, u20, u21, u22, u23, u24, u25, u26, u27, u28, u29, u30, u31, u32].toArray, []⟩) (ms 22 8) rfl rfl (by kernel_rfl) (fun _ _ _ h => hP _ _ _ _ _ h) (Or.inl ⟨by rfl, ?_⟩) rfl ?_
  · intro w'
    exact y_f94_4 rfl rfl
  refine take_ (i := 8) (N := some 12) (v := .slice A n cap) (ms 22 9) rfl rfl (by kernel_rfl) (fun _ _ _ h => hP _ _ _ _ _ h) (Or.inl ⟨by rfl, ?_⟩) hHeld rfl ?_
  · rintro w' ⟨q1, q2, q3, q4⟩
    exact y_load45 rfl rfl q1
  refine pure_ (i := 9) (N := some 13) (v := .int .i64 n) (ms 22 10) rfl rfl (by kernel_rfl) (fun _ _ _ h => hP _ _ _ _ _ h) (Or.inl ⟨by rfl, ?_⟩) rfl ?_
  · intro w'
    exact y_len45 rfl rfl
  refine pure_ (i := 10) (N := some 14) (v := .pointer (some ⟨g, 0, none⟩)) (ms 22 11) rfl rfl (by kernel_rfl) (fun _ _ _ h => hP _ _ _ _ _ h) (Or.inl ⟨by rfl, ?_⟩) rfl ?_
  · intro w'
    exact y_move rfl rfl
  refine pure_ (i := 11) (N := some 15) (v := .pointer (some ⟨g, 0, none⟩)) (a' := ⟨[.pointer (some ⟨g, 0, none⟩), u1, u2, .pointer (some ⟨b3, 0, none⟩), .pointer (some ⟨g, 0, none⟩), .pointer (some ⟨g, 0, none⟩), .pointer (some ⟨g, 0, none⟩), .pointer (some ⟨g, 7, none⟩), .slice A n cap, .pointer (some ⟨g, 0, none⟩), .pointer (some ⟨g, 0, none⟩), .pointer (some ⟨g, 7, none⟩), .slice A n cap, .int .i64 n, .pointer (some ⟨g, 0, none⟩), .pointer (some ⟨g, 0, none⟩), u16, u17, u18, u19, u20, u21, u22, u23, u24, u25, u26, u27, u28, u29, u30, u31, u32].toArray, []⟩) (ms 22 12) rfl rfl (by kernel_rfl) (fun _ _ _ h => hP _ _ _ _ _ h) (Or.inl ⟨by rfl, ?_⟩) rfl ?_
  · intro w'
    exact y_nil rfl rfl
  refine pure_ (i := 12) (N := some 16) (v := .pointer (some ⟨g, 7, none⟩)) (ms 22 13) rfl rfl (by kernel_rfl) (fun _ _ _ h => hP _ _ _ _ _ h) (Or.inl ⟨by rfl, ?_⟩) rfl ?_
  · intro w'
    exact y_f94_4 rfl rfl
  refine take_ (i := 13) (N := some 17) (v := .slice A n cap) (ms 22 14) rfl rfl (by kernel_rfl) (fun _ _ _ h => hP _ _ _ _ _ h) (Or.inl ⟨by rfl, ?_⟩) hHeld rfl ?_
  · rintro w' ⟨q1, q2, q3, q4⟩
    exact y_load45 rfl rfl q1
  refine pure_ (i := 14) (N := some 18) (v := .int .i64 n) (ms 22 15) rfl rfl (by kernel_rfl) (fun _ _ _ h => hP _ _ _ _ _ h) (Or.inl ⟨by rfl, ?_⟩) rfl ?_
  · intro w'
    exact y_len45 rfl rfl
  refine pure_ (i := 15) (N := some 19) (v := .slice A n n) (a' := ⟨[.pointer (some ⟨g, 0, none⟩), u1, u2, .pointer (some ⟨b3, 0, none⟩), .pointer (some ⟨g, 0, none⟩), .pointer (some ⟨g, 0, none⟩), .pointer (some ⟨g, 0, none⟩), .pointer (some ⟨g, 7, none⟩), .slice A n cap, .pointer (some ⟨g, 0, none⟩), .pointer (some ⟨g, 0, none⟩), .pointer (some ⟨g, 7, none⟩), .slice A n cap, .int .i64 n, .pointer (some ⟨g, 0, none⟩), .pointer (some ⟨g, 0, none⟩), .pointer (some ⟨g, 7, none⟩), .slice A n cap, .int .i64 n, .slice A n n, u20, u21, u22, u23, u24, u25, u26, u27, u28, u29, u30, u31, u32].toArray, []⟩) (ms 22 16) rfl rfl (by kernel_rfl) (fun _ _ _ h => hP _ _ _ _ _ h) (Or.inl ⟨by rfl, ?_⟩) rfl ?_
  · intro w'
    exact y_slice45 rfl rfl rfl rfl hcap
  refine take_ (i := 16) (N := some 20) (v := .agg #[.int .i64 v0, .int .i64 v1, .string v2]) (a' := ⟨[.pointer (some ⟨g, 0, none⟩), u1, u2, .pointer (some ⟨b3, 0, none⟩), .pointer (some ⟨g, 0, none⟩), .pointer (some ⟨g, 0, none⟩), .pointer (some ⟨g, 0, none⟩), .pointer (some ⟨g, 7, none⟩), .slice A n cap, .pointer (some ⟨g, 0, none⟩), .pointer (some ⟨g, 0, none⟩), .pointer (some ⟨g, 7, none⟩), .slice A n cap, .int .i64 n, .pointer (some ⟨g, 0, none⟩), .pointer (some ⟨g, 0, none⟩), .pointer (some ⟨g, 7, none⟩), .slice A n cap, .int .i64 n, .slice A n n, .agg #[.int .i64 v0, .int .i64 v1, .string v2], u21, u22, u23, u24, u25, u26, u27, u28, u29, u30, u31, u32].toArray, []⟩) (ms 22 17) rfl rfl (by kernel_rfl) (fun _ _ _ h => hP _ _ _ _ _ h) (Or.inl ⟨by rfl, ?_⟩) hHeld rfl ?_
  · rintro w' ⟨q1, q2, q3, q4⟩
    exact y_load39 rfl rfl q2 q3 q4
  refine one_ (i := 17) (N := some 21) (ms 22 18) rfl rfl (by kernel_rfl) (by decide) (fun K hK => ?_)
  refine value_ (v := .slice (some ⟨w.drew.heap.size, 0, none⟩) 1 1) (w1 := w.drew.alloc (.cells #[.int .i64 v0, .int .i64 v1, .string v2] 39)) (by rfl) rfl (y_bs39 rfl rfl) ?_
  refine hK.out _ _ ?_ ?_
  · exact HS1 _ ((Below.refl _ _).alloc (Nat.le_refl _) _)
  intro hHeld1
  refine wpAnyLast_eq (a' := ⟨[.pointer (some ⟨g, 0, none⟩), u1, u2, .pointer (some ⟨b3, 0, none⟩), .pointer (some ⟨g, 0, none⟩), .pointer (some ⟨g, 0, none⟩), .pointer (some ⟨g, 0, none⟩), .pointer (some ⟨g, 7, none⟩), .slice A n cap, .pointer (some ⟨g, 0, none⟩), .pointer (some ⟨g, 0, none⟩), .pointer (some ⟨g, 7, none⟩), .slice A n cap, .int .i64 n, .pointer (some ⟨g, 0, none⟩), .pointer (some ⟨g, 0, none⟩), .pointer (some ⟨g, 7, none⟩), .slice A n cap, .int .i64 n, .slice A n n, .agg #[.int .i64 v0, .int .i64 v1, .string v2], .slice (some ⟨w.drew.heap.size, 0, none⟩) 1 1, u22, u23, u24, u25, u26, u27, u28, u29, u30, u31, u32].toArray, []⟩) rfl ?_
  refine one_ (i := 18) (N := some 22) (ms 22 19) rfl rfl (by kernel_rfl) (by decide) (fun K hK => ?_)
  obtain ⟨v1, w3, hrun, hown, hgr⟩ := y_grow45 (a := ⟨[.pointer (some ⟨g, 0, none⟩), u1, u2, .pointer (some ⟨b3, 0, none⟩), .pointer (some ⟨g, 0, none⟩), .pointer (some ⟨g, 0, none⟩), .pointer (some ⟨g, 0, none⟩), .pointer (some ⟨g, 7, none⟩), .slice A n cap, .pointer (some ⟨g, 0, none⟩), .pointer (some ⟨g, 0, none⟩), .pointer (some ⟨g, 7, none⟩), .slice A n cap, .int .i64 n, .pointer (some ⟨g, 0, none⟩), .pointer (some ⟨g, 0, none⟩), .pointer (some ⟨g, 7, none⟩), .slice A n cap, .int .i64 n, .slice A n n, .agg #[.int .i64 v0, .int .i64 v1, .string v2], .slice (some ⟨w.drew.heap.size, 0, none⟩) 1 1, u22, u23, u24, u25, u26, u27, u28, u29, u30, u31, u32].toArray, []⟩) (o1 := { dst := some 22, op := .call { callee := .builtin .append, args := #[.tmp 19, .tmp 21], argTypes := #[45, 45] }, type := 45, pos := "council.go:359", after := #[{ on := 15, ground := .data }, { on := 17, ground := .data }], guard := none }) (w := w.drew.alloc (.cells #[.int .i64 v0, .int .i64 v1, .string v2] 39)) rfl A n olds rfl hnone hlo (fun b hb => hold _ ((Below.refl _ _).alloc (Nat.le_refl _) _) b hb) ⟨w.drew.heap.size, 0, none⟩ 1 v0 v1 v2 rfl (lit39 _ _ _ _) hl
  obtain ⟨A1, c1, rfl⟩ := own_slice hown
  refine value_ (v := .slice A1 (n + 1) c1) (w1 := w3) (by rfl) rfl hrun ?_
  have hB : Below w.drew.heap.size w.drew w3 := pw_below_grown ((Below.refl _ _).alloc (Nat.le_refl _) _) none (by simp) hgr (fun _ h => by cases h)
  have hown2 := own_weaken (base' := w.drew.heap.size) hown (by simp)
  refine hK.out _ _ ?_ ?_
  · exact HS1 _ hB
  intro hHeld2
  refine wpAnyLast_eq (a' := ⟨[.pointer (some ⟨g, 0, none⟩), u1, u2, .pointer (some ⟨b3, 0, none⟩), .pointer (some ⟨g, 0, none⟩), .pointer (some ⟨g, 0, none⟩), .pointer (some ⟨g, 0, none⟩), .pointer (some ⟨g, 7, none⟩), .slice A n cap, .pointer (some ⟨g, 0, none⟩), .pointer (some ⟨g, 0, none⟩), .pointer (some ⟨g, 7, none⟩), .slice A n cap, .int .i64 n, .pointer (some ⟨g, 0, none⟩), .pointer (some ⟨g, 0, none⟩), .pointer (some ⟨g, 7, none⟩), .slice A n cap, .int .i64 n, .slice A n n, .agg #[.int .i64 v0, .int .i64 v1, .string v2], .slice (some ⟨w.drew.heap.size, 0, none⟩) 1 1, .slice A1 (n + 1) c1, u23, u24, u25, u26, u27, u28, u29, u30, u31, u32].toArray, []⟩) rfl ?_
  refine pure_ (i := 19) (N := some 23) (v := .pointer (some ⟨g, 0, none⟩)) (ms 22 20) rfl rfl (by kernel_rfl) (fun _ _ _ h => hP _ _ _ _ _ h) (Or.inl ⟨by rfl, ?_⟩) rfl ?_
  · intro w'
    exact y_nil rfl rfl
  refine pure_ (i := 20) (N := some 24) (v := .pointer (some ⟨g, 7, none⟩)) (a' := ⟨[.pointer (some ⟨g, 0, none⟩), u1, u2, .pointer (some ⟨b3, 0, none⟩), .pointer (some ⟨g, 0, none⟩), .pointer (some ⟨g, 0, none⟩), .pointer (some ⟨g, 0, none⟩), .pointer (some ⟨g, 7, none⟩), .slice A n cap, .pointer (some ⟨g, 0, none⟩), .pointer (some ⟨g, 0, none⟩), .pointer (some ⟨g, 7, none⟩), .slice A n cap, .int .i64 n, .pointer (some ⟨g, 0, none⟩), .pointer (some ⟨g, 0, none⟩), .pointer (some ⟨g, 7, none⟩), .slice A n cap, .int .i64 n, .slice A n n, .agg #[.int .i64 v0, .int .i64 v1, .string v2], .slice (some ⟨w.drew.heap.size, 0, none⟩) 1 1, .slice A1 (n + 1) c1, .pointer (some ⟨g, 0, none⟩), .pointer (some ⟨g, 7, none⟩), u25, u26, u27, u28, u29, u30, u31, u32].toArray, []⟩) (ms 22 21) rfl rfl (by kernel_rfl) (fun _ _ _ h => hP _ _ _ _ _ h) (Or.inl ⟨by rfl, ?_⟩) rfl ?_
  · intro w'
    exact y_f94_4 rfl rfl
  refine last_ (i := 21) (N := none) (ms 22 22) rfl rfl (by kernel_rfl) (by decide) (fun K hK => ?_)
  refine skip_ (w1 := w3.setCell ⟨g, 7, none⟩ (.slice A1 (n + 1) c1)) (by rfl) rfl (y_store45 rfl rfl rfl hHeld2.1 (HF _ hB)) ?_
  refine hK.out _ _ ?_
  refine done_ (by kernel_rfl) ?_
  exact h A1 c1 w3 hown2 hB

noncomputable def settle_last_reg : Code := (Try.f80.body.bind (regionOf 9)).getD .skip
set_option maxRecDepth 1000000 in
set_option maxHeartbeats 4000000 in
/-- settle's test: does it lead on? A voter does. -/
theorem settle_last (u0 u2 u3 u4 u5 u6 u7 u8 u9 u10 u11 u12 u13 u14 u15 u16 u17 u18 u19 u20 u21 u22 u23 u24 u25 u26 u27 u28 u29 u30 u31 u32 u33 u34 u35 u36 u37 u38 u39 u40 u41 u42 u43 u44 u45 u46 u47 u48 u49 u50 u51 u52 u53 u54 u55 u56 u57 u58 u59 u60 u61 u62 u63 u64 u65 u66 u67 u68 u69 u70 u71 u72 u73 u74 u75 : Value) (g b1 : Nat) (w : World) (Q : Exit → Act → World → Prop) (self : Int) (hP : ∀ x a d v w, Q (.panic x) (a.put (some d) v) w → Q (.panic x) a w) (hp : w.cell? ⟨b1, 0, none⟩ = some (.pointer (some ⟨g, 0, none⟩))) (c8 : w.cell? ⟨g, 8, none⟩ = some (.int .i64 2)) (c0 : w.cell? ⟨g, 0, none⟩ = some (.int .i64 self)) (hcall : ∀ w', Below w.drew.heap.size w.drew w' → Calls Try.prog 41 #[.pointer (some ⟨g, 0, none⟩), .int .i64 self] w' fun e w'' => e = .returned (.bool true) ∧ Below w'.heap.size w' w'')
    (h : ∀ w1, Below w.drew.heap.size w.drew w1 → Q .normal ⟨[u0, .pointer (some ⟨b1, 0, none⟩), u2, u3, u4, u5, u6, u7, u8, u9, u10, u11, u12, u13, u14, u15, u16, u17, u18, u19, u20, u21, u22, u23, u24, u25, u26, u27, u28, u29, u30, u31, u32, u33, u34, u35, u36, u37, u38, u39, u40, u41, u42, u43, .pointer (some ⟨g, 0, none⟩), .pointer (some ⟨g, 0, none⟩), .pointer (some ⟨g, 8, none⟩), .int .i64 2, .bool true, .bool true, .pointer (some ⟨g, 0, none⟩), .pointer (some ⟨g, 0, none⟩), .pointer (some ⟨g, 0, none⟩), .pointer (some ⟨g, 0, none⟩), .int .i64 self, .bool true, .bool false, .bool false, .bool false, undef, undef, undef, undef, undef, undef, undef, .bool false, u67, u68, u69, u70, u71, u72, u73, u74, u75].toArray, []⟩ w1) :
    Code.wp Try.prog settle_last_reg Q ⟨[u0, .pointer (some ⟨b1, 0, none⟩), u2, u3, u4, u5, u6, u7, u8, u9, u10, u11, u12, u13, u14, u15, u16, u17, u18, u19, u20, u21, u22, u23, u24, u25, u26, u27, u28, u29, u30, u31, u32, u33, u34, u35, u36, u37, u38, u39, u40, u41, u42, u43, u44, u45, u46, u47, u48, u49, u50, u51, u52, u53, u54, u55, u56, u57, u58, u59, u60, u61, u62, u63, u64, u65, u66, u67, u68, u69, u70, u71, u72, u73, u74, u75].toArray, []⟩ w := by
  conv => arg 2; whnf
  have HS1 : ∀ w', Below w.drew.heap.size w.drew w' → w'.cell? ⟨b1, 0, none⟩ = some (.pointer (some ⟨g, 0, none⟩)) ∧ w'.cell? ⟨g, 8, none⟩ = some (.int .i64 2) ∧ w'.cell? ⟨g, 0, none⟩ = some (.int .i64 self) := fun w' hb => ⟨pw_cell_below hb hp, pw_cell_below hb c8, pw_cell_below hb c0⟩
  refine start_ (n := 23) (S := fun w' => w'.cell? ⟨b1, 0, none⟩ = some (.pointer (some ⟨g, 0, none⟩)) ∧ w'.cell? ⟨g, 8, none⟩ = some (.int .i64 2) ∧ w'.cell? ⟨g, 0, none⟩ = some (.int .i64 self)) (ds := []) (ms 23 0) (by kernel_rfl) rfl rfl ⟨hp, c8, c0⟩ (fun hHeld => ?_)
  refine take_ (i := 0) (N := some 44) (v := .pointer (some ⟨g, 0, none⟩)) (ms 23 1) rfl rfl (by kernel_rfl) (fun _ _ _ h => hP _ _ _ _ _ h) (Or.inl ⟨by rfl, ?_⟩) hHeld rfl ?_
  · rintro w' ⟨q1, q2, q3⟩
    exact y_load24 rfl rfl q1
  refine pure_ (i := 1) (N := some 45) (v := .pointer (some ⟨g, 0, none⟩)) (ms 23 2) rfl rfl (by kernel_rfl) (fun _ _ _ h => hP _ _ _ _ _ h) (Or.inl ⟨by rfl, ?_⟩) rfl ?_
  · intro w'
    exact y_nil rfl rfl
  refine pure_ (i := 2) (N := some 46) (v := .pointer (some ⟨g, 8, none⟩)) (ms 23 3) rfl rfl (by kernel_rfl) (fun _ _ _ h => hP _ _ _ _ _ h) (Or.inl ⟨by rfl, ?_⟩) rfl ?_
  · intro w'
    exact y_f94_5 rfl rfl
  refine take_ (i := 3) (N := some 47) (v := .int .i64 2) (a' := ⟨[u0, .pointer (some ⟨b1, 0, none⟩), u2, u3, u4, u5, u6, u7, u8, u9, u10, u11, u12, u13, u14, u15, u16, u17, u18, u19, u20, u21, u22, u23, u24, u25, u26, u27, u28, u29, u30, u31, u32, u33, u34, u35, u36, u37, u38, u39, u40, u41, u42, u43, .pointer (some ⟨g, 0, none⟩), .pointer (some ⟨g, 0, none⟩), .pointer (some ⟨g, 8, none⟩), .int .i64 2, u48, u49, u50, u51, u52, u53, u54, u55, u56, u57, u58, u59, u60, u61, u62, u63, u64, u65, u66, u67, u68, u69, u70, u71, u72, u73, u74, u75].toArray, []⟩) (ms 23 4) rfl rfl (by kernel_rfl) (fun _ _ _ h => hP _ _ _ _ _ h) (Or.inl ⟨by rfl, ?_⟩) hHeld rfl ?_
  · rintro w' ⟨q1, q2, q3⟩
    exact y_load3 rfl rfl q2
  refine pure_ (i := 4) (N := some 48) (v := .bool true) (ms 23 5) rfl rfl (by kernel_rfl) (fun _ _ _ h => hP _ _ _ _ _ h) (Or.inl ⟨by rfl, ?_⟩) rfl ?_
  · intro w'
    exact y_eqc rfl rfl rfl
  refine pure_ (i := 5) (N := some 49) (v := .bool true) (ms 23 6) rfl rfl (by kernel_rfl) (fun _ _ _ h => hP _ _ _ _ _ h) (Or.inl ⟨by rfl, ?_⟩) rfl ?_
  · intro w'
    exact y_move rfl rfl
  refine take_ (i := 6) (N := some 50) (v := .pointer (some ⟨g, 0, none⟩)) (ms 23 7) rfl rfl (by kernel_rfl) (fun _ _ _ h => hP _ _ _ _ _ h) (Or.inl ⟨by rfl, ?_⟩) hHeld rfl ?_
  · rintro w' ⟨q1, q2, q3⟩
    exact y_load24 rfl rfl q1
  refine take_ (i := 7) (N := some 51) (v := .pointer (some ⟨g, 0, none⟩)) (a' := ⟨[u0, .pointer (some ⟨b1, 0, none⟩), u2, u3, u4, u5, u6, u7, u8, u9, u10, u11, u12, u13, u14, u15, u16, u17, u18, u19, u20, u21, u22, u23, u24, u25, u26, u27, u28, u29, u30, u31, u32, u33, u34, u35, u36, u37, u38, u39, u40, u41, u42, u43, .pointer (some ⟨g, 0, none⟩), .pointer (some ⟨g, 0, none⟩), .pointer (some ⟨g, 8, none⟩), .int .i64 2, .bool true, .bool true, .pointer (some ⟨g, 0, none⟩), .pointer (some ⟨g, 0, none⟩), u52, u53, u54, u55, u56, u57, u58, u59, u60, u61, u62, u63, u64, u65, u66, u67, u68, u69, u70, u71, u72, u73, u74, u75].toArray, []⟩) (ms 23 8) rfl rfl (by kernel_rfl) (fun _ _ _ h => hP _ _ _ _ _ h) (Or.inl ⟨by rfl, ?_⟩) hHeld rfl ?_
  · rintro w' ⟨q1, q2, q3⟩
    exact y_load24 rfl rfl q1
  refine pure_ (i := 8) (N := some 52) (v := .pointer (some ⟨g, 0, none⟩)) (ms 23 9) rfl rfl (by kernel_rfl) (fun _ _ _ h => hP _ _ _ _ _ h) (Or.inl ⟨by rfl, ?_⟩) rfl ?_
  · intro w'
    exact y_nil rfl rfl
  refine pure_ (i := 9) (N := some 53) (v := .pointer (some ⟨g, 0, none⟩)) (ms 23 10) rfl rfl (by kernel_rfl) (fun _ _ _ h => hP _ _ _ _ _ h) (Or.inl ⟨by rfl, ?_⟩) rfl ?_
  · intro w'
    exact y_f94_0 rfl rfl
  refine take_ (i := 10) (N := some 54) (v := .int .i64 self) (a' := ⟨[u0, .pointer (some ⟨b1, 0, none⟩), u2, u3, u4, u5, u6, u7, u8, u9, u10, u11, u12, u13, u14, u15, u16, u17, u18, u19, u20, u21, u22, u23, u24, u25, u26, u27, u28, u29, u30, u31, u32, u33, u34, u35, u36, u37, u38, u39, u40, u41, u42, u43, .pointer (some ⟨g, 0, none⟩), .pointer (some ⟨g, 0, none⟩), .pointer (some ⟨g, 8, none⟩), .int .i64 2, .bool true, .bool true, .pointer (some ⟨g, 0, none⟩), .pointer (some ⟨g, 0, none⟩), .pointer (some ⟨g, 0, none⟩), .pointer (some ⟨g, 0, none⟩), .int .i64 self, u55, u56, u57, u58, u59, u60, u61, u62, u63, u64, u65, u66, u67, u68, u69, u70, u71, u72, u73, u74, u75].toArray, []⟩) (ms 23 11) rfl rfl (by kernel_rfl) (fun _ _ _ h => hP _ _ _ _ _ h) (Or.inl ⟨by rfl, ?_⟩) hHeld rfl ?_
  · rintro w' ⟨q1, q2, q3⟩
    exact y_load3 rfl rfl q3
  refine one_ (i := 11) (N := some 55) (ms 23 12) rfl rfl (by kernel_rfl) (by decide) (fun K hK => ?_)
  refine goes_ Try.func41 (by kernel_rfl) rfl #[.pointer (some ⟨g, 0, none⟩), .int .i64 self] (by rfl) rfl rfl (by (try simp only [List.map_toArray, List.map_cons, List.map_nil]); first | done | rfl) ?_
  refine (hcall w.drew (Below.refl _ _)).mono ?_
  rintro e w1 ⟨rfl, hb⟩
  have hB1 : Below w.drew.heap.size w.drew w1 := hb
  refine ⟨_, rfl, hK.out _ _ ?_ ?_⟩
  · exact HS1 _ hB1
  intro hHeld1
  replace hHeld := hHeld1
  refine wpAnyLast_eq (a' := ⟨[u0, .pointer (some ⟨b1, 0, none⟩), u2, u3, u4, u5, u6, u7, u8, u9, u10, u11, u12, u13, u14, u15, u16, u17, u18, u19, u20, u21, u22, u23, u24, u25, u26, u27, u28, u29, u30, u31, u32, u33, u34, u35, u36, u37, u38, u39, u40, u41, u42, u43, .pointer (some ⟨g, 0, none⟩), .pointer (some ⟨g, 0, none⟩), .pointer (some ⟨g, 8, none⟩), .int .i64 2, .bool true, .bool true, .pointer (some ⟨g, 0, none⟩), .pointer (some ⟨g, 0, none⟩), .pointer (some ⟨g, 0, none⟩), .pointer (some ⟨g, 0, none⟩), .int .i64 self, .bool true, u56, u57, u58, u59, u60, u61, u62, u63, u64, u65, u66, u67, u68, u69, u70, u71, u72, u73, u74, u75].toArray, []⟩) rfl ?_
  refine pure_ (i := 12) (N := some 56) (v := .bool false) (ms 23 13) rfl rfl (by kernel_rfl) (fun _ _ _ h => hP _ _ _ _ _ h) (Or.inl ⟨by rfl, ?_⟩) rfl ?_
  · intro w'
    exact y_not (v := true) rfl rfl
  refine pure_ (i := 13) (N := some 57) (v := .bool false) (ms 23 14) rfl rfl (by kernel_rfl) (fun _ _ _ h => hP _ _ _ _ _ h) (Or.inl ⟨by rfl, ?_⟩) rfl ?_
  · intro w'
    exact y_pick_t rfl rfl rfl
  refine pure_ (i := 14) (N := some 58) (v := .bool false) (ms 23 15) rfl rfl (by kernel_rfl) (fun _ _ _ h => hP _ _ _ _ _ h) (Or.inl ⟨by rfl, ?_⟩) rfl ?_
  · intro w'
    exact y_move rfl rfl
  refine pure_ (i := 15) (N := some 59) (v := undef) (a' := ⟨[u0, .pointer (some ⟨b1, 0, none⟩), u2, u3, u4, u5, u6, u7, u8, u9, u10, u11, u12, u13, u14, u15, u16, u17, u18, u19, u20, u21, u22, u23, u24, u25, u26, u27, u28, u29, u30, u31, u32, u33, u34, u35, u36, u37, u38, u39, u40, u41, u42, u43, .pointer (some ⟨g, 0, none⟩), .pointer (some ⟨g, 0, none⟩), .pointer (some ⟨g, 8, none⟩), .int .i64 2, .bool true, .bool true, .pointer (some ⟨g, 0, none⟩), .pointer (some ⟨g, 0, none⟩), .pointer (some ⟨g, 0, none⟩), .pointer (some ⟨g, 0, none⟩), .int .i64 self, .bool true, .bool false, .bool false, .bool false, undef, u60, u61, u62, u63, u64, u65, u66, u67, u68, u69, u70, u71, u72, u73, u74, u75].toArray, []⟩) (ms 23 16) rfl rfl (by kernel_rfl) (fun _ _ _ h => hP _ _ _ _ _ h) (Or.inr ⟨by rfl, rfl⟩) rfl ?_
  refine pure_ (i := 16) (N := some 60) (v := undef) (ms 23 17) rfl rfl (by kernel_rfl) (fun _ _ _ h => hP _ _ _ _ _ h) (Or.inr ⟨by rfl, rfl⟩) rfl ?_
  refine pure_ (i := 17) (N := some 61) (v := undef) (ms 23 18) rfl rfl (by kernel_rfl) (fun _ _ _ h => hP _ _ _ _ _ h) (Or.inr ⟨by rfl, rfl⟩) rfl ?_
  refine pure_ (i := 18) (N := some 62) (v := undef) (ms 23 19) rfl rfl (by kernel_rfl) (fun _ _ _ h => hP _ _ _ _ _ h) (Or.inr ⟨by rfl, rfl⟩) rfl ?_
  refine pure_ (i := 19) (N := some 63) (v := undef) (a' := ⟨[u0, .pointer (some ⟨b1, 0, none⟩), u2, u3, u4, u5, u6, u7, u8, u9, u10, u11, u12, u13, u14, u15, u16, u17, u18, u19, u20, u21, u22, u23, u24, u25, u26, u27, u28, u29, u30, u31, u32, u33, u34, u35, u36, u37, u38, u39, u40, u41, u42, u43, .pointer (some ⟨g, 0, none⟩), .pointer (some ⟨g, 0, none⟩), .pointer (some ⟨g, 8, none⟩), .int .i64 2, .bool true, .bool true, .pointer (some ⟨g, 0, none⟩), .pointer (some ⟨g, 0, none⟩), .pointer (some ⟨g, 0, none⟩), .pointer (some ⟨g, 0, none⟩), .int .i64 self, .bool true, .bool false, .bool false, .bool false, undef, undef, undef, undef, undef, u64, u65, u66, u67, u68, u69, u70, u71, u72, u73, u74, u75].toArray, []⟩) (ms 23 20) rfl rfl (by kernel_rfl) (fun _ _ _ h => hP _ _ _ _ _ h) (Or.inr ⟨by rfl, rfl⟩) rfl ?_
  refine pure_ (i := 20) (N := some 64) (v := undef) (ms 23 21) rfl rfl (by kernel_rfl) (fun _ _ _ h => hP _ _ _ _ _ h) (Or.inr ⟨by rfl, rfl⟩) rfl ?_
  refine pure_ (i := 21) (N := some 65) (v := undef) (ms 23 22) rfl rfl (by kernel_rfl) (fun _ _ _ h => hP _ _ _ _ _ h) (Or.inr ⟨by rfl, rfl⟩) rfl ?_
  refine pure_ (i := 22) (N := some 66) (v := .bool false) (a' := ⟨[u0, .pointer (some ⟨b1, 0, none⟩), u2, u3, u4, u5, u6, u7, u8, u9, u10, u11, u12, u13, u14, u15, u16, u17, u18, u19, u20, u21, u22, u23, u24, u25, u26, u27, u28, u29, u30, u31, u32, u33, u34, u35, u36, u37, u38, u39, u40, u41, u42, u43, .pointer (some ⟨g, 0, none⟩), .pointer (some ⟨g, 0, none⟩), .pointer (some ⟨g, 8, none⟩), .int .i64 2, .bool true, .bool true, .pointer (some ⟨g, 0, none⟩), .pointer (some ⟨g, 0, none⟩), .pointer (some ⟨g, 0, none⟩), .pointer (some ⟨g, 0, none⟩), .int .i64 self, .bool true, .bool false, .bool false, .bool false, undef, undef, undef, undef, undef, undef, undef, .bool false, u67, u68, u69, u70, u71, u72, u73, u74, u75].toArray, []⟩) (ms 23 23) rfl rfl (by kernel_rfl) (fun _ _ _ h => hP _ _ _ _ _ h) (Or.inl ⟨by rfl, ?_⟩) rfl ?_
  · intro w'
    exact y_pick_f rfl rfl rfl
  refine done_ (by kernel_rfl) ?_
  exact h w1 hB1
noncomputable def settle_voters_reg : Code := (Try.f80.body.bind (regionOf 8)).getD .skip
set_option maxRecDepth 1000000 in
set_option maxHeartbeats 4000000 in
/-- settle: the voters up to what is committed. -/
theorem settle_voters (u0 u2 u3 u4 u5 u6 u7 u8 u9 u10 u11 u12 u13 u14 u15 u16 u17 u18 u19 u20 u21 u22 u23 u24 u25 u26 u27 u28 u29 u30 u31 u32 u33 u34 u35 u36 u37 u38 u39 u40 u41 u42 u43 u44 u45 u46 u47 u48 u49 u50 u51 u52 u53 u54 u55 u56 u57 u58 u59 u60 u61 u62 u63 u64 u65 u66 u67 u68 u69 u70 u71 u72 u73 u74 u75 : Value) (g b1 : Nat) (w : World) (Q : Exit → Act → World → Prop) (i : Int) (s : ByteArray) (b : Bool) (hP : ∀ x a d v w, Q (.panic x) (a.put (some d) v) w → Q (.panic x) a w) (hp : w.cell? ⟨b1, 0, none⟩ = some (.pointer (some ⟨g, 0, none⟩))) (c10 : w.cell? ⟨g, 10, none⟩ = some (.int .i64 i)) (hc1 : ∀ w', Below w.drew.heap.size w.drew w' → Calls Try.prog 48 #[.pointer (some ⟨g, 0, none⟩), .int .i64 i] w' fun e w'' => e = .returned (.string s) ∧ Below w'.heap.size w' w'') (hc2 : ∀ w', Below w.drew.heap.size w.drew w' → Calls Try.prog 27 #[.string s] w' fun e w'' => ∃ v, e = .returned (.tuple #[v, .bool b]) ∧ Below w'.heap.size w' w'')
    (h : ∀ w2 v, Below w.drew.heap.size w.drew w2 → Q .normal ⟨[u0, .pointer (some ⟨b1, 0, none⟩), u2, v, .bool b, u5, u6, u7, u8, u9, u10, u11, u12, u13, u14, u15, u16, u17, u18, u19, u20, u21, u22, u23, u24, u25, u26, u27, u28, u29, u30, u31, u32, u33, .tuple #[v, .bool b], .pointer (some ⟨g, 0, none⟩), .pointer (some ⟨g, 0, none⟩), .pointer (some ⟨g, 0, none⟩), .pointer (some ⟨g, 10, none⟩), .int .i64 i, .string s, .tuple #[v, .bool b], v, .bool b, u44, u45, u46, u47, u48, u49, u50, u51, u52, u53, u54, u55, u56, u57, u58, u59, u60, u61, u62, u63, u64, u65, u66, u67, u68, u69, u70, u71, u72, u73, u74, u75].toArray, []⟩ w2) :
    Code.wp Try.prog settle_voters_reg Q ⟨[u0, .pointer (some ⟨b1, 0, none⟩), u2, u3, u4, u5, u6, u7, u8, u9, u10, u11, u12, u13, u14, u15, u16, u17, u18, u19, u20, u21, u22, u23, u24, u25, u26, u27, u28, u29, u30, u31, u32, u33, u34, u35, u36, u37, u38, u39, u40, u41, u42, u43, u44, u45, u46, u47, u48, u49, u50, u51, u52, u53, u54, u55, u56, u57, u58, u59, u60, u61, u62, u63, u64, u65, u66, u67, u68, u69, u70, u71, u72, u73, u74, u75].toArray, []⟩ w := by
  conv => arg 2; whnf
  have HS1 : ∀ w', Below w.drew.heap.size w.drew w' → w'.cell? ⟨b1, 0, none⟩ = some (.pointer (some ⟨g, 0, none⟩)) ∧ w'.cell? ⟨g, 10, none⟩ = some (.int .i64 i) := fun w' hb => ⟨pw_cell_below hb hp, pw_cell_below hb c10⟩
  refine start_ (n := 12) (S := fun w' => w'.cell? ⟨b1, 0, none⟩ = some (.pointer (some ⟨g, 0, none⟩)) ∧ w'.cell? ⟨g, 10, none⟩ = some (.int .i64 i)) (ds := []) (ms 12 0) (by kernel_rfl) rfl rfl ⟨hp, c10⟩ (fun hHeld => ?_)
  refine take_ (i := 0) (N := some 35) (v := .pointer (some ⟨g, 0, none⟩)) (ms 12 1) rfl rfl (by kernel_rfl) (fun _ _ _ h => hP _ _ _ _ _ h) (Or.inl ⟨by rfl, ?_⟩) hHeld rfl ?_
  · rintro w' ⟨q1, q2⟩
    exact y_load24 rfl rfl q1
  refine take_ (i := 1) (N := some 36) (v := .pointer (some ⟨g, 0, none⟩)) (ms 12 2) rfl rfl (by kernel_rfl) (fun _ _ _ h => hP _ _ _ _ _ h) (Or.inl ⟨by rfl, ?_⟩) hHeld rfl ?_
  · rintro w' ⟨q1, q2⟩
    exact y_load24 rfl rfl q1
  refine pure_ (i := 2) (N := some 37) (v := .pointer (some ⟨g, 0, none⟩)) (ms 12 3) rfl rfl (by kernel_rfl) (fun _ _ _ h => hP _ _ _ _ _ h) (Or.inl ⟨by rfl, ?_⟩) rfl ?_
  · intro w'
    exact y_nil rfl rfl
  refine pure_ (i := 3) (N := some 38) (v := .pointer (some ⟨g, 10, none⟩)) (a' := ⟨[u0, .pointer (some ⟨b1, 0, none⟩), u2, u3, u4, u5, u6, u7, u8, u9, u10, u11, u12, u13, u14, u15, u16, u17, u18, u19, u20, u21, u22, u23, u24, u25, u26, u27, u28, u29, u30, u31, u32, u33, u34, .pointer (some ⟨g, 0, none⟩), .pointer (some ⟨g, 0, none⟩), .pointer (some ⟨g, 0, none⟩), .pointer (some ⟨g, 10, none⟩), u39, u40, u41, u42, u43, u44, u45, u46, u47, u48, u49, u50, u51, u52, u53, u54, u55, u56, u57, u58, u59, u60, u61, u62, u63, u64, u65, u66, u67, u68, u69, u70, u71, u72, u73, u74, u75].toArray, []⟩) (ms 12 4) rfl rfl (by kernel_rfl) (fun _ _ _ h => hP _ _ _ _ _ h) (Or.inl ⟨by rfl, ?_⟩) rfl ?_
  · intro w'
    exact y_f94_7 rfl rfl
  refine take_ (i := 4) (N := some 39) (v := .int .i64 i) (a' := ⟨[u0, .pointer (some ⟨b1, 0, none⟩), u2, u3, u4, u5, u6, u7, u8, u9, u10, u11, u12, u13, u14, u15, u16, u17, u18, u19, u20, u21, u22, u23, u24, u25, u26, u27, u28, u29, u30, u31, u32, u33, u34, .pointer (some ⟨g, 0, none⟩), .pointer (some ⟨g, 0, none⟩), .pointer (some ⟨g, 0, none⟩), .pointer (some ⟨g, 10, none⟩), .int .i64 i, u40, u41, u42, u43, u44, u45, u46, u47, u48, u49, u50, u51, u52, u53, u54, u55, u56, u57, u58, u59, u60, u61, u62, u63, u64, u65, u66, u67, u68, u69, u70, u71, u72, u73, u74, u75].toArray, []⟩) (ms 12 5) rfl rfl (by kernel_rfl) (fun _ _ _ h => hP _ _ _ _ _ h) (Or.inl ⟨by rfl, ?_⟩) hHeld rfl ?_
  · rintro w' ⟨q1, q2⟩
    exact y_load3 rfl rfl q2
  refine one_ (i := 5) (N := some 40) (ms 12 6) rfl rfl (by kernel_rfl) (by decide) (fun K hK => ?_)
  refine goes_ Try.func48 (by kernel_rfl) rfl #[.pointer (some ⟨g, 0, none⟩), .int .i64 i] (by rfl) rfl rfl (by (try simp only [List.map_toArray, List.map_cons, List.map_nil]); first | done | rfl) ?_
  refine (hc1 w.drew (Below.refl _ _)).mono ?_
  rintro e w1 ⟨rfl, hb⟩
  have hB1 : Below w.drew.heap.size w.drew w1 := hb
  refine ⟨_, rfl, hK.out _ _ ?_ ?_⟩
  · exact HS1 _ hB1
  intro hHeld1
  replace hHeld := hHeld1
  refine wpAnyLast_eq (a' := ⟨[u0, .pointer (some ⟨b1, 0, none⟩), u2, u3, u4, u5, u6, u7, u8, u9, u10, u11, u12, u13, u14, u15, u16, u17, u18, u19, u20, u21, u22, u23, u24, u25, u26, u27, u28, u29, u30, u31, u32, u33, u34, .pointer (some ⟨g, 0, none⟩), .pointer (some ⟨g, 0, none⟩), .pointer (some ⟨g, 0, none⟩), .pointer (some ⟨g, 10, none⟩), .int .i64 i, .string s, u41, u42, u43, u44, u45, u46, u47, u48, u49, u50, u51, u52, u53, u54, u55, u56, u57, u58, u59, u60, u61, u62, u63, u64, u65, u66, u67, u68, u69, u70, u71, u72, u73, u74, u75].toArray, []⟩) rfl ?_
  refine one_ (i := 6) (N := some 41) (ms 12 7) rfl rfl (by kernel_rfl) (by decide) (fun K hK => ?_)
  refine goes_ Try.func27 (by kernel_rfl) rfl #[.string s] (by rfl) rfl rfl (by (try simp only [List.map_toArray, List.map_cons, List.map_nil]); first | done | rfl) ?_
  refine (hc2 w1 hB1).mono ?_
  rintro e w2 ⟨v, rfl, hb⟩
  have hB2 : Below w.drew.heap.size w.drew w2 := hB1.trans ((hb).mono hB1.size)
  refine ⟨_, rfl, hK.out _ _ ?_ ?_⟩
  · exact HS1 _ hB2
  intro hHeld2
  replace hHeld := hHeld2
  refine wpAnyLast_eq (a' := ⟨[u0, .pointer (some ⟨b1, 0, none⟩), u2, u3, u4, u5, u6, u7, u8, u9, u10, u11, u12, u13, u14, u15, u16, u17, u18, u19, u20, u21, u22, u23, u24, u25, u26, u27, u28, u29, u30, u31, u32, u33, u34, .pointer (some ⟨g, 0, none⟩), .pointer (some ⟨g, 0, none⟩), .pointer (some ⟨g, 0, none⟩), .pointer (some ⟨g, 10, none⟩), .int .i64 i, .string s, .tuple #[v, .bool b], u42, u43, u44, u45, u46, u47, u48, u49, u50, u51, u52, u53, u54, u55, u56, u57, u58, u59, u60, u61, u62, u63, u64, u65, u66, u67, u68, u69, u70, u71, u72, u73, u74, u75].toArray, []⟩) rfl ?_
  refine pure_ (i := 7) (N := some 34) (v := .tuple #[v, .bool b]) (ms 12 8) rfl rfl (by kernel_rfl) (fun _ _ _ h => hP _ _ _ _ _ h) (Or.inl ⟨by rfl, ?_⟩) rfl ?_
  · intro w'
    exact y_move rfl rfl
  refine pure_ (i := 8) (N := some 42) (v := v) (ms 12 9) rfl rfl (by kernel_rfl) (fun _ _ _ h => hP _ _ _ _ _ h) (Or.inl ⟨by rfl, ?_⟩) rfl ?_
  · intro w'
    exact y_extract0 rfl rfl
  refine pure_ (i := 9) (N := some 43) (v := .bool b) (ms 12 10) rfl rfl (by kernel_rfl) (fun _ _ _ h => hP _ _ _ _ _ h) (Or.inl ⟨by rfl, ?_⟩) rfl ?_
  · intro w'
    exact y_extract1 rfl rfl
  refine pure_ (i := 10) (N := some 3) (v := v) (a' := ⟨[u0, .pointer (some ⟨b1, 0, none⟩), u2, v, u4, u5, u6, u7, u8, u9, u10, u11, u12, u13, u14, u15, u16, u17, u18, u19, u20, u21, u22, u23, u24, u25, u26, u27, u28, u29, u30, u31, u32, u33, .tuple #[v, .bool b], .pointer (some ⟨g, 0, none⟩), .pointer (some ⟨g, 0, none⟩), .pointer (some ⟨g, 0, none⟩), .pointer (some ⟨g, 10, none⟩), .int .i64 i, .string s, .tuple #[v, .bool b], v, .bool b, u44, u45, u46, u47, u48, u49, u50, u51, u52, u53, u54, u55, u56, u57, u58, u59, u60, u61, u62, u63, u64, u65, u66, u67, u68, u69, u70, u71, u72, u73, u74, u75].toArray, []⟩) (ms 12 11) rfl rfl (by kernel_rfl) (fun _ _ _ h => hP _ _ _ _ _ h) (Or.inl ⟨by rfl, ?_⟩) rfl ?_
  · intro w'
    exact y_assign rfl rfl
  refine pure_ (i := 11) (N := some 4) (v := .bool b) (a' := ⟨[u0, .pointer (some ⟨b1, 0, none⟩), u2, v, .bool b, u5, u6, u7, u8, u9, u10, u11, u12, u13, u14, u15, u16, u17, u18, u19, u20, u21, u22, u23, u24, u25, u26, u27, u28, u29, u30, u31, u32, u33, .tuple #[v, .bool b], .pointer (some ⟨g, 0, none⟩), .pointer (some ⟨g, 0, none⟩), .pointer (some ⟨g, 0, none⟩), .pointer (some ⟨g, 10, none⟩), .int .i64 i, .string s, .tuple #[v, .bool b], v, .bool b, u44, u45, u46, u47, u48, u49, u50, u51, u52, u53, u54, u55, u56, u57, u58, u59, u60, u61, u62, u63, u64, u65, u66, u67, u68, u69, u70, u71, u72, u73, u74, u75].toArray, []⟩) (ms 12 12) rfl rfl (by kernel_rfl) (fun _ _ _ h => hP _ _ _ _ _ h) (Or.inl ⟨by rfl, ?_⟩) rfl ?_
  · intro w'
    exact y_assign rfl rfl
  refine done_ (by kernel_rfl) ?_
  exact h w2 v hB2
noncomputable def settle_major_reg : Code := (Try.f80.body.bind (regionOf 4)).getD .skip
set_option maxRecDepth 1000000 in
set_option maxHeartbeats 4000000 in
/-- settle: is it a majority? -/
theorem settle_major (u0 u3 u4 u5 u6 u7 u8 u9 u10 u11 u12 u13 u14 u15 u16 u17 u18 u19 u20 u21 u22 u23 u24 u25 u26 u27 u28 u29 u30 u31 u32 u33 u34 u35 u36 u37 u38 u39 u40 u41 u42 u43 u44 u45 u46 u47 u48 u49 u50 u51 u52 u53 u54 u55 u56 u57 u58 u59 u60 u61 u62 u63 u64 u65 u66 u67 u68 u69 u70 u71 u72 u73 u74 u75 : Value) (g b1 b2 : Nat) (w : World) (Q : Exit → Act → World → Prop) (n : Int) (b : Bool) (hP : ∀ x a d v w, Q (.panic x) (a.put (some d) v) w → Q (.panic x) a w) (hp : w.cell? ⟨b1, 0, none⟩ = some (.pointer (some ⟨g, 0, none⟩))) (hc1 : ∀ w', Below w.drew.heap.size w.drew w' → Calls Try.prog 102 #[.pointer (some ⟨g, 0, none⟩), .func (.func 103) #[] #[.pointer (some ⟨b1, 0, none⟩), .pointer (some ⟨b2, 0, none⟩)]] w' fun e w'' => e = .returned (.int .i64 n) ∧ Below w'.heap.size w' w'') (hc2 : ∀ w', Below w.drew.heap.size w.drew w' → Calls Try.prog 101 #[.pointer (some ⟨g, 0, none⟩), .int .i64 n] w' fun e w'' => e = .returned (.bool b) ∧ Below w'.heap.size w' w'')
    (h : ∀ w2, Below w.drew.heap.size w.drew w2 → Q .normal ⟨[u0, .pointer (some ⟨b1, 0, none⟩), .pointer (some ⟨b2, 0, none⟩), u3, u4, u5, u6, u7, u8, u9, u10, u11, u12, u13, u14, u15, u16, u17, u18, u19, u20, u21, u22, u23, u24, .pointer (some ⟨g, 0, none⟩), .pointer (some ⟨g, 0, none⟩), .func (.func 103) #[] #[.pointer (some ⟨b1, 0, none⟩), .pointer (some ⟨b2, 0, none⟩)], .int .i64 n, .bool b, u30, u31, u32, u33, u34, u35, u36, u37, u38, u39, u40, u41, u42, u43, u44, u45, u46, u47, u48, u49, u50, u51, u52, u53, u54, u55, u56, u57, u58, u59, u60, u61, u62, u63, u64, u65, u66, u67, u68, u69, u70, u71, u72, u73, u74, u75].toArray, []⟩ w2) :
    Code.wp Try.prog settle_major_reg Q ⟨[u0, .pointer (some ⟨b1, 0, none⟩), .pointer (some ⟨b2, 0, none⟩), u3, u4, u5, u6, u7, u8, u9, u10, u11, u12, u13, u14, u15, u16, u17, u18, u19, u20, u21, u22, u23, u24, u25, u26, u27, u28, u29, u30, u31, u32, u33, u34, u35, u36, u37, u38, u39, u40, u41, u42, u43, u44, u45, u46, u47, u48, u49, u50, u51, u52, u53, u54, u55, u56, u57, u58, u59, u60, u61, u62, u63, u64, u65, u66, u67, u68, u69, u70, u71, u72, u73, u74, u75].toArray, []⟩ w := by
  conv => arg 2; whnf
  have HS1 : ∀ w', Below w.drew.heap.size w.drew w' → w'.cell? ⟨b1, 0, none⟩ = some (.pointer (some ⟨g, 0, none⟩)) := fun w' hb => pw_cell_below hb hp
  refine start_ (n := 5) (S := fun w' => w'.cell? ⟨b1, 0, none⟩ = some (.pointer (some ⟨g, 0, none⟩))) (ds := []) (ms 5 0) (by kernel_rfl) rfl rfl hp (fun hHeld => ?_)
  refine take_ (i := 0) (N := some 25) (v := .pointer (some ⟨g, 0, none⟩)) (ms 5 1) rfl rfl (by kernel_rfl) (fun _ _ _ h => hP _ _ _ _ _ h) (Or.inl ⟨by rfl, ?_⟩) hHeld rfl ?_
  · rintro w' q1
    exact y_load24 rfl rfl q1
  refine take_ (i := 1) (N := some 26) (v := .pointer (some ⟨g, 0, none⟩)) (ms 5 2) rfl rfl (by kernel_rfl) (fun _ _ _ h => hP _ _ _ _ _ h) (Or.inl ⟨by rfl, ?_⟩) hHeld rfl ?_
  · rintro w' q1
    exact y_load24 rfl rfl q1
  refine pure_ (i := 2) (N := some 27) (v := .func (.func 103) #[] #[.pointer (some ⟨b1, 0, none⟩), .pointer (some ⟨b2, 0, none⟩)]) (a' := ⟨[u0, .pointer (some ⟨b1, 0, none⟩), .pointer (some ⟨b2, 0, none⟩), u3, u4, u5, u6, u7, u8, u9, u10, u11, u12, u13, u14, u15, u16, u17, u18, u19, u20, u21, u22, u23, u24, .pointer (some ⟨g, 0, none⟩), .pointer (some ⟨g, 0, none⟩), .func (.func 103) #[] #[.pointer (some ⟨b1, 0, none⟩), .pointer (some ⟨b2, 0, none⟩)], u28, u29, u30, u31, u32, u33, u34, u35, u36, u37, u38, u39, u40, u41, u42, u43, u44, u45, u46, u47, u48, u49, u50, u51, u52, u53, u54, u55, u56, u57, u58, u59, u60, u61, u62, u63, u64, u65, u66, u67, u68, u69, u70, u71, u72, u73, u74, u75].toArray, []⟩) (ms 5 3) rfl rfl (by kernel_rfl) (fun _ _ _ h => hP _ _ _ _ _ h) (Or.inl ⟨by rfl, ?_⟩) rfl ?_
  · intro w'
    exact y_func2 rfl rfl rfl
  refine one_ (i := 3) (N := some 28) (ms 5 4) rfl rfl (by kernel_rfl) (by decide) (fun K hK => ?_)
  refine goes_ Try.func102 (by kernel_rfl) rfl #[.pointer (some ⟨g, 0, none⟩), .func (.func 103) #[] #[.pointer (some ⟨b1, 0, none⟩), .pointer (some ⟨b2, 0, none⟩)]] (by rfl) rfl rfl (by (try simp only [List.map_toArray, List.map_cons, List.map_nil]); first | done | rfl) ?_
  refine (hc1 w.drew (Below.refl _ _)).mono ?_
  rintro e w1 ⟨rfl, hb⟩
  have hB1 : Below w.drew.heap.size w.drew w1 := hb
  refine ⟨_, rfl, hK.out _ _ ?_ ?_⟩
  · exact HS1 _ hB1
  intro hHeld1
  replace hHeld := hHeld1
  refine wpAnyLast_eq (a' := ⟨[u0, .pointer (some ⟨b1, 0, none⟩), .pointer (some ⟨b2, 0, none⟩), u3, u4, u5, u6, u7, u8, u9, u10, u11, u12, u13, u14, u15, u16, u17, u18, u19, u20, u21, u22, u23, u24, .pointer (some ⟨g, 0, none⟩), .pointer (some ⟨g, 0, none⟩), .func (.func 103) #[] #[.pointer (some ⟨b1, 0, none⟩), .pointer (some ⟨b2, 0, none⟩)], .int .i64 n, u29, u30, u31, u32, u33, u34, u35, u36, u37, u38, u39, u40, u41, u42, u43, u44, u45, u46, u47, u48, u49, u50, u51, u52, u53, u54, u55, u56, u57, u58, u59, u60, u61, u62, u63, u64, u65, u66, u67, u68, u69, u70, u71, u72, u73, u74, u75].toArray, []⟩) rfl ?_
  refine one_ (i := 4) (N := some 29) (ms 5 5) rfl rfl (by kernel_rfl) (by decide) (fun K hK => ?_)
  refine goes_ Try.func101 (by kernel_rfl) rfl #[.pointer (some ⟨g, 0, none⟩), .int .i64 n] (by rfl) rfl rfl (by (try simp only [List.map_toArray, List.map_cons, List.map_nil]); first | done | rfl) ?_
  refine (hc2 w1 hB1).mono ?_
  rintro e w2 ⟨rfl, hb⟩
  have hB2 : Below w.drew.heap.size w.drew w2 := hB1.trans ((hb).mono hB1.size)
  refine ⟨_, rfl, hK.out _ _ ?_ ?_⟩
  · exact HS1 _ hB2
  intro hHeld2
  replace hHeld := hHeld2
  refine wpAnyLast_eq (a' := ⟨[u0, .pointer (some ⟨b1, 0, none⟩), .pointer (some ⟨b2, 0, none⟩), u3, u4, u5, u6, u7, u8, u9, u10, u11, u12, u13, u14, u15, u16, u17, u18, u19, u20, u21, u22, u23, u24, .pointer (some ⟨g, 0, none⟩), .pointer (some ⟨g, 0, none⟩), .func (.func 103) #[] #[.pointer (some ⟨b1, 0, none⟩), .pointer (some ⟨b2, 0, none⟩)], .int .i64 n, .bool b, u30, u31, u32, u33, u34, u35, u36, u37, u38, u39, u40, u41, u42, u43, u44, u45, u46, u47, u48, u49, u50, u51, u52, u53, u54, u55, u56, u57, u58, u59, u60, u61, u62, u63, u64, u65, u66, u67, u68, u69, u70, u71, u72, u73, u74, u75].toArray, []⟩) rfl ?_
  refine done_ (by kernel_rfl) ?_
  exact h w2 hB2

end Go.Proofs.Ytfanbhbpmhojaaa
