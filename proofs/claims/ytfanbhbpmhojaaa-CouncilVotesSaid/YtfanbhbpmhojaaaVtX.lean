/- Statements of open order in isMail and asked, each as a theorem of its own, over Booleans that are variables. No conditions beyond those typed. Printed by wip/tools/mkVtR.py. Statements of open order in mail and asked that write, each as a theorem of its own. No conditions beyond those typed. Printed by wip/tools/mkVtR2.py. -/
import Derived.Test.YtfanbhbpmhojaaaReg2
import Derived.Laws.Tables
namespace Go.Proofs.Ytfanbhbpmhojaaa
open Go.RowKit Go.Proofs.YtfanbhbpmhojaaaW.PrintWords Go.Proofs.YtfanbhbpmhojaaaW.PrintLast Go.Proofs.YtfanbhbpmhojaaaW.PrintMore PRef
set_option linter.unusedVariables false
set_option linter.unusedSimpArgs false

/-- What a guarded operation leaves. -/
def gv (b : Bool) (v : Value) : Value := if b then v else undef
theorem unw_ {c : Bool} {A B : Prop} (hc : c = false) (h : B) : if c = true then A else B := by
  subst hc
  simpa using h
section
variable {a : Act} {o1 : Oper} {w : World}
theorem z_eql {x y : Operand} {m n : Int} {b : Bool} (ho : o1.op = .binOp .eql 3 x y 3) (hx : a.eval x = .int .i64 m) (hy : a.eval y = .int .i64 n) (hb : (m == n) = b) : (execOp a.eval o1).run Try.prog w = .ok (.value (.bool b)) w := by
  have hu := Try.underlying3
  subst hb
  unfold execOp
  simp only [ho, hx, hy]
  go_simp
theorem z_neq {x y : Operand} {m n : Int} {b : Bool} (ho : o1.op = .binOp .neq 3 x y 3) (hx : a.eval x = .int .i64 m) (hy : a.eval y = .int .i64 n) (hb : (m != n) = b) : (execOp a.eval o1).run Try.prog w = .ok (.value (.bool b)) w := by
  have hu := Try.underlying3
  subst hb
  unfold execOp
  simp only [ho, hx, hy]
  go_simp
theorem z_lss {x y : Operand} {m n : Int} {b : Bool} (ho : o1.op = .binOp .lss 3 x y 3) (hx : a.eval x = .int .i64 m) (hy : a.eval y = .int .i64 n) (hb : decide (m < n) = b) : (execOp a.eval o1).run Try.prog w = .ok (.value (.bool b)) w := by
  have hu := Try.underlying3
  subst hb
  unfold execOp
  simp only [ho, hx, hy]
  go_simp
theorem z_gtr {x y : Operand} {m n : Int} {b : Bool} (ho : o1.op = .binOp .gtr 3 x y 3) (hx : a.eval x = .int .i64 m) (hy : a.eval y = .int .i64 n) (hb : decide (n < m) = b) : (execOp a.eval o1).run Try.prog w = .ok (.value (.bool b)) w := by
  have hu := Try.underlying3
  subst hb
  unfold execOp
  simp only [ho, hx, hy]
  go_simp
theorem z_leq {x y : Operand} {m n : Int} {b : Bool} (ho : o1.op = .binOp .leq 3 x y 3) (hx : a.eval x = .int .i64 m) (hy : a.eval y = .int .i64 n) (hb : decide (m ≤ n) = b) : (execOp a.eval o1).run Try.prog w = .ok (.value (.bool b)) w := by
  have hu := Try.underlying3
  subst hb
  unfold execOp
  simp only [ho, hx, hy]
  go_simp
theorem z_geq {x y : Operand} {m n : Int} {b : Bool} (ho : o1.op = .binOp .geq 3 x y 3) (hx : a.eval x = .int .i64 m) (hy : a.eval y = .int .i64 n) (hb : decide (n ≤ m) = b) : (execOp a.eval o1).run Try.prog w = .ok (.value (.bool b)) w := by
  have hu := Try.underlying3
  subst hb
  unfold execOp
  simp only [ho, hx, hy]
  go_simp
theorem y_f70_0 {x : Operand} {b o : Nat} (ho : o1.op = .fieldAddr 70 x 0) (hx : a.eval x = .pointer (some ⟨b, o, none⟩)) : (execOp a.eval o1).run Try.prog w = .ok (.value (.pointer (some ⟨b, o + 0, none⟩))) w := by
  have hu := Try.underlying70
  unfold execOp
  simp only [ho, hx]
  go_simp
theorem y_f70_1 {x : Operand} {b o : Nat} (ho : o1.op = .fieldAddr 70 x 1) (hx : a.eval x = .pointer (some ⟨b, o, none⟩)) : (execOp a.eval o1).run Try.prog w = .ok (.value (.pointer (some ⟨b, o + 1, none⟩))) w := by
  have hu := Try.underlying70
  unfold execOp
  simp only [ho, hx]
  go_simp
theorem y_f70_2 {x : Operand} {b o : Nat} (ho : o1.op = .fieldAddr 70 x 2) (hx : a.eval x = .pointer (some ⟨b, o, none⟩)) : (execOp a.eval o1).run Try.prog w = .ok (.value (.pointer (some ⟨b, o + 2, none⟩))) w := by
  have hu := Try.underlying70
  unfold execOp
  simp only [ho, hx]
  go_simp
theorem y_f70_6 {x : Operand} {b o : Nat} (ho : o1.op = .fieldAddr 70 x 6) (hx : a.eval x = .pointer (some ⟨b, o, none⟩)) : (execOp a.eval o1).run Try.prog w = .ok (.value (.pointer (some ⟨b, o + 21, none⟩))) w := by
  have hu := Try.underlying70
  unfold execOp
  simp only [ho, hx]
  go_simp
theorem y_f70_7 {x : Operand} {b o : Nat} (ho : o1.op = .fieldAddr 70 x 7) (hx : a.eval x = .pointer (some ⟨b, o, none⟩)) : (execOp a.eval o1).run Try.prog w = .ok (.value (.pointer (some ⟨b, o + 22, none⟩))) w := by
  have hu := Try.underlying70
  unfold execOp
  simp only [ho, hx]
  go_simp
theorem y_f70_8 {x : Operand} {b o : Nat} (ho : o1.op = .fieldAddr 70 x 8) (hx : a.eval x = .pointer (some ⟨b, o, none⟩)) : (execOp a.eval o1).run Try.prog w = .ok (.value (.pointer (some ⟨b, o + 23, none⟩))) w := by
  have hu := Try.underlying70
  unfold execOp
  simp only [ho, hx]
  go_simp
theorem y_f94_2 {x : Operand} {b o : Nat} (ho : o1.op = .fieldAddr 94 x 2) (hx : a.eval x = .pointer (some ⟨b, o, none⟩)) : (execOp a.eval o1).run Try.prog w = .ok (.value (.pointer (some ⟨b, o + 2, none⟩))) w := by
  have hu := Try.underlying94
  unfold execOp
  simp only [ho, hx]
  go_simp
theorem y_f32_0 {x : Operand} {b o : Nat} (ho : o1.op = .fieldAddr 32 x 0) (hx : a.eval x = .pointer (some ⟨b, o, none⟩)) : (execOp a.eval o1).run Try.prog w = .ok (.value (.pointer (some ⟨b, o + 0, none⟩))) w := by
  have hu := Try.underlying32
  unfold execOp
  simp only [ho, hx]
  go_simp
theorem y_load4 {x : Operand} {b i : Nat} {v : Bool} (ho : o1.op = .load 4 x) (hx : a.eval x = .pointer (some ⟨b, i, none⟩)) (hc : w.cell? ⟨b, i, none⟩ = some (.bool v)) : (execOp a.eval o1).run Try.prog w = .ok (.value (.bool v)) w := by
  have hu := Try.underlying4
  unfold execOp
  simp only [ho, hx]
  go_simp
theorem y_store4 {x y : Operand} {b i : Nat} {v : Bool} {u : Value} (ho : o1.op = .store 4 x y) (hx : a.eval x = .pointer (some ⟨b, i, none⟩)) (hy : a.eval y = .bool v) (hc : w.cell? ⟨b, i, none⟩ = some u) (hf : w.frozen? ⟨b, i, none⟩ = false) : (execOp a.eval o1).run Try.prog w = .ok .skip (w.setCell ⟨b, i, none⟩ (.bool v)) := by
  have hu := Try.underlying4
  unfold execOp
  simp only [ho, hx, hy]
  go_simp
end

noncomputable def ism_first_reg : Code := (Try.f65.body.bind (regionOf 1)).getD .skip
set_option maxRecDepth 1000000 in
set_option maxHeartbeats 4000000 in
/-- isMail's first test, of a mail of kind 11. -/
theorem ism_first (u1 u2 u4 u5 u6 u7 u8 u9 u10 u11 u12 u13 u14 u15 u16 u17 u18 u19 u20 u21 u22 u23 u24 u25 u26 u27 u28 u29 u30 u31 u32 u33 u34 u35 u36 u37 u38 u39 u40 u41 u42 u43 u44 u45 u46 u47 u48 u49 u50 u51 u52 u53 u54 u55 u56 u57 u58 u59 u60 u61 u62 u63 u64 u65 u66 u67 u68 u69 u70 u71 u72 u73 u74 u75 u76 u77 u78 u79 u80 u81 u82 u83 u84 u85 u86 u87 u88 u89 u90 u91 u92 u93 u94 u95 u96 u97 u98 u99 u100 u101 u102 u103 u104 u105 u106 u107 u108 u109 u110 u111 u112 u113 : Value) (g b : Nat) (w : World) (Q : Exit → Act → World → Prop) (self tt fr : Int) (b1 b2 b3 : Bool) (hP : ∀ x a d v w, Q (.panic x) (a.put (some d) v) w → Q (.panic x) a w) (c0 : w.cell? ⟨g, 0, none⟩ = some (.int .i64 self)) (m2 : w.cell? ⟨b, 2, none⟩ = some (.int .i64 tt)) (m1 : w.cell? ⟨b, 1, none⟩ = some (.int .i64 fr)) (m0 : w.cell? ⟨b, 0, none⟩ = some (.int .i64 11)) (h1 : (tt != self) = b1) (h2 : (fr == self) = b2) (hcall : ∀ w', Below w.drew.heap.size w.drew w' → Calls Try.prog 37 #[.int .i64 fr] w' fun e w'' => e = .returned (.bool b3) ∧ Below w'.heap.size w' w'')
    (h : ∀ w1, Below w.drew.heap.size w.drew w1 → Q .normal ⟨[.pointer (some ⟨g, 0, none⟩), u1, u2, .pointer (some ⟨b, 0, none⟩), u4, u5, u6, .pointer (some ⟨b, 2, none⟩), .int .i64 tt, .pointer (some ⟨g, 0, none⟩), .pointer (some ⟨g, 0, none⟩), .pointer (some ⟨g, 0, none⟩), .int .i64 self, .bool b1, .bool b1, gv (!b1) (.pointer (some ⟨b, 1, none⟩)), gv (!b1) (.int .i64 fr), gv (!b1) (.pointer (some ⟨g, 0, none⟩)), gv (!b1) (.pointer (some ⟨g, 0, none⟩)), gv (!b1) (.pointer (some ⟨g, 0, none⟩)), gv (!b1) (.int .i64 self), gv (!b1) (.bool b2), .bool (b1 || b2), .bool (b1 || b2), gv (!(b1 || b2)) (.pointer (some ⟨b, 1, none⟩)), gv (!(b1 || b2)) (.int .i64 fr), gv (!(b1 || b2)) (.bool b3), gv (!(b1 || b2)) (.bool (!b3)), .bool (((b1 || b2)) || ((!b3))), .bool (((b1 || b2)) || ((!b3))), gv (!(((b1 || b2)) || ((!b3)))) (.pointer (some ⟨b, 0, none⟩)), gv (!(((b1 || b2)) || ((!b3)))) (.int .i64 11), gv (!(((b1 || b2)) || ((!b3)))) (.bool false), .bool (((((b1 || b2)) || ((!b3)))) || false), .bool (((((b1 || b2)) || ((!b3)))) || false), gv (!(((((b1 || b2)) || ((!b3)))) || false)) (.pointer (some ⟨b, 0, none⟩)), gv (!(((((b1 || b2)) || ((!b3)))) || false)) (.int .i64 11), gv (!(((((b1 || b2)) || ((!b3)))) || false)) (.bool false), .bool (((((((b1 || b2)) || ((!b3)))) || false)) || false), u39, u40, u41, u42, u43, u44, u45, u46, u47, u48, u49, u50, u51, u52, u53, u54, u55, u56, u57, u58, u59, u60, u61, u62, u63, u64, u65, u66, u67, u68, u69, u70, u71, u72, u73, u74, u75, u76, u77, u78, u79, u80, u81, u82, u83, u84, u85, u86, u87, u88, u89, u90, u91, u92, u93, u94, u95, u96, u97, u98, u99, u100, u101, u102, u103, u104, u105, u106, u107, u108, u109, u110, u111, u112, u113].toArray, []⟩ w1) :
    Code.wp Try.prog ism_first_reg Q ⟨[.pointer (some ⟨g, 0, none⟩), u1, u2, .pointer (some ⟨b, 0, none⟩), u4, u5, u6, u7, u8, u9, u10, u11, u12, u13, u14, u15, u16, u17, u18, u19, u20, u21, u22, u23, u24, u25, u26, u27, u28, u29, u30, u31, u32, u33, u34, u35, u36, u37, u38, u39, u40, u41, u42, u43, u44, u45, u46, u47, u48, u49, u50, u51, u52, u53, u54, u55, u56, u57, u58, u59, u60, u61, u62, u63, u64, u65, u66, u67, u68, u69, u70, u71, u72, u73, u74, u75, u76, u77, u78, u79, u80, u81, u82, u83, u84, u85, u86, u87, u88, u89, u90, u91, u92, u93, u94, u95, u96, u97, u98, u99, u100, u101, u102, u103, u104, u105, u106, u107, u108, u109, u110, u111, u112, u113].toArray, []⟩ w := by
  conv => arg 2; whnf
  have HS1 : ∀ w', Below w.drew.heap.size w.drew w' → w'.cell? ⟨g, 0, none⟩ = some (.int .i64 self) ∧ w'.cell? ⟨b, 2, none⟩ = some (.int .i64 tt) ∧ w'.cell? ⟨b, 1, none⟩ = some (.int .i64 fr) ∧ w'.cell? ⟨b, 0, none⟩ = some (.int .i64 11) := fun w' hb => ⟨pw_cell_below hb c0, pw_cell_below hb m2, pw_cell_below hb m1, pw_cell_below hb m0⟩
  refine start_ (n := 32) (S := fun w' => w'.cell? ⟨g, 0, none⟩ = some (.int .i64 self) ∧ w'.cell? ⟨b, 2, none⟩ = some (.int .i64 tt) ∧ w'.cell? ⟨b, 1, none⟩ = some (.int .i64 fr) ∧ w'.cell? ⟨b, 0, none⟩ = some (.int .i64 11)) (ds := []) (ms 32 0) (by kernel_rfl) rfl rfl ⟨c0, m2, m1, m0⟩ (fun hHeld => ?_)
  refine pure_ (i := 0) (N := some 7) (v := .pointer (some ⟨b, 2, none⟩)) (ms 32 1) rfl rfl (by kernel_rfl) (fun _ _ _ h => hP _ _ _ _ _ h) ?_ rfl ?_
  · refine Or.inl ⟨by rfl, ?_⟩; intro w'; exact y_f70_2 rfl rfl
  refine take_ (i := 1) (N := some 8) (v := .int .i64 tt) (ms 32 2) rfl rfl (by kernel_rfl) (fun _ _ _ h => hP _ _ _ _ _ h) ?_ hHeld rfl ?_
  · refine Or.inl ⟨by rfl, ?_⟩; rintro w' ⟨q1, q2, q3, q4⟩; exact y_load3 rfl rfl q2
  refine pure_ (i := 2) (N := some 9) (v := .pointer (some ⟨g, 0, none⟩)) (ms 32 3) rfl rfl (by kernel_rfl) (fun _ _ _ h => hP _ _ _ _ _ h) ?_ rfl ?_
  · refine Or.inl ⟨by rfl, ?_⟩; intro w'; exact y_move rfl rfl
  refine pure_ (i := 3) (N := some 10) (v := .pointer (some ⟨g, 0, none⟩)) (a' := ⟨[.pointer (some ⟨g, 0, none⟩), u1, u2, .pointer (some ⟨b, 0, none⟩), u4, u5, u6, .pointer (some ⟨b, 2, none⟩), .int .i64 tt, .pointer (some ⟨g, 0, none⟩), .pointer (some ⟨g, 0, none⟩), u11, u12, u13, u14, u15, u16, u17, u18, u19, u20, u21, u22, u23, u24, u25, u26, u27, u28, u29, u30, u31, u32, u33, u34, u35, u36, u37, u38, u39, u40, u41, u42, u43, u44, u45, u46, u47, u48, u49, u50, u51, u52, u53, u54, u55, u56, u57, u58, u59, u60, u61, u62, u63, u64, u65, u66, u67, u68, u69, u70, u71, u72, u73, u74, u75, u76, u77, u78, u79, u80, u81, u82, u83, u84, u85, u86, u87, u88, u89, u90, u91, u92, u93, u94, u95, u96, u97, u98, u99, u100, u101, u102, u103, u104, u105, u106, u107, u108, u109, u110, u111, u112, u113].toArray, []⟩) (ms 32 4) rfl rfl (by kernel_rfl) (fun _ _ _ h => hP _ _ _ _ _ h) ?_ rfl ?_
  · refine Or.inl ⟨by rfl, ?_⟩; intro w'; exact y_nil rfl rfl
  refine pure_ (i := 4) (N := some 11) (v := .pointer (some ⟨g, 0, none⟩)) (ms 32 5) rfl rfl (by kernel_rfl) (fun _ _ _ h => hP _ _ _ _ _ h) ?_ rfl ?_
  · refine Or.inl ⟨by rfl, ?_⟩; intro w'; exact y_f94_0 rfl rfl
  refine take_ (i := 5) (N := some 12) (v := .int .i64 self) (ms 32 6) rfl rfl (by kernel_rfl) (fun _ _ _ h => hP _ _ _ _ _ h) ?_ hHeld rfl ?_
  · refine Or.inl ⟨by rfl, ?_⟩; rintro w' ⟨q1, q2, q3, q4⟩; exact y_load3 rfl rfl q1
  refine pure_ (i := 6) (N := some 13) (v := .bool b1) (ms 32 7) rfl rfl (by kernel_rfl) (fun _ _ _ h => hP _ _ _ _ _ h) ?_ rfl ?_
  · refine Or.inl ⟨by rfl, ?_⟩; intro w'; exact z_neq rfl rfl rfl h1
  refine pure_ (i := 7) (N := some 14) (v := .bool b1) (a' := ⟨[.pointer (some ⟨g, 0, none⟩), u1, u2, .pointer (some ⟨b, 0, none⟩), u4, u5, u6, .pointer (some ⟨b, 2, none⟩), .int .i64 tt, .pointer (some ⟨g, 0, none⟩), .pointer (some ⟨g, 0, none⟩), .pointer (some ⟨g, 0, none⟩), .int .i64 self, .bool b1, .bool b1, u15, u16, u17, u18, u19, u20, u21, u22, u23, u24, u25, u26, u27, u28, u29, u30, u31, u32, u33, u34, u35, u36, u37, u38, u39, u40, u41, u42, u43, u44, u45, u46, u47, u48, u49, u50, u51, u52, u53, u54, u55, u56, u57, u58, u59, u60, u61, u62, u63, u64, u65, u66, u67, u68, u69, u70, u71, u72, u73, u74, u75, u76, u77, u78, u79, u80, u81, u82, u83, u84, u85, u86, u87, u88, u89, u90, u91, u92, u93, u94, u95, u96, u97, u98, u99, u100, u101, u102, u103, u104, u105, u106, u107, u108, u109, u110, u111, u112, u113].toArray, []⟩) (ms 32 8) rfl rfl (by kernel_rfl) (fun _ _ _ h => hP _ _ _ _ _ h) ?_ rfl ?_
  · refine Or.inl ⟨by rfl, ?_⟩; intro w'; exact y_move rfl rfl
  refine pure_ (i := 8) (N := some 15) (v := gv (!b1) (.pointer (some ⟨b, 1, none⟩))) (ms 32 9) rfl rfl (by kernel_rfl) (fun _ _ _ h => hP _ _ _ _ _ h) ?_ rfl ?_
  · cases b1
    · refine Or.inl ⟨by rfl, ?_⟩; intro w'; exact y_f70_1 rfl rfl
    · exact Or.inr ⟨by rfl, rfl⟩
  refine take_ (i := 9) (N := some 16) (v := gv (!b1) (.int .i64 fr)) (ms 32 10) rfl rfl (by kernel_rfl) (fun _ _ _ h => hP _ _ _ _ _ h) ?_ hHeld rfl ?_
  · cases b1
    · refine Or.inl ⟨by rfl, ?_⟩; rintro w' ⟨q1, q2, q3, q4⟩; exact y_load3 rfl rfl q3
    · exact Or.inr ⟨by rfl, rfl⟩
  refine pure_ (i := 10) (N := some 17) (v := gv (!b1) (.pointer (some ⟨g, 0, none⟩))) (ms 32 11) rfl rfl (by kernel_rfl) (fun _ _ _ h => hP _ _ _ _ _ h) ?_ rfl ?_
  · cases b1
    · refine Or.inl ⟨by rfl, ?_⟩; intro w'; exact y_move rfl rfl
    · exact Or.inr ⟨by rfl, rfl⟩
  refine pure_ (i := 11) (N := some 18) (v := gv (!b1) (.pointer (some ⟨g, 0, none⟩))) (a' := ⟨[.pointer (some ⟨g, 0, none⟩), u1, u2, .pointer (some ⟨b, 0, none⟩), u4, u5, u6, .pointer (some ⟨b, 2, none⟩), .int .i64 tt, .pointer (some ⟨g, 0, none⟩), .pointer (some ⟨g, 0, none⟩), .pointer (some ⟨g, 0, none⟩), .int .i64 self, .bool b1, .bool b1, gv (!b1) (.pointer (some ⟨b, 1, none⟩)), gv (!b1) (.int .i64 fr), gv (!b1) (.pointer (some ⟨g, 0, none⟩)), gv (!b1) (.pointer (some ⟨g, 0, none⟩)), u19, u20, u21, u22, u23, u24, u25, u26, u27, u28, u29, u30, u31, u32, u33, u34, u35, u36, u37, u38, u39, u40, u41, u42, u43, u44, u45, u46, u47, u48, u49, u50, u51, u52, u53, u54, u55, u56, u57, u58, u59, u60, u61, u62, u63, u64, u65, u66, u67, u68, u69, u70, u71, u72, u73, u74, u75, u76, u77, u78, u79, u80, u81, u82, u83, u84, u85, u86, u87, u88, u89, u90, u91, u92, u93, u94, u95, u96, u97, u98, u99, u100, u101, u102, u103, u104, u105, u106, u107, u108, u109, u110, u111, u112, u113].toArray, []⟩) (ms 32 12) rfl rfl (by kernel_rfl) (fun _ _ _ h => hP _ _ _ _ _ h) ?_ rfl ?_
  · cases b1
    · refine Or.inl ⟨by rfl, ?_⟩; intro w'; exact y_nil rfl rfl
    · exact Or.inr ⟨by rfl, rfl⟩
  refine pure_ (i := 12) (N := some 19) (v := gv (!b1) (.pointer (some ⟨g, 0, none⟩))) (ms 32 13) rfl rfl (by kernel_rfl) (fun _ _ _ h => hP _ _ _ _ _ h) ?_ rfl ?_
  · cases b1
    · refine Or.inl ⟨by rfl, ?_⟩; intro w'; exact y_f94_0 rfl rfl
    · exact Or.inr ⟨by rfl, rfl⟩
  refine take_ (i := 13) (N := some 20) (v := gv (!b1) (.int .i64 self)) (ms 32 14) rfl rfl (by kernel_rfl) (fun _ _ _ h => hP _ _ _ _ _ h) ?_ hHeld rfl ?_
  · cases b1
    · refine Or.inl ⟨by rfl, ?_⟩; rintro w' ⟨q1, q2, q3, q4⟩; exact y_load3 rfl rfl q1
    · exact Or.inr ⟨by rfl, rfl⟩
  refine pure_ (i := 14) (N := some 21) (v := gv (!b1) (.bool b2)) (ms 32 15) rfl rfl (by kernel_rfl) (fun _ _ _ h => hP _ _ _ _ _ h) ?_ rfl ?_
  · cases b1
    · refine Or.inl ⟨by rfl, ?_⟩; intro w'; exact z_eql rfl rfl rfl h2
    · exact Or.inr ⟨by rfl, rfl⟩
  refine pure_ (i := 15) (N := some 22) (v := .bool (b1 || b2)) (a' := ⟨[.pointer (some ⟨g, 0, none⟩), u1, u2, .pointer (some ⟨b, 0, none⟩), u4, u5, u6, .pointer (some ⟨b, 2, none⟩), .int .i64 tt, .pointer (some ⟨g, 0, none⟩), .pointer (some ⟨g, 0, none⟩), .pointer (some ⟨g, 0, none⟩), .int .i64 self, .bool b1, .bool b1, gv (!b1) (.pointer (some ⟨b, 1, none⟩)), gv (!b1) (.int .i64 fr), gv (!b1) (.pointer (some ⟨g, 0, none⟩)), gv (!b1) (.pointer (some ⟨g, 0, none⟩)), gv (!b1) (.pointer (some ⟨g, 0, none⟩)), gv (!b1) (.int .i64 self), gv (!b1) (.bool b2), .bool (b1 || b2), u23, u24, u25, u26, u27, u28, u29, u30, u31, u32, u33, u34, u35, u36, u37, u38, u39, u40, u41, u42, u43, u44, u45, u46, u47, u48, u49, u50, u51, u52, u53, u54, u55, u56, u57, u58, u59, u60, u61, u62, u63, u64, u65, u66, u67, u68, u69, u70, u71, u72, u73, u74, u75, u76, u77, u78, u79, u80, u81, u82, u83, u84, u85, u86, u87, u88, u89, u90, u91, u92, u93, u94, u95, u96, u97, u98, u99, u100, u101, u102, u103, u104, u105, u106, u107, u108, u109, u110, u111, u112, u113].toArray, []⟩) (ms 32 16) rfl rfl (by kernel_rfl) (fun _ _ _ h => hP _ _ _ _ _ h) ?_ rfl ?_
  · cases b1
    · refine Or.inl ⟨by rfl, ?_⟩; intro w'; exact y_pick_f rfl rfl rfl
    · refine Or.inl ⟨by rfl, ?_⟩; intro w'; exact y_pick_t rfl rfl rfl
  refine pure_ (i := 16) (N := some 23) (v := .bool (b1 || b2)) (ms 32 17) rfl rfl (by kernel_rfl) (fun _ _ _ h => hP _ _ _ _ _ h) ?_ rfl ?_
  · refine Or.inl ⟨by rfl, ?_⟩; intro w'; exact y_move rfl rfl
  refine pure_ (i := 17) (N := some 24) (v := gv (!(b1 || b2)) (.pointer (some ⟨b, 1, none⟩))) (ms 32 18) rfl rfl (by kernel_rfl) (fun _ _ _ h => hP _ _ _ _ _ h) ?_ rfl ?_
  · cases b1
    · cases b2
      · refine Or.inl ⟨by rfl, ?_⟩; intro w'; exact y_f70_1 rfl rfl
      · exact Or.inr ⟨by rfl, rfl⟩
    · exact Or.inr ⟨by rfl, rfl⟩
  refine take_ (i := 18) (N := some 25) (v := gv (!(b1 || b2)) (.int .i64 fr)) (a' := ⟨[.pointer (some ⟨g, 0, none⟩), u1, u2, .pointer (some ⟨b, 0, none⟩), u4, u5, u6, .pointer (some ⟨b, 2, none⟩), .int .i64 tt, .pointer (some ⟨g, 0, none⟩), .pointer (some ⟨g, 0, none⟩), .pointer (some ⟨g, 0, none⟩), .int .i64 self, .bool b1, .bool b1, gv (!b1) (.pointer (some ⟨b, 1, none⟩)), gv (!b1) (.int .i64 fr), gv (!b1) (.pointer (some ⟨g, 0, none⟩)), gv (!b1) (.pointer (some ⟨g, 0, none⟩)), gv (!b1) (.pointer (some ⟨g, 0, none⟩)), gv (!b1) (.int .i64 self), gv (!b1) (.bool b2), .bool (b1 || b2), .bool (b1 || b2), gv (!(b1 || b2)) (.pointer (some ⟨b, 1, none⟩)), gv (!(b1 || b2)) (.int .i64 fr), u26, u27, u28, u29, u30, u31, u32, u33, u34, u35, u36, u37, u38, u39, u40, u41, u42, u43, u44, u45, u46, u47, u48, u49, u50, u51, u52, u53, u54, u55, u56, u57, u58, u59, u60, u61, u62, u63, u64, u65, u66, u67, u68, u69, u70, u71, u72, u73, u74, u75, u76, u77, u78, u79, u80, u81, u82, u83, u84, u85, u86, u87, u88, u89, u90, u91, u92, u93, u94, u95, u96, u97, u98, u99, u100, u101, u102, u103, u104, u105, u106, u107, u108, u109, u110, u111, u112, u113].toArray, []⟩) (ms 32 19) rfl rfl (by kernel_rfl) (fun _ _ _ h => hP _ _ _ _ _ h) ?_ hHeld rfl ?_
  · cases b1
    · cases b2
      · refine Or.inl ⟨by rfl, ?_⟩; rintro w' ⟨q1, q2, q3, q4⟩; exact y_load3 rfl rfl q3
      · exact Or.inr ⟨by rfl, rfl⟩
    · exact Or.inr ⟨by rfl, rfl⟩
  refine one_ (i := 19) (N := some 26) (ms 32 20) rfl rfl (by kernel_rfl) (by decide) (fun K hK => ?_)
  suffices hk : ∀ w1, Below w.drew.heap.size w.drew w1 → K ⟨[.pointer (some ⟨g, 0, none⟩), u1, u2, .pointer (some ⟨b, 0, none⟩), u4, u5, u6, .pointer (some ⟨b, 2, none⟩), .int .i64 tt, .pointer (some ⟨g, 0, none⟩), .pointer (some ⟨g, 0, none⟩), .pointer (some ⟨g, 0, none⟩), .int .i64 self, .bool b1, .bool b1, gv (!b1) (.pointer (some ⟨b, 1, none⟩)), gv (!b1) (.int .i64 fr), gv (!b1) (.pointer (some ⟨g, 0, none⟩)), gv (!b1) (.pointer (some ⟨g, 0, none⟩)), gv (!b1) (.pointer (some ⟨g, 0, none⟩)), gv (!b1) (.int .i64 self), gv (!b1) (.bool b2), .bool (b1 || b2), .bool (b1 || b2), gv (!(b1 || b2)) (.pointer (some ⟨b, 1, none⟩)), gv (!(b1 || b2)) (.int .i64 fr), gv (!(b1 || b2)) (.bool b3), u27, u28, u29, u30, u31, u32, u33, u34, u35, u36, u37, u38, u39, u40, u41, u42, u43, u44, u45, u46, u47, u48, u49, u50, u51, u52, u53, u54, u55, u56, u57, u58, u59, u60, u61, u62, u63, u64, u65, u66, u67, u68, u69, u70, u71, u72, u73, u74, u75, u76, u77, u78, u79, u80, u81, u82, u83, u84, u85, u86, u87, u88, u89, u90, u91, u92, u93, u94, u95, u96, u97, u98, u99, u100, u101, u102, u103, u104, u105, u106, u107, u108, u109, u110, u111, u112, u113].toArray, []⟩ w1 by
    cases b1
    · cases b2
      · refine goes_ Try.func37 (by kernel_rfl) rfl #[.int .i64 fr] (by rfl) rfl rfl (by (try simp only [List.map_toArray, List.map_cons, List.map_nil]); first | done | rfl) ?_; refine (hcall w.drew (Below.refl _ _)).mono ?_; rintro e wq ⟨rfl, hb⟩; exact ⟨_, rfl, hk _ hb⟩
      · exact unw_ (by rfl) (hk _ (Below.refl _ _))
    · exact unw_ (by rfl) (hk _ (Below.refl _ _))
  intro w1 hB1
  refine hK.out _ _ (HS1 _ hB1) ?_
  intro hHeld1
  replace hHeld := hHeld1
  refine pure_ (i := 20) (N := some 27) (v := gv (!(b1 || b2)) (.bool (!b3))) (ms 32 21) rfl rfl (by kernel_rfl) (fun _ _ _ h => hP _ _ _ _ _ h) ?_ rfl ?_
  · cases b1
    · cases b2
      · refine Or.inl ⟨by rfl, ?_⟩; intro w'; exact y_not (v := b3) rfl rfl
      · exact Or.inr ⟨by rfl, rfl⟩
    · exact Or.inr ⟨by rfl, rfl⟩
  refine pure_ (i := 21) (N := some 28) (v := .bool (((b1 || b2)) || ((!b3)))) (ms 32 22) rfl rfl (by kernel_rfl) (fun _ _ _ h => hP _ _ _ _ _ h) ?_ rfl ?_
  · cases b1
    · cases b2
      · refine Or.inl ⟨by rfl, ?_⟩; intro w'; exact y_pick_f rfl rfl rfl
      · refine Or.inl ⟨by rfl, ?_⟩; intro w'; exact y_pick_t rfl rfl rfl
    · refine Or.inl ⟨by rfl, ?_⟩; intro w'; exact y_pick_t rfl rfl rfl
  refine pure_ (i := 22) (N := some 29) (v := .bool (((b1 || b2)) || ((!b3)))) (ms 32 23) rfl rfl (by kernel_rfl) (fun _ _ _ h => hP _ _ _ _ _ h) ?_ rfl ?_
  · refine Or.inl ⟨by rfl, ?_⟩; intro w'; exact y_move rfl rfl
  refine pure_ (i := 23) (N := some 30) (v := gv (!(((b1 || b2)) || ((!b3)))) (.pointer (some ⟨b, 0, none⟩))) (a' := ⟨[.pointer (some ⟨g, 0, none⟩), u1, u2, .pointer (some ⟨b, 0, none⟩), u4, u5, u6, .pointer (some ⟨b, 2, none⟩), .int .i64 tt, .pointer (some ⟨g, 0, none⟩), .pointer (some ⟨g, 0, none⟩), .pointer (some ⟨g, 0, none⟩), .int .i64 self, .bool b1, .bool b1, gv (!b1) (.pointer (some ⟨b, 1, none⟩)), gv (!b1) (.int .i64 fr), gv (!b1) (.pointer (some ⟨g, 0, none⟩)), gv (!b1) (.pointer (some ⟨g, 0, none⟩)), gv (!b1) (.pointer (some ⟨g, 0, none⟩)), gv (!b1) (.int .i64 self), gv (!b1) (.bool b2), .bool (b1 || b2), .bool (b1 || b2), gv (!(b1 || b2)) (.pointer (some ⟨b, 1, none⟩)), gv (!(b1 || b2)) (.int .i64 fr), gv (!(b1 || b2)) (.bool b3), gv (!(b1 || b2)) (.bool (!b3)), .bool (((b1 || b2)) || ((!b3))), .bool (((b1 || b2)) || ((!b3))), gv (!(((b1 || b2)) || ((!b3)))) (.pointer (some ⟨b, 0, none⟩)), u31, u32, u33, u34, u35, u36, u37, u38, u39, u40, u41, u42, u43, u44, u45, u46, u47, u48, u49, u50, u51, u52, u53, u54, u55, u56, u57, u58, u59, u60, u61, u62, u63, u64, u65, u66, u67, u68, u69, u70, u71, u72, u73, u74, u75, u76, u77, u78, u79, u80, u81, u82, u83, u84, u85, u86, u87, u88, u89, u90, u91, u92, u93, u94, u95, u96, u97, u98, u99, u100, u101, u102, u103, u104, u105, u106, u107, u108, u109, u110, u111, u112, u113].toArray, []⟩) (ms 32 24) rfl rfl (by kernel_rfl) (fun _ _ _ h => hP _ _ _ _ _ h) ?_ rfl ?_
  · cases b1
    · cases b2
      · cases b3
        · exact Or.inr ⟨by rfl, rfl⟩
        · refine Or.inl ⟨by rfl, ?_⟩; intro w'; exact y_f70_0 rfl rfl
      · exact Or.inr ⟨by rfl, rfl⟩
    · exact Or.inr ⟨by rfl, rfl⟩
  refine take_ (i := 24) (N := some 31) (v := gv (!(((b1 || b2)) || ((!b3)))) (.int .i64 11)) (ms 32 25) rfl rfl (by kernel_rfl) (fun _ _ _ h => hP _ _ _ _ _ h) ?_ hHeld rfl ?_
  · cases b1
    · cases b2
      · cases b3
        · exact Or.inr ⟨by rfl, rfl⟩
        · refine Or.inl ⟨by rfl, ?_⟩; rintro w' ⟨q1, q2, q3, q4⟩; exact y_load3 rfl rfl q4
      · exact Or.inr ⟨by rfl, rfl⟩
    · exact Or.inr ⟨by rfl, rfl⟩
  refine pure_ (i := 25) (N := some 32) (v := gv (!(((b1 || b2)) || ((!b3)))) (.bool false)) (ms 32 26) rfl rfl (by kernel_rfl) (fun _ _ _ h => hP _ _ _ _ _ h) ?_ rfl ?_
  · cases b1
    · cases b2
      · cases b3
        · exact Or.inr ⟨by rfl, rfl⟩
        · refine Or.inl ⟨by rfl, ?_⟩; intro w'; exact z_lss rfl rfl rfl (by decide)
      · exact Or.inr ⟨by rfl, rfl⟩
    · exact Or.inr ⟨by rfl, rfl⟩
  refine pure_ (i := 26) (N := some 33) (v := .bool (((((b1 || b2)) || ((!b3)))) || false)) (ms 32 27) rfl rfl (by kernel_rfl) (fun _ _ _ h => hP _ _ _ _ _ h) ?_ rfl ?_
  · cases b1
    · cases b2
      · cases b3
        · refine Or.inl ⟨by rfl, ?_⟩; intro w'; exact y_pick_t rfl rfl rfl
        · refine Or.inl ⟨by rfl, ?_⟩; intro w'; exact y_pick_f rfl rfl rfl
      · refine Or.inl ⟨by rfl, ?_⟩; intro w'; exact y_pick_t rfl rfl rfl
    · refine Or.inl ⟨by rfl, ?_⟩; intro w'; exact y_pick_t rfl rfl rfl
  refine pure_ (i := 27) (N := some 34) (v := .bool (((((b1 || b2)) || ((!b3)))) || false)) (a' := ⟨[.pointer (some ⟨g, 0, none⟩), u1, u2, .pointer (some ⟨b, 0, none⟩), u4, u5, u6, .pointer (some ⟨b, 2, none⟩), .int .i64 tt, .pointer (some ⟨g, 0, none⟩), .pointer (some ⟨g, 0, none⟩), .pointer (some ⟨g, 0, none⟩), .int .i64 self, .bool b1, .bool b1, gv (!b1) (.pointer (some ⟨b, 1, none⟩)), gv (!b1) (.int .i64 fr), gv (!b1) (.pointer (some ⟨g, 0, none⟩)), gv (!b1) (.pointer (some ⟨g, 0, none⟩)), gv (!b1) (.pointer (some ⟨g, 0, none⟩)), gv (!b1) (.int .i64 self), gv (!b1) (.bool b2), .bool (b1 || b2), .bool (b1 || b2), gv (!(b1 || b2)) (.pointer (some ⟨b, 1, none⟩)), gv (!(b1 || b2)) (.int .i64 fr), gv (!(b1 || b2)) (.bool b3), gv (!(b1 || b2)) (.bool (!b3)), .bool (((b1 || b2)) || ((!b3))), .bool (((b1 || b2)) || ((!b3))), gv (!(((b1 || b2)) || ((!b3)))) (.pointer (some ⟨b, 0, none⟩)), gv (!(((b1 || b2)) || ((!b3)))) (.int .i64 11), gv (!(((b1 || b2)) || ((!b3)))) (.bool false), .bool (((((b1 || b2)) || ((!b3)))) || false), .bool (((((b1 || b2)) || ((!b3)))) || false), u35, u36, u37, u38, u39, u40, u41, u42, u43, u44, u45, u46, u47, u48, u49, u50, u51, u52, u53, u54, u55, u56, u57, u58, u59, u60, u61, u62, u63, u64, u65, u66, u67, u68, u69, u70, u71, u72, u73, u74, u75, u76, u77, u78, u79, u80, u81, u82, u83, u84, u85, u86, u87, u88, u89, u90, u91, u92, u93, u94, u95, u96, u97, u98, u99, u100, u101, u102, u103, u104, u105, u106, u107, u108, u109, u110, u111, u112, u113].toArray, []⟩) (ms 32 28) rfl rfl (by kernel_rfl) (fun _ _ _ h => hP _ _ _ _ _ h) ?_ rfl ?_
  · refine Or.inl ⟨by rfl, ?_⟩; intro w'; exact y_move rfl rfl
  refine pure_ (i := 28) (N := some 35) (v := gv (!(((((b1 || b2)) || ((!b3)))) || false)) (.pointer (some ⟨b, 0, none⟩))) (ms 32 29) rfl rfl (by kernel_rfl) (fun _ _ _ h => hP _ _ _ _ _ h) ?_ rfl ?_
  · cases b1
    · cases b2
      · cases b3
        · exact Or.inr ⟨by rfl, rfl⟩
        · refine Or.inl ⟨by rfl, ?_⟩; intro w'; exact y_f70_0 rfl rfl
      · exact Or.inr ⟨by rfl, rfl⟩
    · exact Or.inr ⟨by rfl, rfl⟩
  refine take_ (i := 29) (N := some 36) (v := gv (!(((((b1 || b2)) || ((!b3)))) || false)) (.int .i64 11)) (ms 32 30) rfl rfl (by kernel_rfl) (fun _ _ _ h => hP _ _ _ _ _ h) ?_ hHeld rfl ?_
  · cases b1
    · cases b2
      · cases b3
        · exact Or.inr ⟨by rfl, rfl⟩
        · refine Or.inl ⟨by rfl, ?_⟩; rintro w' ⟨q1, q2, q3, q4⟩; exact y_load3 rfl rfl q4
      · exact Or.inr ⟨by rfl, rfl⟩
    · exact Or.inr ⟨by rfl, rfl⟩
  refine pure_ (i := 30) (N := some 37) (v := gv (!(((((b1 || b2)) || ((!b3)))) || false)) (.bool false)) (ms 32 31) rfl rfl (by kernel_rfl) (fun _ _ _ h => hP _ _ _ _ _ h) ?_ rfl ?_
  · cases b1
    · cases b2
      · cases b3
        · exact Or.inr ⟨by rfl, rfl⟩
        · refine Or.inl ⟨by rfl, ?_⟩; intro w'; exact z_gtr rfl rfl rfl (by decide)
      · exact Or.inr ⟨by rfl, rfl⟩
    · exact Or.inr ⟨by rfl, rfl⟩
  refine pure_ (i := 31) (N := some 38) (v := .bool (((((((b1 || b2)) || ((!b3)))) || false)) || false)) (a' := ⟨[.pointer (some ⟨g, 0, none⟩), u1, u2, .pointer (some ⟨b, 0, none⟩), u4, u5, u6, .pointer (some ⟨b, 2, none⟩), .int .i64 tt, .pointer (some ⟨g, 0, none⟩), .pointer (some ⟨g, 0, none⟩), .pointer (some ⟨g, 0, none⟩), .int .i64 self, .bool b1, .bool b1, gv (!b1) (.pointer (some ⟨b, 1, none⟩)), gv (!b1) (.int .i64 fr), gv (!b1) (.pointer (some ⟨g, 0, none⟩)), gv (!b1) (.pointer (some ⟨g, 0, none⟩)), gv (!b1) (.pointer (some ⟨g, 0, none⟩)), gv (!b1) (.int .i64 self), gv (!b1) (.bool b2), .bool (b1 || b2), .bool (b1 || b2), gv (!(b1 || b2)) (.pointer (some ⟨b, 1, none⟩)), gv (!(b1 || b2)) (.int .i64 fr), gv (!(b1 || b2)) (.bool b3), gv (!(b1 || b2)) (.bool (!b3)), .bool (((b1 || b2)) || ((!b3))), .bool (((b1 || b2)) || ((!b3))), gv (!(((b1 || b2)) || ((!b3)))) (.pointer (some ⟨b, 0, none⟩)), gv (!(((b1 || b2)) || ((!b3)))) (.int .i64 11), gv (!(((b1 || b2)) || ((!b3)))) (.bool false), .bool (((((b1 || b2)) || ((!b3)))) || false), .bool (((((b1 || b2)) || ((!b3)))) || false), gv (!(((((b1 || b2)) || ((!b3)))) || false)) (.pointer (some ⟨b, 0, none⟩)), gv (!(((((b1 || b2)) || ((!b3)))) || false)) (.int .i64 11), gv (!(((((b1 || b2)) || ((!b3)))) || false)) (.bool false), .bool (((((((b1 || b2)) || ((!b3)))) || false)) || false), u39, u40, u41, u42, u43, u44, u45, u46, u47, u48, u49, u50, u51, u52, u53, u54, u55, u56, u57, u58, u59, u60, u61, u62, u63, u64, u65, u66, u67, u68, u69, u70, u71, u72, u73, u74, u75, u76, u77, u78, u79, u80, u81, u82, u83, u84, u85, u86, u87, u88, u89, u90, u91, u92, u93, u94, u95, u96, u97, u98, u99, u100, u101, u102, u103, u104, u105, u106, u107, u108, u109, u110, u111, u112, u113].toArray, []⟩) (ms 32 32) rfl rfl (by kernel_rfl) (fun _ _ _ h => hP _ _ _ _ _ h) ?_ rfl ?_
  · cases b1
    · cases b2
      · cases b3
        · refine Or.inl ⟨by rfl, ?_⟩; intro w'; exact y_pick_t rfl rfl rfl
        · refine Or.inl ⟨by rfl, ?_⟩; intro w'; exact y_pick_f rfl rfl rfl
      · refine Or.inl ⟨by rfl, ?_⟩; intro w'; exact y_pick_t rfl rfl rfl
    · refine Or.inl ⟨by rfl, ?_⟩; intro w'; exact y_pick_t rfl rfl rfl
  refine done_ (by kernel_rfl) ?_
  exact h w1 hB1

noncomputable def asked_ok_reg : Code := (Try.f66.body.bind (regionOf 5)).getD .skip
set_option maxRecDepth 1000000 in
set_option maxHeartbeats 4000000 in
/-- asked's test: may the vote be given? -/
theorem asked_ok (u1 u2 u5 u6 u7 u8 u9 u10 u11 u12 u13 u14 u15 u16 u17 u18 u19 u20 u21 u22 u23 u24 u25 u26 u27 u28 u29 u30 u31 u32 u33 u34 u35 u36 u37 u38 u39 u40 u41 u42 u43 u44 u45 u46 u47 u48 u49 u50 u51 u52 u53 u54 u55 u56 u57 u58 u59 u60 u61 u62 u63 u64 u65 u66 u67 u68 u69 u70 u71 u72 u73 u74 u75 u76 u77 u78 u79 u80 u81 u82 u83 u84 u85 u86 u87 u88 u89 u90 u91 u92 u93 u94 u95 u96 u97 u98 u99 u100 u101 u102 u103 u104 u105 u106 u107 u108 u109 u110 u111 u112 u113 u114 : Value) (g b : Nat) (w : World) (Q : Exit → Act → World → Prop) (t vt mt fr ps ix lt li : Int) (b1 b2 b3 c1' b4 b5 b6 : Bool) (hP : ∀ x a d v w, Q (.panic x) (a.put (some d) v) w → Q (.panic x) a w) (c1 : w.cell? ⟨g, 1, none⟩ = some (.int .i64 t)) (c2 : w.cell? ⟨g, 2, none⟩ = some (.int .i64 vt)) (m21 : w.cell? ⟨b, 21, none⟩ = some (.int .i64 mt)) (m1 : w.cell? ⟨b, 1, none⟩ = some (.int .i64 fr)) (m23 : w.cell? ⟨b, 23, none⟩ = some (.int .i64 ps)) (m22 : w.cell? ⟨b, 22, none⟩ = some (.int .i64 ix)) (h1 : (mt == t) = b1) (h2 : (vt == -1) = b2) (h3 : (vt == fr) = b3) (hc : (b1 && (b2 || b3)) = c1') (h4 : decide (lt < ps) = b4) (h5 : (ps == lt) = b5) (h6 : decide (li ≤ ix) = b6) (hcall : ∀ w', Below w.drew.heap.size w.drew w' → Calls Try.prog 17 #[.pointer (some ⟨g, 0, none⟩)] w' fun e w'' => e = .returned (.int .i64 li) ∧ Below w'.heap.size w' w'')
    (h : ∀ w1, Below w.drew.heap.size w.drew w1 → Q .normal ⟨[.pointer (some ⟨g, 0, none⟩), u1, u2, .pointer (some ⟨b, 0, none⟩), .int .i64 lt, .bool ((c1') && ((b4 || ((b5 && b6))))), u6, u7, u8, u9, u10, u11, u12, u13, u14, u15, u16, u17, u18, u19, u20, u21, u22, u23, u24, u25, u26, u27, u28, u29, u30, u31, u32, u33, u34, u35, u36, u37, u38, u39, .pointer (some ⟨b, 21, none⟩), .int .i64 mt, .pointer (some ⟨g, 0, none⟩), .pointer (some ⟨g, 0, none⟩), .pointer (some ⟨g, 1, none⟩), .int .i64 t, .bool b1, .bool b1, gv (b1) (.pointer (some ⟨g, 0, none⟩)), gv (b1) (.pointer (some ⟨g, 0, none⟩)), gv (b1) (.pointer (some ⟨g, 2, none⟩)), gv (b1) (.int .i64 vt), gv (b1) (.bool b2), gv (b1) (.bool b2), gv (b1 && !b2) (.pointer (some ⟨g, 0, none⟩)), gv (b1 && !b2) (.pointer (some ⟨g, 0, none⟩)), gv (b1 && !b2) (.pointer (some ⟨g, 2, none⟩)), gv (b1 && !b2) (.int .i64 vt), gv (b1 && !b2) (.pointer (some ⟨b, 1, none⟩)), gv (b1 && !b2) (.int .i64 fr), gv (b1 && !b2) (.bool b3), gv (b1) (.bool (b2 || b3)), .bool c1', .bool c1', gv (c1') (.pointer (some ⟨b, 23, none⟩)), gv (c1') (.int .i64 ps), gv (c1') (.int .i64 lt), gv (c1') (.bool b4), gv (c1') (.bool b4), gv (c1' && !b4) (.pointer (some ⟨b, 23, none⟩)), gv (c1' && !b4) (.int .i64 ps), gv (c1' && !b4) (.int .i64 lt), gv (c1' && !b4) (.bool b5), gv (c1' && !b4) (.bool b5), gv (c1' && !b4 && b5) (.pointer (some ⟨b, 22, none⟩)), gv (c1' && !b4 && b5) (.int .i64 ix), gv (c1' && !b4 && b5) (.pointer (some ⟨g, 0, none⟩)), gv (c1' && !b4 && b5) (.int .i64 li), gv (c1' && !b4 && b5) (.bool b6), gv (c1' && !b4) (.bool (b5 && b6)), gv (c1') (.bool (b4 || ((b5 && b6)))), .bool ((c1') && ((b4 || ((b5 && b6))))), u82, u83, u84, u85, u86, u87, u88, u89, u90, u91, u92, u93, u94, u95, u96, u97, u98, u99, u100, u101, u102, u103, u104, u105, u106, u107, u108, u109, u110, u111, u112, u113, u114].toArray, []⟩ w1) :
    Code.wp Try.prog asked_ok_reg Q ⟨[.pointer (some ⟨g, 0, none⟩), u1, u2, .pointer (some ⟨b, 0, none⟩), .int .i64 lt, u5, u6, u7, u8, u9, u10, u11, u12, u13, u14, u15, u16, u17, u18, u19, u20, u21, u22, u23, u24, u25, u26, u27, u28, u29, u30, u31, u32, u33, u34, u35, u36, u37, u38, u39, u40, u41, u42, u43, u44, u45, u46, u47, u48, u49, u50, u51, u52, u53, u54, u55, u56, u57, u58, u59, u60, u61, u62, u63, u64, u65, u66, u67, u68, u69, u70, u71, u72, u73, u74, u75, u76, u77, u78, u79, u80, u81, u82, u83, u84, u85, u86, u87, u88, u89, u90, u91, u92, u93, u94, u95, u96, u97, u98, u99, u100, u101, u102, u103, u104, u105, u106, u107, u108, u109, u110, u111, u112, u113, u114].toArray, []⟩ w := by
  conv => arg 2; whnf
  have HS1 : ∀ w', Below w.drew.heap.size w.drew w' → w'.cell? ⟨g, 1, none⟩ = some (.int .i64 t) ∧ w'.cell? ⟨g, 2, none⟩ = some (.int .i64 vt) ∧ w'.cell? ⟨b, 21, none⟩ = some (.int .i64 mt) ∧ w'.cell? ⟨b, 1, none⟩ = some (.int .i64 fr) ∧ w'.cell? ⟨b, 23, none⟩ = some (.int .i64 ps) ∧ w'.cell? ⟨b, 22, none⟩ = some (.int .i64 ix) := fun w' hb => ⟨pw_cell_below hb c1, pw_cell_below hb c2, pw_cell_below hb m21, pw_cell_below hb m1, pw_cell_below hb m23, pw_cell_below hb m22⟩
  refine start_ (n := 43) (S := fun w' => w'.cell? ⟨g, 1, none⟩ = some (.int .i64 t) ∧ w'.cell? ⟨g, 2, none⟩ = some (.int .i64 vt) ∧ w'.cell? ⟨b, 21, none⟩ = some (.int .i64 mt) ∧ w'.cell? ⟨b, 1, none⟩ = some (.int .i64 fr) ∧ w'.cell? ⟨b, 23, none⟩ = some (.int .i64 ps) ∧ w'.cell? ⟨b, 22, none⟩ = some (.int .i64 ix)) (ds := []) (ms 43 0) (by kernel_rfl) rfl rfl ⟨c1, c2, m21, m1, m23, m22⟩ (fun hHeld => ?_)
  refine pure_ (i := 0) (N := some 40) (v := .pointer (some ⟨b, 21, none⟩)) (ms 43 1) rfl rfl (by kernel_rfl) (fun _ _ _ h => hP _ _ _ _ _ h) ?_ rfl ?_
  · refine Or.inl ⟨by rfl, ?_⟩; intro w'; exact y_f70_6 rfl rfl
  refine take_ (i := 1) (N := some 41) (v := .int .i64 mt) (ms 43 2) rfl rfl (by kernel_rfl) (fun _ _ _ h => hP _ _ _ _ _ h) ?_ hHeld rfl ?_
  · refine Or.inl ⟨by rfl, ?_⟩; rintro w' ⟨q1, q2, q3, q4, q5, q6⟩; exact y_load3 rfl rfl q3
  refine pure_ (i := 2) (N := some 42) (v := .pointer (some ⟨g, 0, none⟩)) (ms 43 3) rfl rfl (by kernel_rfl) (fun _ _ _ h => hP _ _ _ _ _ h) ?_ rfl ?_
  · refine Or.inl ⟨by rfl, ?_⟩; intro w'; exact y_move rfl rfl
  refine pure_ (i := 3) (N := some 43) (v := .pointer (some ⟨g, 0, none⟩)) (a' := ⟨[.pointer (some ⟨g, 0, none⟩), u1, u2, .pointer (some ⟨b, 0, none⟩), .int .i64 lt, u5, u6, u7, u8, u9, u10, u11, u12, u13, u14, u15, u16, u17, u18, u19, u20, u21, u22, u23, u24, u25, u26, u27, u28, u29, u30, u31, u32, u33, u34, u35, u36, u37, u38, u39, .pointer (some ⟨b, 21, none⟩), .int .i64 mt, .pointer (some ⟨g, 0, none⟩), .pointer (some ⟨g, 0, none⟩), u44, u45, u46, u47, u48, u49, u50, u51, u52, u53, u54, u55, u56, u57, u58, u59, u60, u61, u62, u63, u64, u65, u66, u67, u68, u69, u70, u71, u72, u73, u74, u75, u76, u77, u78, u79, u80, u81, u82, u83, u84, u85, u86, u87, u88, u89, u90, u91, u92, u93, u94, u95, u96, u97, u98, u99, u100, u101, u102, u103, u104, u105, u106, u107, u108, u109, u110, u111, u112, u113, u114].toArray, []⟩) (ms 43 4) rfl rfl (by kernel_rfl) (fun _ _ _ h => hP _ _ _ _ _ h) ?_ rfl ?_
  · refine Or.inl ⟨by rfl, ?_⟩; intro w'; exact y_nil rfl rfl
  refine pure_ (i := 4) (N := some 44) (v := .pointer (some ⟨g, 1, none⟩)) (ms 43 5) rfl rfl (by kernel_rfl) (fun _ _ _ h => hP _ _ _ _ _ h) ?_ rfl ?_
  · refine Or.inl ⟨by rfl, ?_⟩; intro w'; exact y_f94_1 rfl rfl
  refine take_ (i := 5) (N := some 45) (v := .int .i64 t) (ms 43 6) rfl rfl (by kernel_rfl) (fun _ _ _ h => hP _ _ _ _ _ h) ?_ hHeld rfl ?_
  · refine Or.inl ⟨by rfl, ?_⟩; rintro w' ⟨q1, q2, q3, q4, q5, q6⟩; exact y_load3 rfl rfl q1
  refine pure_ (i := 6) (N := some 46) (v := .bool b1) (ms 43 7) rfl rfl (by kernel_rfl) (fun _ _ _ h => hP _ _ _ _ _ h) ?_ rfl ?_
  · refine Or.inl ⟨by rfl, ?_⟩; intro w'; exact z_eql rfl rfl rfl h1
  refine pure_ (i := 7) (N := some 47) (v := .bool b1) (a' := ⟨[.pointer (some ⟨g, 0, none⟩), u1, u2, .pointer (some ⟨b, 0, none⟩), .int .i64 lt, u5, u6, u7, u8, u9, u10, u11, u12, u13, u14, u15, u16, u17, u18, u19, u20, u21, u22, u23, u24, u25, u26, u27, u28, u29, u30, u31, u32, u33, u34, u35, u36, u37, u38, u39, .pointer (some ⟨b, 21, none⟩), .int .i64 mt, .pointer (some ⟨g, 0, none⟩), .pointer (some ⟨g, 0, none⟩), .pointer (some ⟨g, 1, none⟩), .int .i64 t, .bool b1, .bool b1, u48, u49, u50, u51, u52, u53, u54, u55, u56, u57, u58, u59, u60, u61, u62, u63, u64, u65, u66, u67, u68, u69, u70, u71, u72, u73, u74, u75, u76, u77, u78, u79, u80, u81, u82, u83, u84, u85, u86, u87, u88, u89, u90, u91, u92, u93, u94, u95, u96, u97, u98, u99, u100, u101, u102, u103, u104, u105, u106, u107, u108, u109, u110, u111, u112, u113, u114].toArray, []⟩) (ms 43 8) rfl rfl (by kernel_rfl) (fun _ _ _ h => hP _ _ _ _ _ h) ?_ rfl ?_
  · refine Or.inl ⟨by rfl, ?_⟩; intro w'; exact y_move rfl rfl
  refine pure_ (i := 8) (N := some 48) (v := gv (b1) (.pointer (some ⟨g, 0, none⟩))) (ms 43 9) rfl rfl (by kernel_rfl) (fun _ _ _ h => hP _ _ _ _ _ h) ?_ rfl ?_
  · cases b1
    · exact Or.inr ⟨by rfl, rfl⟩
    · refine Or.inl ⟨by rfl, ?_⟩; intro w'; exact y_move rfl rfl
  refine pure_ (i := 9) (N := some 49) (v := gv (b1) (.pointer (some ⟨g, 0, none⟩))) (ms 43 10) rfl rfl (by kernel_rfl) (fun _ _ _ h => hP _ _ _ _ _ h) ?_ rfl ?_
  · cases b1
    · exact Or.inr ⟨by rfl, rfl⟩
    · refine Or.inl ⟨by rfl, ?_⟩; intro w'; exact y_nil rfl rfl
  refine pure_ (i := 10) (N := some 50) (v := gv (b1) (.pointer (some ⟨g, 2, none⟩))) (ms 43 11) rfl rfl (by kernel_rfl) (fun _ _ _ h => hP _ _ _ _ _ h) ?_ rfl ?_
  · cases b1
    · exact Or.inr ⟨by rfl, rfl⟩
    · refine Or.inl ⟨by rfl, ?_⟩; intro w'; exact y_f94_2 rfl rfl
  refine take_ (i := 11) (N := some 51) (v := gv (b1) (.int .i64 vt)) (a' := ⟨[.pointer (some ⟨g, 0, none⟩), u1, u2, .pointer (some ⟨b, 0, none⟩), .int .i64 lt, u5, u6, u7, u8, u9, u10, u11, u12, u13, u14, u15, u16, u17, u18, u19, u20, u21, u22, u23, u24, u25, u26, u27, u28, u29, u30, u31, u32, u33, u34, u35, u36, u37, u38, u39, .pointer (some ⟨b, 21, none⟩), .int .i64 mt, .pointer (some ⟨g, 0, none⟩), .pointer (some ⟨g, 0, none⟩), .pointer (some ⟨g, 1, none⟩), .int .i64 t, .bool b1, .bool b1, gv (b1) (.pointer (some ⟨g, 0, none⟩)), gv (b1) (.pointer (some ⟨g, 0, none⟩)), gv (b1) (.pointer (some ⟨g, 2, none⟩)), gv (b1) (.int .i64 vt), u52, u53, u54, u55, u56, u57, u58, u59, u60, u61, u62, u63, u64, u65, u66, u67, u68, u69, u70, u71, u72, u73, u74, u75, u76, u77, u78, u79, u80, u81, u82, u83, u84, u85, u86, u87, u88, u89, u90, u91, u92, u93, u94, u95, u96, u97, u98, u99, u100, u101, u102, u103, u104, u105, u106, u107, u108, u109, u110, u111, u112, u113, u114].toArray, []⟩) (ms 43 12) rfl rfl (by kernel_rfl) (fun _ _ _ h => hP _ _ _ _ _ h) ?_ hHeld rfl ?_
  · cases b1
    · exact Or.inr ⟨by rfl, rfl⟩
    · refine Or.inl ⟨by rfl, ?_⟩; rintro w' ⟨q1, q2, q3, q4, q5, q6⟩; exact y_load3 rfl rfl q2
  refine pure_ (i := 12) (N := some 52) (v := gv (b1) (.bool b2)) (ms 43 13) rfl rfl (by kernel_rfl) (fun _ _ _ h => hP _ _ _ _ _ h) ?_ rfl ?_
  · cases b1
    · exact Or.inr ⟨by rfl, rfl⟩
    · refine Or.inl ⟨by rfl, ?_⟩; intro w'; exact z_eql rfl rfl rfl h2
  refine pure_ (i := 13) (N := some 53) (v := gv (b1) (.bool b2)) (ms 43 14) rfl rfl (by kernel_rfl) (fun _ _ _ h => hP _ _ _ _ _ h) ?_ rfl ?_
  · cases b1
    · exact Or.inr ⟨by rfl, rfl⟩
    · refine Or.inl ⟨by rfl, ?_⟩; intro w'; exact y_move rfl rfl
  refine pure_ (i := 14) (N := some 54) (v := gv (b1 && !b2) (.pointer (some ⟨g, 0, none⟩))) (ms 43 15) rfl rfl (by kernel_rfl) (fun _ _ _ h => hP _ _ _ _ _ h) ?_ rfl ?_
  · cases b1
    · exact Or.inr ⟨by rfl, rfl⟩
    · cases b2
      · refine Or.inl ⟨by rfl, ?_⟩; intro w'; exact y_move rfl rfl
      · exact Or.inr ⟨by rfl, rfl⟩
  refine pure_ (i := 15) (N := some 55) (v := gv (b1 && !b2) (.pointer (some ⟨g, 0, none⟩))) (a' := ⟨[.pointer (some ⟨g, 0, none⟩), u1, u2, .pointer (some ⟨b, 0, none⟩), .int .i64 lt, u5, u6, u7, u8, u9, u10, u11, u12, u13, u14, u15, u16, u17, u18, u19, u20, u21, u22, u23, u24, u25, u26, u27, u28, u29, u30, u31, u32, u33, u34, u35, u36, u37, u38, u39, .pointer (some ⟨b, 21, none⟩), .int .i64 mt, .pointer (some ⟨g, 0, none⟩), .pointer (some ⟨g, 0, none⟩), .pointer (some ⟨g, 1, none⟩), .int .i64 t, .bool b1, .bool b1, gv (b1) (.pointer (some ⟨g, 0, none⟩)), gv (b1) (.pointer (some ⟨g, 0, none⟩)), gv (b1) (.pointer (some ⟨g, 2, none⟩)), gv (b1) (.int .i64 vt), gv (b1) (.bool b2), gv (b1) (.bool b2), gv (b1 && !b2) (.pointer (some ⟨g, 0, none⟩)), gv (b1 && !b2) (.pointer (some ⟨g, 0, none⟩)), u56, u57, u58, u59, u60, u61, u62, u63, u64, u65, u66, u67, u68, u69, u70, u71, u72, u73, u74, u75, u76, u77, u78, u79, u80, u81, u82, u83, u84, u85, u86, u87, u88, u89, u90, u91, u92, u93, u94, u95, u96, u97, u98, u99, u100, u101, u102, u103, u104, u105, u106, u107, u108, u109, u110, u111, u112, u113, u114].toArray, []⟩) (ms 43 16) rfl rfl (by kernel_rfl) (fun _ _ _ h => hP _ _ _ _ _ h) ?_ rfl ?_
  · cases b1
    · exact Or.inr ⟨by rfl, rfl⟩
    · cases b2
      · refine Or.inl ⟨by rfl, ?_⟩; intro w'; exact y_nil rfl rfl
      · exact Or.inr ⟨by rfl, rfl⟩
  refine pure_ (i := 16) (N := some 56) (v := gv (b1 && !b2) (.pointer (some ⟨g, 2, none⟩))) (ms 43 17) rfl rfl (by kernel_rfl) (fun _ _ _ h => hP _ _ _ _ _ h) ?_ rfl ?_
  · cases b1
    · exact Or.inr ⟨by rfl, rfl⟩
    · cases b2
      · refine Or.inl ⟨by rfl, ?_⟩; intro w'; exact y_f94_2 rfl rfl
      · exact Or.inr ⟨by rfl, rfl⟩
  refine take_ (i := 17) (N := some 57) (v := gv (b1 && !b2) (.int .i64 vt)) (ms 43 18) rfl rfl (by kernel_rfl) (fun _ _ _ h => hP _ _ _ _ _ h) ?_ hHeld rfl ?_
  · cases b1
    · exact Or.inr ⟨by rfl, rfl⟩
    · cases b2
      · refine Or.inl ⟨by rfl, ?_⟩; rintro w' ⟨q1, q2, q3, q4, q5, q6⟩; exact y_load3 rfl rfl q2
      · exact Or.inr ⟨by rfl, rfl⟩
  refine pure_ (i := 18) (N := some 58) (v := gv (b1 && !b2) (.pointer (some ⟨b, 1, none⟩))) (ms 43 19) rfl rfl (by kernel_rfl) (fun _ _ _ h => hP _ _ _ _ _ h) ?_ rfl ?_
  · cases b1
    · exact Or.inr ⟨by rfl, rfl⟩
    · cases b2
      · refine Or.inl ⟨by rfl, ?_⟩; intro w'; exact y_f70_1 rfl rfl
      · exact Or.inr ⟨by rfl, rfl⟩
  refine take_ (i := 19) (N := some 59) (v := gv (b1 && !b2) (.int .i64 fr)) (a' := ⟨[.pointer (some ⟨g, 0, none⟩), u1, u2, .pointer (some ⟨b, 0, none⟩), .int .i64 lt, u5, u6, u7, u8, u9, u10, u11, u12, u13, u14, u15, u16, u17, u18, u19, u20, u21, u22, u23, u24, u25, u26, u27, u28, u29, u30, u31, u32, u33, u34, u35, u36, u37, u38, u39, .pointer (some ⟨b, 21, none⟩), .int .i64 mt, .pointer (some ⟨g, 0, none⟩), .pointer (some ⟨g, 0, none⟩), .pointer (some ⟨g, 1, none⟩), .int .i64 t, .bool b1, .bool b1, gv (b1) (.pointer (some ⟨g, 0, none⟩)), gv (b1) (.pointer (some ⟨g, 0, none⟩)), gv (b1) (.pointer (some ⟨g, 2, none⟩)), gv (b1) (.int .i64 vt), gv (b1) (.bool b2), gv (b1) (.bool b2), gv (b1 && !b2) (.pointer (some ⟨g, 0, none⟩)), gv (b1 && !b2) (.pointer (some ⟨g, 0, none⟩)), gv (b1 && !b2) (.pointer (some ⟨g, 2, none⟩)), gv (b1 && !b2) (.int .i64 vt), gv (b1 && !b2) (.pointer (some ⟨b, 1, none⟩)), gv (b1 && !b2) (.int .i64 fr), u60, u61, u62, u63, u64, u65, u66, u67, u68, u69, u70, u71, u72, u73, u74, u75, u76, u77, u78, u79, u80, u81, u82, u83, u84, u85, u86, u87, u88, u89, u90, u91, u92, u93, u94, u95, u96, u97, u98, u99, u100, u101, u102, u103, u104, u105, u106, u107, u108, u109, u110, u111, u112, u113, u114].toArray, []⟩) (ms 43 20) rfl rfl (by kernel_rfl) (fun _ _ _ h => hP _ _ _ _ _ h) ?_ hHeld rfl ?_
  · cases b1
    · exact Or.inr ⟨by rfl, rfl⟩
    · cases b2
      · refine Or.inl ⟨by rfl, ?_⟩; rintro w' ⟨q1, q2, q3, q4, q5, q6⟩; exact y_load3 rfl rfl q4
      · exact Or.inr ⟨by rfl, rfl⟩
  refine pure_ (i := 20) (N := some 60) (v := gv (b1 && !b2) (.bool b3)) (ms 43 21) rfl rfl (by kernel_rfl) (fun _ _ _ h => hP _ _ _ _ _ h) ?_ rfl ?_
  · cases b1
    · exact Or.inr ⟨by rfl, rfl⟩
    · cases b2
      · refine Or.inl ⟨by rfl, ?_⟩; intro w'; exact z_eql rfl rfl rfl h3
      · exact Or.inr ⟨by rfl, rfl⟩
  refine pure_ (i := 21) (N := some 61) (v := gv (b1) (.bool (b2 || b3))) (ms 43 22) rfl rfl (by kernel_rfl) (fun _ _ _ h => hP _ _ _ _ _ h) ?_ rfl ?_
  · cases b1
    · exact Or.inr ⟨by rfl, rfl⟩
    · cases b2
      · refine Or.inl ⟨by rfl, ?_⟩; intro w'; exact y_pick_f rfl rfl rfl
      · refine Or.inl ⟨by rfl, ?_⟩; intro w'; exact y_pick_t rfl rfl rfl
  refine pure_ (i := 22) (N := some 62) (v := .bool c1') (ms 43 23) rfl rfl (by kernel_rfl) (fun _ _ _ h => hP _ _ _ _ _ h) ?_ rfl ?_
  · subst hc; cases b1
    · refine Or.inl ⟨by rfl, ?_⟩; intro w'; exact y_pick_f rfl rfl rfl
    · refine Or.inl ⟨by rfl, ?_⟩; intro w'; exact y_pick_t rfl rfl rfl
  refine pure_ (i := 23) (N := some 63) (v := .bool c1') (a' := ⟨[.pointer (some ⟨g, 0, none⟩), u1, u2, .pointer (some ⟨b, 0, none⟩), .int .i64 lt, u5, u6, u7, u8, u9, u10, u11, u12, u13, u14, u15, u16, u17, u18, u19, u20, u21, u22, u23, u24, u25, u26, u27, u28, u29, u30, u31, u32, u33, u34, u35, u36, u37, u38, u39, .pointer (some ⟨b, 21, none⟩), .int .i64 mt, .pointer (some ⟨g, 0, none⟩), .pointer (some ⟨g, 0, none⟩), .pointer (some ⟨g, 1, none⟩), .int .i64 t, .bool b1, .bool b1, gv (b1) (.pointer (some ⟨g, 0, none⟩)), gv (b1) (.pointer (some ⟨g, 0, none⟩)), gv (b1) (.pointer (some ⟨g, 2, none⟩)), gv (b1) (.int .i64 vt), gv (b1) (.bool b2), gv (b1) (.bool b2), gv (b1 && !b2) (.pointer (some ⟨g, 0, none⟩)), gv (b1 && !b2) (.pointer (some ⟨g, 0, none⟩)), gv (b1 && !b2) (.pointer (some ⟨g, 2, none⟩)), gv (b1 && !b2) (.int .i64 vt), gv (b1 && !b2) (.pointer (some ⟨b, 1, none⟩)), gv (b1 && !b2) (.int .i64 fr), gv (b1 && !b2) (.bool b3), gv (b1) (.bool (b2 || b3)), .bool c1', .bool c1', u64, u65, u66, u67, u68, u69, u70, u71, u72, u73, u74, u75, u76, u77, u78, u79, u80, u81, u82, u83, u84, u85, u86, u87, u88, u89, u90, u91, u92, u93, u94, u95, u96, u97, u98, u99, u100, u101, u102, u103, u104, u105, u106, u107, u108, u109, u110, u111, u112, u113, u114].toArray, []⟩) (ms 43 24) rfl rfl (by kernel_rfl) (fun _ _ _ h => hP _ _ _ _ _ h) ?_ rfl ?_
  · refine Or.inl ⟨by rfl, ?_⟩; intro w'; exact y_move rfl rfl
  refine pure_ (i := 24) (N := some 64) (v := gv (c1') (.pointer (some ⟨b, 23, none⟩))) (ms 43 25) rfl rfl (by kernel_rfl) (fun _ _ _ h => hP _ _ _ _ _ h) ?_ rfl ?_
  · cases c1'
    · exact Or.inr ⟨by rfl, rfl⟩
    · refine Or.inl ⟨by rfl, ?_⟩; intro w'; exact y_f70_8 rfl rfl
  refine take_ (i := 25) (N := some 65) (v := gv (c1') (.int .i64 ps)) (ms 43 26) rfl rfl (by kernel_rfl) (fun _ _ _ h => hP _ _ _ _ _ h) ?_ hHeld rfl ?_
  · cases c1'
    · exact Or.inr ⟨by rfl, rfl⟩
    · refine Or.inl ⟨by rfl, ?_⟩; rintro w' ⟨q1, q2, q3, q4, q5, q6⟩; exact y_load3 rfl rfl q5
  refine pure_ (i := 26) (N := some 66) (v := gv (c1') (.int .i64 lt)) (ms 43 27) rfl rfl (by kernel_rfl) (fun _ _ _ h => hP _ _ _ _ _ h) ?_ rfl ?_
  · cases c1'
    · exact Or.inr ⟨by rfl, rfl⟩
    · refine Or.inl ⟨by rfl, ?_⟩; intro w'; exact y_move rfl rfl
  refine pure_ (i := 27) (N := some 67) (v := gv (c1') (.bool b4)) (a' := ⟨[.pointer (some ⟨g, 0, none⟩), u1, u2, .pointer (some ⟨b, 0, none⟩), .int .i64 lt, u5, u6, u7, u8, u9, u10, u11, u12, u13, u14, u15, u16, u17, u18, u19, u20, u21, u22, u23, u24, u25, u26, u27, u28, u29, u30, u31, u32, u33, u34, u35, u36, u37, u38, u39, .pointer (some ⟨b, 21, none⟩), .int .i64 mt, .pointer (some ⟨g, 0, none⟩), .pointer (some ⟨g, 0, none⟩), .pointer (some ⟨g, 1, none⟩), .int .i64 t, .bool b1, .bool b1, gv (b1) (.pointer (some ⟨g, 0, none⟩)), gv (b1) (.pointer (some ⟨g, 0, none⟩)), gv (b1) (.pointer (some ⟨g, 2, none⟩)), gv (b1) (.int .i64 vt), gv (b1) (.bool b2), gv (b1) (.bool b2), gv (b1 && !b2) (.pointer (some ⟨g, 0, none⟩)), gv (b1 && !b2) (.pointer (some ⟨g, 0, none⟩)), gv (b1 && !b2) (.pointer (some ⟨g, 2, none⟩)), gv (b1 && !b2) (.int .i64 vt), gv (b1 && !b2) (.pointer (some ⟨b, 1, none⟩)), gv (b1 && !b2) (.int .i64 fr), gv (b1 && !b2) (.bool b3), gv (b1) (.bool (b2 || b3)), .bool c1', .bool c1', gv (c1') (.pointer (some ⟨b, 23, none⟩)), gv (c1') (.int .i64 ps), gv (c1') (.int .i64 lt), gv (c1') (.bool b4), u68, u69, u70, u71, u72, u73, u74, u75, u76, u77, u78, u79, u80, u81, u82, u83, u84, u85, u86, u87, u88, u89, u90, u91, u92, u93, u94, u95, u96, u97, u98, u99, u100, u101, u102, u103, u104, u105, u106, u107, u108, u109, u110, u111, u112, u113, u114].toArray, []⟩) (ms 43 28) rfl rfl (by kernel_rfl) (fun _ _ _ h => hP _ _ _ _ _ h) ?_ rfl ?_
  · cases c1'
    · exact Or.inr ⟨by rfl, rfl⟩
    · refine Or.inl ⟨by rfl, ?_⟩; intro w'; exact z_gtr rfl rfl rfl h4
  refine pure_ (i := 28) (N := some 68) (v := gv (c1') (.bool b4)) (ms 43 29) rfl rfl (by kernel_rfl) (fun _ _ _ h => hP _ _ _ _ _ h) ?_ rfl ?_
  · cases c1'
    · exact Or.inr ⟨by rfl, rfl⟩
    · refine Or.inl ⟨by rfl, ?_⟩; intro w'; exact y_move rfl rfl
  refine pure_ (i := 29) (N := some 69) (v := gv (c1' && !b4) (.pointer (some ⟨b, 23, none⟩))) (ms 43 30) rfl rfl (by kernel_rfl) (fun _ _ _ h => hP _ _ _ _ _ h) ?_ rfl ?_
  · cases c1'
    · exact Or.inr ⟨by rfl, rfl⟩
    · cases b4
      · refine Or.inl ⟨by rfl, ?_⟩; intro w'; exact y_f70_8 rfl rfl
      · exact Or.inr ⟨by rfl, rfl⟩
  refine take_ (i := 30) (N := some 70) (v := gv (c1' && !b4) (.int .i64 ps)) (ms 43 31) rfl rfl (by kernel_rfl) (fun _ _ _ h => hP _ _ _ _ _ h) ?_ hHeld rfl ?_
  · cases c1'
    · exact Or.inr ⟨by rfl, rfl⟩
    · cases b4
      · refine Or.inl ⟨by rfl, ?_⟩; rintro w' ⟨q1, q2, q3, q4, q5, q6⟩; exact y_load3 rfl rfl q5
      · exact Or.inr ⟨by rfl, rfl⟩
  refine pure_ (i := 31) (N := some 71) (v := gv (c1' && !b4) (.int .i64 lt)) (a' := ⟨[.pointer (some ⟨g, 0, none⟩), u1, u2, .pointer (some ⟨b, 0, none⟩), .int .i64 lt, u5, u6, u7, u8, u9, u10, u11, u12, u13, u14, u15, u16, u17, u18, u19, u20, u21, u22, u23, u24, u25, u26, u27, u28, u29, u30, u31, u32, u33, u34, u35, u36, u37, u38, u39, .pointer (some ⟨b, 21, none⟩), .int .i64 mt, .pointer (some ⟨g, 0, none⟩), .pointer (some ⟨g, 0, none⟩), .pointer (some ⟨g, 1, none⟩), .int .i64 t, .bool b1, .bool b1, gv (b1) (.pointer (some ⟨g, 0, none⟩)), gv (b1) (.pointer (some ⟨g, 0, none⟩)), gv (b1) (.pointer (some ⟨g, 2, none⟩)), gv (b1) (.int .i64 vt), gv (b1) (.bool b2), gv (b1) (.bool b2), gv (b1 && !b2) (.pointer (some ⟨g, 0, none⟩)), gv (b1 && !b2) (.pointer (some ⟨g, 0, none⟩)), gv (b1 && !b2) (.pointer (some ⟨g, 2, none⟩)), gv (b1 && !b2) (.int .i64 vt), gv (b1 && !b2) (.pointer (some ⟨b, 1, none⟩)), gv (b1 && !b2) (.int .i64 fr), gv (b1 && !b2) (.bool b3), gv (b1) (.bool (b2 || b3)), .bool c1', .bool c1', gv (c1') (.pointer (some ⟨b, 23, none⟩)), gv (c1') (.int .i64 ps), gv (c1') (.int .i64 lt), gv (c1') (.bool b4), gv (c1') (.bool b4), gv (c1' && !b4) (.pointer (some ⟨b, 23, none⟩)), gv (c1' && !b4) (.int .i64 ps), gv (c1' && !b4) (.int .i64 lt), u72, u73, u74, u75, u76, u77, u78, u79, u80, u81, u82, u83, u84, u85, u86, u87, u88, u89, u90, u91, u92, u93, u94, u95, u96, u97, u98, u99, u100, u101, u102, u103, u104, u105, u106, u107, u108, u109, u110, u111, u112, u113, u114].toArray, []⟩) (ms 43 32) rfl rfl (by kernel_rfl) (fun _ _ _ h => hP _ _ _ _ _ h) ?_ rfl ?_
  · cases c1'
    · exact Or.inr ⟨by rfl, rfl⟩
    · cases b4
      · refine Or.inl ⟨by rfl, ?_⟩; intro w'; exact y_move rfl rfl
      · exact Or.inr ⟨by rfl, rfl⟩
  refine pure_ (i := 32) (N := some 72) (v := gv (c1' && !b4) (.bool b5)) (ms 43 33) rfl rfl (by kernel_rfl) (fun _ _ _ h => hP _ _ _ _ _ h) ?_ rfl ?_
  · cases c1'
    · exact Or.inr ⟨by rfl, rfl⟩
    · cases b4
      · refine Or.inl ⟨by rfl, ?_⟩; intro w'; exact z_eql rfl rfl rfl h5
      · exact Or.inr ⟨by rfl, rfl⟩
  refine pure_ (i := 33) (N := some 73) (v := gv (c1' && !b4) (.bool b5)) (ms 43 34) rfl rfl (by kernel_rfl) (fun _ _ _ h => hP _ _ _ _ _ h) ?_ rfl ?_
  · cases c1'
    · exact Or.inr ⟨by rfl, rfl⟩
    · cases b4
      · refine Or.inl ⟨by rfl, ?_⟩; intro w'; exact y_move rfl rfl
      · exact Or.inr ⟨by rfl, rfl⟩
  refine pure_ (i := 34) (N := some 74) (v := gv (c1' && !b4 && b5) (.pointer (some ⟨b, 22, none⟩))) (ms 43 35) rfl rfl (by kernel_rfl) (fun _ _ _ h => hP _ _ _ _ _ h) ?_ rfl ?_
  · cases c1'
    · exact Or.inr ⟨by rfl, rfl⟩
    · cases b4
      · cases b5
        · exact Or.inr ⟨by rfl, rfl⟩
        · refine Or.inl ⟨by rfl, ?_⟩; intro w'; exact y_f70_7 rfl rfl
      · exact Or.inr ⟨by rfl, rfl⟩
  refine take_ (i := 35) (N := some 75) (v := gv (c1' && !b4 && b5) (.int .i64 ix)) (a' := ⟨[.pointer (some ⟨g, 0, none⟩), u1, u2, .pointer (some ⟨b, 0, none⟩), .int .i64 lt, u5, u6, u7, u8, u9, u10, u11, u12, u13, u14, u15, u16, u17, u18, u19, u20, u21, u22, u23, u24, u25, u26, u27, u28, u29, u30, u31, u32, u33, u34, u35, u36, u37, u38, u39, .pointer (some ⟨b, 21, none⟩), .int .i64 mt, .pointer (some ⟨g, 0, none⟩), .pointer (some ⟨g, 0, none⟩), .pointer (some ⟨g, 1, none⟩), .int .i64 t, .bool b1, .bool b1, gv (b1) (.pointer (some ⟨g, 0, none⟩)), gv (b1) (.pointer (some ⟨g, 0, none⟩)), gv (b1) (.pointer (some ⟨g, 2, none⟩)), gv (b1) (.int .i64 vt), gv (b1) (.bool b2), gv (b1) (.bool b2), gv (b1 && !b2) (.pointer (some ⟨g, 0, none⟩)), gv (b1 && !b2) (.pointer (some ⟨g, 0, none⟩)), gv (b1 && !b2) (.pointer (some ⟨g, 2, none⟩)), gv (b1 && !b2) (.int .i64 vt), gv (b1 && !b2) (.pointer (some ⟨b, 1, none⟩)), gv (b1 && !b2) (.int .i64 fr), gv (b1 && !b2) (.bool b3), gv (b1) (.bool (b2 || b3)), .bool c1', .bool c1', gv (c1') (.pointer (some ⟨b, 23, none⟩)), gv (c1') (.int .i64 ps), gv (c1') (.int .i64 lt), gv (c1') (.bool b4), gv (c1') (.bool b4), gv (c1' && !b4) (.pointer (some ⟨b, 23, none⟩)), gv (c1' && !b4) (.int .i64 ps), gv (c1' && !b4) (.int .i64 lt), gv (c1' && !b4) (.bool b5), gv (c1' && !b4) (.bool b5), gv (c1' && !b4 && b5) (.pointer (some ⟨b, 22, none⟩)), gv (c1' && !b4 && b5) (.int .i64 ix), u76, u77, u78, u79, u80, u81, u82, u83, u84, u85, u86, u87, u88, u89, u90, u91, u92, u93, u94, u95, u96, u97, u98, u99, u100, u101, u102, u103, u104, u105, u106, u107, u108, u109, u110, u111, u112, u113, u114].toArray, []⟩) (ms 43 36) rfl rfl (by kernel_rfl) (fun _ _ _ h => hP _ _ _ _ _ h) ?_ hHeld rfl ?_
  · cases c1'
    · exact Or.inr ⟨by rfl, rfl⟩
    · cases b4
      · cases b5
        · exact Or.inr ⟨by rfl, rfl⟩
        · refine Or.inl ⟨by rfl, ?_⟩; rintro w' ⟨q1, q2, q3, q4, q5, q6⟩; exact y_load3 rfl rfl q6
      · exact Or.inr ⟨by rfl, rfl⟩
  refine pure_ (i := 36) (N := some 76) (v := gv (c1' && !b4 && b5) (.pointer (some ⟨g, 0, none⟩))) (a' := ⟨[.pointer (some ⟨g, 0, none⟩), u1, u2, .pointer (some ⟨b, 0, none⟩), .int .i64 lt, u5, u6, u7, u8, u9, u10, u11, u12, u13, u14, u15, u16, u17, u18, u19, u20, u21, u22, u23, u24, u25, u26, u27, u28, u29, u30, u31, u32, u33, u34, u35, u36, u37, u38, u39, .pointer (some ⟨b, 21, none⟩), .int .i64 mt, .pointer (some ⟨g, 0, none⟩), .pointer (some ⟨g, 0, none⟩), .pointer (some ⟨g, 1, none⟩), .int .i64 t, .bool b1, .bool b1, gv (b1) (.pointer (some ⟨g, 0, none⟩)), gv (b1) (.pointer (some ⟨g, 0, none⟩)), gv (b1) (.pointer (some ⟨g, 2, none⟩)), gv (b1) (.int .i64 vt), gv (b1) (.bool b2), gv (b1) (.bool b2), gv (b1 && !b2) (.pointer (some ⟨g, 0, none⟩)), gv (b1 && !b2) (.pointer (some ⟨g, 0, none⟩)), gv (b1 && !b2) (.pointer (some ⟨g, 2, none⟩)), gv (b1 && !b2) (.int .i64 vt), gv (b1 && !b2) (.pointer (some ⟨b, 1, none⟩)), gv (b1 && !b2) (.int .i64 fr), gv (b1 && !b2) (.bool b3), gv (b1) (.bool (b2 || b3)), .bool c1', .bool c1', gv (c1') (.pointer (some ⟨b, 23, none⟩)), gv (c1') (.int .i64 ps), gv (c1') (.int .i64 lt), gv (c1') (.bool b4), gv (c1') (.bool b4), gv (c1' && !b4) (.pointer (some ⟨b, 23, none⟩)), gv (c1' && !b4) (.int .i64 ps), gv (c1' && !b4) (.int .i64 lt), gv (c1' && !b4) (.bool b5), gv (c1' && !b4) (.bool b5), gv (c1' && !b4 && b5) (.pointer (some ⟨b, 22, none⟩)), gv (c1' && !b4 && b5) (.int .i64 ix), gv (c1' && !b4 && b5) (.pointer (some ⟨g, 0, none⟩)), u77, u78, u79, u80, u81, u82, u83, u84, u85, u86, u87, u88, u89, u90, u91, u92, u93, u94, u95, u96, u97, u98, u99, u100, u101, u102, u103, u104, u105, u106, u107, u108, u109, u110, u111, u112, u113, u114].toArray, []⟩) (ms 43 37) rfl rfl (by kernel_rfl) (fun _ _ _ h => hP _ _ _ _ _ h) ?_ rfl ?_
  · cases c1'
    · exact Or.inr ⟨by rfl, rfl⟩
    · cases b4
      · cases b5
        · exact Or.inr ⟨by rfl, rfl⟩
        · refine Or.inl ⟨by rfl, ?_⟩; intro w'; exact y_move rfl rfl
      · exact Or.inr ⟨by rfl, rfl⟩
  refine one_ (i := 37) (N := some 77) (ms 43 38) rfl rfl (by kernel_rfl) (by decide) (fun K hK => ?_)
  suffices hk : ∀ w1, Below w.drew.heap.size w.drew w1 → K ⟨[.pointer (some ⟨g, 0, none⟩), u1, u2, .pointer (some ⟨b, 0, none⟩), .int .i64 lt, u5, u6, u7, u8, u9, u10, u11, u12, u13, u14, u15, u16, u17, u18, u19, u20, u21, u22, u23, u24, u25, u26, u27, u28, u29, u30, u31, u32, u33, u34, u35, u36, u37, u38, u39, .pointer (some ⟨b, 21, none⟩), .int .i64 mt, .pointer (some ⟨g, 0, none⟩), .pointer (some ⟨g, 0, none⟩), .pointer (some ⟨g, 1, none⟩), .int .i64 t, .bool b1, .bool b1, gv (b1) (.pointer (some ⟨g, 0, none⟩)), gv (b1) (.pointer (some ⟨g, 0, none⟩)), gv (b1) (.pointer (some ⟨g, 2, none⟩)), gv (b1) (.int .i64 vt), gv (b1) (.bool b2), gv (b1) (.bool b2), gv (b1 && !b2) (.pointer (some ⟨g, 0, none⟩)), gv (b1 && !b2) (.pointer (some ⟨g, 0, none⟩)), gv (b1 && !b2) (.pointer (some ⟨g, 2, none⟩)), gv (b1 && !b2) (.int .i64 vt), gv (b1 && !b2) (.pointer (some ⟨b, 1, none⟩)), gv (b1 && !b2) (.int .i64 fr), gv (b1 && !b2) (.bool b3), gv (b1) (.bool (b2 || b3)), .bool c1', .bool c1', gv (c1') (.pointer (some ⟨b, 23, none⟩)), gv (c1') (.int .i64 ps), gv (c1') (.int .i64 lt), gv (c1') (.bool b4), gv (c1') (.bool b4), gv (c1' && !b4) (.pointer (some ⟨b, 23, none⟩)), gv (c1' && !b4) (.int .i64 ps), gv (c1' && !b4) (.int .i64 lt), gv (c1' && !b4) (.bool b5), gv (c1' && !b4) (.bool b5), gv (c1' && !b4 && b5) (.pointer (some ⟨b, 22, none⟩)), gv (c1' && !b4 && b5) (.int .i64 ix), gv (c1' && !b4 && b5) (.pointer (some ⟨g, 0, none⟩)), gv (c1' && !b4 && b5) (.int .i64 li), u78, u79, u80, u81, u82, u83, u84, u85, u86, u87, u88, u89, u90, u91, u92, u93, u94, u95, u96, u97, u98, u99, u100, u101, u102, u103, u104, u105, u106, u107, u108, u109, u110, u111, u112, u113, u114].toArray, []⟩ w1 by
    cases c1'
    · exact unw_ (by rfl) (hk _ (Below.refl _ _))
    · cases b4
      · cases b5
        · exact unw_ (by rfl) (hk _ (Below.refl _ _))
        · refine goes_ Try.func17 (by kernel_rfl) rfl #[.pointer (some ⟨g, 0, none⟩)] (by rfl) rfl rfl (by (try simp only [List.map_toArray, List.map_cons, List.map_nil]); first | done | rfl) ?_; refine (hcall w.drew (Below.refl _ _)).mono ?_; rintro e wq ⟨rfl, hb⟩; exact ⟨_, rfl, hk _ hb⟩
      · exact unw_ (by rfl) (hk _ (Below.refl _ _))
  intro w1 hB1
  refine hK.out _ _ (HS1 _ hB1) ?_
  intro hHeld1
  replace hHeld := hHeld1
  refine pure_ (i := 38) (N := some 78) (v := gv (c1' && !b4 && b5) (.bool b6)) (ms 43 39) rfl rfl (by kernel_rfl) (fun _ _ _ h => hP _ _ _ _ _ h) ?_ rfl ?_
  · cases c1'
    · exact Or.inr ⟨by rfl, rfl⟩
    · cases b4
      · cases b5
        · exact Or.inr ⟨by rfl, rfl⟩
        · refine Or.inl ⟨by rfl, ?_⟩; intro w'; exact z_geq rfl rfl rfl h6
      · exact Or.inr ⟨by rfl, rfl⟩
  refine pure_ (i := 39) (N := some 79) (v := gv (c1' && !b4) (.bool (b5 && b6))) (ms 43 40) rfl rfl (by kernel_rfl) (fun _ _ _ h => hP _ _ _ _ _ h) ?_ rfl ?_
  · cases c1'
    · exact Or.inr ⟨by rfl, rfl⟩
    · cases b4
      · cases b5
        · refine Or.inl ⟨by rfl, ?_⟩; intro w'; exact y_pick_f rfl rfl rfl
        · refine Or.inl ⟨by rfl, ?_⟩; intro w'; exact y_pick_t rfl rfl rfl
      · exact Or.inr ⟨by rfl, rfl⟩
  refine pure_ (i := 40) (N := some 80) (v := gv (c1') (.bool (b4 || ((b5 && b6))))) (ms 43 41) rfl rfl (by kernel_rfl) (fun _ _ _ h => hP _ _ _ _ _ h) ?_ rfl ?_
  · cases c1'
    · exact Or.inr ⟨by rfl, rfl⟩
    · cases b4
      · refine Or.inl ⟨by rfl, ?_⟩; intro w'; exact y_pick_f rfl rfl rfl
      · refine Or.inl ⟨by rfl, ?_⟩; intro w'; exact y_pick_t rfl rfl rfl
  refine pure_ (i := 41) (N := some 81) (v := .bool ((c1') && ((b4 || ((b5 && b6)))))) (a' := ⟨[.pointer (some ⟨g, 0, none⟩), u1, u2, .pointer (some ⟨b, 0, none⟩), .int .i64 lt, u5, u6, u7, u8, u9, u10, u11, u12, u13, u14, u15, u16, u17, u18, u19, u20, u21, u22, u23, u24, u25, u26, u27, u28, u29, u30, u31, u32, u33, u34, u35, u36, u37, u38, u39, .pointer (some ⟨b, 21, none⟩), .int .i64 mt, .pointer (some ⟨g, 0, none⟩), .pointer (some ⟨g, 0, none⟩), .pointer (some ⟨g, 1, none⟩), .int .i64 t, .bool b1, .bool b1, gv (b1) (.pointer (some ⟨g, 0, none⟩)), gv (b1) (.pointer (some ⟨g, 0, none⟩)), gv (b1) (.pointer (some ⟨g, 2, none⟩)), gv (b1) (.int .i64 vt), gv (b1) (.bool b2), gv (b1) (.bool b2), gv (b1 && !b2) (.pointer (some ⟨g, 0, none⟩)), gv (b1 && !b2) (.pointer (some ⟨g, 0, none⟩)), gv (b1 && !b2) (.pointer (some ⟨g, 2, none⟩)), gv (b1 && !b2) (.int .i64 vt), gv (b1 && !b2) (.pointer (some ⟨b, 1, none⟩)), gv (b1 && !b2) (.int .i64 fr), gv (b1 && !b2) (.bool b3), gv (b1) (.bool (b2 || b3)), .bool c1', .bool c1', gv (c1') (.pointer (some ⟨b, 23, none⟩)), gv (c1') (.int .i64 ps), gv (c1') (.int .i64 lt), gv (c1') (.bool b4), gv (c1') (.bool b4), gv (c1' && !b4) (.pointer (some ⟨b, 23, none⟩)), gv (c1' && !b4) (.int .i64 ps), gv (c1' && !b4) (.int .i64 lt), gv (c1' && !b4) (.bool b5), gv (c1' && !b4) (.bool b5), gv (c1' && !b4 && b5) (.pointer (some ⟨b, 22, none⟩)), gv (c1' && !b4 && b5) (.int .i64 ix), gv (c1' && !b4 && b5) (.pointer (some ⟨g, 0, none⟩)), gv (c1' && !b4 && b5) (.int .i64 li), gv (c1' && !b4 && b5) (.bool b6), gv (c1' && !b4) (.bool (b5 && b6)), gv (c1') (.bool (b4 || ((b5 && b6)))), .bool ((c1') && ((b4 || ((b5 && b6))))), u82, u83, u84, u85, u86, u87, u88, u89, u90, u91, u92, u93, u94, u95, u96, u97, u98, u99, u100, u101, u102, u103, u104, u105, u106, u107, u108, u109, u110, u111, u112, u113, u114].toArray, []⟩) (ms 43 42) rfl rfl (by kernel_rfl) (fun _ _ _ h => hP _ _ _ _ _ h) ?_ rfl ?_
  · cases c1'
    · refine Or.inl ⟨by rfl, ?_⟩; intro w'; exact y_pick_f rfl rfl rfl
    · refine Or.inl ⟨by rfl, ?_⟩; intro w'; exact y_pick_t rfl rfl rfl
  refine pure_ (i := 42) (N := some 5) (v := .bool ((c1') && ((b4 || ((b5 && b6)))))) (a' := ⟨[.pointer (some ⟨g, 0, none⟩), u1, u2, .pointer (some ⟨b, 0, none⟩), .int .i64 lt, .bool ((c1') && ((b4 || ((b5 && b6))))), u6, u7, u8, u9, u10, u11, u12, u13, u14, u15, u16, u17, u18, u19, u20, u21, u22, u23, u24, u25, u26, u27, u28, u29, u30, u31, u32, u33, u34, u35, u36, u37, u38, u39, .pointer (some ⟨b, 21, none⟩), .int .i64 mt, .pointer (some ⟨g, 0, none⟩), .pointer (some ⟨g, 0, none⟩), .pointer (some ⟨g, 1, none⟩), .int .i64 t, .bool b1, .bool b1, gv (b1) (.pointer (some ⟨g, 0, none⟩)), gv (b1) (.pointer (some ⟨g, 0, none⟩)), gv (b1) (.pointer (some ⟨g, 2, none⟩)), gv (b1) (.int .i64 vt), gv (b1) (.bool b2), gv (b1) (.bool b2), gv (b1 && !b2) (.pointer (some ⟨g, 0, none⟩)), gv (b1 && !b2) (.pointer (some ⟨g, 0, none⟩)), gv (b1 && !b2) (.pointer (some ⟨g, 2, none⟩)), gv (b1 && !b2) (.int .i64 vt), gv (b1 && !b2) (.pointer (some ⟨b, 1, none⟩)), gv (b1 && !b2) (.int .i64 fr), gv (b1 && !b2) (.bool b3), gv (b1) (.bool (b2 || b3)), .bool c1', .bool c1', gv (c1') (.pointer (some ⟨b, 23, none⟩)), gv (c1') (.int .i64 ps), gv (c1') (.int .i64 lt), gv (c1') (.bool b4), gv (c1') (.bool b4), gv (c1' && !b4) (.pointer (some ⟨b, 23, none⟩)), gv (c1' && !b4) (.int .i64 ps), gv (c1' && !b4) (.int .i64 lt), gv (c1' && !b4) (.bool b5), gv (c1' && !b4) (.bool b5), gv (c1' && !b4 && b5) (.pointer (some ⟨b, 22, none⟩)), gv (c1' && !b4 && b5) (.int .i64 ix), gv (c1' && !b4 && b5) (.pointer (some ⟨g, 0, none⟩)), gv (c1' && !b4 && b5) (.int .i64 li), gv (c1' && !b4 && b5) (.bool b6), gv (c1' && !b4) (.bool (b5 && b6)), gv (c1') (.bool (b4 || ((b5 && b6)))), .bool ((c1') && ((b4 || ((b5 && b6))))), u82, u83, u84, u85, u86, u87, u88, u89, u90, u91, u92, u93, u94, u95, u96, u97, u98, u99, u100, u101, u102, u103, u104, u105, u106, u107, u108, u109, u110, u111, u112, u113, u114].toArray, []⟩) (ms 43 43) rfl rfl (by kernel_rfl) (fun _ _ _ h => hP _ _ _ _ _ h) ?_ rfl ?_
  · refine Or.inl ⟨by rfl, ?_⟩; intro w'; exact y_assign rfl rfl
  refine done_ (by kernel_rfl) ?_
  exact h w1 hB1

end Go.Proofs.Ytfanbhbpmhojaaa

namespace Go.Proofs.Ytfanbhbpmhojaaa
open Go.RowKit Go.Proofs.YtfanbhbpmhojaaaW.PrintWords Go.Proofs.YtfanbhbpmhojaaaW.PrintLast Go.Proofs.YtfanbhbpmhojaaaW.PrintMore PRef
set_option linter.unusedVariables false
set_option linter.unusedSimpArgs false

theorem info70 : (Try.prog.info? 70).map (fun i => (i.zero, i.size, i.bytes)) = some (some (.agg #[.int .i64 0, .int .i64 0, .int .i64 0, .int .i64 0, .int .i64 0, .int .i64 0, .int .i64 0, .int .i64 0, .int .i64 0, .int .i64 0, .int .i64 0, .bool false, .int .i64 0, .int .i64 0, .int .i64 0, .int .i64 0, .int .i64 0, .slice none 0 0, .int .i64 0, .slice none 0 0, .bool false, .int .i64 0, .int .i64 0, .int .i64 0, .int .i64 0, .int .i64 0, .slice none 0 0, .string ⟨#[]⟩]), 28, 280) := by kernel_rfl
theorem inf70 : (Try.prog.info? 70).map (·.size) = some 28 := by kernel_rfl
theorem fold_zip : ∀ (l pre rest : List Value), rest.length = l.length → (l.zipIdx pre.length).foldl (fun (cs : Array Value) x => cs.setIfInBounds x.2 x.1) (pre ++ rest).toArray = (pre ++ l).toArray
  | [], pre, rest, h => by
    obtain rfl := List.eq_nil_of_length_eq_zero h
    rfl
  | x :: l, pre, [], h => by simp at h
  | x :: l, pre, r :: rest, h => by
    have ih := fold_zip l (pre ++ [x]) rest (by simpa using h)
    have e : ((pre ++ r :: rest).toArray.setIfInBounds pre.length x) = ((pre ++ [x]) ++ rest).toArray := by simp
    rw [List.zipIdx_cons, List.foldl_cons]
    dsimp only
    rw [e]
    rw [show (pre ++ [x]).length = pre.length + 1 from by simp] at ih
    rw [ih]
    simp
theorem fold_set (ds zs : Array Value) (n : Nat) (h : ds.size = n) (hz : zs.size = n) : Array.foldl (fun cs x => cs.setIfInBounds x.2 x.1) zs ds.zipIdx 0 n = ds := by
  subst h
  have h1 := fold_zip ds.toList [] zs.toList (by simpa using hz)
  have h2 : ds.zipIdx.size = ds.size := by simp
  have h3 : Array.foldl (fun (cs : Array Value) x => cs.setIfInBounds x.2 x.1) zs ds.zipIdx = List.foldl (fun (cs : Array Value) x => cs.setIfInBounds x.2 x.1) zs ds.zipIdx.toList := (Array.foldl_toList _).symm
  rw [h2] at h3
  rw [h3, Array.toList_zipIdx]
  simpa using h1
section
variable {a : Act} {o1 : Oper} {w : World}
theorem y_bs70 {s : Tmp} {ds : Array Value} (hs : ds.size = 28) (ho : o1.op = .buildSlice 29 1 #[(0, .tmp s)]) (hx : a.eval (.tmp s) = .agg ds) : (execOp a.eval o1).run Try.prog w = .ok (.value (.slice (some ⟨w.heap.size, 0, none⟩) 1 1)) (w.alloc (.cells ds.toList.toArray 70)) := by
  have hu := Try.underlying29
  have hx' : a.tmps[s]?.getD undef = .agg ds := by unfold Act.eval at hx; simpa using hx
  unfold execOp
  simp only [ho]
  go_simp
  rw [fold_set ds _ 28 hs rfl]
theorem y_load70 {x : Operand} {b : Nat} {cs : Array Value} (ho : o1.op = .load 70 x) (hx : a.eval x = .pointer (some ⟨b, 0, none⟩)) (h : w.heap[b]? = some (.cells cs 70 (0, 0))) (hs : cs.size = 28) : (execOp a.eval o1).run Try.prog w = .ok (.value (.agg cs)) w := by
  unfold execOp
  simp only [ho, hx, Instr.loadAt, Instr.sureAddr, Sem.run_bind, Sem.run_pure, Result.andThen_ok, run_loadVar_row w b 70 70 cs (0, 0) _ h Try.underlying70 rfl (by rw [inf70, hs])]
theorem y_load29 {x : Operand} {b i : Nat} {A : Option Addr} {n c : Nat} (ho : o1.op = .load 29 x) (hx : a.eval x = .pointer (some ⟨b, i, none⟩)) (hc : w.cell? ⟨b, i, none⟩ = some (.slice A n c)) : (execOp a.eval o1).run Try.prog w = .ok (.value (.slice A n c)) w := by
  have hu := Try.underlying29
  unfold execOp
  simp only [ho, hx]
  go_simp
theorem y_f32_1 {x : Operand} {b o : Nat} (ho : o1.op = .fieldAddr 32 x 1) (hx : a.eval x = .pointer (some ⟨b, o, none⟩)) : (execOp a.eval o1).run Try.prog w = .ok (.value (.pointer (some ⟨b, o + 1, none⟩))) w := by
  have hu := Try.underlying32
  unfold execOp
  simp only [ho, hx]
  go_simp
theorem y_store29 {x y : Operand} {b i n c : Nat} {A : Option Addr} {u : Value} (ho : o1.op = .store 29 x y) (hx : a.eval x = .pointer (some ⟨b, i, none⟩)) (hy : a.eval y = .slice A n c) (hc : w.cell? ⟨b, i, none⟩ = some u) (hf : w.frozen? ⟨b, i, none⟩ = false) : (execOp a.eval o1).run Try.prog w = .ok .skip (w.setCell ⟨b, i, none⟩ (.slice A n c)) := by
  have hu := Try.underlying29
  unfold execOp
  simp only [ho, hx, hy]
  go_simp
end

noncomputable def mail_last_reg : Code := (Try.f82.body.bind (regionOf 2)).getD .skip
set_option maxRecDepth 1000000 in
set_option maxHeartbeats 4000000 in
/-- mail's append. -/
theorem mail_last (u1 u2 u4 u5 u6 u7 u8 u9 u10 u11 u12 u13 u14 u15 u16 u17 u18 u19 u20 u21 u22 u23 u24 u25 : Value) (g b : Nat) (w : World) (Q : Exit → Act → World → Prop) (ds : Array Value) (hP : ∀ x a d v w, Q (.panic x) (a.put (some d) v) w → Q (.panic x) a w) (c35 : w.cell? ⟨g, 35, none⟩ = some (.slice none 0 0)) (hb70 : w.heap[b]? = some (.cells ds 70 (0, 0))) (hs : ds.size = 28) (ho1 : ∀ x ∈ ds.toList, x.oneCell' = true) (HF : ∀ w', Below w.drew.heap.size w.drew w' → w'.frozen? ⟨g, 35, none⟩ = false)
    (h : ∀ A1 c1 w3, w3.ownsRow w.drew.heap.size 70 28 (.slice A1 1 c1) 1 ds.toList → Below w.drew.heap.size w.drew w3 → Q .normal ⟨[.pointer (some ⟨g, 0, none⟩), u1, u2, .pointer (some ⟨b, 0, none⟩), u4, u5, u6, u7, u8, u9, u10, u11, u12, u13, .pointer (some ⟨g, 0, none⟩), .pointer (some ⟨g, 0, none⟩), .pointer (some ⟨g, 0, none⟩), .pointer (some ⟨g, 34, none⟩), .pointer (some ⟨g, 35, none⟩), .slice none 0 0, .agg ds, .slice (some ⟨w.drew.heap.size, 0, none⟩) 1 1, .slice A1 1 c1, .pointer (some ⟨g, 0, none⟩), .pointer (some ⟨g, 34, none⟩), .pointer (some ⟨g, 35, none⟩)].toArray, []⟩ (w3.setCell ⟨g, 35, none⟩ (.slice A1 1 c1))) :
    Code.wp Try.prog mail_last_reg Q ⟨[.pointer (some ⟨g, 0, none⟩), u1, u2, .pointer (some ⟨b, 0, none⟩), u4, u5, u6, u7, u8, u9, u10, u11, u12, u13, u14, u15, u16, u17, u18, u19, u20, u21, u22, u23, u24, u25].toArray, []⟩ w := by
  conv => arg 2; whnf
  have HS1 : ∀ w', Below w.drew.heap.size w.drew w' → w'.cell? ⟨g, 35, none⟩ = some (.slice none 0 0) ∧ w'.heap[b]? = some (.cells ds 70 (0, 0)) := fun w' hb => ⟨pw_cell_below hb c35, blk_below (blk_drew hb70) hb⟩
  refine start_ (n := 13) (S := fun w' => w'.cell? ⟨g, 35, none⟩ = some (.slice none 0 0) ∧ w'.heap[b]? = some (.cells ds 70 (0, 0))) (ds := [12]) (ms 13 0) (by kernel_rfl) rfl rfl ⟨c35, hb70⟩ (fun hHeld => ?_)
  refine pure_ (i := 0) (N := some 14) (v := .pointer (some ⟨g, 0, none⟩)) (ms 13 1) rfl rfl (by kernel_rfl) (fun _ _ _ h => hP _ _ _ _ _ h) ?_ rfl ?_
  · refine Or.inl ⟨by rfl, ?_⟩; intro w'; exact y_move rfl rfl
  refine pure_ (i := 1) (N := some 15) (v := .pointer (some ⟨g, 0, none⟩)) (ms 13 2) rfl rfl (by kernel_rfl) (fun _ _ _ h => hP _ _ _ _ _ h) ?_ rfl ?_
  · refine Or.inl ⟨by rfl, ?_⟩; intro w'; exact y_move rfl rfl
  refine pure_ (i := 2) (N := some 16) (v := .pointer (some ⟨g, 0, none⟩)) (ms 13 3) rfl rfl (by kernel_rfl) (fun _ _ _ h => hP _ _ _ _ _ h) ?_ rfl ?_
  · refine Or.inl ⟨by rfl, ?_⟩; intro w'; exact y_nil rfl rfl
  refine pure_ (i := 3) (N := some 17) (v := .pointer (some ⟨g, 34, none⟩)) (a' := ⟨[.pointer (some ⟨g, 0, none⟩), u1, u2, .pointer (some ⟨b, 0, none⟩), u4, u5, u6, u7, u8, u9, u10, u11, u12, u13, .pointer (some ⟨g, 0, none⟩), .pointer (some ⟨g, 0, none⟩), .pointer (some ⟨g, 0, none⟩), .pointer (some ⟨g, 34, none⟩), u18, u19, u20, u21, u22, u23, u24, u25].toArray, []⟩) (ms 13 4) rfl rfl (by kernel_rfl) (fun _ _ _ h => hP _ _ _ _ _ h) ?_ rfl ?_
  · refine Or.inl ⟨by rfl, ?_⟩; intro w'; exact y_f94_13 rfl rfl
  refine pure_ (i := 4) (N := some 18) (v := .pointer (some ⟨g, 35, none⟩)) (ms 13 5) rfl rfl (by kernel_rfl) (fun _ _ _ h => hP _ _ _ _ _ h) ?_ rfl ?_
  · refine Or.inl ⟨by rfl, ?_⟩; intro w'; exact y_f32_1 rfl rfl
  refine take_ (i := 5) (N := some 19) (v := .slice none 0 0) (ms 13 6) rfl rfl (by kernel_rfl) (fun _ _ _ h => hP _ _ _ _ _ h) ?_ hHeld rfl ?_
  · refine Or.inl ⟨by rfl, ?_⟩; rintro w' ⟨q1, q2⟩; exact y_load29 rfl rfl q1
  refine take_ (i := 6) (N := some 20) (v := .agg ds) (a' := ⟨[.pointer (some ⟨g, 0, none⟩), u1, u2, .pointer (some ⟨b, 0, none⟩), u4, u5, u6, u7, u8, u9, u10, u11, u12, u13, .pointer (some ⟨g, 0, none⟩), .pointer (some ⟨g, 0, none⟩), .pointer (some ⟨g, 0, none⟩), .pointer (some ⟨g, 34, none⟩), .pointer (some ⟨g, 35, none⟩), .slice none 0 0, .agg ds, u21, u22, u23, u24, u25].toArray, []⟩) (ms 13 7) rfl rfl (by kernel_rfl) (fun _ _ _ h => hP _ _ _ _ _ h) ?_ hHeld rfl ?_
  · refine Or.inl ⟨by rfl, ?_⟩; rintro w' ⟨q1, q2⟩; exact y_load70 rfl rfl q2 hs
  refine one_ (i := 7) (N := some 21) (ms 13 8) rfl rfl (by kernel_rfl) (by decide) (fun K hK => ?_)
  refine value_ (v := .slice (some ⟨w.drew.heap.size, 0, none⟩) 1 1) (w1 := w.drew.alloc (.cells ds.toList.toArray 70)) (by rfl) rfl (y_bs70 hs rfl rfl) ?_
  refine hK.out _ _ ?_ ?_
  · exact HS1 _ ((Below.refl _ _).alloc (Nat.le_refl _) _)
  intro hHeld1
  refine wpAnyLast_eq (a' := ⟨[.pointer (some ⟨g, 0, none⟩), u1, u2, .pointer (some ⟨b, 0, none⟩), u4, u5, u6, u7, u8, u9, u10, u11, u12, u13, .pointer (some ⟨g, 0, none⟩), .pointer (some ⟨g, 0, none⟩), .pointer (some ⟨g, 0, none⟩), .pointer (some ⟨g, 34, none⟩), .pointer (some ⟨g, 35, none⟩), .slice none 0 0, .agg ds, .slice (some ⟨w.drew.heap.size, 0, none⟩) 1 1, u22, u23, u24, u25].toArray, []⟩) rfl ?_
  refine one_ (i := 8) (N := some 22) (ms 13 9) rfl rfl (by kernel_rfl) (by decide) (fun K hK => ?_)
  refine step_append_cells (w0 := w.drew) w.drew.heap.size (by rfl) (.tmp 19) (.tmp 21) 29 70 _ 28 280 (by rfl) Try.underlying29 info70 rfl (by decide) (by decide) (.slice none 0 0) 0 [] ds.toList (by rfl) (by rfl) (by rw [Array.length_toList]; exact hs) ho1 (own_nil _ _ _ _) (Below.refl _ _) (Nat.le_refl _) (by decide) ?_
  intro v1 w3 hown hB hg hat
  obtain ⟨A1, c1, rfl⟩ := own_slice hown
  refine hK.out _ _ ?_ ?_
  · exact HS1 _ hB
  intro hHeld2
  refine wpAnyLast_eq (a' := ⟨[.pointer (some ⟨g, 0, none⟩), u1, u2, .pointer (some ⟨b, 0, none⟩), u4, u5, u6, u7, u8, u9, u10, u11, u12, u13, .pointer (some ⟨g, 0, none⟩), .pointer (some ⟨g, 0, none⟩), .pointer (some ⟨g, 0, none⟩), .pointer (some ⟨g, 34, none⟩), .pointer (some ⟨g, 35, none⟩), .slice none 0 0, .agg ds, .slice (some ⟨w.drew.heap.size, 0, none⟩) 1 1, .slice A1 1 c1, u23, u24, u25].toArray, []⟩) rfl ?_
  refine pure_ (i := 9) (N := some 23) (v := .pointer (some ⟨g, 0, none⟩)) (ms 13 10) rfl rfl (by kernel_rfl) (fun _ _ _ h => hP _ _ _ _ _ h) ?_ rfl ?_
  · refine Or.inl ⟨by rfl, ?_⟩; intro w'; exact y_nil rfl rfl
  refine pure_ (i := 10) (N := some 24) (v := .pointer (some ⟨g, 34, none⟩)) (ms 13 11) rfl rfl (by kernel_rfl) (fun _ _ _ h => hP _ _ _ _ _ h) ?_ rfl ?_
  · refine Or.inl ⟨by rfl, ?_⟩; intro w'; exact y_f94_13 rfl rfl
  refine pure_ (i := 11) (N := some 25) (v := .pointer (some ⟨g, 35, none⟩)) (a' := ⟨[.pointer (some ⟨g, 0, none⟩), u1, u2, .pointer (some ⟨b, 0, none⟩), u4, u5, u6, u7, u8, u9, u10, u11, u12, u13, .pointer (some ⟨g, 0, none⟩), .pointer (some ⟨g, 0, none⟩), .pointer (some ⟨g, 0, none⟩), .pointer (some ⟨g, 34, none⟩), .pointer (some ⟨g, 35, none⟩), .slice none 0 0, .agg ds, .slice (some ⟨w.drew.heap.size, 0, none⟩) 1 1, .slice A1 1 c1, .pointer (some ⟨g, 0, none⟩), .pointer (some ⟨g, 34, none⟩), .pointer (some ⟨g, 35, none⟩)].toArray, []⟩) (ms 13 12) rfl rfl (by kernel_rfl) (fun _ _ _ h => hP _ _ _ _ _ h) ?_ rfl ?_
  · refine Or.inl ⟨by rfl, ?_⟩; intro w'; exact y_f32_1 rfl rfl
  refine last_ (i := 12) (N := none) (ms 13 13) rfl rfl (by kernel_rfl) (by decide) (fun K hK => ?_)
  refine skip_ (w1 := w3.setCell ⟨g, 35, none⟩ (.slice A1 1 c1)) (by rfl) rfl (y_store29 rfl rfl rfl hHeld2.1 (HF _ hB)) ?_
  refine hK.out _ _ ?_
  refine done_ (by kernel_rfl) ?_
  exact h A1 c1 w3 hown hB

noncomputable def asked_keep_reg : Code := (Try.f66.body.bind (regionOf 7)).getD .skip
set_option maxRecDepth 1000000 in
set_option maxHeartbeats 4000000 in
/-- asked: is what is kept new? -/
theorem asked_keep (u1 u2 u4 u5 u6 u7 u8 u9 u10 u11 u12 u13 u14 u15 u16 u17 u18 u19 u20 u21 u22 u23 u24 u25 u26 u27 u28 u29 u30 u31 u32 u33 u34 u35 u36 u37 u38 u39 u40 u41 u42 u43 u44 u45 u46 u47 u48 u49 u50 u51 u52 u53 u54 u55 u56 u57 u58 u59 u60 u61 u62 u63 u64 u65 u66 u67 u68 u69 u70 u71 u72 u73 u74 u75 u76 u77 u78 u79 u80 u81 u82 u83 u84 u85 u86 u87 u88 u89 u90 u91 u92 u93 u94 u95 u96 u97 u98 u99 u100 u101 u102 u103 u104 u105 u106 u107 u108 u109 u110 u111 u112 u113 u114 : Value) (g b : Nat) (w : World) (Q : Exit → Act → World → Prop) (vt fr : Int) (k b1 : Bool) (hP : ∀ x a d v w, Q (.panic x) (a.put (some d) v) w → Q (.panic x) a w) (c34 : w.cell? ⟨g, 34, none⟩ = some (.bool k)) (c2 : w.cell? ⟨g, 2, none⟩ = some (.int .i64 vt)) (m1 : w.cell? ⟨b, 1, none⟩ = some (.int .i64 fr)) (h1 : (vt != fr) = b1) (HF : w.drew.frozen? ⟨g, 34, none⟩ = false)
    (h : Q .normal ⟨[.pointer (some ⟨g, 0, none⟩), u1, u2, .pointer (some ⟨b, 0, none⟩), u4, u5, u6, u7, u8, u9, u10, u11, u12, u13, u14, u15, u16, u17, u18, u19, u20, u21, u22, u23, u24, u25, u26, u27, u28, u29, u30, u31, u32, u33, u34, u35, u36, u37, u38, u39, u40, u41, u42, u43, u44, u45, u46, u47, u48, u49, u50, u51, u52, u53, u54, u55, u56, u57, u58, u59, u60, u61, u62, u63, u64, u65, u66, u67, u68, u69, u70, u71, u72, u73, u74, u75, u76, u77, u78, u79, u80, u81, u82, .pointer (some ⟨g, 0, none⟩), .pointer (some ⟨g, 0, none⟩), .pointer (some ⟨g, 0, none⟩), .pointer (some ⟨g, 34, none⟩), .pointer (some ⟨g, 34, none⟩), .bool k, .bool k, gv (!k) (.pointer (some ⟨g, 0, none⟩)), gv (!k) (.pointer (some ⟨g, 0, none⟩)), gv (!k) (.pointer (some ⟨g, 2, none⟩)), gv (!k) (.int .i64 vt), gv (!k) (.pointer (some ⟨b, 1, none⟩)), gv (!k) (.int .i64 fr), gv (!k) (.bool b1), .bool (k || b1), .pointer (some ⟨g, 0, none⟩), .pointer (some ⟨g, 34, none⟩), .pointer (some ⟨g, 34, none⟩), u101, u102, u103, u104, u105, u106, u107, u108, u109, u110, u111, u112, u113, u114].toArray, []⟩ (w.drew.setCell ⟨g, 34, none⟩ (.bool (k || b1)))) :
    Code.wp Try.prog asked_keep_reg Q ⟨[.pointer (some ⟨g, 0, none⟩), u1, u2, .pointer (some ⟨b, 0, none⟩), u4, u5, u6, u7, u8, u9, u10, u11, u12, u13, u14, u15, u16, u17, u18, u19, u20, u21, u22, u23, u24, u25, u26, u27, u28, u29, u30, u31, u32, u33, u34, u35, u36, u37, u38, u39, u40, u41, u42, u43, u44, u45, u46, u47, u48, u49, u50, u51, u52, u53, u54, u55, u56, u57, u58, u59, u60, u61, u62, u63, u64, u65, u66, u67, u68, u69, u70, u71, u72, u73, u74, u75, u76, u77, u78, u79, u80, u81, u82, u83, u84, u85, u86, u87, u88, u89, u90, u91, u92, u93, u94, u95, u96, u97, u98, u99, u100, u101, u102, u103, u104, u105, u106, u107, u108, u109, u110, u111, u112, u113, u114].toArray, []⟩ w := by
  conv => arg 2; whnf
  have HS1 : ∀ w', Below w.drew.heap.size w.drew w' → w'.cell? ⟨g, 34, none⟩ = some (.bool k) ∧ w'.cell? ⟨g, 2, none⟩ = some (.int .i64 vt) ∧ w'.cell? ⟨b, 1, none⟩ = some (.int .i64 fr) := fun w' hb => ⟨pw_cell_below hb c34, pw_cell_below hb c2, pw_cell_below hb m1⟩
  refine start_ (n := 19) (S := fun w' => w'.cell? ⟨g, 34, none⟩ = some (.bool k) ∧ w'.cell? ⟨g, 2, none⟩ = some (.int .i64 vt) ∧ w'.cell? ⟨b, 1, none⟩ = some (.int .i64 fr)) (ds := [18]) (ms 19 0) (by kernel_rfl) rfl rfl ⟨c34, c2, m1⟩ (fun hHeld => ?_)
  refine pure_ (i := 0) (N := some 83) (v := .pointer (some ⟨g, 0, none⟩)) (ms 19 1) rfl rfl (by kernel_rfl) (fun _ _ _ h => hP _ _ _ _ _ h) ?_ rfl ?_
  · refine Or.inl ⟨by rfl, ?_⟩; intro w'; exact y_move rfl rfl
  refine pure_ (i := 1) (N := some 84) (v := .pointer (some ⟨g, 0, none⟩)) (ms 19 2) rfl rfl (by kernel_rfl) (fun _ _ _ h => hP _ _ _ _ _ h) ?_ rfl ?_
  · refine Or.inl ⟨by rfl, ?_⟩; intro w'; exact y_move rfl rfl
  refine pure_ (i := 2) (N := some 85) (v := .pointer (some ⟨g, 0, none⟩)) (ms 19 3) rfl rfl (by kernel_rfl) (fun _ _ _ h => hP _ _ _ _ _ h) ?_ rfl ?_
  · refine Or.inl ⟨by rfl, ?_⟩; intro w'; exact y_nil rfl rfl
  refine pure_ (i := 3) (N := some 86) (v := .pointer (some ⟨g, 34, none⟩)) (a' := ⟨[.pointer (some ⟨g, 0, none⟩), u1, u2, .pointer (some ⟨b, 0, none⟩), u4, u5, u6, u7, u8, u9, u10, u11, u12, u13, u14, u15, u16, u17, u18, u19, u20, u21, u22, u23, u24, u25, u26, u27, u28, u29, u30, u31, u32, u33, u34, u35, u36, u37, u38, u39, u40, u41, u42, u43, u44, u45, u46, u47, u48, u49, u50, u51, u52, u53, u54, u55, u56, u57, u58, u59, u60, u61, u62, u63, u64, u65, u66, u67, u68, u69, u70, u71, u72, u73, u74, u75, u76, u77, u78, u79, u80, u81, u82, .pointer (some ⟨g, 0, none⟩), .pointer (some ⟨g, 0, none⟩), .pointer (some ⟨g, 0, none⟩), .pointer (some ⟨g, 34, none⟩), u87, u88, u89, u90, u91, u92, u93, u94, u95, u96, u97, u98, u99, u100, u101, u102, u103, u104, u105, u106, u107, u108, u109, u110, u111, u112, u113, u114].toArray, []⟩) (ms 19 4) rfl rfl (by kernel_rfl) (fun _ _ _ h => hP _ _ _ _ _ h) ?_ rfl ?_
  · refine Or.inl ⟨by rfl, ?_⟩; intro w'; exact y_f94_13 rfl rfl
  refine pure_ (i := 4) (N := some 87) (v := .pointer (some ⟨g, 34, none⟩)) (ms 19 5) rfl rfl (by kernel_rfl) (fun _ _ _ h => hP _ _ _ _ _ h) ?_ rfl ?_
  · refine Or.inl ⟨by rfl, ?_⟩; intro w'; exact y_f32_0 rfl rfl
  refine take_ (i := 5) (N := some 88) (v := .bool k) (ms 19 6) rfl rfl (by kernel_rfl) (fun _ _ _ h => hP _ _ _ _ _ h) ?_ hHeld rfl ?_
  · refine Or.inl ⟨by rfl, ?_⟩; rintro w' ⟨q1, q2, q3⟩; exact y_load4 rfl rfl q1
  refine pure_ (i := 6) (N := some 89) (v := .bool k) (ms 19 7) rfl rfl (by kernel_rfl) (fun _ _ _ h => hP _ _ _ _ _ h) ?_ rfl ?_
  · refine Or.inl ⟨by rfl, ?_⟩; intro w'; exact y_move rfl rfl
  refine pure_ (i := 7) (N := some 90) (v := gv (!k) (.pointer (some ⟨g, 0, none⟩))) (a' := ⟨[.pointer (some ⟨g, 0, none⟩), u1, u2, .pointer (some ⟨b, 0, none⟩), u4, u5, u6, u7, u8, u9, u10, u11, u12, u13, u14, u15, u16, u17, u18, u19, u20, u21, u22, u23, u24, u25, u26, u27, u28, u29, u30, u31, u32, u33, u34, u35, u36, u37, u38, u39, u40, u41, u42, u43, u44, u45, u46, u47, u48, u49, u50, u51, u52, u53, u54, u55, u56, u57, u58, u59, u60, u61, u62, u63, u64, u65, u66, u67, u68, u69, u70, u71, u72, u73, u74, u75, u76, u77, u78, u79, u80, u81, u82, .pointer (some ⟨g, 0, none⟩), .pointer (some ⟨g, 0, none⟩), .pointer (some ⟨g, 0, none⟩), .pointer (some ⟨g, 34, none⟩), .pointer (some ⟨g, 34, none⟩), .bool k, .bool k, gv (!k) (.pointer (some ⟨g, 0, none⟩)), u91, u92, u93, u94, u95, u96, u97, u98, u99, u100, u101, u102, u103, u104, u105, u106, u107, u108, u109, u110, u111, u112, u113, u114].toArray, []⟩) (ms 19 8) rfl rfl (by kernel_rfl) (fun _ _ _ h => hP _ _ _ _ _ h) ?_ rfl ?_
  · cases k
    · refine Or.inl ⟨by rfl, ?_⟩; intro w'; exact y_move rfl rfl
    · exact Or.inr ⟨by rfl, rfl⟩
  refine pure_ (i := 8) (N := some 91) (v := gv (!k) (.pointer (some ⟨g, 0, none⟩))) (ms 19 9) rfl rfl (by kernel_rfl) (fun _ _ _ h => hP _ _ _ _ _ h) ?_ rfl ?_
  · cases k
    · refine Or.inl ⟨by rfl, ?_⟩; intro w'; exact y_nil rfl rfl
    · exact Or.inr ⟨by rfl, rfl⟩
  refine pure_ (i := 9) (N := some 92) (v := gv (!k) (.pointer (some ⟨g, 2, none⟩))) (ms 19 10) rfl rfl (by kernel_rfl) (fun _ _ _ h => hP _ _ _ _ _ h) ?_ rfl ?_
  · cases k
    · refine Or.inl ⟨by rfl, ?_⟩; intro w'; exact y_f94_2 rfl rfl
    · exact Or.inr ⟨by rfl, rfl⟩
  refine take_ (i := 10) (N := some 93) (v := gv (!k) (.int .i64 vt)) (ms 19 11) rfl rfl (by kernel_rfl) (fun _ _ _ h => hP _ _ _ _ _ h) ?_ hHeld rfl ?_
  · cases k
    · refine Or.inl ⟨by rfl, ?_⟩; rintro w' ⟨q1, q2, q3⟩; exact y_load3 rfl rfl q2
    · exact Or.inr ⟨by rfl, rfl⟩
  refine pure_ (i := 11) (N := some 94) (v := gv (!k) (.pointer (some ⟨b, 1, none⟩))) (a' := ⟨[.pointer (some ⟨g, 0, none⟩), u1, u2, .pointer (some ⟨b, 0, none⟩), u4, u5, u6, u7, u8, u9, u10, u11, u12, u13, u14, u15, u16, u17, u18, u19, u20, u21, u22, u23, u24, u25, u26, u27, u28, u29, u30, u31, u32, u33, u34, u35, u36, u37, u38, u39, u40, u41, u42, u43, u44, u45, u46, u47, u48, u49, u50, u51, u52, u53, u54, u55, u56, u57, u58, u59, u60, u61, u62, u63, u64, u65, u66, u67, u68, u69, u70, u71, u72, u73, u74, u75, u76, u77, u78, u79, u80, u81, u82, .pointer (some ⟨g, 0, none⟩), .pointer (some ⟨g, 0, none⟩), .pointer (some ⟨g, 0, none⟩), .pointer (some ⟨g, 34, none⟩), .pointer (some ⟨g, 34, none⟩), .bool k, .bool k, gv (!k) (.pointer (some ⟨g, 0, none⟩)), gv (!k) (.pointer (some ⟨g, 0, none⟩)), gv (!k) (.pointer (some ⟨g, 2, none⟩)), gv (!k) (.int .i64 vt), gv (!k) (.pointer (some ⟨b, 1, none⟩)), u95, u96, u97, u98, u99, u100, u101, u102, u103, u104, u105, u106, u107, u108, u109, u110, u111, u112, u113, u114].toArray, []⟩) (ms 19 12) rfl rfl (by kernel_rfl) (fun _ _ _ h => hP _ _ _ _ _ h) ?_ rfl ?_
  · cases k
    · refine Or.inl ⟨by rfl, ?_⟩; intro w'; exact y_f70_1 rfl rfl
    · exact Or.inr ⟨by rfl, rfl⟩
  refine take_ (i := 12) (N := some 95) (v := gv (!k) (.int .i64 fr)) (ms 19 13) rfl rfl (by kernel_rfl) (fun _ _ _ h => hP _ _ _ _ _ h) ?_ hHeld rfl ?_
  · cases k
    · refine Or.inl ⟨by rfl, ?_⟩; rintro w' ⟨q1, q2, q3⟩; exact y_load3 rfl rfl q3
    · exact Or.inr ⟨by rfl, rfl⟩
  refine pure_ (i := 13) (N := some 96) (v := gv (!k) (.bool b1)) (ms 19 14) rfl rfl (by kernel_rfl) (fun _ _ _ h => hP _ _ _ _ _ h) ?_ rfl ?_
  · cases k
    · refine Or.inl ⟨by rfl, ?_⟩; intro w'; exact z_neq rfl rfl rfl h1
    · exact Or.inr ⟨by rfl, rfl⟩
  refine pure_ (i := 14) (N := some 97) (v := .bool (k || b1)) (ms 19 15) rfl rfl (by kernel_rfl) (fun _ _ _ h => hP _ _ _ _ _ h) ?_ rfl ?_
  · cases k
    · refine Or.inl ⟨by rfl, ?_⟩; intro w'; exact y_pick_f rfl rfl rfl
    · refine Or.inl ⟨by rfl, ?_⟩; intro w'; exact y_pick_t rfl rfl rfl
  refine pure_ (i := 15) (N := some 98) (v := .pointer (some ⟨g, 0, none⟩)) (a' := ⟨[.pointer (some ⟨g, 0, none⟩), u1, u2, .pointer (some ⟨b, 0, none⟩), u4, u5, u6, u7, u8, u9, u10, u11, u12, u13, u14, u15, u16, u17, u18, u19, u20, u21, u22, u23, u24, u25, u26, u27, u28, u29, u30, u31, u32, u33, u34, u35, u36, u37, u38, u39, u40, u41, u42, u43, u44, u45, u46, u47, u48, u49, u50, u51, u52, u53, u54, u55, u56, u57, u58, u59, u60, u61, u62, u63, u64, u65, u66, u67, u68, u69, u70, u71, u72, u73, u74, u75, u76, u77, u78, u79, u80, u81, u82, .pointer (some ⟨g, 0, none⟩), .pointer (some ⟨g, 0, none⟩), .pointer (some ⟨g, 0, none⟩), .pointer (some ⟨g, 34, none⟩), .pointer (some ⟨g, 34, none⟩), .bool k, .bool k, gv (!k) (.pointer (some ⟨g, 0, none⟩)), gv (!k) (.pointer (some ⟨g, 0, none⟩)), gv (!k) (.pointer (some ⟨g, 2, none⟩)), gv (!k) (.int .i64 vt), gv (!k) (.pointer (some ⟨b, 1, none⟩)), gv (!k) (.int .i64 fr), gv (!k) (.bool b1), .bool (k || b1), .pointer (some ⟨g, 0, none⟩), u99, u100, u101, u102, u103, u104, u105, u106, u107, u108, u109, u110, u111, u112, u113, u114].toArray, []⟩) (ms 19 16) rfl rfl (by kernel_rfl) (fun _ _ _ h => hP _ _ _ _ _ h) ?_ rfl ?_
  · refine Or.inl ⟨by rfl, ?_⟩; intro w'; exact y_nil rfl rfl
  refine pure_ (i := 16) (N := some 99) (v := .pointer (some ⟨g, 34, none⟩)) (ms 19 17) rfl rfl (by kernel_rfl) (fun _ _ _ h => hP _ _ _ _ _ h) ?_ rfl ?_
  · refine Or.inl ⟨by rfl, ?_⟩; intro w'; exact y_f94_13 rfl rfl
  refine pure_ (i := 17) (N := some 100) (v := .pointer (some ⟨g, 34, none⟩)) (a' := ⟨[.pointer (some ⟨g, 0, none⟩), u1, u2, .pointer (some ⟨b, 0, none⟩), u4, u5, u6, u7, u8, u9, u10, u11, u12, u13, u14, u15, u16, u17, u18, u19, u20, u21, u22, u23, u24, u25, u26, u27, u28, u29, u30, u31, u32, u33, u34, u35, u36, u37, u38, u39, u40, u41, u42, u43, u44, u45, u46, u47, u48, u49, u50, u51, u52, u53, u54, u55, u56, u57, u58, u59, u60, u61, u62, u63, u64, u65, u66, u67, u68, u69, u70, u71, u72, u73, u74, u75, u76, u77, u78, u79, u80, u81, u82, .pointer (some ⟨g, 0, none⟩), .pointer (some ⟨g, 0, none⟩), .pointer (some ⟨g, 0, none⟩), .pointer (some ⟨g, 34, none⟩), .pointer (some ⟨g, 34, none⟩), .bool k, .bool k, gv (!k) (.pointer (some ⟨g, 0, none⟩)), gv (!k) (.pointer (some ⟨g, 0, none⟩)), gv (!k) (.pointer (some ⟨g, 2, none⟩)), gv (!k) (.int .i64 vt), gv (!k) (.pointer (some ⟨b, 1, none⟩)), gv (!k) (.int .i64 fr), gv (!k) (.bool b1), .bool (k || b1), .pointer (some ⟨g, 0, none⟩), .pointer (some ⟨g, 34, none⟩), .pointer (some ⟨g, 34, none⟩), u101, u102, u103, u104, u105, u106, u107, u108, u109, u110, u111, u112, u113, u114].toArray, []⟩) (ms 19 18) rfl rfl (by kernel_rfl) (fun _ _ _ h => hP _ _ _ _ _ h) ?_ rfl ?_
  · refine Or.inl ⟨by rfl, ?_⟩; intro w'; exact y_f32_0 rfl rfl
  refine last_ (i := 18) (N := none) (ms 19 19) rfl rfl (by kernel_rfl) (by decide) (fun K hK => ?_)
  refine skip_ (w1 := w.drew.setCell ⟨g, 34, none⟩ (.bool (k || b1))) (by rfl) rfl (y_store4 rfl rfl rfl hHeld.1 HF) ?_
  refine hK.out _ _ ?_
  refine done_ (by kernel_rfl) ?_
  exact h

end Go.Proofs.Ytfanbhbpmhojaaa
