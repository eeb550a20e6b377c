/- The last statement of the reference's Read, whose order is open, as theorems of their own. No conditions beyond those typed. Printed by wip/tools/mkRdR.py. -/
import Derived.Test.YtfanbhbpmhojaaaLoR
import Derived.Laws.Tables
import Derived.Laws.ResultCell
namespace Go.Proofs.Ytfanbhbpmhojaaa
open Go.RowKit Go.Proofs.YtfanbhbpmhojaaaW.PrintWords Go.Proofs.YtfanbhbpmhojaaaW.PrintLast Go.Proofs.YtfanbhbpmhojaaaW.PrintMore PRef
set_option linter.unusedVariables false
set_option linter.unusedSimpArgs false

theorem inf47 : (Try.prog.info? 47).map (·.size) = some 7 := by kernel_rfl
section
variable {a : Act} {o1 : Oper} {w : World}
theorem y_load47 {x : Operand} {b : Nat} {cs : Array Value} (ho : o1.op = .load 47 x) (hx : a.eval x = .pointer (some ⟨b, 0, none⟩)) (h : w.heap[b]? = some (.cells cs 47 (0, 0))) (hs : cs.size = 7) : (execOp a.eval o1).run Try.prog w = .ok (.value (.agg cs)) w := by
  unfold execOp
  simp only [ho, hx, Instr.loadAt, Instr.sureAddr, Sem.run_bind, Sem.run_pure, Result.andThen_ok, run_loadVar_row w b 47 47 cs (0, 0) _ h Try.underlying47 rfl (by rw [inf47, hs])]
theorem y_load4 {x : Operand} {b i : Nat} {v : Bool} (ho : o1.op = .load 4 x) (hx : a.eval x = .pointer (some ⟨b, i, none⟩)) (hc : w.cell? ⟨b, i, none⟩ = some (.bool v)) : (execOp a.eval o1).run Try.prog w = .ok (.value (.bool v)) w := by
  have hu := Try.underlying4
  unfold execOp
  simp only [ho, hx]
  go_simp
theorem y_load43 {x : Operand} {b i n c : Nat} {A : Option Addr} (ho : o1.op = .load 43 x) (hx : a.eval x = .pointer (some ⟨b, i, none⟩)) (hc : w.cell? ⟨b, i, none⟩ = some (.slice A n c)) : (execOp a.eval o1).run Try.prog w = .ok (.value (.slice A n c)) w := by
  have hu := Try.underlying43
  unfold execOp
  simp only [ho, hx]
  go_simp
theorem y_f112_0 {x : Operand} {b o : Nat} (ho : o1.op = .fieldAddr 112 x 0) (hx : a.eval x = .pointer (some ⟨b, o, none⟩)) : (execOp a.eval o1).run Try.prog w = .ok (.value (.pointer (some ⟨b, o + 0, none⟩))) w := by
  have hu := Try.underlying112
  unfold execOp
  simp only [ho, hx]
  go_simp
theorem y_f112_1 {x : Operand} {b o : Nat} (ho : o1.op = .fieldAddr 112 x 1) (hx : a.eval x = .pointer (some ⟨b, o, none⟩)) : (execOp a.eval o1).run Try.prog w = .ok (.value (.pointer (some ⟨b, o + 1, none⟩))) w := by
  have hu := Try.underlying112
  unfold execOp
  simp only [ho, hx]
  go_simp
theorem y_len43 {t : Tmp} {n c : Nat} {A : Option Addr} (ho : o1.op = .call { callee := .builtin .len, args := #[.tmp t], argTypes := #[43] }) (hx : a.eval (.tmp t) = .slice A n c) : (execOp a.eval o1).run Try.prog w = .ok (.value (.int .i64 n)) w := by
  have hu := Try.underlying43
  have hx' : a.tmps[t]?.getD undef = .slice A n c := by unfold Act.eval at hx; simpa using hx
  unfold execOp
  simp only [ho]
  go_simp
theorem y_eqz {x : Operand} {n : Int} {b : Bool} (ho : o1.op = .binOp .eql 3 x (.const (.int .i64 0)) 3) (hx : a.eval x = .int .i64 n) (hn : (n == 0) = b) : (execOp a.eval o1).run Try.prog w = .ok (.value (.bool b)) w := by
  have hu3 := Try.underlying3
  unfold execOp
  simp only [ho, hx]
  go_simp
end

noncomputable def read_bad_reg : Code := (Try.f19.body.bind (regionOf 15)).getD .skip
set_option maxRecDepth 1000000 in
set_option maxHeartbeats 4000000 in
/-- Read's last statement. -/
theorem read_bad (u0 u1 u3 u6 u7 u8 u9 u10 u11 u12 u13 u14 u15 u16 u17 u18 u19 u20 u21 u22 u23 u24 u25 u26 u27 u28 u29 u30 u31 u32 u33 u34 u35 u36 u37 u38 u39 u40 u41 u42 u43 u44 u45 u46 u47 u48 u49 u50 u51 u52 u53 u54 u55 u56 u57 u58 u59 u60 u61 u62 u63 u64 u65 u66 u67 u68 u69 u70 u71 u72 u73 u74 u75 u76 u77 u78 u79 u80 u81 u82 u83 u84 u85 u86 u87 u88 u89 u90 u91 u92 u93 u94 u95 u96 u97 u98 u99 u100 u101 : Value) (g b5 b2 : Nat) (w : World) (Q : Exit → Act → World → Prop) (cs c0 : Array Value) (A : Option Addr) (n c : Nat) (hP : ∀ x a d v w, Q (.panic x) (a.put (some d) v) w → Q (.panic x) a w) (h5 : w.heap[b5]? = some (.cells cs 47 (0, 0))) (h2 : w.heap[b2]? = some (.cells c0 47 (0, 0))) (hb1 : w.cell? ⟨g, 1, none⟩ = some (.bool true)) (hb0 : w.cell? ⟨g, 0, none⟩ = some (.slice A n c)) (hs : cs.size = 7) (h0 : c0.size = 7) (ho1 : cs.all (·.oneCell') = true)
    (h : Q .normal ⟨[u0, u1, .pointer (some ⟨b2, 0, none⟩), .bool false, .pointer (some ⟨g, 0, none⟩), .pointer (some ⟨b5, 0, none⟩), u6, u7, u8, u9, u10, u11, u12, u13, u14, u15, u16, u17, u18, u19, u20, u21, u22, u23, u24, u25, u26, u27, u28, u29, u30, u31, u32, u33, u34, u35, u36, u37, u38, u39, u40, u41, u42, u43, u44, u45, u46, u47, u48, u49, u50, u51, u52, u53, u54, u55, u56, u57, u58, u59, u60, u61, u62, u63, u64, u65, u66, u67, u68, u69, u70, u71, u72, u73, u74, u75, u76, u77, u78, u79, u80, u81, u82, u83, .agg cs, .pointer (some ⟨g, 0, none⟩), .pointer (some ⟨g, 0, none⟩), .pointer (some ⟨g, 1, none⟩), .bool true, .bool false, .bool false, undef, undef, undef, undef, undef, undef, .bool false, .bool false, undef, undef, .bool false].toArray, []⟩ (w.drew.setRow b2 cs)) :
    Code.wp Try.prog read_bad_reg Q ⟨[u0, u1, .pointer (some ⟨b2, 0, none⟩), u3, .pointer (some ⟨g, 0, none⟩), .pointer (some ⟨b5, 0, none⟩), u6, u7, u8, u9, u10, u11, u12, u13, u14, u15, u16, u17, u18, u19, u20, u21, u22, u23, u24, u25, u26, u27, u28, u29, u30, u31, u32, u33, u34, u35, u36, u37, u38, u39, u40, u41, u42, u43, u44, u45, u46, u47, u48, u49, u50, u51, u52, u53, u54, u55, u56, u57, u58, u59, u60, u61, u62, u63, u64, u65, u66, u67, u68, u69, u70, u71, u72, u73, u74, u75, u76, u77, u78, u79, u80, u81, u82, u83, u84, u85, u86, u87, u88, u89, u90, u91, u92, u93, u94, u95, u96, u97, u98, u99, u100, u101].toArray, []⟩ w := by
  conv => arg 2; whnf
  have HS1 : ∀ w', Below w.drew.heap.size w.drew w' → w'.heap[b5]? = some (.cells cs 47 (0, 0)) ∧ w'.heap[b2]? = some (.cells c0 47 (0, 0)) ∧ w'.cell? ⟨g, 1, none⟩ = some (.bool true) ∧ w'.cell? ⟨g, 0, none⟩ = some (.slice A n c) := fun w' hb => ⟨blk_below (w := w.drew) h5 hb, blk_below (w := w.drew) h2 hb, pw_cell_below hb hb1, pw_cell_below hb hb0⟩
  refine start_ (n := 20) (S := fun w' => w'.heap[b5]? = some (.cells cs 47 (0, 0)) ∧ w'.heap[b2]? = some (.cells c0 47 (0, 0)) ∧ w'.cell? ⟨g, 1, none⟩ = some (.bool true) ∧ w'.cell? ⟨g, 0, none⟩ = some (.slice A n c)) (ds := [18]) (ms 20 0) (by kernel_rfl) rfl rfl ⟨h5, h2, hb1, hb0⟩ (fun hHeld => ?_)
  refine take_ (i := 0) (N := some 84) (v := .agg cs) (ms 20 1) rfl rfl (by kernel_rfl) (fun _ _ _ h => hP _ _ _ _ _ h) (Or.inl ⟨by rfl, ?_⟩) hHeld rfl ?_
  · rintro w' ⟨q1, q2, q3, q4⟩
    exact y_load47 rfl rfl q1 hs
  refine pure_ (i := 1) (N := some 85) (v := .pointer (some ⟨g, 0, none⟩)) (ms 20 2) rfl rfl (by kernel_rfl) (fun _ _ _ h => hP _ _ _ _ _ h) (Or.inl ⟨by rfl, ?_⟩) rfl ?_
  · intro w'
    exact y_move rfl rfl
  refine pure_ (i := 2) (N := some 86) (v := .pointer (some ⟨g, 0, none⟩)) (ms 20 3) rfl rfl (by kernel_rfl) (fun _ _ _ h => hP _ _ _ _ _ h) (Or.inl ⟨by rfl, ?_⟩) rfl ?_
  · intro w'
    exact y_nil rfl rfl
  refine pure_ (i := 3) (N := some 87) (v := .pointer (some ⟨g, 1, none⟩)) (a' := ⟨[u0, u1, .pointer (some ⟨b2, 0, none⟩), u3, .pointer (some ⟨g, 0, none⟩), .pointer (some ⟨b5, 0, none⟩), u6, u7, u8, u9, u10, u11, u12, u13, u14, u15, u16, u17, u18, u19, u20, u21, u22, u23, u24, u25, u26, u27, u28, u29, u30, u31, u32, u33, u34, u35, u36, u37, u38, u39, u40, u41, u42, u43, u44, u45, u46, u47, u48, u49, u50, u51, u52, u53, u54, u55, u56, u57, u58, u59, u60, u61, u62, u63, u64, u65, u66, u67, u68, u69, u70, u71, u72, u73, u74, u75, u76, u77, u78, u79, u80, u81, u82, u83, .agg cs, .pointer (some ⟨g, 0, none⟩), .pointer (some ⟨g, 0, none⟩), .pointer (some ⟨g, 1, none⟩), u88, u89, u90, u91, u92, u93, u94, u95, u96, u97, u98, u99, u100, u101].toArray, []⟩) (ms 20 4) rfl rfl (by kernel_rfl) (fun _ _ _ h => hP _ _ _ _ _ h) (Or.inl ⟨by rfl, ?_⟩) rfl ?_
  · intro w'
    exact y_f112_1 rfl rfl
  refine take_ (i := 4) (N := some 88) (v := .bool true) (ms 20 5) rfl rfl (by kernel_rfl) (fun _ _ _ h => hP _ _ _ _ _ h) (Or.inl ⟨by rfl, ?_⟩) hHeld rfl ?_
  · rintro w' ⟨q1, q2, q3, q4⟩
    exact y_load4 rfl rfl q3
  refine pure_ (i := 5) (N := some 89) (v := .bool false) (ms 20 6) rfl rfl (by kernel_rfl) (fun _ _ _ h => hP _ _ _ _ _ h) (Or.inl ⟨by rfl, ?_⟩) rfl ?_
  · intro w'
    exact y_not (v := true) rfl rfl
  refine pure_ (i := 6) (N := some 90) (v := .bool false) (ms 20 7) rfl rfl (by kernel_rfl) (fun _ _ _ h => hP _ _ _ _ _ h) (Or.inl ⟨by rfl, ?_⟩) rfl ?_
  · intro w'
    exact y_move rfl rfl
  refine pure_ (i := 7) (N := some 91) (v := undef) (a' := ⟨[u0, u1, .pointer (some ⟨b2, 0, none⟩), u3, .pointer (some ⟨g, 0, none⟩), .pointer (some ⟨b5, 0, none⟩), u6, u7, u8, u9, u10, u11, u12, u13, u14, u15, u16, u17, u18, u19, u20, u21, u22, u23, u24, u25, u26, u27, u28, u29, u30, u31, u32, u33, u34, u35, u36, u37, u38, u39, u40, u41, u42, u43, u44, u45, u46, u47, u48, u49, u50, u51, u52, u53, u54, u55, u56, u57, u58, u59, u60, u61, u62, u63, u64, u65, u66, u67, u68, u69, u70, u71, u72, u73, u74, u75, u76, u77, u78, u79, u80, u81, u82, u83, .agg cs, .pointer (some ⟨g, 0, none⟩), .pointer (some ⟨g, 0, none⟩), .pointer (some ⟨g, 1, none⟩), .bool true, .bool false, .bool false, undef, u92, u93, u94, u95, u96, u97, u98, u99, u100, u101].toArray, []⟩) (ms 20 8) rfl rfl (by kernel_rfl) (fun _ _ _ h => hP _ _ _ _ _ h) (Or.inr ⟨by rfl, rfl⟩) rfl ?_
  refine pure_ (i := 8) (N := some 92) (v := undef) (ms 20 9) rfl rfl (by kernel_rfl) (fun _ _ _ h => hP _ _ _ _ _ h) (Or.inr ⟨by rfl, rfl⟩) rfl ?_
  refine pure_ (i := 9) (N := some 93) (v := undef) (ms 20 10) rfl rfl (by kernel_rfl) (fun _ _ _ h => hP _ _ _ _ _ h) (Or.inr ⟨by rfl, rfl⟩) rfl ?_
  refine pure_ (i := 10) (N := some 94) (v := undef) (ms 20 11) rfl rfl (by kernel_rfl) (fun _ _ _ h => hP _ _ _ _ _ h) (Or.inr ⟨by rfl, rfl⟩) rfl ?_
  refine pure_ (i := 11) (N := some 95) (v := undef) (a' := ⟨[u0, u1, .pointer (some ⟨b2, 0, none⟩), u3, .pointer (some ⟨g, 0, none⟩), .pointer (some ⟨b5, 0, none⟩), u6, u7, u8, u9, u10, u11, u12, u13, u14, u15, u16, u17, u18, u19, u20, u21, u22, u23, u24, u25, u26, u27, u28, u29, u30, u31, u32, u33, u34, u35, u36, u37, u38, u39, u40, u41, u42, u43, u44, u45, u46, u47, u48, u49, u50, u51, u52, u53, u54, u55, u56, u57, u58, u59, u60, u61, u62, u63, u64, u65, u66, u67, u68, u69, u70, u71, u72, u73, u74, u75, u76, u77, u78, u79, u80, u81, u82, u83, .agg cs, .pointer (some ⟨g, 0, none⟩), .pointer (some ⟨g, 0, none⟩), .pointer (some ⟨g, 1, none⟩), .bool true, .bool false, .bool false, undef, undef, undef, undef, undef, u96, u97, u98, u99, u100, u101].toArray, []⟩) (ms 20 12) rfl rfl (by kernel_rfl) (fun _ _ _ h => hP _ _ _ _ _ h) (Or.inr ⟨by rfl, rfl⟩) rfl ?_
  refine pure_ (i := 12) (N := some 96) (v := undef) (ms 20 13) rfl rfl (by kernel_rfl) (fun _ _ _ h => hP _ _ _ _ _ h) (Or.inr ⟨by rfl, rfl⟩) rfl ?_
  refine pure_ (i := 13) (N := some 97) (v := .bool false) (ms 20 14) rfl rfl (by kernel_rfl) (fun _ _ _ h => hP _ _ _ _ _ h) (Or.inl ⟨by rfl, ?_⟩) rfl ?_
  · intro w'
    exact y_pick_f rfl rfl rfl
  refine pure_ (i := 14) (N := some 98) (v := .bool false) (ms 20 15) rfl rfl (by kernel_rfl) (fun _ _ _ h => hP _ _ _ _ _ h) (Or.inl ⟨by rfl, ?_⟩) rfl ?_
  · intro w'
    exact y_move rfl rfl
  refine pure_ (i := 15) (N := some 99) (v := undef) (a' := ⟨[u0, u1, .pointer (some ⟨b2, 0, none⟩), u3, .pointer (some ⟨g, 0, none⟩), .pointer (some ⟨b5, 0, none⟩), u6, u7, u8, u9, u10, u11, u12, u13, u14, u15, u16, u17, u18, u19, u20, u21, u22, u23, u24, u25, u26, u27, u28, u29, u30, u31, u32, u33, u34, u35, u36, u37, u38, u39, u40, u41, u42, u43, u44, u45, u46, u47, u48, u49, u50, u51, u52, u53, u54, u55, u56, u57, u58, u59, u60, u61, u62, u63, u64, u65, u66, u67, u68, u69, u70, u71, u72, u73, u74, u75, u76, u77, u78, u79, u80, u81, u82, u83, .agg cs, .pointer (some ⟨g, 0, none⟩), .pointer (some ⟨g, 0, none⟩), .pointer (some ⟨g, 1, none⟩), .bool true, .bool false, .bool false, undef, undef, undef, undef, undef, undef, .bool false, .bool false, undef, u100, u101].toArray, []⟩) (ms 20 16) rfl rfl (by kernel_rfl) (fun _ _ _ h => hP _ _ _ _ _ h) (Or.inr ⟨by rfl, rfl⟩) rfl ?_
  refine pure_ (i := 16) (N := some 100) (v := undef) (ms 20 17) rfl rfl (by kernel_rfl) (fun _ _ _ h => hP _ _ _ _ _ h) (Or.inr ⟨by rfl, rfl⟩) rfl ?_
  refine pure_ (i := 17) (N := some 101) (v := .bool false) (a' := ⟨[u0, u1, .pointer (some ⟨b2, 0, none⟩), u3, .pointer (some ⟨g, 0, none⟩), .pointer (some ⟨b5, 0, none⟩), u6, u7, u8, u9, u10, u11, u12, u13, u14, u15, u16, u17, u18, u19, u20, u21, u22, u23, u24, u25, u26, u27, u28, u29, u30, u31, u32, u33, u34, u35, u36, u37, u38, u39, u40, u41, u42, u43, u44, u45, u46, u47, u48, u49, u50, u51, u52, u53, u54, u55, u56, u57, u58, u59, u60, u61, u62, u63, u64, u65, u66, u67, u68, u69, u70, u71, u72, u73, u74, u75, u76, u77, u78, u79, u80, u81, u82, u83, .agg cs, .pointer (some ⟨g, 0, none⟩), .pointer (some ⟨g, 0, none⟩), .pointer (some ⟨g, 1, none⟩), .bool true, .bool false, .bool false, undef, undef, undef, undef, undef, undef, .bool false, .bool false, undef, undef, .bool false].toArray, []⟩) (ms 20 18) rfl rfl (by kernel_rfl) (fun _ _ _ h => hP _ _ _ _ _ h) (Or.inl ⟨by rfl, ?_⟩) rfl ?_
  · intro w'
    exact y_pick_f rfl rfl rfl
  refine last_ (i := 18) (N := none) (ms 20 19) rfl rfl (by kernel_rfl) (by decide) (fun K hK => ?_)
  rw [if_pos (by rfl)]
  refine wp_store_row 47 (.tmp 2) (.tmp 84) rfl b2 cs rfl rfl 47 c0 (h2) (by rw [inf47, hs]) (by rw [h0, hs]) ho1 ?_
  refine hK.out _ _ ?_
  refine pure_ (i := 19) (N := some 3) (v := .bool false) (a' := ⟨[u0, u1, .pointer (some ⟨b2, 0, none⟩), .bool false, .pointer (some ⟨g, 0, none⟩), .pointer (some ⟨b5, 0, none⟩), u6, u7, u8, u9, u10, u11, u12, u13, u14, u15, u16, u17, u18, u19, u20, u21, u22, u23, u24, u25, u26, u27, u28, u29, u30, u31, u32, u33, u34, u35, u36, u37, u38, u39, u40, u41, u42, u43, u44, u45, u46, u47, u48, u49, u50, u51, u52, u53, u54, u55, u56, u57, u58, u59, u60, u61, u62, u63, u64, u65, u66, u67, u68, u69, u70, u71, u72, u73, u74, u75, u76, u77, u78, u79, u80, u81, u82, u83, .agg cs, .pointer (some ⟨g, 0, none⟩), .pointer (some ⟨g, 0, none⟩), .pointer (some ⟨g, 1, none⟩), .bool true, .bool false, .bool false, undef, undef, undef, undef, undef, undef, .bool false, .bool false, undef, undef, .bool false].toArray, []⟩) (ms 20 20) rfl rfl (by kernel_rfl) (fun _ _ _ h => hP _ _ _ _ _ h) (Or.inl ⟨by rfl, ?_⟩) rfl ?_
  · intro w'
    exact y_assign rfl rfl
  refine done_ (by kernel_rfl) ?_
  exact h
noncomputable def read_left_reg : Code := (Try.f19.body.bind (regionOf 15)).getD .skip
set_option maxRecDepth 1000000 in
set_option maxHeartbeats 4000000 in
/-- Read's last statement. -/
theorem read_left (u0 u1 u3 u6 u7 u8 u9 u10 u11 u12 u13 u14 u15 u16 u17 u18 u19 u20 u21 u22 u23 u24 u25 u26 u27 u28 u29 u30 u31 u32 u33 u34 u35 u36 u37 u38 u39 u40 u41 u42 u43 u44 u45 u46 u47 u48 u49 u50 u51 u52 u53 u54 u55 u56 u57 u58 u59 u60 u61 u62 u63 u64 u65 u66 u67 u68 u69 u70 u71 u72 u73 u74 u75 u76 u77 u78 u79 u80 u81 u82 u83 u84 u85 u86 u87 u88 u89 u90 u91 u92 u93 u94 u95 u96 u97 u98 u99 u100 u101 : Value) (g b5 b2 : Nat) (w : World) (Q : Exit → Act → World → Prop) (cs c0 : Array Value) (A : Option Addr) (n c : Nat) (hP : ∀ x a d v w, Q (.panic x) (a.put (some d) v) w → Q (.panic x) a w) (h5 : w.heap[b5]? = some (.cells cs 47 (0, 0))) (h2 : w.heap[b2]? = some (.cells c0 47 (0, 0))) (hb1 : w.cell? ⟨g, 1, none⟩ = some (.bool false)) (hb0 : w.cell? ⟨g, 0, none⟩ = some (.slice A n c)) (hs : cs.size = 7) (h0 : c0.size = 7) (ho1 : cs.all (·.oneCell') = true) (hz : ((n : Int) == 0) = false)
    (h : Q .normal ⟨[u0, u1, .pointer (some ⟨b2, 0, none⟩), .bool false, .pointer (some ⟨g, 0, none⟩), .pointer (some ⟨b5, 0, none⟩), u6, u7, u8, u9, u10, u11, u12, u13, u14, u15, u16, u17, u18, u19, u20, u21, u22, u23, u24, u25, u26, u27, u28, u29, u30, u31, u32, u33, u34, u35, u36, u37, u38, u39, u40, u41, u42, u43, u44, u45, u46, u47, u48, u49, u50, u51, u52, u53, u54, u55, u56, u57, u58, u59, u60, u61, u62, u63, u64, u65, u66, u67, u68, u69, u70, u71, u72, u73, u74, u75, u76, u77, u78, u79, u80, u81, u82, u83, .agg cs, .pointer (some ⟨g, 0, none⟩), .pointer (some ⟨g, 0, none⟩), .pointer (some ⟨g, 1, none⟩), .bool false, .bool true, .bool true, .pointer (some ⟨g, 0, none⟩), .pointer (some ⟨g, 0, none⟩), .pointer (some ⟨g, 0, none⟩), .slice A n c, .int .i64 n, .bool false, .bool false, .bool false, undef, undef, .bool false].toArray, []⟩ (w.drew.setRow b2 cs)) :
    Code.wp Try.prog read_left_reg Q ⟨[u0, u1, .pointer (some ⟨b2, 0, none⟩), u3, .pointer (some ⟨g, 0, none⟩), .pointer (some ⟨b5, 0, none⟩), u6, u7, u8, u9, u10, u11, u12, u13, u14, u15, u16, u17, u18, u19, u20, u21, u22, u23, u24, u25, u26, u27, u28, u29, u30, u31, u32, u33, u34, u35, u36, u37, u38, u39, u40, u41, u42, u43, u44, u45, u46, u47, u48, u49, u50, u51, u52, u53, u54, u55, u56, u57, u58, u59, u60, u61, u62, u63, u64, u65, u66, u67, u68, u69, u70, u71, u72, u73, u74, u75, u76, u77, u78, u79, u80, u81, u82, u83, u84, u85, u86, u87, u88, u89, u90, u91, u92, u93, u94, u95, u96, u97, u98, u99, u100, u101].toArray, []⟩ w := by
  conv => arg 2; whnf
  have HS1 : ∀ w', Below w.drew.heap.size w.drew w' → w'.heap[b5]? = some (.cells cs 47 (0, 0)) ∧ w'.heap[b2]? = some (.cells c0 47 (0, 0)) ∧ w'.cell? ⟨g, 1, none⟩ = some (.bool false) ∧ w'.cell? ⟨g, 0, none⟩ = some (.slice A n c) := fun w' hb => ⟨blk_below (w := w.drew) h5 hb, blk_below (w := w.drew) h2 hb, pw_cell_below hb hb1, pw_cell_below hb hb0⟩
  refine start_ (n := 20) (S := fun w' => w'.heap[b5]? = some (.cells cs 47 (0, 0)) ∧ w'.heap[b2]? = some (.cells c0 47 (0, 0)) ∧ w'.cell? ⟨g, 1, none⟩ = some (.bool false) ∧ w'.cell? ⟨g, 0, none⟩ = some (.slice A n c)) (ds := [18]) (ms 20 0) (by kernel_rfl) rfl rfl ⟨h5, h2, hb1, hb0⟩ (fun hHeld => ?_)
  refine take_ (i := 0) (N := some 84) (v := .agg cs) (ms 20 1) rfl rfl (by kernel_rfl) (fun _ _ _ h => hP _ _ _ _ _ h) (Or.inl ⟨by rfl, ?_⟩) hHeld rfl ?_
  · rintro w' ⟨q1, q2, q3, q4⟩
    exact y_load47 rfl rfl q1 hs
  refine pure_ (i := 1) (N := some 85) (v := .pointer (some ⟨g, 0, none⟩)) (ms 20 2) rfl rfl (by kernel_rfl) (fun _ _ _ h => hP _ _ _ _ _ h) (Or.inl ⟨by rfl, ?_⟩) rfl ?_
  · intro w'
    exact y_move rfl rfl
  refine pure_ (i := 2) (N := some 86) (v := .pointer (some ⟨g, 0, none⟩)) (ms 20 3) rfl rfl (by kernel_rfl) (fun _ _ _ h => hP _ _ _ _ _ h) (Or.inl ⟨by rfl, ?_⟩) rfl ?_
  · intro w'
    exact y_nil rfl rfl
  refine pure_ (i := 3) (N := some 87) (v := .pointer (some ⟨g, 1, none⟩)) (a' := ⟨[u0, u1, .pointer (some ⟨b2, 0, none⟩), u3, .pointer (some ⟨g, 0, none⟩), .pointer (some ⟨b5, 0, none⟩), u6, u7, u8, u9, u10, u11, u12, u13, u14, u15, u16, u17, u18, u19, u20, u21, u22, u23, u24, u25, u26, u27, u28, u29, u30, u31, u32, u33, u34, u35, u36, u37, u38, u39, u40, u41, u42, u43, u44, u45, u46, u47, u48, u49, u50, u51, u52, u53, u54, u55, u56, u57, u58, u59, u60, u61, u62, u63, u64, u65, u66, u67, u68, u69, u70, u71, u72, u73, u74, u75, u76, u77, u78, u79, u80, u81, u82, u83, .agg cs, .pointer (some ⟨g, 0, none⟩), .pointer (some ⟨g, 0, none⟩), .pointer (some ⟨g, 1, none⟩), u88, u89, u90, u91, u92, u93, u94, u95, u96, u97, u98, u99, u100, u101].toArray, []⟩) (ms 20 4) rfl rfl (by kernel_rfl) (fun _ _ _ h => hP _ _ _ _ _ h) (Or.inl ⟨by rfl, ?_⟩) rfl ?_
  · intro w'
    exact y_f112_1 rfl rfl
  refine take_ (i := 4) (N := some 88) (v := .bool false) (ms 20 5) rfl rfl (by kernel_rfl) (fun _ _ _ h => hP _ _ _ _ _ h) (Or.inl ⟨by rfl, ?_⟩) hHeld rfl ?_
  · rintro w' ⟨q1, q2, q3, q4⟩
    exact y_load4 rfl rfl q3
  refine pure_ (i := 5) (N := some 89) (v := .bool true) (ms 20 6) rfl rfl (by kernel_rfl) (fun _ _ _ h => hP _ _ _ _ _ h) (Or.inl ⟨by rfl, ?_⟩) rfl ?_
  · intro w'
    exact y_not (v := false) rfl rfl
  refine pure_ (i := 6) (N := some 90) (v := .bool true) (ms 20 7) rfl rfl (by kernel_rfl) (fun _ _ _ h => hP _ _ _ _ _ h) (Or.inl ⟨by rfl, ?_⟩) rfl ?_
  · intro w'
    exact y_move rfl rfl
  refine pure_ (i := 7) (N := some 91) (v := .pointer (some ⟨g, 0, none⟩)) (a' := ⟨[u0, u1, .pointer (some ⟨b2, 0, none⟩), u3, .pointer (some ⟨g, 0, none⟩), .pointer (some ⟨b5, 0, none⟩), u6, u7, u8, u9, u10, u11, u12, u13, u14, u15, u16, u17, u18, u19, u20, u21, u22, u23, u24, u25, u26, u27, u28, u29, u30, u31, u32, u33, u34, u35, u36, u37, u38, u39, u40, u41, u42, u43, u44, u45, u46, u47, u48, u49, u50, u51, u52, u53, u54, u55, u56, u57, u58, u59, u60, u61, u62, u63, u64, u65, u66, u67, u68, u69, u70, u71, u72, u73, u74, u75, u76, u77, u78, u79, u80, u81, u82, u83, .agg cs, .pointer (some ⟨g, 0, none⟩), .pointer (some ⟨g, 0, none⟩), .pointer (some ⟨g, 1, none⟩), .bool false, .bool true, .bool true, .pointer (some ⟨g, 0, none⟩), u92, u93, u94, u95, u96, u97, u98, u99, u100, u101].toArray, []⟩) (ms 20 8) rfl rfl (by kernel_rfl) (fun _ _ _ h => hP _ _ _ _ _ h) (Or.inl ⟨by rfl, ?_⟩) rfl ?_
  · intro w'
    exact y_move rfl rfl
  refine pure_ (i := 8) (N := some 92) (v := .pointer (some ⟨g, 0, none⟩)) (ms 20 9) rfl rfl (by kernel_rfl) (fun _ _ _ h => hP _ _ _ _ _ h) (Or.inl ⟨by rfl, ?_⟩) rfl ?_
  · intro w'
    exact y_nil rfl rfl
  refine pure_ (i := 9) (N := some 93) (v := .pointer (some ⟨g, 0, none⟩)) (ms 20 10) rfl rfl (by kernel_rfl) (fun _ _ _ h => hP _ _ _ _ _ h) (Or.inl ⟨by rfl, ?_⟩) rfl ?_
  · intro w'
    exact y_f112_0 rfl rfl
  refine take_ (i := 10) (N := some 94) (v := .slice A n c) (ms 20 11) rfl rfl (by kernel_rfl) (fun _ _ _ h => hP _ _ _ _ _ h) (Or.inl ⟨by rfl, ?_⟩) hHeld rfl ?_
  · rintro w' ⟨q1, q2, q3, q4⟩
    exact y_load43 rfl rfl q4
  refine pure_ (i := 11) (N := some 95) (v := .int .i64 n) (a' := ⟨[u0, u1, .pointer (some ⟨b2, 0, none⟩), u3, .pointer (some ⟨g, 0, none⟩), .pointer (some ⟨b5, 0, none⟩), u6, u7, u8, u9, u10, u11, u12, u13, u14, u15, u16, u17, u18, u19, u20, u21, u22, u23, u24, u25, u26, u27, u28, u29, u30, u31, u32, u33, u34, u35, u36, u37, u38, u39, u40, u41, u42, u43, u44, u45, u46, u47, u48, u49, u50, u51, u52, u53, u54, u55, u56, u57, u58, u59, u60, u61, u62, u63, u64, u65, u66, u67, u68, u69, u70, u71, u72, u73, u74, u75, u76, u77, u78, u79, u80, u81, u82, u83, .agg cs, .pointer (some ⟨g, 0, none⟩), .pointer (some ⟨g, 0, none⟩), .pointer (some ⟨g, 1, none⟩), .bool false, .bool true, .bool true, .pointer (some ⟨g, 0, none⟩), .pointer (some ⟨g, 0, none⟩), .pointer (some ⟨g, 0, none⟩), .slice A n c, .int .i64 n, u96, u97, u98, u99, u100, u101].toArray, []⟩) (ms 20 12) rfl rfl (by kernel_rfl) (fun _ _ _ h => hP _ _ _ _ _ h) (Or.inl ⟨by rfl, ?_⟩) rfl ?_
  · intro w'
    exact y_len43 rfl rfl
  refine pure_ (i := 12) (N := some 96) (v := .bool false) (ms 20 13) rfl rfl (by kernel_rfl) (fun _ _ _ h => hP _ _ _ _ _ h) (Or.inl ⟨by rfl, ?_⟩) rfl ?_
  · intro w'
    exact y_eqz rfl rfl hz
  refine pure_ (i := 13) (N := some 97) (v := .bool false) (ms 20 14) rfl rfl (by kernel_rfl) (fun _ _ _ h => hP _ _ _ _ _ h) (Or.inl ⟨by rfl, ?_⟩) rfl ?_
  · intro w'
    exact y_pick_t rfl rfl rfl
  refine pure_ (i := 14) (N := some 98) (v := .bool false) (ms 20 15) rfl rfl (by kernel_rfl) (fun _ _ _ h => hP _ _ _ _ _ h) (Or.inl ⟨by rfl, ?_⟩) rfl ?_
  · intro w'
    exact y_move rfl rfl
  refine pure_ (i := 15) (N := some 99) (v := undef) (a' := ⟨[u0, u1, .pointer (some ⟨b2, 0, none⟩), u3, .pointer (some ⟨g, 0, none⟩), .pointer (some ⟨b5, 0, none⟩), u6, u7, u8, u9, u10, u11, u12, u13, u14, u15, u16, u17, u18, u19, u20, u21, u22, u23, u24, u25, u26, u27, u28, u29, u30, u31, u32, u33, u34, u35, u36, u37, u38, u39, u40, u41, u42, u43, u44, u45, u46, u47, u48, u49, u50, u51, u52, u53, u54, u55, u56, u57, u58, u59, u60, u61, u62, u63, u64, u65, u66, u67, u68, u69, u70, u71, u72, u73, u74, u75, u76, u77, u78, u79, u80, u81, u82, u83, .agg cs, .pointer (some ⟨g, 0, none⟩), .pointer (some ⟨g, 0, none⟩), .pointer (some ⟨g, 1, none⟩), .bool false, .bool true, .bool true, .pointer (some ⟨g, 0, none⟩), .pointer (some ⟨g, 0, none⟩), .pointer (some ⟨g, 0, none⟩), .slice A n c, .int .i64 n, .bool false, .bool false, .bool false, undef, u100, u101].toArray, []⟩) (ms 20 16) rfl rfl (by kernel_rfl) (fun _ _ _ h => hP _ _ _ _ _ h) (Or.inr ⟨by rfl, rfl⟩) rfl ?_
  refine pure_ (i := 16) (N := some 100) (v := undef) (ms 20 17) rfl rfl (by kernel_rfl) (fun _ _ _ h => hP _ _ _ _ _ h) (Or.inr ⟨by rfl, rfl⟩) rfl ?_
  refine pure_ (i := 17) (N := some 101) (v := .bool false) (a' := ⟨[u0, u1, .pointer (some ⟨b2, 0, none⟩), u3, .pointer (some ⟨g, 0, none⟩), .pointer (some ⟨b5, 0, none⟩), u6, u7, u8, u9, u10, u11, u12, u13, u14, u15, u16, u17, u18, u19, u20, u21, u22, u23, u24, u25, u26, u27, u28, u29, u30, u31, u32, u33, u34, u35, u36, u37, u38, u39, u40, u41, u42, u43, u44, u45, u46, u47, u48, u49, u50, u51, u52, u53, u54, u55, u56, u57, u58, u59, u60, u61, u62, u63, u64, u65, u66, u67, u68, u69, u70, u71, u72, u73, u74, u75, u76, u77, u78, u79, u80, u81, u82, u83, .agg cs, .pointer (some ⟨g, 0, none⟩), .pointer (some ⟨g, 0, none⟩), .pointer (some ⟨g, 1, none⟩), .bool false, .bool true, .bool true, .pointer (some ⟨g, 0, none⟩), .pointer (some ⟨g, 0, none⟩), .pointer (some ⟨g, 0, none⟩), .slice A n c, .int .i64 n, .bool false, .bool false, .bool false, undef, undef, .bool false].toArray, []⟩) (ms 20 18) rfl rfl (by kernel_rfl) (fun _ _ _ h => hP _ _ _ _ _ h) (Or.inl ⟨by rfl, ?_⟩) rfl ?_
  · intro w'
    exact y_pick_f rfl rfl rfl
  refine last_ (i := 18) (N := none) (ms 20 19) rfl rfl (by kernel_rfl) (by decide) (fun K hK => ?_)
  rw [if_pos (by rfl)]
  refine wp_store_row 47 (.tmp 2) (.tmp 84) rfl b2 cs rfl rfl 47 c0 (h2) (by rw [inf47, hs]) (by rw [h0, hs]) ho1 ?_
  refine hK.out _ _ ?_
  refine pure_ (i := 19) (N := some 3) (v := .bool false) (a' := ⟨[u0, u1, .pointer (some ⟨b2, 0, none⟩), .bool false, .pointer (some ⟨g, 0, none⟩), .pointer (some ⟨b5, 0, none⟩), u6, u7, u8, u9, u10, u11, u12, u13, u14, u15, u16, u17, u18, u19, u20, u21, u22, u23, u24, u25, u26, u27, u28, u29, u30, u31, u32, u33, u34, u35, u36, u37, u38, u39, u40, u41, u42, u43, u44, u45, u46, u47, u48, u49, u50, u51, u52, u53, u54, u55, u56, u57, u58, u59, u60, u61, u62, u63, u64, u65, u66, u67, u68, u69, u70, u71, u72, u73, u74, u75, u76, u77, u78, u79, u80, u81, u82, u83, .agg cs, .pointer (some ⟨g, 0, none⟩), .pointer (some ⟨g, 0, none⟩), .pointer (some ⟨g, 1, none⟩), .bool false, .bool true, .bool true, .pointer (some ⟨g, 0, none⟩), .pointer (some ⟨g, 0, none⟩), .pointer (some ⟨g, 0, none⟩), .slice A n c, .int .i64 n, .bool false, .bool false, .bool false, undef, undef, .bool false].toArray, []⟩) (ms 20 20) rfl rfl (by kernel_rfl) (fun _ _ _ h => hP _ _ _ _ _ h) (Or.inl ⟨by rfl, ?_⟩) rfl ?_
  · intro w'
    exact y_assign rfl rfl
  refine done_ (by kernel_rfl) ?_
  exact h
noncomputable def read_may_reg : Code := (Try.f19.body.bind (regionOf 15)).getD .skip
set_option maxRecDepth 1000000 in
set_option maxHeartbeats 4000000 in
/-- Read's last statement. -/
theorem read_may (u0 u1 u3 u6 u7 u8 u9 u10 u11 u12 u13 u14 u15 u16 u17 u18 u19 u20 u21 u22 u23 u24 u25 u26 u27 u28 u29 u30 u31 u32 u33 u34 u35 u36 u37 u38 u39 u40 u41 u42 u43 u44 u45 u46 u47 u48 u49 u50 u51 u52 u53 u54 u55 u56 u57 u58 u59 u60 u61 u62 u63 u64 u65 u66 u67 u68 u69 u70 u71 u72 u73 u74 u75 u76 u77 u78 u79 u80 u81 u82 u83 u84 u85 u86 u87 u88 u89 u90 u91 u92 u93 u94 u95 u96 u97 u98 u99 u100 u101 : Value) (g b5 b2 : Nat) (w : World) (Q : Exit → Act → World → Prop) (cs c0 : Array Value) (A : Option Addr) (n c : Nat) (hP : ∀ x a d v w, Q (.panic x) (a.put (some d) v) w → Q (.panic x) a w) (h5 : w.heap[b5]? = some (.cells cs 47 (0, 0))) (h2 : w.heap[b2]? = some (.cells c0 47 (0, 0))) (hb1 : w.cell? ⟨g, 1, none⟩ = some (.bool false)) (hb0 : w.cell? ⟨g, 0, none⟩ = some (.slice A n c)) (hs : cs.size = 7) (h0 : c0.size = 7) (ho1 : cs.all (·.oneCell') = true) (hz : ((n : Int) == 0) = true) (R : Bool → Prop) (hcall : ∀ w', Below w.drew.heap.size w.drew w' → Calls Try.prog 30 #[.agg cs] w' fun e w'' => ∃ bb, e = .returned (.bool bb) ∧ R bb ∧ Below w'.heap.size w' w'')
    (h : ∀ w1 bb, R bb → Below w.drew.heap.size w.drew w1 → Q .normal ⟨[u0, u1, .pointer (some ⟨b2, 0, none⟩), .bool bb, .pointer (some ⟨g, 0, none⟩), .pointer (some ⟨b5, 0, none⟩), u6, u7, u8, u9, u10, u11, u12, u13, u14, u15, u16, u17, u18, u19, u20, u21, u22, u23, u24, u25, u26, u27, u28, u29, u30, u31, u32, u33, u34, u35, u36, u37, u38, u39, u40, u41, u42, u43, u44, u45, u46, u47, u48, u49, u50, u51, u52, u53, u54, u55, u56, u57, u58, u59, u60, u61, u62, u63, u64, u65, u66, u67, u68, u69, u70, u71, u72, u73, u74, u75, u76, u77, u78, u79, u80, u81, u82, u83, .agg cs, .pointer (some ⟨g, 0, none⟩), .pointer (some ⟨g, 0, none⟩), .pointer (some ⟨g, 1, none⟩), .bool false, .bool true, .bool true, .pointer (some ⟨g, 0, none⟩), .pointer (some ⟨g, 0, none⟩), .pointer (some ⟨g, 0, none⟩), .slice A n c, .int .i64 n, .bool true, .bool true, .bool true, .agg cs, .bool bb, .bool bb].toArray, []⟩ (w1.setRow b2 cs)) :
    Code.wp Try.prog read_may_reg Q ⟨[u0, u1, .pointer (some ⟨b2, 0, none⟩), u3, .pointer (some ⟨g, 0, none⟩), .pointer (some ⟨b5, 0, none⟩), u6, u7, u8, u9, u10, u11, u12, u13, u14, u15, u16, u17, u18, u19, u20, u21, u22, u23, u24, u25, u26, u27, u28, u29, u30, u31, u32, u33, u34, u35, u36, u37, u38, u39, u40, u41, u42, u43, u44, u45, u46, u47, u48, u49, u50, u51, u52, u53, u54, u55, u56, u57, u58, u59, u60, u61, u62, u63, u64, u65, u66, u67, u68, u69, u70, u71, u72, u73, u74, u75, u76, u77, u78, u79, u80, u81, u82, u83, u84, u85, u86, u87, u88, u89, u90, u91, u92, u93, u94, u95, u96, u97, u98, u99, u100, u101].toArray, []⟩ w := by
  conv => arg 2; whnf
  have HS1 : ∀ w', Below w.drew.heap.size w.drew w' → w'.heap[b5]? = some (.cells cs 47 (0, 0)) ∧ w'.heap[b2]? = some (.cells c0 47 (0, 0)) ∧ w'.cell? ⟨g, 1, none⟩ = some (.bool false) ∧ w'.cell? ⟨g, 0, none⟩ = some (.slice A n c) := fun w' hb => ⟨blk_below (w := w.drew) h5 hb, blk_below (w := w.drew) h2 hb, pw_cell_below hb hb1, pw_cell_below hb hb0⟩
  refine start_ (n := 20) (S := fun w' => w'.heap[b5]? = some (.cells cs 47 (0, 0)) ∧ w'.heap[b2]? = some (.cells c0 47 (0, 0)) ∧ w'.cell? ⟨g, 1, none⟩ = some (.bool false) ∧ w'.cell? ⟨g, 0, none⟩ = some (.slice A n c)) (ds := [18]) (ms 20 0) (by kernel_rfl) rfl rfl ⟨h5, h2, hb1, hb0⟩ (fun hHeld => ?_)
  refine take_ (i := 0) (N := some 84) (v := .agg cs) (ms 20 1) rfl rfl (by kernel_rfl) (fun _ _ _ h => hP _ _ _ _ _ h) (Or.inl ⟨by rfl, ?_⟩) hHeld rfl ?_
  · rintro w' ⟨q1, q2, q3, q4⟩
    exact y_load47 rfl rfl q1 hs
  refine pure_ (i := 1) (N := some 85) (v := .pointer (some ⟨g, 0, none⟩)) (ms 20 2) rfl rfl (by kernel_rfl) (fun _ _ _ h => hP _ _ _ _ _ h) (Or.inl ⟨by rfl, ?_⟩) rfl ?_
  · intro w'
    exact y_move rfl rfl
  refine pure_ (i := 2) (N := some 86) (v := .pointer (some ⟨g, 0, none⟩)) (ms 20 3) rfl rfl (by kernel_rfl) (fun _ _ _ h => hP _ _ _ _ _ h) (Or.inl ⟨by rfl, ?_⟩) rfl ?_
  · intro w'
    exact y_nil rfl rfl
  refine pure_ (i := 3) (N := some 87) (v := .pointer (some ⟨g, 1, none⟩)) (a' := ⟨[u0, u1, .pointer (some ⟨b2, 0, none⟩), u3, .pointer (some ⟨g, 0, none⟩), .pointer (some ⟨b5, 0, none⟩), u6, u7, u8, u9, u10, u11, u12, u13, u14, u15, u16, u17, u18, u19, u20, u21, u22, u23, u24, u25, u26, u27, u28, u29, u30, u31, u32, u33, u34, u35, u36, u37, u38, u39, u40, u41, u42, u43, u44, u45, u46, u47, u48, u49, u50, u51, u52, u53, u54, u55, u56, u57, u58, u59, u60, u61, u62, u63, u64, u65, u66, u67, u68, u69, u70, u71, u72, u73, u74, u75, u76, u77, u78, u79, u80, u81, u82, u83, .agg cs, .pointer (some ⟨g, 0, none⟩), .pointer (some ⟨g, 0, none⟩), .pointer (some ⟨g, 1, none⟩), u88, u89, u90, u91, u92, u93, u94, u95, u96, u97, u98, u99, u100, u101].toArray, []⟩) (ms 20 4) rfl rfl (by kernel_rfl) (fun _ _ _ h => hP _ _ _ _ _ h) (Or.inl ⟨by rfl, ?_⟩) rfl ?_
  · intro w'
    exact y_f112_1 rfl rfl
  refine take_ (i := 4) (N := some 88) (v := .bool false) (ms 20 5) rfl rfl (by kernel_rfl) (fun _ _ _ h => hP _ _ _ _ _ h) (Or.inl ⟨by rfl, ?_⟩) hHeld rfl ?_
  · rintro w' ⟨q1, q2, q3, q4⟩
    exact y_load4 rfl rfl q3
  refine pure_ (i := 5) (N := some 89) (v := .bool true) (ms 20 6) rfl rfl (by kernel_rfl) (fun _ _ _ h => hP _ _ _ _ _ h) (Or.inl ⟨by rfl, ?_⟩) rfl ?_
  · intro w'
    exact y_not (v := false) rfl rfl
  refine pure_ (i := 6) (N := some 90) (v := .bool true) (ms 20 7) rfl rfl (by kernel_rfl) (fun _ _ _ h => hP _ _ _ _ _ h) (Or.inl ⟨by rfl, ?_⟩) rfl ?_
  · intro w'
    exact y_move rfl rfl
  refine pure_ (i := 7) (N := some 91) (v := .pointer (some ⟨g, 0, none⟩)) (a' := ⟨[u0, u1, .pointer (some ⟨b2, 0, none⟩), u3, .pointer (some ⟨g, 0, none⟩), .pointer (some ⟨b5, 0, none⟩), u6, u7, u8, u9, u10, u11, u12, u13, u14, u15, u16, u17, u18, u19, u20, u21, u22, u23, u24, u25, u26, u27, u28, u29, u30, u31, u32, u33, u34, u35, u36, u37, u38, u39, u40, u41, u42, u43, u44, u45, u46, u47, u48, u49, u50, u51, u52, u53, u54, u55, u56, u57, u58, u59, u60, u61, u62, u63, u64, u65, u66, u67, u68, u69, u70, u71, u72, u73, u74, u75, u76, u77, u78, u79, u80, u81, u82, u83, .agg cs, .pointer (some ⟨g, 0, none⟩), .pointer (some ⟨g, 0, none⟩), .pointer (some ⟨g, 1, none⟩), .bool false, .bool true, .bool true, .pointer (some ⟨g, 0, none⟩), u92, u93, u94, u95, u96, u97, u98, u99, u100, u101].toArray, []⟩) (ms 20 8) rfl rfl (by kernel_rfl) (fun _ _ _ h => hP _ _ _ _ _ h) (Or.inl ⟨by rfl, ?_⟩) rfl ?_
  · intro w'
    exact y_move rfl rfl
  refine pure_ (i := 8) (N := some 92) (v := .pointer (some ⟨g, 0, none⟩)) (ms 20 9) rfl rfl (by kernel_rfl) (fun _ _ _ h => hP _ _ _ _ _ h) (Or.inl ⟨by rfl, ?_⟩) rfl ?_
  · intro w'
    exact y_nil rfl rfl
  refine pure_ (i := 9) (N := some 93) (v := .pointer (some ⟨g, 0, none⟩)) (ms 20 10) rfl rfl (by kernel_rfl) (fun _ _ _ h => hP _ _ _ _ _ h) (Or.inl ⟨by rfl, ?_⟩) rfl ?_
  · intro w'
    exact y_f112_0 rfl rfl
  refine take_ (i := 10) (N := some 94) (v := .slice A n c) (ms 20 11) rfl rfl (by kernel_rfl) (fun _ _ _ h => hP _ _ _ _ _ h) (Or.inl ⟨by rfl, ?_⟩) hHeld rfl ?_
  · rintro w' ⟨q1, q2, q3, q4⟩
    exact y_load43 rfl rfl q4
  refine pure_ (i := 11) (N := some 95) (v := .int .i64 n) (a' := ⟨[u0, u1, .pointer (some ⟨b2, 0, none⟩), u3, .pointer (some ⟨g, 0, none⟩), .pointer (some ⟨b5, 0, none⟩), u6, u7, u8, u9, u10, u11, u12, u13, u14, u15, u16, u17, u18, u19, u20, u21, u22, u23, u24, u25, u26, u27, u28, u29, u30, u31, u32, u33, u34, u35, u36, u37, u38, u39, u40, u41, u42, u43, u44, u45, u46, u47, u48, u49, u50, u51, u52, u53, u54, u55, u56, u57, u58, u59, u60, u61, u62, u63, u64, u65, u66, u67, u68, u69, u70, u71, u72, u73, u74, u75, u76, u77, u78, u79, u80, u81, u82, u83, .agg cs, .pointer (some ⟨g, 0, none⟩), .pointer (some ⟨g, 0, none⟩), .pointer (some ⟨g, 1, none⟩), .bool false, .bool true, .bool true, .pointer (some ⟨g, 0, none⟩), .pointer (some ⟨g, 0, none⟩), .pointer (some ⟨g, 0, none⟩), .slice A n c, .int .i64 n, u96, u97, u98, u99, u100, u101].toArray, []⟩) (ms 20 12) rfl rfl (by kernel_rfl) (fun _ _ _ h => hP _ _ _ _ _ h) (Or.inl ⟨by rfl, ?_⟩) rfl ?_
  · intro w'
    exact y_len43 rfl rfl
  refine pure_ (i := 12) (N := some 96) (v := .bool true) (ms 20 13) rfl rfl (by kernel_rfl) (fun _ _ _ h => hP _ _ _ _ _ h) (Or.inl ⟨by rfl, ?_⟩) rfl ?_
  · intro w'
    exact y_eqz rfl rfl hz
  refine pure_ (i := 13) (N := some 97) (v := .bool true) (ms 20 14) rfl rfl (by kernel_rfl) (fun _ _ _ h => hP _ _ _ _ _ h) (Or.inl ⟨by rfl, ?_⟩) rfl ?_
  · intro w'
    exact y_pick_t rfl rfl rfl
  refine pure_ (i := 14) (N := some 98) (v := .bool true) (ms 20 15) rfl rfl (by kernel_rfl) (fun _ _ _ h => hP _ _ _ _ _ h) (Or.inl ⟨by rfl, ?_⟩) rfl ?_
  · intro w'
    exact y_move rfl rfl
  refine take_ (i := 15) (N := some 99) (v := .agg cs) (a' := ⟨[u0, u1, .pointer (some ⟨b2, 0, none⟩), u3, .pointer (some ⟨g, 0, none⟩), .pointer (some ⟨b5, 0, none⟩), u6, u7, u8, u9, u10, u11, u12, u13, u14, u15, u16, u17, u18, u19, u20, u21, u22, u23, u24, u25, u26, u27, u28, u29, u30, u31, u32, u33, u34, u35, u36, u37, u38, u39, u40, u41, u42, u43, u44, u45, u46, u47, u48, u49, u50, u51, u52, u53, u54, u55, u56, u57, u58, u59, u60, u61, u62, u63, u64, u65, u66, u67, u68, u69, u70, u71, u72, u73, u74, u75, u76, u77, u78, u79, u80, u81, u82, u83, .agg cs, .pointer (some ⟨g, 0, none⟩), .pointer (some ⟨g, 0, none⟩), .pointer (some ⟨g, 1, none⟩), .bool false, .bool true, .bool true, .pointer (some ⟨g, 0, none⟩), .pointer (some ⟨g, 0, none⟩), .pointer (some ⟨g, 0, none⟩), .slice A n c, .int .i64 n, .bool true, .bool true, .bool true, .agg cs, u100, u101].toArray, []⟩) (ms 20 16) rfl rfl (by kernel_rfl) (fun _ _ _ h => hP _ _ _ _ _ h) (Or.inl ⟨by rfl, ?_⟩) hHeld rfl ?_
  · rintro w' ⟨q1, q2, q3, q4⟩
    exact y_load47 rfl rfl q1 hs
  refine one_ (i := 16) (N := some 100) (ms 20 17) rfl rfl (by kernel_rfl) (by decide) (fun K hK => ?_)
  refine goes_ Try.func30 (by kernel_rfl) rfl #[.agg cs] (by rfl) rfl rfl (by (try simp only [List.map_toArray, List.map_cons, List.map_nil]); first | done | rfl) ?_
  refine (hcall w.drew (Below.refl _ _)).mono ?_
  rintro e w1 ⟨bb, rfl, hbb, hb⟩
  have hB1 : Below w.drew.heap.size w.drew w1 := hb
  refine ⟨_, rfl, hK.out _ _ ?_ ?_⟩
  · exact HS1 _ hB1
  intro hHeld1
  replace hHeld := hHeld1
  refine wpAnyLast_eq (a' := ⟨[u0, u1, .pointer (some ⟨b2, 0, none⟩), u3, .pointer (some ⟨g, 0, none⟩), .pointer (some ⟨b5, 0, none⟩), u6, u7, u8, u9, u10, u11, u12, u13, u14, u15, u16, u17, u18, u19, u20, u21, u22, u23, u24, u25, u26, u27, u28, u29, u30, u31, u32, u33, u34, u35, u36, u37, u38, u39, u40, u41, u42, u43, u44, u45, u46, u47, u48, u49, u50, u51, u52, u53, u54, u55, u56, u57, u58, u59, u60, u61, u62, u63, u64, u65, u66, u67, u68, u69, u70, u71, u72, u73, u74, u75, u76, u77, u78, u79, u80, u81, u82, u83, .agg cs, .pointer (some ⟨g, 0, none⟩), .pointer (some ⟨g, 0, none⟩), .pointer (some ⟨g, 1, none⟩), .bool false, .bool true, .bool true, .pointer (some ⟨g, 0, none⟩), .pointer (some ⟨g, 0, none⟩), .pointer (some ⟨g, 0, none⟩), .slice A n c, .int .i64 n, .bool true, .bool true, .bool true, .agg cs, .bool bb, u101].toArray, []⟩) rfl ?_
  refine pure_ (i := 17) (N := some 101) (v := .bool bb) (a' := ⟨[u0, u1, .pointer (some ⟨b2, 0, none⟩), u3, .pointer (some ⟨g, 0, none⟩), .pointer (some ⟨b5, 0, none⟩), u6, u7, u8, u9, u10, u11, u12, u13, u14, u15, u16, u17, u18, u19, u20, u21, u22, u23, u24, u25, u26, u27, u28, u29, u30, u31, u32, u33, u34, u35, u36, u37, u38, u39, u40, u41, u42, u43, u44, u45, u46, u47, u48, u49, u50, u51, u52, u53, u54, u55, u56, u57, u58, u59, u60, u61, u62, u63, u64, u65, u66, u67, u68, u69, u70, u71, u72, u73, u74, u75, u76, u77, u78, u79, u80, u81, u82, u83, .agg cs, .pointer (some ⟨g, 0, none⟩), .pointer (some ⟨g, 0, none⟩), .pointer (some ⟨g, 1, none⟩), .bool false, .bool true, .bool true, .pointer (some ⟨g, 0, none⟩), .pointer (some ⟨g, 0, none⟩), .pointer (some ⟨g, 0, none⟩), .slice A n c, .int .i64 n, .bool true, .bool true, .bool true, .agg cs, .bool bb, .bool bb].toArray, []⟩) (ms 20 18) rfl rfl (by kernel_rfl) (fun _ _ _ h => hP _ _ _ _ _ h) (Or.inl ⟨by rfl, ?_⟩) rfl ?_
  · intro w'
    exact y_pick_t rfl rfl rfl
  refine last_ (i := 18) (N := none) (ms 20 19) rfl rfl (by kernel_rfl) (by decide) (fun K hK => ?_)
  rw [if_pos (by rfl)]
  refine wp_store_row 47 (.tmp 2) (.tmp 84) rfl b2 cs rfl rfl 47 c0 (hHeld.2.1) (by rw [inf47, hs]) (by rw [h0, hs]) ho1 ?_
  refine hK.out _ _ ?_
  refine pure_ (i := 19) (N := some 3) (v := .bool bb) (a' := ⟨[u0, u1, .pointer (some ⟨b2, 0, none⟩), .bool bb, .pointer (some ⟨g, 0, none⟩), .pointer (some ⟨b5, 0, none⟩), u6, u7, u8, u9, u10, u11, u12, u13, u14, u15, u16, u17, u18, u19, u20, u21, u22, u23, u24, u25, u26, u27, u28, u29, u30, u31, u32, u33, u34, u35, u36, u37, u38, u39, u40, u41, u42, u43, u44, u45, u46, u47, u48, u49, u50, u51, u52, u53, u54, u55, u56, u57, u58, u59, u60, u61, u62, u63, u64, u65, u66, u67, u68, u69, u70, u71, u72, u73, u74, u75, u76, u77, u78, u79, u80, u81, u82, u83, .agg cs, .pointer (some ⟨g, 0, none⟩), .pointer (some ⟨g, 0, none⟩), .pointer (some ⟨g, 1, none⟩), .bool false, .bool true, .bool true, .pointer (some ⟨g, 0, none⟩), .pointer (some ⟨g, 0, none⟩), .pointer (some ⟨g, 0, none⟩), .slice A n c, .int .i64 n, .bool true, .bool true, .bool true, .agg cs, .bool bb, .bool bb].toArray, []⟩) (ms 20 20) rfl rfl (by kernel_rfl) (fun _ _ _ h => hP _ _ _ _ _ h) (Or.inl ⟨by rfl, ?_⟩) rfl ?_
  · intro w'
    exact y_assign rfl rfl
  refine done_ (by kernel_rfl) ?_
  exact h w1 bb hbb hB1

end Go.Proofs.Ytfanbhbpmhojaaa
