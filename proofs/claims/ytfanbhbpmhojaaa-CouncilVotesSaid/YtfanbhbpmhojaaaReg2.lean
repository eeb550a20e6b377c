/- Statements whose order is open, each as a theorem of its own: of won, elect, Tick. No conditions beyond those typed. Printed by wip/tools/mkco7.py. -/
import Derived.Test.YtfanbhbpmhojaaaReg
namespace Go.Proofs.Ytfanbhbpmhojaaa
open Go.RowKit Go.Proofs.YtfanbhbpmhojaaaW.PrintWords Go.Proofs.YtfanbhbpmhojaaaW.PrintLast Go.Proofs.YtfanbhbpmhojaaaW.PrintMore PRef
set_option linter.unusedVariables false
set_option linter.unusedSimpArgs false
section
variable {a : Act} {o1 : Oper} {w : World}
theorem y_st3 {x y : Operand} {b i : Nat} {v : Int} (ho : o1.op = .store 3 x y) (hx : a.eval x = .pointer (some ⟨b, i, none⟩)) (hy : a.eval y = .int .i64 v) (hc : ∃ u, w.cell? ⟨b, i, none⟩ = some u) (hf : w.frozen? ⟨b, i, none⟩ = false) : (execOp a.eval o1).run Try.prog w = .ok .skip (w.setCell ⟨b, i, none⟩ (.int .i64 v)) := by
  have hu := Try.underlying3
  obtain ⟨u, hc⟩ := hc
  unfold execOp
  simp only [ho, hx, hy]
  go_simp
theorem y_st4 {x y : Operand} {b i : Nat} {v : Bool} (ho : o1.op = .store 4 x y) (hx : a.eval x = .pointer (some ⟨b, i, none⟩)) (hy : a.eval y = .bool v) (hc : ∃ u, w.cell? ⟨b, i, none⟩ = some u) (hf : w.frozen? ⟨b, i, none⟩ = false) : (execOp a.eval o1).run Try.prog w = .ok .skip (w.setCell ⟨b, i, none⟩ (.bool v)) := by
  have hu := Try.underlying4
  obtain ⟨u, hc⟩ := hc
  unfold execOp
  simp only [ho, hx, hy]
  go_simp
theorem y_index91 {x y : Operand} {b o j : Nat} (ho : o1.op = .indexAddr 91 x y) (hx : a.eval x = .pointer (some ⟨b, o, none⟩)) (hy : a.eval y = .int .i64 (j : Int)) (hj : j < 7) : (execOp a.eval o1).run Try.prog w = .ok (.value (.pointer (some ⟨b, o + j, none⟩))) w := by
  have hu := Try.underlying91
  unfold execOp
  simp only [ho, hx, hy]
  go_simp
  intro h7
  omega
theorem y_index92 {x y : Operand} {b o j : Nat} (ho : o1.op = .indexAddr 92 x y) (hx : a.eval x = .pointer (some ⟨b, o, none⟩)) (hy : a.eval y = .int .i64 (j : Int)) (hj : j < 7) : (execOp a.eval o1).run Try.prog w = .ok (.value (.pointer (some ⟨b, o + j, none⟩))) w := by
  have hu := Try.underlying92
  unfold execOp
  simp only [ho, hx, hy]
  go_simp
  intro h7
  omega
theorem y_geqc {x : Operand} {n k : Int} (ho : o1.op = .binOp .geq 3 x (.const (.int .i64 k)) 3) (hx : a.eval x = .int .i64 n) (hn : decide (k ≤ n) = false) : (execOp a.eval o1).run Try.prog w = .ok (.value (.bool false)) w := by
  have hu3 := Try.underlying3
  unfold execOp
  simp only [ho, hx]
  go_simp
theorem y_geq {x y : Operand} {n k : Int} (ho : o1.op = .binOp .geq 3 x y 3) (hx : a.eval x = .int .i64 n) (hy : a.eval y = .int .i64 k) (hn : decide (k ≤ n) = true) : (execOp a.eval o1).run Try.prog w = .ok (.value (.bool true)) w := by
  have hu3 := Try.underlying3
  unfold execOp
  simp only [ho, hx, hy]
  go_simp
theorem y_addc {x : Operand} {m k r : Int} (ho : o1.op = .binOp .add 3 x (.const (.int .i64 k)) 3) (hx : a.eval x = .int .i64 m) (hr : IntKind.i64.wrap (m + k) = r) : (execOp a.eval o1).run Try.prog w = .ok (.value (.int .i64 r)) w := by
  have hu := Try.underlying3
  unfold execOp
  simp only [ho, hx]
  go_simp
theorem y_cadd {x : Operand} {m k r : Int} (ho : o1.op = .binOp .add 3 (.const (.int .i64 k)) x 3) (hx : a.eval x = .int .i64 m) (hr : IntKind.i64.wrap (k + m) = r) : (execOp a.eval o1).run Try.prog w = .ok (.value (.int .i64 r)) w := by
  have hu := Try.underlying3
  unfold execOp
  simp only [ho, hx]
  go_simp
theorem y_cmul {x : Operand} {m k r : Int} (ho : o1.op = .binOp .mul 3 (.const (.int .i64 k)) x 3) (hx : a.eval x = .int .i64 m) (hr : IntKind.i64.wrap (k * m) = r) : (execOp a.eval o1).run Try.prog w = .ok (.value (.int .i64 r)) w := by
  have hu := Try.underlying3
  unfold execOp
  simp only [ho, hx]
  go_simp
theorem y_build39 {s : Tmp} {i : Int} (ho : o1.op = .build 39 #[(0, .tmp s)]) (hx : a.eval (.tmp s) = .int .i64 i) : (execOp a.eval o1).run Try.prog w = .ok (.value (.agg #[.int .i64 i, .int .i64 0, .string ⟨#[]⟩])) w := by
  have hu2 := Try.underlying39
  have hx' : a.tmps[s]?.getD undef = .int .i64 i := by unfold Act.eval at hx; simpa using hx
  unfold execOp
  simp only [ho]
  go_simp
end
theorem some_set {w : World} {p q : Addr} {v : Value} (h : ∃ u, w.cell? p = some u) : ∃ u, (w.setCell q v).cell? p = some u := by
  have := World.isSome_setCells q.block [v] q.off w p
  obtain ⟨u, hu⟩ := h
  by_cases hp : q = p
  · subst hp
    exact ⟨v, World.cell?_setCell_same' w q v (by rw [hu]; rfl)⟩
  · exact ⟨u, (World.cell?_setCell_other w q p v hp).trans hu⟩
theorem frozen_set {w : World} {p q : Addr} {v : Value} (h : w.frozen? p = false) : (w.setCell q v).frozen? p = false := by
  simpa using h

noncomputable def won_first_reg : Code := (Try.f83.body.bind (regionOf 1)).getD .skip
set_option maxRecDepth 1000000 in
set_option maxHeartbeats 4000000 in
/-- won's test: a majority. -/
theorem won_first (u0 u2 u3 u4 u5 u6 u7 u8 u9 u10 u11 u12 u13 u14 u15 u16 u17 u18 u19 u20 u21 u22 u23 u24 u25 u26 u27 u28 u29 u30 u31 u32 u33 u34 u35 u36 u37 u38 u39 u40 u41 u42 u43 u44 u45 u46 u47 u48 u49 u50 u51 u52 u53 : Value) (g b1 : Nat) (w : World) (Q : Exit → Act → World → Prop) (A : Option Addr) (n cap : Nat) (k : Int) (hP : ∀ x a d v w, Q (.panic x) (a.put (some d) v) w → Q (.panic x) a w) (hp : w.cell? ⟨b1, 0, none⟩ = some (.pointer (some ⟨g, 0, none⟩))) (c7 : w.cell? ⟨g, 7, none⟩ = some (.slice A n cap)) (hn : decide ((4096 : Int) ≤ (n : Int)) = false) (hc1 : ∀ w', Below w.drew.heap.size w.drew w' → Calls Try.prog 102 #[.pointer (some ⟨g, 0, none⟩), .func (.func 104) #[] #[.pointer (some ⟨b1, 0, none⟩)]] w' fun e w'' => e = .returned (.int .i64 k) ∧ Below w'.heap.size w' w'') (hc2 : ∀ w', Below w.drew.heap.size w.drew w' → Calls Try.prog 101 #[.pointer (some ⟨g, 0, none⟩), .int .i64 k] w' fun e w'' => e = .returned (.bool true) ∧ Below w'.heap.size w' w'')
    (h : ∀ w2, Below w.drew.heap.size w.drew w2 → Q .normal ⟨[u0, .pointer (some ⟨b1, 0, none⟩), u2, .pointer (some ⟨g, 0, none⟩), .pointer (some ⟨g, 0, none⟩), .pointer (some ⟨g, 7, none⟩), .slice A n cap, .int .i64 n, .bool false, .bool false, .pointer (some ⟨g, 0, none⟩), .pointer (some ⟨g, 0, none⟩), .func (.func 104) #[] #[.pointer (some ⟨b1, 0, none⟩)], .int .i64 k, .bool true, .bool false, .bool false, u17, u18, u19, u20, u21, u22, u23, u24, u25, u26, u27, u28, u29, u30, u31, u32, u33, u34, u35, u36, u37, u38, u39, u40, u41, u42, u43, u44, u45, u46, u47, u48, u49, u50, u51, u52, u53].toArray, []⟩ w2) :
    Code.wp Try.prog won_first_reg Q ⟨[u0, .pointer (some ⟨b1, 0, none⟩), u2, u3, u4, u5, u6, u7, u8, u9, u10, u11, u12, u13, u14, u15, u16, u17, u18, u19, u20, u21, u22, u23, u24, u25, u26, u27, u28, u29, u30, u31, u32, u33, u34, u35, u36, u37, u38, u39, u40, u41, u42, u43, u44, u45, u46, u47, u48, u49, u50, u51, u52, u53].toArray, []⟩ w := by
  conv => arg 2; whnf
  have HS1 : ∀ w', Below w.drew.heap.size w.drew w' → w'.cell? ⟨b1, 0, none⟩ = some (.pointer (some ⟨g, 0, none⟩)) ∧ w'.cell? ⟨g, 7, none⟩ = some (.slice A n cap) := fun w' hb => ⟨pw_cell_below hb hp, pw_cell_below hb c7⟩
  refine start_ (n := 14) (S := fun w' => w'.cell? ⟨b1, 0, none⟩ = some (.pointer (some ⟨g, 0, none⟩)) ∧ w'.cell? ⟨g, 7, none⟩ = some (.slice A n cap)) (ds := []) (ms 14 0) (by kernel_rfl) rfl rfl ⟨hp, c7⟩ (fun hHeld => ?_)
  refine take_ (i := 0) (N := some 3) (v := .pointer (some ⟨g, 0, none⟩)) (ms 14 1) rfl rfl (by kernel_rfl) (fun _ _ _ h => hP _ _ _ _ _ h) (Or.inl ⟨by rfl, ?_⟩) hHeld rfl ?_
  · rintro w' ⟨q1, q2⟩
    exact y_load24 rfl rfl q1
  refine pure_ (i := 1) (N := some 4) (v := .pointer (some ⟨g, 0, none⟩)) (ms 14 2) rfl rfl (by kernel_rfl) (fun _ _ _ h => hP _ _ _ _ _ h) (Or.inl ⟨by rfl, ?_⟩) rfl ?_
  · intro w'
    exact y_nil rfl rfl
  refine pure_ (i := 2) (N := some 5) (v := .pointer (some ⟨g, 7, none⟩)) (ms 14 3) rfl rfl (by kernel_rfl) (fun _ _ _ h => hP _ _ _ _ _ h) (Or.inl ⟨by rfl, ?_⟩) rfl ?_
  · intro w'
    exact y_f94_4 rfl rfl
  refine take_ (i := 3) (N := some 6) (v := .slice A n cap) (a' := ⟨[u0, .pointer (some ⟨b1, 0, none⟩), u2, .pointer (some ⟨g, 0, none⟩), .pointer (some ⟨g, 0, none⟩), .pointer (some ⟨g, 7, none⟩), .slice A n cap, u7, u8, u9, u10, u11, u12, u13, u14, u15, u16, u17, u18, u19, u20, u21, u22, u23, u24, u25, u26, u27, u28, u29, u30, u31, u32, u33, u34, u35, u36, u37, u38, u39, u40, u41, u42, u43, u44, u45, u46, u47, u48, u49, u50, u51, u52, u53].toArray, []⟩) (ms 14 4) rfl rfl (by kernel_rfl) (fun _ _ _ h => hP _ _ _ _ _ h) (Or.inl ⟨by rfl, ?_⟩) hHeld rfl ?_
  · rintro w' ⟨q1, q2⟩
    exact y_load45 rfl rfl q2
  refine pure_ (i := 4) (N := some 7) (v := .int .i64 n) (ms 14 5) rfl rfl (by kernel_rfl) (fun _ _ _ h => hP _ _ _ _ _ h) (Or.inl ⟨by rfl, ?_⟩) rfl ?_
  · intro w'
    exact y_len45 rfl rfl
  refine pure_ (i := 5) (N := some 8) (v := .bool false) (ms 14 6) rfl rfl (by kernel_rfl) (fun _ _ _ h => hP _ _ _ _ _ h) (Or.inl ⟨by rfl, ?_⟩) rfl ?_
  · intro w'
    exact y_geqc rfl rfl hn
  refine pure_ (i := 6) (N := some 9) (v := .bool false) (ms 14 7) rfl rfl (by kernel_rfl) (fun _ _ _ h => hP _ _ _ _ _ h) (Or.inl ⟨by rfl, ?_⟩) rfl ?_
  · intro w'
    exact y_move rfl rfl
  refine take_ (i := 7) (N := some 10) (v := .pointer (some ⟨g, 0, none⟩)) (a' := ⟨[u0, .pointer (some ⟨b1, 0, none⟩), u2, .pointer (some ⟨g, 0, none⟩), .pointer (some ⟨g, 0, none⟩), .pointer (some ⟨g, 7, none⟩), .slice A n cap, .int .i64 n, .bool false, .bool false, .pointer (some ⟨g, 0, none⟩), u11, u12, u13, u14, u15, u16, u17, u18, u19, u20, u21, u22, u23, u24, u25, u26, u27, u28, u29, u30, u31, u32, u33, u34, u35, u36, u37, u38, u39, u40, u41, u42, u43, u44, u45, u46, u47, u48, u49, u50, u51, u52, u53].toArray, []⟩) (ms 14 8) rfl rfl (by kernel_rfl) (fun _ _ _ h => hP _ _ _ _ _ h) (Or.inl ⟨by rfl, ?_⟩) hHeld rfl ?_
  · rintro w' ⟨q1, q2⟩
    exact y_load24 rfl rfl q1
  refine take_ (i := 8) (N := some 11) (v := .pointer (some ⟨g, 0, none⟩)) (ms 14 9) rfl rfl (by kernel_rfl) (fun _ _ _ h => hP _ _ _ _ _ h) (Or.inl ⟨by rfl, ?_⟩) hHeld rfl ?_
  · rintro w' ⟨q1, q2⟩
    exact y_load24 rfl rfl q1
  refine pure_ (i := 9) (N := some 12) (v := .func (.func 104) #[] #[.pointer (some ⟨b1, 0, none⟩)]) (a' := ⟨[u0, .pointer (some ⟨b1, 0, none⟩), u2, .pointer (some ⟨g, 0, none⟩), .pointer (some ⟨g, 0, none⟩), .pointer (some ⟨g, 7, none⟩), .slice A n cap, .int .i64 n, .bool false, .bool false, .pointer (some ⟨g, 0, none⟩), .pointer (some ⟨g, 0, none⟩), .func (.func 104) #[] #[.pointer (some ⟨b1, 0, none⟩)], u13, u14, u15, u16, u17, u18, u19, u20, u21, u22, u23, u24, u25, u26, u27, u28, u29, u30, u31, u32, u33, u34, u35, u36, u37, u38, u39, u40, u41, u42, u43, u44, u45, u46, u47, u48, u49, u50, u51, u52, u53].toArray, []⟩) (ms 14 10) rfl rfl (by kernel_rfl) (fun _ _ _ h => hP _ _ _ _ _ h) (Or.inl ⟨by rfl, ?_⟩) rfl ?_
  · intro w'
    exact y_func1 rfl rfl
  refine one_ (i := 10) (N := some 13) (ms 14 11) rfl rfl (by kernel_rfl) (by decide) (fun K hK => ?_)
  refine goes_ Try.func102 (by kernel_rfl) rfl #[.pointer (some ⟨g, 0, none⟩), .func (.func 104) #[] #[.pointer (some ⟨b1, 0, none⟩)]] (by rfl) rfl rfl (by (try simp only [List.map_toArray, List.map_cons, List.map_nil]); first | done | rfl) ?_
  refine (hc1 w.drew (Below.refl _ _)).mono ?_
  rintro e w1 ⟨rfl, hb⟩
  have hB1 : Below w.drew.heap.size w.drew w1 := hb
  refine ⟨_, rfl, hK.out _ _ ?_ ?_⟩
  · exact HS1 _ hB1
  intro hHeld1
  replace hHeld := hHeld1
  refine wpAnyLast_eq (a' := ⟨[u0, .pointer (some ⟨b1, 0, none⟩), u2, .pointer (some ⟨g, 0, none⟩), .pointer (some ⟨g, 0, none⟩), .pointer (some ⟨g, 7, none⟩), .slice A n cap, .int .i64 n, .bool false, .bool false, .pointer (some ⟨g, 0, none⟩), .pointer (some ⟨g, 0, none⟩), .func (.func 104) #[] #[.pointer (some ⟨b1, 0, none⟩)], .int .i64 k, u14, u15, u16, u17, u18, u19, u20, u21, u22, u23, u24, u25, u26, u27, u28, u29, u30, u31, u32, u33, u34, u35, u36, u37, u38, u39, u40, u41, u42, u43, u44, u45, u46, u47, u48, u49, u50, u51, u52, u53].toArray, []⟩) rfl ?_
  refine one_ (i := 11) (N := some 14) (ms 14 12) rfl rfl (by kernel_rfl) (by decide) (fun K hK => ?_)
  refine goes_ Try.func101 (by kernel_rfl) rfl #[.pointer (some ⟨g, 0, none⟩), .int .i64 k] (by rfl) rfl rfl (by (try simp only [List.map_toArray, List.map_cons, List.map_nil]); first | done | rfl) ?_
  refine (hc2 w1 hB1).mono ?_
  rintro e w2 ⟨rfl, hb⟩
  have hB2 : Below w.drew.heap.size w.drew w2 := hB1.trans ((hb).mono hB1.size)
  refine ⟨_, rfl, hK.out _ _ ?_ ?_⟩
  · exact HS1 _ hB2
  intro hHeld2
  replace hHeld := hHeld2
  refine wpAnyLast_eq (a' := ⟨[u0, .pointer (some ⟨b1, 0, none⟩), u2, .pointer (some ⟨g, 0, none⟩), .pointer (some ⟨g, 0, none⟩), .pointer (some ⟨g, 7, none⟩), .slice A n cap, .int .i64 n, .bool false, .bool false, .pointer (some ⟨g, 0, none⟩), .pointer (some ⟨g, 0, none⟩), .func (.func 104) #[] #[.pointer (some ⟨b1, 0, none⟩)], .int .i64 k, .bool true, u15, u16, u17, u18, u19, u20, u21, u22, u23, u24, u25, u26, u27, u28, u29, u30, u31, u32, u33, u34, u35, u36, u37, u38, u39, u40, u41, u42, u43, u44, u45, u46, u47, u48, u49, u50, u51, u52, u53].toArray, []⟩) rfl ?_
  refine pure_ (i := 12) (N := some 15) (v := .bool false) (ms 14 13) rfl rfl (by kernel_rfl) (fun _ _ _ h => hP _ _ _ _ _ h) (Or.inl ⟨by rfl, ?_⟩) rfl ?_
  · intro w'
    exact y_not (v := true) rfl rfl
  refine pure_ (i := 13) (N := some 16) (v := .bool false) (a' := ⟨[u0, .pointer (some ⟨b1, 0, none⟩), u2, .pointer (some ⟨g, 0, none⟩), .pointer (some ⟨g, 0, none⟩), .pointer (some ⟨g, 7, none⟩), .slice A n cap, .int .i64 n, .bool false, .bool false, .pointer (some ⟨g, 0, none⟩), .pointer (some ⟨g, 0, none⟩), .func (.func 104) #[] #[.pointer (some ⟨b1, 0, none⟩)], .int .i64 k, .bool true, .bool false, .bool false, u17, u18, u19, u20, u21, u22, u23, u24, u25, u26, u27, u28, u29, u30, u31, u32, u33, u34, u35, u36, u37, u38, u39, u40, u41, u42, u43, u44, u45, u46, u47, u48, u49, u50, u51, u52, u53].toArray, []⟩) (ms 14 14) rfl rfl (by kernel_rfl) (fun _ _ _ h => hP _ _ _ _ _ h) (Or.inl ⟨by rfl, ?_⟩) rfl ?_
  · intro w'
    exact y_pick_f rfl rfl rfl
  refine done_ (by kernel_rfl) ?_
  exact h w2 hB2

noncomputable def won_second_reg : Code := (Try.f83.body.bind (regionOf 2)).getD .skip
set_option maxRecDepth 1000000 in
set_option maxHeartbeats 4000000 in
/-- won's second statement: it leads. -/
theorem won_second (u0 u2 u3 u4 u5 u6 u7 u8 u9 u10 u11 u12 u13 u14 u15 u16 u17 u18 u19 u20 u21 u22 u23 u24 u25 u26 u27 u28 u29 u30 u31 u32 u33 u34 u35 u36 u37 u38 u39 u40 u41 u42 u43 u44 u45 u46 u47 u48 u49 u50 u51 u52 u53 : Value) (g b1 : Nat) (w : World) (Q : Exit → Act → World → Prop) (self : Int) (hP : ∀ x a d v w, Q (.panic x) (a.put (some d) v) w → Q (.panic x) a w) (hp : w.cell? ⟨b1, 0, none⟩ = some (.pointer (some ⟨g, 0, none⟩))) (c0 : w.cell? ⟨g, 0, none⟩ = some (.int .i64 self)) (hbg : b1 ≠ g) (e8 : ∃ u, w.cell? ⟨g, 8, none⟩ = some u) (e9 : ∃ u, w.cell? ⟨g, 9, none⟩ = some u) (e12 : ∃ u, w.cell? ⟨g, 12, none⟩ = some u) (f8 : w.frozen? ⟨g, 8, none⟩ = false) (f9 : w.frozen? ⟨g, 9, none⟩ = false) (f12 : w.frozen? ⟨g, 12, none⟩ = false)
    (h : Q .normal ⟨[u0, .pointer (some ⟨b1, 0, none⟩), u2, u3, u4, u5, u6, u7, u8, u9, u10, u11, u12, u13, u14, u15, u16, .pointer (some ⟨g, 0, none⟩), .pointer (some ⟨g, 0, none⟩), .pointer (some ⟨g, 0, none⟩), .pointer (some ⟨g, 0, none⟩), .pointer (some ⟨g, 0, none⟩), .pointer (some ⟨g, 0, none⟩), .int .i64 self, .pointer (some ⟨g, 0, none⟩), .pointer (some ⟨g, 8, none⟩), .pointer (some ⟨g, 0, none⟩), .pointer (some ⟨g, 9, none⟩), .pointer (some ⟨g, 0, none⟩), .pointer (some ⟨g, 12, none⟩), u30, u31, u32, u33, u34, u35, u36, u37, u38, u39, u40, u41, u42, u43, u44, u45, u46, u47, u48, u49, u50, u51, u52, u53].toArray, []⟩ (((w.drew.setCell ⟨g, 8, none⟩ (.int .i64 2)).setCell ⟨g, 9, none⟩ (.int .i64 self)).setCell ⟨g, 12, none⟩ (.int .i64 0))) :
    Code.wp Try.prog won_second_reg Q ⟨[u0, .pointer (some ⟨b1, 0, none⟩), u2, u3, u4, u5, u6, u7, u8, u9, u10, u11, u12, u13, u14, u15, u16, u17, u18, u19, u20, u21, u22, u23, u24, u25, u26, u27, u28, u29, u30, u31, u32, u33, u34, u35, u36, u37, u38, u39, u40, u41, u42, u43, u44, u45, u46, u47, u48, u49, u50, u51, u52, u53].toArray, []⟩ w := by
  conv => arg 2; whnf
  have HS8 : ∀ (w' : World) (v : Value), (w'.cell? ⟨b1, 0, none⟩ = some (.pointer (some ⟨g, 0, none⟩)) ∧ w'.cell? ⟨g, 0, none⟩ = some (.int .i64 self)) → (w'.setCell ⟨g, 8, none⟩ v).cell? ⟨b1, 0, none⟩ = some (.pointer (some ⟨g, 0, none⟩)) ∧ (w'.setCell ⟨g, 8, none⟩ v).cell? ⟨g, 0, none⟩ = some (.int .i64 self) := fun w' v hs => ⟨(World.cell?_setCell_other w' ⟨g, 8, none⟩ _ v (fun e => hbg (by injection e with e1; exact e1.symm))).trans hs.1, (World.cell?_setCell_other w' ⟨g, 8, none⟩ _ v (by simp)).trans hs.2⟩
  have HS9 : ∀ (w' : World) (v : Value), (w'.cell? ⟨b1, 0, none⟩ = some (.pointer (some ⟨g, 0, none⟩)) ∧ w'.cell? ⟨g, 0, none⟩ = some (.int .i64 self)) → (w'.setCell ⟨g, 9, none⟩ v).cell? ⟨b1, 0, none⟩ = some (.pointer (some ⟨g, 0, none⟩)) ∧ (w'.setCell ⟨g, 9, none⟩ v).cell? ⟨g, 0, none⟩ = some (.int .i64 self) := fun w' v hs => ⟨(World.cell?_setCell_other w' ⟨g, 9, none⟩ _ v (fun e => hbg (by injection e with e1; exact e1.symm))).trans hs.1, (World.cell?_setCell_other w' ⟨g, 9, none⟩ _ v (by simp)).trans hs.2⟩
  have HS12 : ∀ (w' : World) (v : Value), (w'.cell? ⟨b1, 0, none⟩ = some (.pointer (some ⟨g, 0, none⟩)) ∧ w'.cell? ⟨g, 0, none⟩ = some (.int .i64 self)) → (w'.setCell ⟨g, 12, none⟩ v).cell? ⟨b1, 0, none⟩ = some (.pointer (some ⟨g, 0, none⟩)) ∧ (w'.setCell ⟨g, 12, none⟩ v).cell? ⟨g, 0, none⟩ = some (.int .i64 self) := fun w' v hs => ⟨(World.cell?_setCell_other w' ⟨g, 12, none⟩ _ v (fun e => hbg (by injection e with e1; exact e1.symm))).trans hs.1, (World.cell?_setCell_other w' ⟨g, 12, none⟩ _ v (by simp)).trans hs.2⟩
  refine start_ (n := 16) (S := fun w' => w'.cell? ⟨b1, 0, none⟩ = some (.pointer (some ⟨g, 0, none⟩)) ∧ w'.cell? ⟨g, 0, none⟩ = some (.int .i64 self)) (ds := []) (ms 16 0) (by kernel_rfl) rfl rfl ⟨hp, c0⟩ (fun hHeld => ?_)
  refine take_ (i := 0) (N := some 17) (v := .pointer (some ⟨g, 0, none⟩)) (ms 16 1) rfl rfl (by kernel_rfl) (fun _ _ _ h => hP _ _ _ _ _ h) (Or.inl ⟨by rfl, ?_⟩) hHeld rfl ?_
  · rintro w' ⟨q1, q2⟩
    exact y_load24 rfl rfl q1
  refine take_ (i := 1) (N := some 18) (v := .pointer (some ⟨g, 0, none⟩)) (ms 16 2) rfl rfl (by kernel_rfl) (fun _ _ _ h => hP _ _ _ _ _ h) (Or.inl ⟨by rfl, ?_⟩) hHeld rfl ?_
  · rintro w' ⟨q1, q2⟩
    exact y_load24 rfl rfl q1
  refine take_ (i := 2) (N := some 19) (v := .pointer (some ⟨g, 0, none⟩)) (ms 16 3) rfl rfl (by kernel_rfl) (fun _ _ _ h => hP _ _ _ _ _ h) (Or.inl ⟨by rfl, ?_⟩) hHeld rfl ?_
  · rintro w' ⟨q1, q2⟩
    exact y_load24 rfl rfl q1
  refine take_ (i := 3) (N := some 20) (v := .pointer (some ⟨g, 0, none⟩)) (a' := ⟨[u0, .pointer (some ⟨b1, 0, none⟩), u2, u3, u4, u5, u6, u7, u8, u9, u10, u11, u12, u13, u14, u15, u16, .pointer (some ⟨g, 0, none⟩), .pointer (some ⟨g, 0, none⟩), .pointer (some ⟨g, 0, none⟩), .pointer (some ⟨g, 0, none⟩), u21, u22, u23, u24, u25, u26, u27, u28, u29, u30, u31, u32, u33, u34, u35, u36, u37, u38, u39, u40, u41, u42, u43, u44, u45, u46, u47, u48, u49, u50, u51, u52, u53].toArray, []⟩) (ms 16 4) rfl rfl (by kernel_rfl) (fun _ _ _ h => hP _ _ _ _ _ h) (Or.inl ⟨by rfl, ?_⟩) hHeld rfl ?_
  · rintro w' ⟨q1, q2⟩
    exact y_load24 rfl rfl q1
  refine pure_ (i := 4) (N := some 21) (v := .pointer (some ⟨g, 0, none⟩)) (ms 16 5) rfl rfl (by kernel_rfl) (fun _ _ _ h => hP _ _ _ _ _ h) (Or.inl ⟨by rfl, ?_⟩) rfl ?_
  · intro w'
    exact y_nil rfl rfl
  refine pure_ (i := 5) (N := some 22) (v := .pointer (some ⟨g, 0, none⟩)) (ms 16 6) rfl rfl (by kernel_rfl) (fun _ _ _ h => hP _ _ _ _ _ h) (Or.inl ⟨by rfl, ?_⟩) rfl ?_
  · intro w'
    exact y_f94_0 rfl rfl
  refine take_ (i := 6) (N := some 23) (v := .int .i64 self) (ms 16 7) rfl rfl (by kernel_rfl) (fun _ _ _ h => hP _ _ _ _ _ h) (Or.inl ⟨by rfl, ?_⟩) hHeld rfl ?_
  · rintro w' ⟨q1, q2⟩
    exact y_load3 rfl rfl q2
  refine pure_ (i := 7) (N := some 24) (v := .pointer (some ⟨g, 0, none⟩)) (a' := ⟨[u0, .pointer (some ⟨b1, 0, none⟩), u2, u3, u4, u5, u6, u7, u8, u9, u10, u11, u12, u13, u14, u15, u16, .pointer (some ⟨g, 0, none⟩), .pointer (some ⟨g, 0, none⟩), .pointer (some ⟨g, 0, none⟩), .pointer (some ⟨g, 0, none⟩), .pointer (some ⟨g, 0, none⟩), .pointer (some ⟨g, 0, none⟩), .int .i64 self, .pointer (some ⟨g, 0, none⟩), u25, u26, u27, u28, u29, u30, u31, u32, u33, u34, u35, u36, u37, u38, u39, u40, u41, u42, u43, u44, u45, u46, u47, u48, u49, u50, u51, u52, u53].toArray, []⟩) (ms 16 8) rfl rfl (by kernel_rfl) (fun _ _ _ h => hP _ _ _ _ _ h) (Or.inl ⟨by rfl, ?_⟩) rfl ?_
  · intro w'
    exact y_nil rfl rfl
  refine pure_ (i := 8) (N := some 25) (v := .pointer (some ⟨g, 8, none⟩)) (a' := ⟨[u0, .pointer (some ⟨b1, 0, none⟩), u2, u3, u4, u5, u6, u7, u8, u9, u10, u11, u12, u13, u14, u15, u16, .pointer (some ⟨g, 0, none⟩), .pointer (some ⟨g, 0, none⟩), .pointer (some ⟨g, 0, none⟩), .pointer (some ⟨g, 0, none⟩), .pointer (some ⟨g, 0, none⟩), .pointer (some ⟨g, 0, none⟩), .int .i64 self, .pointer (some ⟨g, 0, none⟩), .pointer (some ⟨g, 8, none⟩), u26, u27, u28, u29, u30, u31, u32, u33, u34, u35, u36, u37, u38, u39, u40, u41, u42, u43, u44, u45, u46, u47, u48, u49, u50, u51, u52, u53].toArray, []⟩) (ms 16 9) rfl rfl (by kernel_rfl) (fun _ _ _ h => hP _ _ _ _ _ h) (Or.inl ⟨by rfl, ?_⟩) rfl ?_
  · intro w'
    exact y_f94_5 rfl rfl
  refine one_ (i := 9) (N := none) (ms 16 10) rfl rfl (by kernel_rfl) (by decide) (fun K hK => ?_)
  refine skip_ (w1 := w.drew.setCell ⟨g, 8, none⟩ (.int .i64 2)) (by rfl) rfl (y_st3 rfl rfl rfl (e8) (f8)) ?_
  refine hK.out _ _ ?_ ?_
  · exact HS8 _ _ hHeld
  intro hHeldS
  clear hHeld
  have hHeld := hHeldS
  clear hHeldS
  refine pure_ (i := 10) (N := some 26) (v := .pointer (some ⟨g, 0, none⟩)) (ms 16 11) rfl rfl (by kernel_rfl) (fun _ _ _ h => hP _ _ _ _ _ h) (Or.inl ⟨by rfl, ?_⟩) rfl ?_
  · intro w'
    exact y_nil rfl rfl
  refine pure_ (i := 11) (N := some 27) (v := .pointer (some ⟨g, 9, none⟩)) (a' := ⟨[u0, .pointer (some ⟨b1, 0, none⟩), u2, u3, u4, u5, u6, u7, u8, u9, u10, u11, u12, u13, u14, u15, u16, .pointer (some ⟨g, 0, none⟩), .pointer (some ⟨g, 0, none⟩), .pointer (some ⟨g, 0, none⟩), .pointer (some ⟨g, 0, none⟩), .pointer (some ⟨g, 0, none⟩), .pointer (some ⟨g, 0, none⟩), .int .i64 self, .pointer (some ⟨g, 0, none⟩), .pointer (some ⟨g, 8, none⟩), .pointer (some ⟨g, 0, none⟩), .pointer (some ⟨g, 9, none⟩), u28, u29, u30, u31, u32, u33, u34, u35, u36, u37, u38, u39, u40, u41, u42, u43, u44, u45, u46, u47, u48, u49, u50, u51, u52, u53].toArray, []⟩) (ms 16 12) rfl rfl (by kernel_rfl) (fun _ _ _ h => hP _ _ _ _ _ h) (Or.inl ⟨by rfl, ?_⟩) rfl ?_
  · intro w'
    exact y_f94_6 rfl rfl
  refine one_ (i := 12) (N := none) (ms 16 13) rfl rfl (by kernel_rfl) (by decide) (fun K hK => ?_)
  refine skip_ (w1 := (w.drew.setCell ⟨g, 8, none⟩ (.int .i64 2)).setCell ⟨g, 9, none⟩ (.int .i64 self)) (by rfl) rfl (y_st3 rfl rfl rfl (some_set (e9)) (frozen_set (f9))) ?_
  refine hK.out _ _ ?_ ?_
  · exact HS9 _ _ hHeld
  intro hHeldS
  clear hHeld
  have hHeld := hHeldS
  clear hHeldS
  refine pure_ (i := 13) (N := some 28) (v := .pointer (some ⟨g, 0, none⟩)) (ms 16 14) rfl rfl (by kernel_rfl) (fun _ _ _ h => hP _ _ _ _ _ h) (Or.inl ⟨by rfl, ?_⟩) rfl ?_
  · intro w'
    exact y_nil rfl rfl
  refine pure_ (i := 14) (N := some 29) (v := .pointer (some ⟨g, 12, none⟩)) (a' := ⟨[u0, .pointer (some ⟨b1, 0, none⟩), u2, u3, u4, u5, u6, u7, u8, u9, u10, u11, u12, u13, u14, u15, u16, .pointer (some ⟨g, 0, none⟩), .pointer (some ⟨g, 0, none⟩), .pointer (some ⟨g, 0, none⟩), .pointer (some ⟨g, 0, none⟩), .pointer (some ⟨g, 0, none⟩), .pointer (some ⟨g, 0, none⟩), .int .i64 self, .pointer (some ⟨g, 0, none⟩), .pointer (some ⟨g, 8, none⟩), .pointer (some ⟨g, 0, none⟩), .pointer (some ⟨g, 9, none⟩), .pointer (some ⟨g, 0, none⟩), .pointer (some ⟨g, 12, none⟩), u30, u31, u32, u33, u34, u35, u36, u37, u38, u39, u40, u41, u42, u43, u44, u45, u46, u47, u48, u49, u50, u51, u52, u53].toArray, []⟩) (ms 16 15) rfl rfl (by kernel_rfl) (fun _ _ _ h => hP _ _ _ _ _ h) (Or.inl ⟨by rfl, ?_⟩) rfl ?_
  · intro w'
    exact y_f94_9 rfl rfl
  refine one_ (i := 15) (N := none) (ms 16 16) rfl rfl (by kernel_rfl) (by decide) (fun K hK => ?_)
  refine skip_ (w1 := ((w.drew.setCell ⟨g, 8, none⟩ (.int .i64 2)).setCell ⟨g, 9, none⟩ (.int .i64 self)).setCell ⟨g, 12, none⟩ (.int .i64 0)) (by rfl) rfl (y_st3 rfl rfl rfl (some_set (some_set (e12))) (frozen_set (frozen_set (f12)))) ?_
  refine hK.out _ _ ?_ ?_
  · exact HS12 _ _ hHeld
  intro hHeldS
  clear hHeld
  have hHeld := hHeldS
  clear hHeldS
  refine done_ (by kernel_rfl) ?_
  exact h

noncomputable def won_loop_reg : Code := (Try.f83.body.bind (regionOf 6)).getD .skip
set_option maxRecDepth 1000000 in
set_option maxHeartbeats 4000000 in
/-- won's loop: next and match of a node. -/
theorem won_loop (u0 u3 u4 u5 u6 u7 u8 u9 u10 u11 u12 u13 u14 u15 u16 u17 u18 u19 u20 u21 u22 u23 u24 u25 u26 u27 u28 u29 u30 u31 u32 u33 u34 u35 u36 u37 u38 u39 u40 u41 u42 u43 u44 u45 u46 u47 u48 u49 u50 u51 u52 u53 : Value) (g b1 j : Nat) (w : World) (Q : Exit → Act → World → Prop) (n n1 : Int) (hP : ∀ x a d v w, Q (.panic x) (a.put (some d) v) w → Q (.panic x) a w) (hp : w.cell? ⟨b1, 0, none⟩ = some (.pointer (some ⟨g, 0, none⟩))) (hbg : b1 ≠ g) (hj : j < 7) (hn : IntKind.i64.wrap (n + 1) = n1) (hc1 : ∀ w', Below w.drew.heap.size w.drew w' → Calls Try.prog 17 #[.pointer (some ⟨g, 0, none⟩)] w' fun e w'' => e = .returned (.int .i64 n) ∧ Below w'.heap.size w' w'') (e8 : ∀ w', Below w.drew.heap.size w.drew w' → ∃ u, w'.cell? ⟨g, 20 + j, none⟩ = some u) (e9 : ∀ w', Below w.drew.heap.size w.drew w' → ∃ u, w'.cell? ⟨g, 27 + j, none⟩ = some u) (f8 : ∀ w', Below w.drew.heap.size w.drew w' → w'.frozen? ⟨g, 20 + j, none⟩ = false) (f9 : ∀ w', Below w.drew.heap.size w.drew w' → w'.frozen? ⟨g, 27 + j, none⟩ = false)
    (h : ∀ w1, Below w.drew.heap.size w.drew w1 → Q .normal ⟨[u0, .pointer (some ⟨b1, 0, none⟩), .int .i64 (j : Int), u3, u4, u5, u6, u7, u8, u9, u10, u11, u12, u13, u14, u15, u16, u17, u18, u19, u20, u21, u22, u23, u24, u25, u26, u27, u28, u29, u30, u31, u32, .pointer (some ⟨g, 0, none⟩), .int .i64 (j : Int), .pointer (some ⟨g, 0, none⟩), .int .i64 (j : Int), .pointer (some ⟨g, 0, none⟩), .int .i64 n, .int .i64 n1, .pointer (some ⟨g, 0, none⟩), .pointer (some ⟨g, 20, none⟩), .pointer (some ⟨g, 20 + j, none⟩), .pointer (some ⟨g, 0, none⟩), .pointer (some ⟨g, 27, none⟩), .pointer (some ⟨g, 27 + j, none⟩), u46, u47, u48, u49, u50, u51, u52, u53].toArray, []⟩ ((w1.setCell ⟨g, 20 + j, none⟩ (.int .i64 n1)).setCell ⟨g, 27 + j, none⟩ (.int .i64 0))) :
    Code.wp Try.prog won_loop_reg Q ⟨[u0, .pointer (some ⟨b1, 0, none⟩), .int .i64 (j : Int), u3, u4, u5, u6, u7, u8, u9, u10, u11, u12, u13, u14, u15, u16, u17, u18, u19, u20, u21, u22, u23, u24, u25, u26, u27, u28, u29, u30, u31, u32, u33, u34, u35, u36, u37, u38, u39, u40, u41, u42, u43, u44, u45, u46, u47, u48, u49, u50, u51, u52, u53].toArray, []⟩ w := by
  conv => arg 2; whnf
  have HS1 : ∀ w', Below w.drew.heap.size w.drew w' → w'.cell? ⟨b1, 0, none⟩ = some (.pointer (some ⟨g, 0, none⟩)) := fun w' hb => pw_cell_below hb hp
  have HS8 : ∀ (w' : World) (v : Value), w'.cell? ⟨b1, 0, none⟩ = some (.pointer (some ⟨g, 0, none⟩)) → (w'.setCell ⟨g, 20 + j, none⟩ v).cell? ⟨b1, 0, none⟩ = some (.pointer (some ⟨g, 0, none⟩)) := fun w' v hs => (World.cell?_setCell_other w' ⟨g, 20 + j, none⟩ _ v (fun e => hbg (by injection e with e1; exact e1.symm))).trans hs
  have HS9 : ∀ (w' : World) (v : Value), w'.cell? ⟨b1, 0, none⟩ = some (.pointer (some ⟨g, 0, none⟩)) → (w'.setCell ⟨g, 27 + j, none⟩ v).cell? ⟨b1, 0, none⟩ = some (.pointer (some ⟨g, 0, none⟩)) := fun w' v hs => (World.cell?_setCell_other w' ⟨g, 27 + j, none⟩ _ v (fun e => hbg (by injection e with e1; exact e1.symm))).trans hs
  refine start_ (n := 15) (S := fun w' => w'.cell? ⟨b1, 0, none⟩ = some (.pointer (some ⟨g, 0, none⟩))) (ds := []) (ms 15 0) (by kernel_rfl) rfl rfl hp (fun hHeld => ?_)
  refine take_ (i := 0) (N := some 33) (v := .pointer (some ⟨g, 0, none⟩)) (ms 15 1) rfl rfl (by kernel_rfl) (fun _ _ _ h => hP _ _ _ _ _ h) (Or.inl ⟨by rfl, ?_⟩) hHeld rfl ?_
  · rintro w' q1
    exact y_load24 rfl rfl q1
  refine pure_ (i := 1) (N := some 34) (v := .int .i64 (j : Int)) (ms 15 2) rfl rfl (by kernel_rfl) (fun _ _ _ h => hP _ _ _ _ _ h) (Or.inl ⟨by rfl, ?_⟩) rfl ?_
  · intro w'
    exact y_move rfl rfl
  refine take_ (i := 2) (N := some 35) (v := .pointer (some ⟨g, 0, none⟩)) (ms 15 3) rfl rfl (by kernel_rfl) (fun _ _ _ h => hP _ _ _ _ _ h) (Or.inl ⟨by rfl, ?_⟩) hHeld rfl ?_
  · rintro w' q1
    exact y_load24 rfl rfl q1
  refine pure_ (i := 3) (N := some 36) (v := .int .i64 (j : Int)) (a' := ⟨[u0, .pointer (some ⟨b1, 0, none⟩), .int .i64 (j : Int), u3, u4, u5, u6, u7, u8, u9, u10, u11, u12, u13, u14, u15, u16, u17, u18, u19, u20, u21, u22, u23, u24, u25, u26, u27, u28, u29, u30, u31, u32, .pointer (some ⟨g, 0, none⟩), .int .i64 (j : Int), .pointer (some ⟨g, 0, none⟩), .int .i64 (j : Int), u37, u38, u39, u40, u41, u42, u43, u44, u45, u46, u47, u48, u49, u50, u51, u52, u53].toArray, []⟩) (ms 15 4) rfl rfl (by kernel_rfl) (fun _ _ _ h => hP _ _ _ _ _ h) (Or.inl ⟨by rfl, ?_⟩) rfl ?_
  · intro w'
    exact y_move rfl rfl
  refine take_ (i := 4) (N := some 37) (v := .pointer (some ⟨g, 0, none⟩)) (ms 15 5) rfl rfl (by kernel_rfl) (fun _ _ _ h => hP _ _ _ _ _ h) (Or.inl ⟨by rfl, ?_⟩) hHeld rfl ?_
  · rintro w' q1
    exact y_load24 rfl rfl q1
  refine pure_ (i := 7) (N := some 40) (v := .pointer (some ⟨g, 0, none⟩)) #[true, true, true, true, true, false, false, true, false, false, false, false, false, false, false] rfl rfl (by kernel_rfl) (fun _ _ _ h => hP _ _ _ _ _ h) (Or.inl ⟨by rfl, ?_⟩) rfl ?_
  · intro w'
    exact y_nil rfl rfl
  refine pure_ (i := 8) (N := some 41) (v := .pointer (some ⟨g, 20, none⟩)) #[true, true, true, true, true, false, false, true, true, false, false, false, false, false, false] rfl rfl (by kernel_rfl) (fun _ _ _ h => hP _ _ _ _ _ h) (Or.inl ⟨by rfl, ?_⟩) rfl ?_
  · intro w'
    exact y_f94_11 rfl rfl
  refine pure_ (i := 11) (N := some 43) (v := .pointer (some ⟨g, 0, none⟩)) (a' := ⟨[u0, .pointer (some ⟨b1, 0, none⟩), .int .i64 (j : Int), u3, u4, u5, u6, u7, u8, u9, u10, u11, u12, u13, u14, u15, u16, u17, u18, u19, u20, u21, u22, u23, u24, u25, u26, u27, u28, u29, u30, u31, u32, .pointer (some ⟨g, 0, none⟩), .int .i64 (j : Int), .pointer (some ⟨g, 0, none⟩), .int .i64 (j : Int), .pointer (some ⟨g, 0, none⟩), u38, u39, .pointer (some ⟨g, 0, none⟩), .pointer (some ⟨g, 20, none⟩), u42, .pointer (some ⟨g, 0, none⟩), u44, u45, u46, u47, u48, u49, u50, u51, u52, u53].toArray, []⟩) #[true, true, true, true, true, false, false, true, true, false, false, true, false, false, false] rfl rfl (by kernel_rfl) (fun _ _ _ h => hP _ _ _ _ _ h) (Or.inl ⟨by rfl, ?_⟩) rfl ?_
  · intro w'
    exact y_nil rfl rfl
  refine pure_ (i := 12) (N := some 44) (v := .pointer (some ⟨g, 27, none⟩)) (a' := ⟨[u0, .pointer (some ⟨b1, 0, none⟩), .int .i64 (j : Int), u3, u4, u5, u6, u7, u8, u9, u10, u11, u12, u13, u14, u15, u16, u17, u18, u19, u20, u21, u22, u23, u24, u25, u26, u27, u28, u29, u30, u31, u32, .pointer (some ⟨g, 0, none⟩), .int .i64 (j : Int), .pointer (some ⟨g, 0, none⟩), .int .i64 (j : Int), .pointer (some ⟨g, 0, none⟩), u38, u39, .pointer (some ⟨g, 0, none⟩), .pointer (some ⟨g, 20, none⟩), u42, .pointer (some ⟨g, 0, none⟩), .pointer (some ⟨g, 27, none⟩), u45, u46, u47, u48, u49, u50, u51, u52, u53].toArray, []⟩) #[true, true, true, true, true, false, false, true, true, false, false, true, true, false, false] rfl rfl (by kernel_rfl) (fun _ _ _ h => hP _ _ _ _ _ h) (Or.inl ⟨by rfl, ?_⟩) rfl ?_
  · intro w'
    exact y_f94_12 rfl rfl
  refine one_ (i := 5) (N := some 38) #[true, true, true, true, true, true, false, true, true, false, false, true, true, false, false] rfl rfl (by kernel_rfl) (by decide) (fun K hK => ?_)
  refine goes_ Try.func17 (by kernel_rfl) rfl #[.pointer (some ⟨g, 0, none⟩)] (by rfl) rfl rfl (by (try simp only [List.map_toArray, List.map_cons, List.map_nil]); first | done | rfl) ?_
  refine (hc1 w.drew (Below.refl _ _)).mono ?_
  rintro e w1 ⟨rfl, hb⟩
  have hB1 : Below w.drew.heap.size w.drew w1 := hb
  refine ⟨_, rfl, hK.out _ _ ?_ ?_⟩
  · exact HS1 _ hB1
  intro hHeld1
  replace hHeld := hHeld1
  refine wpAnyLast_eq (a' := ⟨[u0, .pointer (some ⟨b1, 0, none⟩), .int .i64 (j : Int), u3, u4, u5, u6, u7, u8, u9, u10, u11, u12, u13, u14, u15, u16, u17, u18, u19, u20, u21, u22, u23, u24, u25, u26, u27, u28, u29, u30, u31, u32, .pointer (some ⟨g, 0, none⟩), .int .i64 (j : Int), .pointer (some ⟨g, 0, none⟩), .int .i64 (j : Int), .pointer (some ⟨g, 0, none⟩), .int .i64 n, u39, .pointer (some ⟨g, 0, none⟩), .pointer (some ⟨g, 20, none⟩), u42, .pointer (some ⟨g, 0, none⟩), .pointer (some ⟨g, 27, none⟩), u45, u46, u47, u48, u49, u50, u51, u52, u53].toArray, []⟩) rfl ?_
  refine pure_ (i := 6) (N := some 39) (v := .int .i64 n1) #[true, true, true, true, true, true, true, true, true, false, false, true, true, false, false] rfl rfl (by kernel_rfl) (fun _ _ _ h => hP _ _ _ _ _ h) (Or.inl ⟨by rfl, ?_⟩) rfl ?_
  · intro w'
    exact y_addc rfl rfl hn
  refine pure_ (i := 9) (N := some 42) (v := .pointer (some ⟨g, 20 + j, none⟩)) (a' := ⟨[u0, .pointer (some ⟨b1, 0, none⟩), .int .i64 (j : Int), u3, u4, u5, u6, u7, u8, u9, u10, u11, u12, u13, u14, u15, u16, u17, u18, u19, u20, u21, u22, u23, u24, u25, u26, u27, u28, u29, u30, u31, u32, .pointer (some ⟨g, 0, none⟩), .int .i64 (j : Int), .pointer (some ⟨g, 0, none⟩), .int .i64 (j : Int), .pointer (some ⟨g, 0, none⟩), .int .i64 n, .int .i64 n1, .pointer (some ⟨g, 0, none⟩), .pointer (some ⟨g, 20, none⟩), .pointer (some ⟨g, 20 + j, none⟩), .pointer (some ⟨g, 0, none⟩), .pointer (some ⟨g, 27, none⟩), u45, u46, u47, u48, u49, u50, u51, u52, u53].toArray, []⟩) #[true, true, true, true, true, true, true, true, true, true, false, true, true, false, false] rfl rfl (by kernel_rfl) (fun _ _ _ h => hP _ _ _ _ _ h) (Or.inl ⟨by rfl, ?_⟩) rfl ?_
  · intro w'
    exact y_index92 rfl rfl rfl hj
  refine one_ (i := 10) (N := none) (ms 15 13) rfl rfl (by kernel_rfl) (by decide) (fun K hK => ?_)
  refine skip_ (w1 := w1.setCell ⟨g, 20 + j, none⟩ (.int .i64 n1)) (by rfl) rfl (y_st3 rfl rfl rfl (e8 _ hB1) (f8 _ hB1)) ?_
  refine hK.out _ _ ?_ ?_
  · exact HS8 _ _ hHeld
  intro hHeldS
  clear hHeld
  have hHeld := hHeldS
  clear hHeldS
  refine pure_ (i := 13) (N := some 45) (v := .pointer (some ⟨g, 27 + j, none⟩)) (a' := ⟨[u0, .pointer (some ⟨b1, 0, none⟩), .int .i64 (j : Int), u3, u4, u5, u6, u7, u8, u9, u10, u11, u12, u13, u14, u15, u16, u17, u18, u19, u20, u21, u22, u23, u24, u25, u26, u27, u28, u29, u30, u31, u32, .pointer (some ⟨g, 0, none⟩), .int .i64 (j : Int), .pointer (some ⟨g, 0, none⟩), .int .i64 (j : Int), .pointer (some ⟨g, 0, none⟩), .int .i64 n, .int .i64 n1, .pointer (some ⟨g, 0, none⟩), .pointer (some ⟨g, 20, none⟩), .pointer (some ⟨g, 20 + j, none⟩), .pointer (some ⟨g, 0, none⟩), .pointer (some ⟨g, 27, none⟩), .pointer (some ⟨g, 27 + j, none⟩), u46, u47, u48, u49, u50, u51, u52, u53].toArray, []⟩) (ms 15 14) rfl rfl (by kernel_rfl) (fun _ _ _ h => hP _ _ _ _ _ h) (Or.inl ⟨by rfl, ?_⟩) rfl ?_
  · intro w'
    exact y_index92 rfl rfl rfl hj
  refine one_ (i := 14) (N := none) (ms 15 15) rfl rfl (by kernel_rfl) (by decide) (fun K hK => ?_)
  refine skip_ (w1 := (w1.setCell ⟨g, 20 + j, none⟩ (.int .i64 n1)).setCell ⟨g, 27 + j, none⟩ (.int .i64 0)) (by rfl) rfl (y_st3 rfl rfl rfl (some_set (e9 _ hB1)) (frozen_set (f9 _ hB1))) ?_
  refine hK.out _ _ ?_ ?_
  · exact HS9 _ _ hHeld
  intro hHeldS
  clear hHeld
  have hHeld := hHeldS
  clear hHeldS
  refine done_ (by kernel_rfl) ?_
  exact h w1 hB1

noncomputable def won_last_reg : Code := (Try.f83.body.bind (regionOf 8)).getD .skip
set_option maxRecDepth 1000000 in
set_option maxHeartbeats 4000000 in
/-- won's last statement. -/
theorem won_last (u0 u2 u3 u4 u5 u6 u7 u8 u9 u10 u11 u12 u13 u14 u15 u16 u17 u18 u19 u20 u21 u22 u23 u24 u25 u26 u27 u28 u29 u30 u31 u32 u33 u34 u35 u36 u37 u38 u39 u40 u41 u42 u43 u44 u45 u46 u47 u48 u49 u50 u51 u52 u53 : Value) (g b1 : Nat) (w : World) (Q : Exit → Act → World → Prop) (t : Int) (R : World → Prop) (hP : ∀ x a d v w, Q (.panic x) (a.put (some d) v) w → Q (.panic x) a w) (hp : w.cell? ⟨b1, 0, none⟩ = some (.pointer (some ⟨g, 0, none⟩))) (c1 : w.cell? ⟨g, 1, none⟩ = some (.int .i64 t)) (hc1 : Calls Try.prog 42 #[.pointer (some ⟨g, 0, none⟩), .agg #[.int .i64 t, .int .i64 0, .string ⟨#[]⟩]] w.drew fun e w'' => e = .returned (.tuple #[]) ∧ R w'')
    (h : ∀ w1, R w1 → Q .normal ⟨[u0, .pointer (some ⟨b1, 0, none⟩), u2, u3, u4, u5, u6, u7, u8, u9, u10, u11, u12, u13, u14, u15, u16, u17, u18, u19, u20, u21, u22, u23, u24, u25, u26, u27, u28, u29, u30, u31, u32, u33, u34, u35, u36, u37, u38, u39, u40, u41, u42, u43, u44, u45, u46, .pointer (some ⟨g, 0, none⟩), .pointer (some ⟨g, 0, none⟩), .pointer (some ⟨g, 0, none⟩), .pointer (some ⟨g, 1, none⟩), .int .i64 t, .agg #[.int .i64 t, .int .i64 0, .string ⟨#[]⟩], .tuple #[]].toArray, []⟩ w1) :
    Code.wp Try.prog won_last_reg Q ⟨[u0, .pointer (some ⟨b1, 0, none⟩), u2, u3, u4, u5, u6, u7, u8, u9, u10, u11, u12, u13, u14, u15, u16, u17, u18, u19, u20, u21, u22, u23, u24, u25, u26, u27, u28, u29, u30, u31, u32, u33, u34, u35, u36, u37, u38, u39, u40, u41, u42, u43, u44, u45, u46, u47, u48, u49, u50, u51, u52, u53].toArray, []⟩ w := by
  conv => arg 2; whnf
  refine start_ (n := 7) (S := fun w' => w'.cell? ⟨b1, 0, none⟩ = some (.pointer (some ⟨g, 0, none⟩)) ∧ w'.cell? ⟨g, 1, none⟩ = some (.int .i64 t)) (ds := [6]) (ms 7 0) (by kernel_rfl) rfl rfl ⟨hp, c1⟩ (fun hHeld => ?_)
  refine take_ (i := 0) (N := some 47) (v := .pointer (some ⟨g, 0, none⟩)) (ms 7 1) rfl rfl (by kernel_rfl) (fun _ _ _ h => hP _ _ _ _ _ h) (Or.inl ⟨by rfl, ?_⟩) hHeld rfl ?_
  · rintro w' ⟨q1, q2⟩
    exact y_load24 rfl rfl q1
  refine take_ (i := 1) (N := some 48) (v := .pointer (some ⟨g, 0, none⟩)) (ms 7 2) rfl rfl (by kernel_rfl) (fun _ _ _ h => hP _ _ _ _ _ h) (Or.inl ⟨by rfl, ?_⟩) hHeld rfl ?_
  · rintro w' ⟨q1, q2⟩
    exact y_load24 rfl rfl q1
  refine pure_ (i := 2) (N := some 49) (v := .pointer (some ⟨g, 0, none⟩)) (ms 7 3) rfl rfl (by kernel_rfl) (fun _ _ _ h => hP _ _ _ _ _ h) (Or.inl ⟨by rfl, ?_⟩) rfl ?_
  · intro w'
    exact y_nil rfl rfl
  refine pure_ (i := 3) (N := some 50) (v := .pointer (some ⟨g, 1, none⟩)) (a' := ⟨[u0, .pointer (some ⟨b1, 0, none⟩), u2, u3, u4, u5, u6, u7, u8, u9, u10, u11, u12, u13, u14, u15, u16, u17, u18, u19, u20, u21, u22, u23, u24, u25, u26, u27, u28, u29, u30, u31, u32, u33, u34, u35, u36, u37, u38, u39, u40, u41, u42, u43, u44, u45, u46, .pointer (some ⟨g, 0, none⟩), .pointer (some ⟨g, 0, none⟩), .pointer (some ⟨g, 0, none⟩), .pointer (some ⟨g, 1, none⟩), u51, u52, u53].toArray, []⟩) (ms 7 4) rfl rfl (by kernel_rfl) (fun _ _ _ h => hP _ _ _ _ _ h) (Or.inl ⟨by rfl, ?_⟩) rfl ?_
  · intro w'
    exact y_f94_1 rfl rfl
  refine take_ (i := 4) (N := some 51) (v := .int .i64 t) (ms 7 5) rfl rfl (by kernel_rfl) (fun _ _ _ h => hP _ _ _ _ _ h) (Or.inl ⟨by rfl, ?_⟩) hHeld rfl ?_
  · rintro w' ⟨q1, q2⟩
    exact y_load3 rfl rfl q2
  refine pure_ (i := 5) (N := some 52) (v := .agg #[.int .i64 t, .int .i64 0, .string ⟨#[]⟩]) (a' := ⟨[u0, .pointer (some ⟨b1, 0, none⟩), u2, u3, u4, u5, u6, u7, u8, u9, u10, u11, u12, u13, u14, u15, u16, u17, u18, u19, u20, u21, u22, u23, u24, u25, u26, u27, u28, u29, u30, u31, u32, u33, u34, u35, u36, u37, u38, u39, u40, u41, u42, u43, u44, u45, u46, .pointer (some ⟨g, 0, none⟩), .pointer (some ⟨g, 0, none⟩), .pointer (some ⟨g, 0, none⟩), .pointer (some ⟨g, 1, none⟩), .int .i64 t, .agg #[.int .i64 t, .int .i64 0, .string ⟨#[]⟩], u53].toArray, []⟩) (ms 7 6) rfl rfl (by kernel_rfl) (fun _ _ _ h => hP _ _ _ _ _ h) (Or.inl ⟨by rfl, ?_⟩) rfl ?_
  · intro w'
    exact y_build39 rfl rfl
  refine last_ (i := 6) (N := some 53) (ms 7 7) rfl rfl (by kernel_rfl) (by decide) (fun K hK => ?_)
  refine goes_ Try.func42 (by kernel_rfl) rfl #[.pointer (some ⟨g, 0, none⟩), .agg #[.int .i64 t, .int .i64 0, .string ⟨#[]⟩]] (by rfl) rfl rfl (by (try simp only [List.map_toArray, List.map_cons, List.map_nil]); first | done | rfl) ?_
  refine hc1.mono ?_
  rintro e w1 ⟨rfl, hR⟩
  refine ⟨_, rfl, hK.out _ _ ?_⟩
  refine wpAnyLast_eq (a' := ⟨[u0, .pointer (some ⟨b1, 0, none⟩), u2, u3, u4, u5, u6, u7, u8, u9, u10, u11, u12, u13, u14, u15, u16, u17, u18, u19, u20, u21, u22, u23, u24, u25, u26, u27, u28, u29, u30, u31, u32, u33, u34, u35, u36, u37, u38, u39, u40, u41, u42, u43, u44, u45, u46, .pointer (some ⟨g, 0, none⟩), .pointer (some ⟨g, 0, none⟩), .pointer (some ⟨g, 0, none⟩), .pointer (some ⟨g, 1, none⟩), .int .i64 t, .agg #[.int .i64 t, .int .i64 0, .string ⟨#[]⟩], .tuple #[]].toArray, []⟩) rfl ?_
  refine done_ (by kernel_rfl) ?_
  exact h w1 hR

noncomputable def elect_own_reg : Code := (Try.f46.body.bind (regionOf 4)).getD .skip
set_option maxRecDepth 1000000 in
set_option maxHeartbeats 4000000 in
/-- elect: its own vote. -/
theorem elect_own (u1 u2 u3 u4 u5 u6 u7 u8 u9 u10 u11 u12 u13 u14 u15 u16 u17 u18 u19 u20 u21 u22 u23 u24 u25 u26 u27 u28 u29 u30 u31 u32 u33 u34 u35 u36 u37 u38 u39 u40 u41 u42 u43 u44 u45 u46 u47 u48 u49 u50 u51 u52 u53 u54 u55 u56 u57 u58 u59 u60 u61 u62 u63 u64 u65 u66 : Value) (g j : Nat) (w : World) (Q : Exit → Act → World → Prop) (hP : ∀ x a d v w, Q (.panic x) (a.put (some d) v) w → Q (.panic x) a w) (c0 : w.cell? ⟨g, 0, none⟩ = some (.int .i64 (j : Int))) (hj : j < 7) (e8 : ∃ u, w.cell? ⟨g, 13 + j, none⟩ = some u) (f8 : w.frozen? ⟨g, 13 + j, none⟩ = false)
    (h : Q .normal ⟨[.pointer (some ⟨g, 0, none⟩), u1, u2, u3, u4, u5, u6, u7, u8, u9, u10, u11, u12, u13, u14, u15, u16, u17, u18, u19, u20, u21, u22, u23, u24, u25, u26, u27, u28, u29, u30, u31, u32, .pointer (some ⟨g, 0, none⟩), .pointer (some ⟨g, 0, none⟩), .pointer (some ⟨g, 0, none⟩), .pointer (some ⟨g, 0, none⟩), .int .i64 (j : Int), .pointer (some ⟨g, 0, none⟩), .pointer (some ⟨g, 13, none⟩), .pointer (some ⟨g, 13 + j, none⟩), u41, u42, u43, u44, u45, u46, u47, u48, u49, u50, u51, u52, u53, u54, u55, u56, u57, u58, u59, u60, u61, u62, u63, u64, u65, u66].toArray, []⟩ (w.drew.setCell ⟨g, 13 + j, none⟩ (.bool true))) :
    Code.wp Try.prog elect_own_reg Q ⟨[.pointer (some ⟨g, 0, none⟩), u1, u2, u3, u4, u5, u6, u7, u8, u9, u10, u11, u12, u13, u14, u15, u16, u17, u18, u19, u20, u21, u22, u23, u24, u25, u26, u27, u28, u29, u30, u31, u32, u33, u34, u35, u36, u37, u38, u39, u40, u41, u42, u43, u44, u45, u46, u47, u48, u49, u50, u51, u52, u53, u54, u55, u56, u57, u58, u59, u60, u61, u62, u63, u64, u65, u66].toArray, []⟩ w := by
  conv => arg 2; whnf
  have HS8 : ∀ (w' : World) (v : Value), w'.cell? ⟨g, 0, none⟩ = some (.int .i64 (j : Int)) → (w'.setCell ⟨g, 13 + j, none⟩ v).cell? ⟨g, 0, none⟩ = some (.int .i64 (j : Int)) := fun w' v hs => (World.cell?_setCell_other w' ⟨g, 13 + j, none⟩ _ v (by simp)).trans hs
  refine start_ (n := 9) (S := fun w' => w'.cell? ⟨g, 0, none⟩ = some (.int .i64 (j : Int))) (ds := []) (ms 9 0) (by kernel_rfl) rfl rfl c0 (fun hHeld => ?_)
  refine pure_ (i := 0) (N := some 33) (v := .pointer (some ⟨g, 0, none⟩)) (ms 9 1) rfl rfl (by kernel_rfl) (fun _ _ _ h => hP _ _ _ _ _ h) (Or.inl ⟨by rfl, ?_⟩) rfl ?_
  · intro w'
    exact y_move rfl rfl
  refine pure_ (i := 1) (N := some 34) (v := .pointer (some ⟨g, 0, none⟩)) (ms 9 2) rfl rfl (by kernel_rfl) (fun _ _ _ h => hP _ _ _ _ _ h) (Or.inl ⟨by rfl, ?_⟩) rfl ?_
  · intro w'
    exact y_move rfl rfl
  refine pure_ (i := 2) (N := some 35) (v := .pointer (some ⟨g, 0, none⟩)) (ms 9 3) rfl rfl (by kernel_rfl) (fun _ _ _ h => hP _ _ _ _ _ h) (Or.inl ⟨by rfl, ?_⟩) rfl ?_
  · intro w'
    exact y_nil rfl rfl
  refine pure_ (i := 3) (N := some 36) (v := .pointer (some ⟨g, 0, none⟩)) (a' := ⟨[.pointer (some ⟨g, 0, none⟩), u1, u2, u3, u4, u5, u6, u7, u8, u9, u10, u11, u12, u13, u14, u15, u16, u17, u18, u19, u20, u21, u22, u23, u24, u25, u26, u27, u28, u29, u30, u31, u32, .pointer (some ⟨g, 0, none⟩), .pointer (some ⟨g, 0, none⟩), .pointer (some ⟨g, 0, none⟩), .pointer (some ⟨g, 0, none⟩), u37, u38, u39, u40, u41, u42, u43, u44, u45, u46, u47, u48, u49, u50, u51, u52, u53, u54, u55, u56, u57, u58, u59, u60, u61, u62, u63, u64, u65, u66].toArray, []⟩) (ms 9 4) rfl rfl (by kernel_rfl) (fun _ _ _ h => hP _ _ _ _ _ h) (Or.inl ⟨by rfl, ?_⟩) rfl ?_
  · intro w'
    exact y_f94_0 rfl rfl
  refine take_ (i := 4) (N := some 37) (v := .int .i64 (j : Int)) (ms 9 5) rfl rfl (by kernel_rfl) (fun _ _ _ h => hP _ _ _ _ _ h) (Or.inl ⟨by rfl, ?_⟩) hHeld rfl ?_
  · rintro w' q1
    exact y_load3 rfl rfl q1
  refine pure_ (i := 5) (N := some 38) (v := .pointer (some ⟨g, 0, none⟩)) (ms 9 6) rfl rfl (by kernel_rfl) (fun _ _ _ h => hP _ _ _ _ _ h) (Or.inl ⟨by rfl, ?_⟩) rfl ?_
  · intro w'
    exact y_nil rfl rfl
  refine pure_ (i := 6) (N := some 39) (v := .pointer (some ⟨g, 13, none⟩)) (ms 9 7) rfl rfl (by kernel_rfl) (fun _ _ _ h => hP _ _ _ _ _ h) (Or.inl ⟨by rfl, ?_⟩) rfl ?_
  · intro w'
    exact y_f94_10 rfl rfl
  refine pure_ (i := 7) (N := some 40) (v := .pointer (some ⟨g, 13 + j, none⟩)) (a' := ⟨[.pointer (some ⟨g, 0, none⟩), u1, u2, u3, u4, u5, u6, u7, u8, u9, u10, u11, u12, u13, u14, u15, u16, u17, u18, u19, u20, u21, u22, u23, u24, u25, u26, u27, u28, u29, u30, u31, u32, .pointer (some ⟨g, 0, none⟩), .pointer (some ⟨g, 0, none⟩), .pointer (some ⟨g, 0, none⟩), .pointer (some ⟨g, 0, none⟩), .int .i64 (j : Int), .pointer (some ⟨g, 0, none⟩), .pointer (some ⟨g, 13, none⟩), .pointer (some ⟨g, 13 + j, none⟩), u41, u42, u43, u44, u45, u46, u47, u48, u49, u50, u51, u52, u53, u54, u55, u56, u57, u58, u59, u60, u61, u62, u63, u64, u65, u66].toArray, []⟩) (ms 9 8) rfl rfl (by kernel_rfl) (fun _ _ _ h => hP _ _ _ _ _ h) (Or.inl ⟨by rfl, ?_⟩) rfl ?_
  · intro w'
    exact y_index91 rfl rfl rfl hj
  refine one_ (i := 8) (N := none) (ms 9 9) rfl rfl (by kernel_rfl) (by decide) (fun K hK => ?_)
  refine skip_ (w1 := w.drew.setCell ⟨g, 13 + j, none⟩ (.bool true)) (by rfl) rfl (y_st4 rfl rfl rfl (e8) (f8)) ?_
  refine hK.out _ _ ?_ ?_
  · exact HS8 _ _ hHeld
  intro hHeldS
  clear hHeld
  have hHeld := hHeldS
  clear hHeldS
  refine done_ (by kernel_rfl) ?_
  exact h

noncomputable def tick_due_reg : Code := (Try.f12.body.bind (regionOf 7)).getD .skip
set_option maxRecDepth 1000000 in
set_option maxHeartbeats 4000000 in
/-- Tick: its time has come. -/
theorem tick_due (u1 u2 u3 u4 u5 u6 u7 u8 u9 u10 u11 u12 u13 u14 u15 u16 u17 u18 u19 u20 u21 u22 u23 u24 u25 u26 u27 u28 u29 u30 u31 u32 u33 u34 u35 u36 u37 u38 u39 u40 u41 u42 u43 u44 u45 u46 : Value) (g : Nat) (w : World) (Q : Exit → Act → World → Prop) (k self : Int) (b : Bool) (hP : ∀ x a d v w, Q (.panic x) (a.put (some d) v) w → Q (.panic x) a w) (c12 : w.cell? ⟨g, 12, none⟩ = some (.int .i64 k)) (c0 : w.cell? ⟨g, 0, none⟩ = some (.int .i64 self)) (hm : IntKind.i64.wrap (3 * self) = 3 * self) (ha : IntKind.i64.wrap (10 + 3 * self) = 10 + 3 * self) (hk : decide (10 + 3 * self ≤ k) = true) (hc1 : ∀ w', Below w.drew.heap.size w.drew w' → Calls Try.prog 45 #[.pointer (some ⟨g, 0, none⟩)] w' fun e w'' => e = .returned (.bool b) ∧ Below w'.heap.size w' w'')
    (h : ∀ w1, Below w.drew.heap.size w.drew w1 → Q .normal ⟨[.pointer (some ⟨g, 0, none⟩), u1, u2, u3, u4, u5, u6, u7, u8, u9, u10, u11, u12, u13, u14, u15, u16, u17, u18, u19, u20, u21, u22, u23, u24, u25, u26, .bool b, .pointer (some ⟨g, 0, none⟩), .pointer (some ⟨g, 0, none⟩), .pointer (some ⟨g, 12, none⟩), .int .i64 k, .pointer (some ⟨g, 0, none⟩), .pointer (some ⟨g, 0, none⟩), .pointer (some ⟨g, 0, none⟩), .int .i64 self, .int .i64 (3 * self), .int .i64 (10 + 3 * self), .bool true, .bool true, .pointer (some ⟨g, 0, none⟩), .bool b, .bool b, u43, u44, u45, u46].toArray, []⟩ w1) :
    Code.wp Try.prog tick_due_reg Q ⟨[.pointer (some ⟨g, 0, none⟩), u1, u2, u3, u4, u5, u6, u7, u8, u9, u10, u11, u12, u13, u14, u15, u16, u17, u18, u19, u20, u21, u22, u23, u24, u25, u26, u27, u28, u29, u30, u31, u32, u33, u34, u35, u36, u37, u38, u39, u40, u41, u42, u43, u44, u45, u46].toArray, []⟩ w := by
  conv => arg 2; whnf
  have HS1 : ∀ w', Below w.drew.heap.size w.drew w' → w'.cell? ⟨g, 12, none⟩ = some (.int .i64 k) ∧ w'.cell? ⟨g, 0, none⟩ = some (.int .i64 self) := fun w' hb => ⟨pw_cell_below hb c12, pw_cell_below hb c0⟩
  refine start_ (n := 16) (S := fun w' => w'.cell? ⟨g, 12, none⟩ = some (.int .i64 k) ∧ w'.cell? ⟨g, 0, none⟩ = some (.int .i64 self)) (ds := []) (ms 16 0) (by kernel_rfl) rfl rfl ⟨c12, c0⟩ (fun hHeld => ?_)
  refine pure_ (i := 0) (N := some 28) (v := .pointer (some ⟨g, 0, none⟩)) (ms 16 1) rfl rfl (by kernel_rfl) (fun _ _ _ h => hP _ _ _ _ _ h) (Or.inl ⟨by rfl, ?_⟩) rfl ?_
  · intro w'
    exact y_move rfl rfl
  refine pure_ (i := 1) (N := some 29) (v := .pointer (some ⟨g, 0, none⟩)) (ms 16 2) rfl rfl (by kernel_rfl) (fun _ _ _ h => hP _ _ _ _ _ h) (Or.inl ⟨by rfl, ?_⟩) rfl ?_
  · intro w'
    exact y_nil rfl rfl
  refine pure_ (i := 2) (N := some 30) (v := .pointer (some ⟨g, 12, none⟩)) (ms 16 3) rfl rfl (by kernel_rfl) (fun _ _ _ h => hP _ _ _ _ _ h) (Or.inl ⟨by rfl, ?_⟩) rfl ?_
  · intro w'
    exact y_f94_9 rfl rfl
  refine take_ (i := 3) (N := some 31) (v := .int .i64 k) (a' := ⟨[.pointer (some ⟨g, 0, none⟩), u1, u2, u3, u4, u5, u6, u7, u8, u9, u10, u11, u12, u13, u14, u15, u16, u17, u18, u19, u20, u21, u22, u23, u24, u25, u26, u27, .pointer (some ⟨g, 0, none⟩), .pointer (some ⟨g, 0, none⟩), .pointer (some ⟨g, 12, none⟩), .int .i64 k, u32, u33, u34, u35, u36, u37, u38, u39, u40, u41, u42, u43, u44, u45, u46].toArray, []⟩) (ms 16 4) rfl rfl (by kernel_rfl) (fun _ _ _ h => hP _ _ _ _ _ h) (Or.inl ⟨by rfl, ?_⟩) hHeld rfl ?_
  · rintro w' ⟨q1, q2⟩
    exact y_load3 rfl rfl q1
  refine pure_ (i := 4) (N := some 32) (v := .pointer (some ⟨g, 0, none⟩)) (ms 16 5) rfl rfl (by kernel_rfl) (fun _ _ _ h => hP _ _ _ _ _ h) (Or.inl ⟨by rfl, ?_⟩) rfl ?_
  · intro w'
    exact y_move rfl rfl
  refine pure_ (i := 5) (N := some 33) (v := .pointer (some ⟨g, 0, none⟩)) (ms 16 6) rfl rfl (by kernel_rfl) (fun _ _ _ h => hP _ _ _ _ _ h) (Or.inl ⟨by rfl, ?_⟩) rfl ?_
  · intro w'
    exact y_nil rfl rfl
  refine pure_ (i := 6) (N := some 34) (v := .pointer (some ⟨g, 0, none⟩)) (ms 16 7) rfl rfl (by kernel_rfl) (fun _ _ _ h => hP _ _ _ _ _ h) (Or.inl ⟨by rfl, ?_⟩) rfl ?_
  · intro w'
    exact y_f94_0 rfl rfl
  refine take_ (i := 7) (N := some 35) (v := .int .i64 self) (a' := ⟨[.pointer (some ⟨g, 0, none⟩), u1, u2, u3, u4, u5, u6, u7, u8, u9, u10, u11, u12, u13, u14, u15, u16, u17, u18, u19, u20, u21, u22, u23, u24, u25, u26, u27, .pointer (some ⟨g, 0, none⟩), .pointer (some ⟨g, 0, none⟩), .pointer (some ⟨g, 12, none⟩), .int .i64 k, .pointer (some ⟨g, 0, none⟩), .pointer (some ⟨g, 0, none⟩), .pointer (some ⟨g, 0, none⟩), .int .i64 self, u36, u37, u38, u39, u40, u41, u42, u43, u44, u45, u46].toArray, []⟩) (ms 16 8) rfl rfl (by kernel_rfl) (fun _ _ _ h => hP _ _ _ _ _ h) (Or.inl ⟨by rfl, ?_⟩) hHeld rfl ?_
  · rintro w' ⟨q1, q2⟩
    exact y_load3 rfl rfl q2
  refine pure_ (i := 8) (N := some 36) (v := .int .i64 (3 * self)) (ms 16 9) rfl rfl (by kernel_rfl) (fun _ _ _ h => hP _ _ _ _ _ h) (Or.inl ⟨by rfl, ?_⟩) rfl ?_
  · intro w'
    exact y_cmul rfl rfl hm
  refine pure_ (i := 9) (N := some 37) (v := .int .i64 (10 + 3 * self)) (ms 16 10) rfl rfl (by kernel_rfl) (fun _ _ _ h => hP _ _ _ _ _ h) (Or.inl ⟨by rfl, ?_⟩) rfl ?_
  · intro w'
    exact y_cadd rfl rfl ha
  refine pure_ (i := 10) (N := some 38) (v := .bool true) (ms 16 11) rfl rfl (by kernel_rfl) (fun _ _ _ h => hP _ _ _ _ _ h) (Or.inl ⟨by rfl, ?_⟩) rfl ?_
  · intro w'
    exact y_geq rfl rfl rfl hk
  refine pure_ (i := 11) (N := some 39) (v := .bool true) (a' := ⟨[.pointer (some ⟨g, 0, none⟩), u1, u2, u3, u4, u5, u6, u7, u8, u9, u10, u11, u12, u13, u14, u15, u16, u17, u18, u19, u20, u21, u22, u23, u24, u25, u26, u27, .pointer (some ⟨g, 0, none⟩), .pointer (some ⟨g, 0, none⟩), .pointer (some ⟨g, 12, none⟩), .int .i64 k, .pointer (some ⟨g, 0, none⟩), .pointer (some ⟨g, 0, none⟩), .pointer (some ⟨g, 0, none⟩), .int .i64 self, .int .i64 (3 * self), .int .i64 (10 + 3 * self), .bool true, .bool true, u40, u41, u42, u43, u44, u45, u46].toArray, []⟩) (ms 16 12) rfl rfl (by kernel_rfl) (fun _ _ _ h => hP _ _ _ _ _ h) (Or.inl ⟨by rfl, ?_⟩) rfl ?_
  · intro w'
    exact y_move rfl rfl
  refine pure_ (i := 12) (N := some 40) (v := .pointer (some ⟨g, 0, none⟩)) (a' := ⟨[.pointer (some ⟨g, 0, none⟩), u1, u2, u3, u4, u5, u6, u7, u8, u9, u10, u11, u12, u13, u14, u15, u16, u17, u18, u19, u20, u21, u22, u23, u24, u25, u26, u27, .pointer (some ⟨g, 0, none⟩), .pointer (some ⟨g, 0, none⟩), .pointer (some ⟨g, 12, none⟩), .int .i64 k, .pointer (some ⟨g, 0, none⟩), .pointer (some ⟨g, 0, none⟩), .pointer (some ⟨g, 0, none⟩), .int .i64 self, .int .i64 (3 * self), .int .i64 (10 + 3 * self), .bool true, .bool true, .pointer (some ⟨g, 0, none⟩), u41, u42, u43, u44, u45, u46].toArray, []⟩) (ms 16 13) rfl rfl (by kernel_rfl) (fun _ _ _ h => hP _ _ _ _ _ h) (Or.inl ⟨by rfl, ?_⟩) rfl ?_
  · intro w'
    exact y_move rfl rfl
  refine one_ (i := 13) (N := some 41) (ms 16 14) rfl rfl (by kernel_rfl) (by decide) (fun K hK => ?_)
  refine goes_ Try.func45 (by kernel_rfl) rfl #[.pointer (some ⟨g, 0, none⟩)] (by rfl) rfl rfl (by (try simp only [List.map_toArray, List.map_cons, List.map_nil]); first | done | rfl) ?_
  refine (hc1 w.drew (Below.refl _ _)).mono ?_
  rintro e w1 ⟨rfl, hb⟩
  have hB1 : Below w.drew.heap.size w.drew w1 := hb
  refine ⟨_, rfl, hK.out _ _ ?_ ?_⟩
  · exact HS1 _ hB1
  intro hHeld1
  replace hHeld := hHeld1
  refine wpAnyLast_eq (a' := ⟨[.pointer (some ⟨g, 0, none⟩), u1, u2, u3, u4, u5, u6, u7, u8, u9, u10, u11, u12, u13, u14, u15, u16, u17, u18, u19, u20, u21, u22, u23, u24, u25, u26, u27, .pointer (some ⟨g, 0, none⟩), .pointer (some ⟨g, 0, none⟩), .pointer (some ⟨g, 12, none⟩), .int .i64 k, .pointer (some ⟨g, 0, none⟩), .pointer (some ⟨g, 0, none⟩), .pointer (some ⟨g, 0, none⟩), .int .i64 self, .int .i64 (3 * self), .int .i64 (10 + 3 * self), .bool true, .bool true, .pointer (some ⟨g, 0, none⟩), .bool b, u42, u43, u44, u45, u46].toArray, []⟩) rfl ?_
  refine pure_ (i := 14) (N := some 42) (v := .bool b) (ms 16 15) rfl rfl (by kernel_rfl) (fun _ _ _ h => hP _ _ _ _ _ h) (Or.inl ⟨by rfl, ?_⟩) rfl ?_
  · intro w'
    exact y_pick_t rfl rfl rfl
  refine pure_ (i := 15) (N := some 27) (v := .bool b) (a' := ⟨[.pointer (some ⟨g, 0, none⟩), u1, u2, u3, u4, u5, u6, u7, u8, u9, u10, u11, u12, u13, u14, u15, u16, u17, u18, u19, u20, u21, u22, u23, u24, u25, u26, .bool b, .pointer (some ⟨g, 0, none⟩), .pointer (some ⟨g, 0, none⟩), .pointer (some ⟨g, 12, none⟩), .int .i64 k, .pointer (some ⟨g, 0, none⟩), .pointer (some ⟨g, 0, none⟩), .pointer (some ⟨g, 0, none⟩), .int .i64 self, .int .i64 (3 * self), .int .i64 (10 + 3 * self), .bool true, .bool true, .pointer (some ⟨g, 0, none⟩), .bool b, .bool b, u43, u44, u45, u46].toArray, []⟩) (ms 16 16) rfl rfl (by kernel_rfl) (fun _ _ _ h => hP _ _ _ _ _ h) (Or.inl ⟨by rfl, ?_⟩) rfl ?_
  · intro w'
    exact y_assign rfl rfl
  refine done_ (by kernel_rfl) ?_
  exact h w1 hB1


end Go.Proofs.Ytfanbhbpmhojaaa
