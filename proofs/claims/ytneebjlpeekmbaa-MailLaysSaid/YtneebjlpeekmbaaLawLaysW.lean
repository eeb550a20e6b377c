/- The walk of the law MailLays: it returns true, and writes nothing that was there. Conditions: the kinds' ranges. -/
import Derived.Test.YtneebjlpeekmbaaAb
import Derived.Test.YtneebjlpeekmbaaRefD2
namespace Go.Proofs.Ytneebjlpeekmbaa
open Go.RowKit Go.Proofs.YtneebjlpeekmbaaW.PrintWords Go.Proofs.YtneebjlpeekmbaaW.PrintLast Go.Proofs.YtneebjlpeekmbaaW.PrintMore PRef
set_option linter.unusedVariables false
set_option linter.unusedSimpArgs false

def regionOf (n : Nat) : Code → Option Code
  | .region i o d => if i = n then some (.region i o d) else none
  | .loop c => regionOf n c
  | .seq a b => match regionOf n a with
    | some c => some c
    | none => regionOf n b
  | .block _ c => regionOf n c
  | .scope c => regionOf n c
  | .cond _ a b => match regionOf n a with
    | some c => some c
    | none => regionOf n b
  | _ => none
noncomputable def reg7 : Code := (Try.f3.body.bind (regionOf 7)).getD .skip
theorem load_yields {P : Program} {a : Act} {o : Oper} {w : World} (ty : TypeId) (x : Operand) (ho : o.op = .load ty x) (g : Nat) (hx : a.eval x = .pointer (some ⟨g, 0, none⟩)) (t : TypeId) (cs : Array Value) (fr : Nat × Nat) (d : TypeDesc) (hg : w.heap[g]? = some (.cells cs t fr)) (hu : P.underlying ty = some d) (hd : (match d with | .struct _ | .array _ _ => true | _ => false) = true) (hi : (P.info? ty).map (·.size) = some cs.size) :
    (execOp a.eval o).run P w = .ok (.value (.agg cs)) w := by
  unfold execOp
  simp only [ho, hx, Instr.loadAt, Instr.sureAddr, Sem.run_bind, Sem.run_pure, Result.andThen_ok, run_loadVar_row w g t ty cs fr d hg hu hd hi]
section
variable {P : Program} {a : Act} {o : Oper} {w : World}
theorem y_move {x : Operand} {v : Value} (ho : o.op = .move x) (hx : a.eval x = v) : (execOp a.eval o).run P w = .ok (.value v) w := by
  unfold execOp
  simp only [ho, hx]
  go_simp
theorem y_assign {x : Operand} {v : Value} (ho : o.op = .assign x) (hx : a.eval x = v) : (execOp a.eval o).run P w = .ok (.value v) w := by
  unfold execOp
  simp only [ho, hx]
  go_simp
theorem y_nil {x : Operand} {b i : Nat} (ho : o.op = .nilCheck x) (hx : a.eval x = .pointer (some ⟨b, i, none⟩)) : (execOp a.eval o).run P w = .ok (.value (.pointer (some ⟨b, i, none⟩))) w := by
  unfold execOp
  simp only [ho, hx]
  go_simp
theorem y_field {x : Operand} {b i : Nat} (ho : o.op = .fieldAddr 95 x i) (hi : i = 0 ∨ i = 1) (hx : a.eval x = .pointer (some ⟨b, 0, none⟩)) : (execOp a.eval o).run Try.prog w = .ok (.value (.pointer (some ⟨b, i, none⟩))) w := by
  have hu95 := Try.underlying95
  unfold execOp
  rcases hi with rfl | rfl
  · simp only [ho, hx]
    go_simp
  · simp only [ho, hx]
    go_simp
theorem y_load4 {x : Operand} {b i : Nat} {v : Bool} (ho : o.op = .load 4 x) (hx : a.eval x = .pointer (some ⟨b, i, none⟩)) (hc : w.cell? ⟨b, i, none⟩ = some (.bool v)) : (execOp a.eval o).run Try.prog w = .ok (.value (.bool v)) w := by
  have hu4 := Try.underlying4
  unfold execOp
  simp only [ho, hx]
  go_simp
theorem y_load37 {x : Operand} {b i n c : Nat} {A : Option Addr} (ho : o.op = .load 37 x) (hx : a.eval x = .pointer (some ⟨b, i, none⟩)) (hc : w.cell? ⟨b, i, none⟩ = some (.slice A n c)) : (execOp a.eval o).run Try.prog w = .ok (.value (.slice A n c)) w := by
  have hu37 := Try.underlying37
  unfold execOp
  simp only [ho, hx]
  go_simp
theorem y_not {x : Operand} {v : Bool} {t : TypeId} (ho : o.op = .unOp .not t x) (hx : a.eval x = .bool v) : (execOp a.eval o).run P w = .ok (.value (.bool !v)) w := by
  unfold execOp
  simp only [ho, hx]
  go_simp
theorem y_len {t : Tmp} {n c : Nat} {A : Option Addr} (ho : o.op = .call { callee := .builtin .len, args := #[.tmp t], argTypes := #[37] }) (hx : a.eval (.tmp t) = .slice A n c) : (execOp a.eval o).run Try.prog w = .ok (.value (.int .i64 n)) w := by
  have hu37 := Try.underlying37
  have hx' : a.tmps[t]?.getD undef = .slice A n c := by unfold Act.eval at hx; simpa using hx
  unfold execOp
  simp only [ho]
  go_simp
theorem y_eql0 {x : Operand} {n : Int} (ho : o.op = .binOp .eql 3 x (.const (.int .i64 0)) 3) (hx : a.eval x = .int .i64 n) : (execOp a.eval o).run Try.prog w = .ok (.value (.bool (n == 0))) w := by
  have hu3 := Try.underlying3
  unfold execOp
  simp only [ho, hx]
  go_simp
theorem y_pick_f {x y z : Operand} {v : Value} (ho : o.op = .pick x y z) (hx : a.eval x = .bool false) (hz : a.eval z = v) : (execOp a.eval o).run P w = .ok (.value v) w := by
  unfold execOp
  simp only [ho, hx, hz]
  go_simp
theorem y_pick_t {x y z : Operand} {v : Value} (ho : o.op = .pick x y z) (hx : a.eval x = .bool true) (hz : a.eval y = v) : (execOp a.eval o).run P w = .ok (.value v) w := by
  unfold execOp
  simp only [ho, hx, hz]
  go_simp
end
section
variable {P : Program} {a : Act} {o : Oper} {w : World}
theorem y_eqc {x : Operand} {n : Int} (ho : o.op = .binOp .eql 38 x (.const (.int .i64 n)) 38) (hx : a.eval x = .int .i64 n) : (execOp a.eval o).run Try.prog w = .ok (.value (.bool true)) w := by
  have hu38 := Try.underlying38
  have hn : (n == n) = true := beq_self_eq_true n
  unfold execOp
  simp only [ho, hx]
  go_simp
theorem y_eqs {x y : Operand} {s : ByteArray} (ho : o.op = .binOp .eql 9 x y 9) (hx : a.eval x = .string s) (hy : a.eval y = .string s) : (execOp a.eval o).run Try.prog w = .ok (.value (.bool true)) w := by
  have hu9 := Try.underlying9
  unfold execOp
  simp only [ho, hx, hy]
  go_simp
theorem y_conv {x : Operand} {u v : Value} (hr : (convert 37 9 u).run Try.prog w = .ok v w) (ho : o.op = .convert 37 9 x) (hx : a.eval x = u) : (execOp a.eval o).run Try.prog w = .ok (.value v) w := by
  unfold execOp
  simp only [ho, hx]
  simp only [Sem.run_bind, Sem.run_pure, hr, Result.andThen_ok]
  try rfl
theorem y_wp {v : Value} {K : Act → World → Prop} {Q : Exit → Act → World → Prop} (hr : (execOp a.eval o).run P w = .ok (.value v) w) (h : K (a.put o.dst v) w) : o.wp P a w K Q := by
  unfold Oper.wp
  rw [hr]
  simp only [Oper.upon]
  first
  | exact h
  | exact Or.inl h
end
theorem data_m {w : World} {cs : Array Value} {x : Mail} (h : InM w cs x) (hx : MayOk x) (hi : MailI x) : Calls Try.prog 16 #[.agg cs] w fun e w' => ∃ v, e = .returned v ∧ OwnB w' w.heap.size v (encMail x) ∧ Below w.heap.size w w' := by
  obtain ⟨A1, c1, A2, c2, A3, c3, rfl, h1, h2, h3⟩ := h
  exact data_calls w A1 A2 A3 c1 c2 c3 x h1 h2 h3 hx hi

set_option maxRecDepth 1000000 in
set_option maxHeartbeats 4000000 in
theorem lays_last (b1 b5 : Nat) (w0 : World) (Q : Exit → Act → World → Prop) (cs ds : Array Value) (x : Mail) (us : List Int) (A : Option Addr) (n c : Nat)
    (hP : ∀ x a d v w, Q (.panic x) (a.put (some d) v) w → Q (.panic x) a w) (hcs0 : w0.heap[b1]? = some (.cells cs 34 (0, 0))) (hds0 : w0.heap[b5]? = some (.cells ds 34 (0, 0))) (hx0 : InM w0 cs x) (hd0 : InM w0 ds x) (hm : MayOk x) (hi : MailI x) (hus : us = encMail x) (hub : IsBytes us) (hul : us.length ≤ 1048576)
    (hrow0 : ReadsInt w0 .u8 A n (frameL us))
    (h : ∀ (tmps : Array Value) (w' : World), tmps.getD 2 undef = .bool true → Below w0.drew.heap.size w0.drew w' → Q .normal ⟨tmps, []⟩ w') (u0 u2 u7 u8 u9 u10 u11 u12 u13 u14 u15 u16 u17 u18 u19 u20 u21 u22 u23 u24 u25 u26 u27 u28 u29 u30 u31 u32 u33 u34 u35 u36 u37 u38 u39 u40 u41 u42 u43 u44 u45 u46 u47 u48 u49 u50 u51 u52 u53 u54 u55 u56 : Value) :
    Code.wp Try.prog reg7 Q ⟨[u0, .pointer (some ⟨b1, 0, none⟩), u2, .slice A n c, .int .i64 0, .pointer (some ⟨b5, 0, none⟩), .int .i64 0, u7, u8, u9, u10, u11, u12, u13, u14, u15, u16, u17, u18, u19, u20, u21, u22, u23, u24, u25, u26, u27, u28, u29, u30, u31, u32, u33, u34, u35, u36, u37, u38, u39, u40, u41, u42, u43, u44, u45, u46, u47, u48, u49, u50, u51, u52, u53, u54, u55, u56].toArray, []⟩ w0 := by
  conv => arg 2; whnf
  obtain ⟨w, hw⟩ : ∃ w, w = w0.drew := ⟨_, rfl⟩
  have hcs : w.heap[b1]? = some (.cells cs 34 (0, 0)) := by rw [hw]; exact hcs0
  have hds : w.heap[b5]? = some (.cells ds 34 (0, 0)) := by rw [hw]; exact hds0
  have hx : InM w cs x := by rw [hw]; exact hx0.below ((Below.refl _ _).drew)
  have hd : InM w ds x := by rw [hw]; exact hd0.below ((Below.refl _ _).drew)
  have hrow : ReadsInt w .u8 A n (frameL us) := by rw [hw]; exact hrow0.below ((Below.refl _ _).drew)
  refine start_ (n := 24) (S := fun w' => Below w.heap.size w w') (ds := []) #[false, false, false, false, false, false, false, false, false, false, false, false, false, false, false, false, false, false, false, false, false, false, false, false] (by kernel_rfl) rfl rfl (by rw [hw]; exact Below.refl _ _) (fun hHeld => ?_)
  rw [← hw] at h hHeld ⊢
  refine pure_ (i := 0) (N := some 34) (v := .int .i64 0) (a' := ⟨[u0, .pointer (some ⟨b1, 0, none⟩), u2, .slice A n c, .int .i64 0, .pointer (some ⟨b5, 0, none⟩), .int .i64 0, u7, u8, u9, u10, u11, u12, u13, u14, u15, u16, u17, u18, u19, u20, u21, u22, u23, u24, u25, u26, u27, u28, u29, u30, u31, u32, u33, .int .i64 0, u35, u36, u37, u38, u39, u40, u41, u42, u43, u44, u45, u46, u47, u48, u49, u50, u51, u52, u53, u54, u55, u56].toArray, []⟩) #[true, false, false, false, false, false, false, false, false, false, false, false, false, false, false, false, false, false, false, false, false, false, false, false] rfl rfl (by kernel_rfl) (fun _ _ _ h => hP _ _ _ _ _ h) (Or.inl ⟨by rfl, ?_⟩) rfl ?_
  · intro w'; exact y_move rfl rfl
  refine pure_ (i := 1) (N := some 35) (v := .bool true) (a' := ⟨[u0, .pointer (some ⟨b1, 0, none⟩), u2, .slice A n c, .int .i64 0, .pointer (some ⟨b5, 0, none⟩), .int .i64 0, u7, u8, u9, u10, u11, u12, u13, u14, u15, u16, u17, u18, u19, u20, u21, u22, u23, u24, u25, u26, u27, u28, u29, u30, u31, u32, u33, .int .i64 0, .bool true, u36, u37, u38, u39, u40, u41, u42, u43, u44, u45, u46, u47, u48, u49, u50, u51, u52, u53, u54, u55, u56].toArray, []⟩) #[true, true, false, false, false, false, false, false, false, false, false, false, false, false, false, false, false, false, false, false, false, false, false, false] rfl rfl (by kernel_rfl) (fun _ _ _ h => hP _ _ _ _ _ h) (Or.inl ⟨by rfl, ?_⟩) rfl ?_
  · intro w'; exact y_eqc (n := 0) rfl rfl
  refine pure_ (i := 2) (N := some 36) (v := .bool true) (a' := ⟨[u0, .pointer (some ⟨b1, 0, none⟩), u2, .slice A n c, .int .i64 0, .pointer (some ⟨b5, 0, none⟩), .int .i64 0, u7, u8, u9, u10, u11, u12, u13, u14, u15, u16, u17, u18, u19, u20, u21, u22, u23, u24, u25, u26, u27, u28, u29, u30, u31, u32, u33, .int .i64 0, .bool true, .bool true, u37, u38, u39, u40, u41, u42, u43, u44, u45, u46, u47, u48, u49, u50, u51, u52, u53, u54, u55, u56].toArray, []⟩) #[true, true, true, false, false, false, false, false, false, false, false, false, false, false, false, false, false, false, false, false, false, false, false, false] rfl rfl (by kernel_rfl) (fun _ _ _ h => hP _ _ _ _ _ h) (Or.inl ⟨by rfl, ?_⟩) rfl ?_
  · intro w'; exact y_move rfl rfl
  refine pure_ (i := 3) (N := some 37) (v := .slice A n c) (a' := ⟨[u0, .pointer (some ⟨b1, 0, none⟩), u2, .slice A n c, .int .i64 0, .pointer (some ⟨b5, 0, none⟩), .int .i64 0, u7, u8, u9, u10, u11, u12, u13, u14, u15, u16, u17, u18, u19, u20, u21, u22, u23, u24, u25, u26, u27, u28, u29, u30, u31, u32, u33, .int .i64 0, .bool true, .bool true, .slice A n c, u38, u39, u40, u41, u42, u43, u44, u45, u46, u47, u48, u49, u50, u51, u52, u53, u54, u55, u56].toArray, []⟩) #[true, true, true, true, false, false, false, false, false, false, false, false, false, false, false, false, false, false, false, false, false, false, false, false] rfl rfl (by kernel_rfl) (fun _ _ _ h => hP _ _ _ _ _ h) (Or.inl ⟨by rfl, ?_⟩) rfl ?_
  · intro w'; exact y_move rfl rfl
  refine take_ (i := 4) (N := some 38) (v := .string (strOfNums (frameL us))) (a' := ⟨[u0, .pointer (some ⟨b1, 0, none⟩), u2, .slice A n c, .int .i64 0, .pointer (some ⟨b5, 0, none⟩), .int .i64 0, u7, u8, u9, u10, u11, u12, u13, u14, u15, u16, u17, u18, u19, u20, u21, u22, u23, u24, u25, u26, u27, u28, u29, u30, u31, u32, u33, .int .i64 0, .bool true, .bool true, .slice A n c, .string (strOfNums (frameL us)), u39, u40, u41, u42, u43, u44, u45, u46, u47, u48, u49, u50, u51, u52, u53, u54, u55, u56].toArray, []⟩) #[true, true, true, true, true, false, false, false, false, false, false, false, false, false, false, false, false, false, false, false, false, false, false, false] rfl rfl (by kernel_rfl) (fun _ _ _ h => hP _ _ _ _ _ h) (Or.inl ⟨by rfl, ?_⟩) hHeld rfl ?_
  · intro w' hw; exact y_conv (string_of_reads (P := Try.prog) (src := 37) (dst := 9) (c := c) Try.underlying37 Try.underlying5 Try.underlying9 (hrow.below hw)) rfl rfl
  refine take_ (i := 5) (N := some 39) (v := .agg cs) (a' := ⟨[u0, .pointer (some ⟨b1, 0, none⟩), u2, .slice A n c, .int .i64 0, .pointer (some ⟨b5, 0, none⟩), .int .i64 0, u7, u8, u9, u10, u11, u12, u13, u14, u15, u16, u17, u18, u19, u20, u21, u22, u23, u24, u25, u26, u27, u28, u29, u30, u31, u32, u33, .int .i64 0, .bool true, .bool true, .slice A n c, .string (strOfNums (frameL us)), .agg cs, u40, u41, u42, u43, u44, u45, u46, u47, u48, u49, u50, u51, u52, u53, u54, u55, u56].toArray, []⟩) #[true, true, true, true, true, true, false, false, false, false, false, false, false, false, false, false, false, false, false, false, false, false, false, false] rfl rfl (by kernel_rfl) (fun _ _ _ h => hP _ _ _ _ _ h) (Or.inl ⟨by rfl, ?_⟩) hHeld rfl ?_
  · intro w' hw; exact load_yields 34 (.tmp 1) rfl b1 rfl 34 cs (0, 0) _ (blk_below hcs hw) Try.underlying34 rfl hx.info
  refine one_ (i := 6) (N := some 40) #[true, true, true, true, true, true, true, false, false, false, false, false, false, false, false, false, false, false, false, false, false, false, false, false] rfl rfl (by kernel_rfl) (by decide) (fun K hK => ?_)
  refine goes_ Try.func16 (by kernel_rfl) rfl #[.agg cs] (by rfl) rfl rfl (by (try simp only [List.map_toArray, List.map_cons, List.map_nil]); first | done | rfl) ?_
  refine (data_m (hx.below hHeld) hm hi).mono ?_
  rintro e w1 ⟨v, rfl, ho, hb⟩
  obtain ⟨A1, c1, rfl, hc1, hr1⟩ := OwnB.reads ho
  rw [← hus] at hr1 hc1 ⊢
  refine ⟨_, rfl, hK.out _ _ (hHeld.trans (hb.mono hHeld.size)) ?_⟩
  intro hHeld1
  refine norm_ (a' := ⟨[u0, .pointer (some ⟨b1, 0, none⟩), u2, .slice A n c, .int .i64 0, .pointer (some ⟨b5, 0, none⟩), .int .i64 0, u7, u8, u9, u10, u11, u12, u13, u14, u15, u16, u17, u18, u19, u20, u21, u22, u23, u24, u25, u26, u27, u28, u29, u30, u31, u32, u33, .int .i64 0, .bool true, .bool true, .slice A n c, .string (strOfNums (frameL us)), .agg cs, .slice A1 us.length c1, u41, u42, u43, u44, u45, u46, u47, u48, u49, u50, u51, u52, u53, u54, u55, u56].toArray, []⟩) rfl ?_
  refine one_ (i := 7) (N := some 41) #[true, true, true, true, true, true, true, true, false, false, false, false, false, false, false, false, false, false, false, false, false, false, false, false] rfl rfl (by kernel_rfl) (by decide) (fun K hK => ?_)
  refine goes_ Try.func15 (by kernel_rfl) rfl #[.slice A1 us.length c1] (by rfl) rfl rfl (by (try simp only [List.map_toArray, List.map_cons, List.map_nil]); first | done | rfl) ?_
  refine (rframe_calls A1 c1 us _ hr1 hc1 hub (by omega)).mono ?_
  rintro e w2 ⟨v2, rfl, ho2, hb2⟩
  have hcv := own_string (P := Try.prog) (src := 37) (dst := 9) Try.underlying37 Try.underlying5 Try.underlying9 ho2
  refine ⟨_, rfl, hK.out _ _ (hHeld1.trans (hb2.mono hHeld1.size)) ?_⟩
  intro hHeld2
  refine norm_ (a' := ⟨[u0, .pointer (some ⟨b1, 0, none⟩), u2, .slice A n c, .int .i64 0, .pointer (some ⟨b5, 0, none⟩), .int .i64 0, u7, u8, u9, u10, u11, u12, u13, u14, u15, u16, u17, u18, u19, u20, u21, u22, u23, u24, u25, u26, u27, u28, u29, u30, u31, u32, u33, .int .i64 0, .bool true, .bool true, .slice A n c, .string (strOfNums (frameL us)), .agg cs, .slice A1 us.length c1, v2, u42, u43, u44, u45, u46, u47, u48, u49, u50, u51, u52, u53, u54, u55, u56].toArray, []⟩) rfl ?_
  refine one_ (i := 8) (N := some 42) #[true, true, true, true, true, true, true, true, true, false, false, false, false, false, false, false, false, false, false, false, false, false, false, false] rfl rfl (by kernel_rfl) (by decide) (fun K hK => ?_)
  rw [if_pos (by rfl)]
  refine y_wp (v := .string (strOfNums (frameL us))) (y_conv hcv rfl rfl) ?_
  refine hK.out _ _ hHeld2 ?_
  intro hHeld3
  refine norm_ (a' := ⟨[u0, .pointer (some ⟨b1, 0, none⟩), u2, .slice A n c, .int .i64 0, .pointer (some ⟨b5, 0, none⟩), .int .i64 0, u7, u8, u9, u10, u11, u12, u13, u14, u15, u16, u17, u18, u19, u20, u21, u22, u23, u24, u25, u26, u27, u28, u29, u30, u31, u32, u33, .int .i64 0, .bool true, .bool true, .slice A n c, .string (strOfNums (frameL us)), .agg cs, .slice A1 us.length c1, v2, .string (strOfNums (frameL us)), u43, u44, u45, u46, u47, u48, u49, u50, u51, u52, u53, u54, u55, u56].toArray, []⟩) rfl ?_
  refine pure_ (i := 9) (N := some 43) (v := .bool true) (a' := ⟨[u0, .pointer (some ⟨b1, 0, none⟩), u2, .slice A n c, .int .i64 0, .pointer (some ⟨b5, 0, none⟩), .int .i64 0, u7, u8, u9, u10, u11, u12, u13, u14, u15, u16, u17, u18, u19, u20, u21, u22, u23, u24, u25, u26, u27, u28, u29, u30, u31, u32, u33, .int .i64 0, .bool true, .bool true, .slice A n c, .string (strOfNums (frameL us)), .agg cs, .slice A1 us.length c1, v2, .string (strOfNums (frameL us)), .bool true, u44, u45, u46, u47, u48, u49, u50, u51, u52, u53, u54, u55, u56].toArray, []⟩) #[true, true, true, true, true, true, true, true, true, true, false, false, false, false, false, false, false, false, false, false, false, false, false, false] rfl rfl (by kernel_rfl) (fun _ _ _ h => hP _ _ _ _ _ h) (Or.inl ⟨by rfl, ?_⟩) rfl ?_
  · intro w'; exact y_eqs (s := strOfNums (frameL us)) rfl rfl rfl
  refine pure_ (i := 10) (N := some 44) (v := .bool true) (a' := ⟨[u0, .pointer (some ⟨b1, 0, none⟩), u2, .slice A n c, .int .i64 0, .pointer (some ⟨b5, 0, none⟩), .int .i64 0, u7, u8, u9, u10, u11, u12, u13, u14, u15, u16, u17, u18, u19, u20, u21, u22, u23, u24, u25, u26, u27, u28, u29, u30, u31, u32, u33, .int .i64 0, .bool true, .bool true, .slice A n c, .string (strOfNums (frameL us)), .agg cs, .slice A1 us.length c1, v2, .string (strOfNums (frameL us)), .bool true, .bool true, u45, u46, u47, u48, u49, u50, u51, u52, u53, u54, u55, u56].toArray, []⟩) #[true, true, true, true, true, true, true, true, true, true, true, false, false, false, false, false, false, false, false, false, false, false, false, false] rfl rfl (by kernel_rfl) (fun _ _ _ h => hP _ _ _ _ _ h) (Or.inl ⟨by rfl, ?_⟩) rfl ?_
  · intro w'; exact y_pick_t rfl rfl rfl
  refine pure_ (i := 11) (N := some 45) (v := .bool true) (a' := ⟨[u0, .pointer (some ⟨b1, 0, none⟩), u2, .slice A n c, .int .i64 0, .pointer (some ⟨b5, 0, none⟩), .int .i64 0, u7, u8, u9, u10, u11, u12, u13, u14, u15, u16, u17, u18, u19, u20, u21, u22, u23, u24, u25, u26, u27, u28, u29, u30, u31, u32, u33, .int .i64 0, .bool true, .bool true, .slice A n c, .string (strOfNums (frameL us)), .agg cs, .slice A1 us.length c1, v2, .string (strOfNums (frameL us)), .bool true, .bool true, .bool true, u46, u47, u48, u49, u50, u51, u52, u53, u54, u55, u56].toArray, []⟩) #[true, true, true, true, true, true, true, true, true, true, true, true, false, false, false, false, false, false, false, false, false, false, false, false] rfl rfl (by kernel_rfl) (fun _ _ _ h => hP _ _ _ _ _ h) (Or.inl ⟨by rfl, ?_⟩) rfl ?_
  · intro w'; exact y_move rfl rfl
  refine pure_ (i := 12) (N := some 46) (v := .int .i64 0) (a' := ⟨[u0, .pointer (some ⟨b1, 0, none⟩), u2, .slice A n c, .int .i64 0, .pointer (some ⟨b5, 0, none⟩), .int .i64 0, u7, u8, u9, u10, u11, u12, u13, u14, u15, u16, u17, u18, u19, u20, u21, u22, u23, u24, u25, u26, u27, u28, u29, u30, u31, u32, u33, .int .i64 0, .bool true, .bool true, .slice A n c, .string (strOfNums (frameL us)), .agg cs, .slice A1 us.length c1, v2, .string (strOfNums (frameL us)), .bool true, .bool true, .bool true, .int .i64 0, u47, u48, u49, u50, u51, u52, u53, u54, u55, u56].toArray, []⟩) #[true, true, true, true, true, true, true, true, true, true, true, true, true, false, false, false, false, false, false, false, false, false, false, false] rfl rfl (by kernel_rfl) (fun _ _ _ h => hP _ _ _ _ _ h) (Or.inl ⟨by rfl, ?_⟩) rfl ?_
  · intro w'; exact y_move rfl rfl
  refine pure_ (i := 13) (N := some 47) (v := .bool true) (a' := ⟨[u0, .pointer (some ⟨b1, 0, none⟩), u2, .slice A n c, .int .i64 0, .pointer (some ⟨b5, 0, none⟩), .int .i64 0, u7, u8, u9, u10, u11, u12, u13, u14, u15, u16, u17, u18, u19, u20, u21, u22, u23, u24, u25, u26, u27, u28, u29, u30, u31, u32, u33, .int .i64 0, .bool true, .bool true, .slice A n c, .string (strOfNums (frameL us)), .agg cs, .slice A1 us.length c1, v2, .string (strOfNums (frameL us)), .bool true, .bool true, .bool true, .int .i64 0, .bool true, u48, u49, u50, u51, u52, u53, u54, u55, u56].toArray, []⟩) #[true, true, true, true, true, true, true, true, true, true, true, true, true, true, false, false, false, false, false, false, false, false, false, false] rfl rfl (by kernel_rfl) (fun _ _ _ h => hP _ _ _ _ _ h) (Or.inl ⟨by rfl, ?_⟩) rfl ?_
  · intro w'; exact y_eqc (n := 0) rfl rfl
  refine pure_ (i := 14) (N := some 48) (v := .bool true) (a' := ⟨[u0, .pointer (some ⟨b1, 0, none⟩), u2, .slice A n c, .int .i64 0, .pointer (some ⟨b5, 0, none⟩), .int .i64 0, u7, u8, u9, u10, u11, u12, u13, u14, u15, u16, u17, u18, u19, u20, u21, u22, u23, u24, u25, u26, u27, u28, u29, u30, u31, u32, u33, .int .i64 0, .bool true, .bool true, .slice A n c, .string (strOfNums (frameL us)), .agg cs, .slice A1 us.length c1, v2, .string (strOfNums (frameL us)), .bool true, .bool true, .bool true, .int .i64 0, .bool true, .bool true, u49, u50, u51, u52, u53, u54, u55, u56].toArray, []⟩) #[true, true, true, true, true, true, true, true, true, true, true, true, true, true, true, false, false, false, false, false, false, false, false, false] rfl rfl (by kernel_rfl) (fun _ _ _ h => hP _ _ _ _ _ h) (Or.inl ⟨by rfl, ?_⟩) rfl ?_
  · intro w'; exact y_pick_t rfl rfl rfl
  refine pure_ (i := 15) (N := some 49) (v := .bool true) (a' := ⟨[u0, .pointer (some ⟨b1, 0, none⟩), u2, .slice A n c, .int .i64 0, .pointer (some ⟨b5, 0, none⟩), .int .i64 0, u7, u8, u9, u10, u11, u12, u13, u14, u15, u16, u17, u18, u19, u20, u21, u22, u23, u24, u25, u26, u27, u28, u29, u30, u31, u32, u33, .int .i64 0, .bool true, .bool true, .slice A n c, .string (strOfNums (frameL us)), .agg cs, .slice A1 us.length c1, v2, .string (strOfNums (frameL us)), .bool true, .bool true, .bool true, .int .i64 0, .bool true, .bool true, .bool true, u50, u51, u52, u53, u54, u55, u56].toArray, []⟩) #[true, true, true, true, true, true, true, true, true, true, true, true, true, true, true, true, false, false, false, false, false, false, false, false] rfl rfl (by kernel_rfl) (fun _ _ _ h => hP _ _ _ _ _ h) (Or.inl ⟨by rfl, ?_⟩) rfl ?_
  · intro w'; exact y_move rfl rfl
  refine take_ (i := 16) (N := some 50) (v := .agg cs) (a' := ⟨[u0, .pointer (some ⟨b1, 0, none⟩), u2, .slice A n c, .int .i64 0, .pointer (some ⟨b5, 0, none⟩), .int .i64 0, u7, u8, u9, u10, u11, u12, u13, u14, u15, u16, u17, u18, u19, u20, u21, u22, u23, u24, u25, u26, u27, u28, u29, u30, u31, u32, u33, .int .i64 0, .bool true, .bool true, .slice A n c, .string (strOfNums (frameL us)), .agg cs, .slice A1 us.length c1, v2, .string (strOfNums (frameL us)), .bool true, .bool true, .bool true, .int .i64 0, .bool true, .bool true, .bool true, .agg cs, u51, u52, u53, u54, u55, u56].toArray, []⟩) #[true, true, true, true, true, true, true, true, true, true, true, true, true, true, true, true, true, false, false, false, false, false, false, false] rfl rfl (by kernel_rfl) (fun _ _ _ h => hP _ _ _ _ _ h) (Or.inl ⟨by rfl, ?_⟩) hHeld3 rfl ?_
  · intro w' hw; exact load_yields 34 (.tmp 1) rfl b1 rfl 34 cs (0, 0) _ (blk_below hcs hw) Try.underlying34 rfl hx.info
  refine take_ (i := 17) (N := some 51) (v := .agg ds) (a' := ⟨[u0, .pointer (some ⟨b1, 0, none⟩), u2, .slice A n c, .int .i64 0, .pointer (some ⟨b5, 0, none⟩), .int .i64 0, u7, u8, u9, u10, u11, u12, u13, u14, u15, u16, u17, u18, u19, u20, u21, u22, u23, u24, u25, u26, u27, u28, u29, u30, u31, u32, u33, .int .i64 0, .bool true, .bool true, .slice A n c, .string (strOfNums (frameL us)), .agg cs, .slice A1 us.length c1, v2, .string (strOfNums (frameL us)), .bool true, .bool true, .bool true, .int .i64 0, .bool true, .bool true, .bool true, .agg cs, .agg ds, u52, u53, u54, u55, u56].toArray, []⟩) #[true, true, true, true, true, true, true, true, true, true, true, true, true, true, true, true, true, true, false, false, false, false, false, false] rfl rfl (by kernel_rfl) (fun _ _ _ h => hP _ _ _ _ _ h) (Or.inl ⟨by rfl, ?_⟩) hHeld3 rfl ?_
  · intro w' hw; exact load_yields 34 (.tmp 5) rfl b5 rfl 34 ds (0, 0) _ (blk_below hds hw) Try.underlying34 rfl hd.info
  refine one_ (i := 18) (N := some 52) #[true, true, true, true, true, true, true, true, true, true, true, true, true, true, true, true, true, true, true, false, false, false, false, false] rfl rfl (by kernel_rfl) (by decide) (fun K hK => ?_)
  refine goes_ Try.func17 (by kernel_rfl) rfl #[.agg cs, .agg ds] (by rfl) rfl rfl (by (try simp only [List.map_toArray, List.map_cons, List.map_nil]); first | done | rfl) ?_
  refine (same15_m (hx.below hHeld3) (hd.below hHeld3)).mono ?_
  rintro e w3 ⟨rfl, hb3⟩
  refine ⟨_, rfl, hK.out _ _ (hHeld3.trans (hb3.mono hHeld3.size)) ?_⟩
  intro hHeld4
  refine norm_ (a' := ⟨[u0, .pointer (some ⟨b1, 0, none⟩), u2, .slice A n c, .int .i64 0, .pointer (some ⟨b5, 0, none⟩), .int .i64 0, u7, u8, u9, u10, u11, u12, u13, u14, u15, u16, u17, u18, u19, u20, u21, u22, u23, u24, u25, u26, u27, u28, u29, u30, u31, u32, u33, .int .i64 0, .bool true, .bool true, .slice A n c, .string (strOfNums (frameL us)), .agg cs, .slice A1 us.length c1, v2, .string (strOfNums (frameL us)), .bool true, .bool true, .bool true, .int .i64 0, .bool true, .bool true, .bool true, .agg cs, .agg ds, .bool true, u53, u54, u55, u56].toArray, []⟩) rfl ?_
  refine pure_ (i := 19) (N := some 53) (v := .bool true) (a' := ⟨[u0, .pointer (some ⟨b1, 0, none⟩), u2, .slice A n c, .int .i64 0, .pointer (some ⟨b5, 0, none⟩), .int .i64 0, u7, u8, u9, u10, u11, u12, u13, u14, u15, u16, u17, u18, u19, u20, u21, u22, u23, u24, u25, u26, u27, u28, u29, u30, u31, u32, u33, .int .i64 0, .bool true, .bool true, .slice A n c, .string (strOfNums (frameL us)), .agg cs, .slice A1 us.length c1, v2, .string (strOfNums (frameL us)), .bool true, .bool true, .bool true, .int .i64 0, .bool true, .bool true, .bool true, .agg cs, .agg ds, .bool true, .bool true, u54, u55, u56].toArray, []⟩) #[true, true, true, true, true, true, true, true, true, true, true, true, true, true, true, true, true, true, true, true, false, false, false, false] rfl rfl (by kernel_rfl) (fun _ _ _ h => hP _ _ _ _ _ h) (Or.inl ⟨by rfl, ?_⟩) rfl ?_
  · intro w'; exact y_pick_t rfl rfl rfl
  refine pure_ (i := 20) (N := some 54) (v := .bool true) (a' := ⟨[u0, .pointer (some ⟨b1, 0, none⟩), u2, .slice A n c, .int .i64 0, .pointer (some ⟨b5, 0, none⟩), .int .i64 0, u7, u8, u9, u10, u11, u12, u13, u14, u15, u16, u17, u18, u19, u20, u21, u22, u23, u24, u25, u26, u27, u28, u29, u30, u31, u32, u33, .int .i64 0, .bool true, .bool true, .slice A n c, .string (strOfNums (frameL us)), .agg cs, .slice A1 us.length c1, v2, .string (strOfNums (frameL us)), .bool true, .bool true, .bool true, .int .i64 0, .bool true, .bool true, .bool true, .agg cs, .agg ds, .bool true, .bool true, .bool true, u55, u56].toArray, []⟩) #[true, true, true, true, true, true, true, true, true, true, true, true, true, true, true, true, true, true, true, true, true, false, false, false] rfl rfl (by kernel_rfl) (fun _ _ _ h => hP _ _ _ _ _ h) (Or.inl ⟨by rfl, ?_⟩) rfl ?_
  · intro w'; exact y_move rfl rfl
  refine one_ (i := 21) (N := some 55) #[true, true, true, true, true, true, true, true, true, true, true, true, true, true, true, true, true, true, true, true, true, true, false, false] rfl rfl (by kernel_rfl) (by decide) (fun K hK => ?_)
  refine goes_ Try.func11 (by kernel_rfl) rfl #[] (by rfl) rfl rfl (by (try simp only [List.map_toArray, List.map_cons, List.map_nil]); first | done | rfl) ?_
  refine (lives_calls _).mono ?_
  rintro e w4 ⟨rfl, hb4⟩
  refine ⟨_, rfl, hK.out _ _ (hHeld4.trans (hb4.mono hHeld4.size)) ?_⟩
  intro hHeld5
  refine norm_ (a' := ⟨[u0, .pointer (some ⟨b1, 0, none⟩), u2, .slice A n c, .int .i64 0, .pointer (some ⟨b5, 0, none⟩), .int .i64 0, u7, u8, u9, u10, u11, u12, u13, u14, u15, u16, u17, u18, u19, u20, u21, u22, u23, u24, u25, u26, u27, u28, u29, u30, u31, u32, u33, .int .i64 0, .bool true, .bool true, .slice A n c, .string (strOfNums (frameL us)), .agg cs, .slice A1 us.length c1, v2, .string (strOfNums (frameL us)), .bool true, .bool true, .bool true, .int .i64 0, .bool true, .bool true, .bool true, .agg cs, .agg ds, .bool true, .bool true, .bool true, .bool true, u56].toArray, []⟩) rfl ?_
  refine pure_ (i := 22) (N := some 56) (v := .bool true) (a' := ⟨[u0, .pointer (some ⟨b1, 0, none⟩), u2, .slice A n c, .int .i64 0, .pointer (some ⟨b5, 0, none⟩), .int .i64 0, u7, u8, u9, u10, u11, u12, u13, u14, u15, u16, u17, u18, u19, u20, u21, u22, u23, u24, u25, u26, u27, u28, u29, u30, u31, u32, u33, .int .i64 0, .bool true, .bool true, .slice A n c, .string (strOfNums (frameL us)), .agg cs, .slice A1 us.length c1, v2, .string (strOfNums (frameL us)), .bool true, .bool true, .bool true, .int .i64 0, .bool true, .bool true, .bool true, .agg cs, .agg ds, .bool true, .bool true, .bool true, .bool true, .bool true].toArray, []⟩) #[true, true, true, true, true, true, true, true, true, true, true, true, true, true, true, true, true, true, true, true, true, true, true, false] rfl rfl (by kernel_rfl) (fun _ _ _ h => hP _ _ _ _ _ h) (Or.inl ⟨by rfl, ?_⟩) rfl ?_
  · intro w'; exact y_pick_t rfl rfl rfl
  refine pure_ (i := 23) (N := some 2) (v := .bool true) (a' := ⟨[u0, .pointer (some ⟨b1, 0, none⟩), .bool true, .slice A n c, .int .i64 0, .pointer (some ⟨b5, 0, none⟩), .int .i64 0, u7, u8, u9, u10, u11, u12, u13, u14, u15, u16, u17, u18, u19, u20, u21, u22, u23, u24, u25, u26, u27, u28, u29, u30, u31, u32, u33, .int .i64 0, .bool true, .bool true, .slice A n c, .string (strOfNums (frameL us)), .agg cs, .slice A1 us.length c1, v2, .string (strOfNums (frameL us)), .bool true, .bool true, .bool true, .int .i64 0, .bool true, .bool true, .bool true, .agg cs, .agg ds, .bool true, .bool true, .bool true, .bool true, .bool true].toArray, []⟩) #[true, true, true, true, true, true, true, true, true, true, true, true, true, true, true, true, true, true, true, true, true, true, true, true] rfl rfl (by kernel_rfl) (fun _ _ _ h => hP _ _ _ _ _ h) (Or.inl ⟨by rfl, ?_⟩) rfl ?_
  · intro w'; exact y_assign rfl rfl
  refine done_ (by kernel_rfl) ?_
  exact h _ _ rfl hHeld5

set_option maxRecDepth 100000 in
set_option maxHeartbeats 4000000 in
theorem lays_law (cs : Array Value) (x : Mail) (w : World) (hx : InM w cs x) (ht : x.text.size ≤ 9223372036854775807) (hi : MailI x) :
    Calls Try.prog 3 #[.agg cs] w fun e w' => e = .returned (.bool true) ∧ Below w.heap.size w w' := by
  have HX := Lib.hid hx
  have HI := Lib.hid hi
  have hinf := hx.info
  have HINF := Lib.hid hinf
  have hu34 := Try.underlying34
  clear hx hi hinf
  go_enter Try.func3, Try.ntmps3
  go_upto_region 1 with fail
  have HBK1 := Lib.hid (blk_new w (.cells cs 34))
  have HB1 := Lib.hid ((Below.refl w.heap.size w).alloc (Nat.le_refl _) (.cells cs 34))
  generalize w.alloc (.cells cs 34) = w1 at HBK1 HB1 ⊢
  go_wp2_with (refine gate_guard (by rfl) ?_; dsimp only; refine wpList_load_row rfl 34 (.tmp 1) rfl w.heap.size rfl 34 cs (0, 0) _ HBK1.out Try.underlying34 rfl HINF.out ?_)
  ((with_reducible refine (light_m (HX.out.below HB1.out) ht).mono ?_); rintro e w2 ⟨b, rfl, HLT, hb⟩)
  have HB2 := Lib.hid (HB1.out.trans (hb.mono HB1.out.size))
  have HBK2 := Lib.hid (blk_below HBK1.out hb)
  clear hb HB1 HBK1
  cases b with
  | false =>
    go_wp2_with ((with_reducible refine (lives_calls _).mono ?_); rintro e w6 ⟨rfl, hb6⟩)
    go_ret
    exact ⟨rfl, HB2.out.trans (hb6.mono HB2.out.size)⟩
  | true =>
    have HLG := Lib.hid (HLT.out rfl)
    clear HLT
    by_cases hm : MayOk x
    case neg =>
      have HR := Lib.hid hm
      clear hm
      go_wp2_with (first | (refine gate_guard (by rfl) ?_; dsimp only; refine wpList_load_row rfl 34 (.tmp 1) rfl w.heap.size rfl 34 cs (0, 0) _ HBK3.out Try.underlying34 rfl HINF.out ?_) | (refine gate_guard (by rfl) ?_; dsimp only; refine wpList_load_row rfl 34 (.tmp 1) rfl w.heap.size rfl 34 cs (0, 0) _ HBK2.out Try.underlying34 rfl HINF.out ?_) | ((with_reducible refine (enc_bad_m (HX.out.below HB2.out) HR.out).mono ?_); rintro e w3 ⟨rfl, hb⟩; have HB3 := Lib.hid (HB2.out.trans (hb.mono HB2.out.size)); have HBK3 := Lib.hid (blk_below HBK2.out hb); clear hb) | ((with_reducible refine (may_f_ (HX.out.below HB3.out) HR.out).mono ?_); rintro e w4 ⟨rfl, hb⟩; have HB4 := Lib.hid (HB3.out.trans (hb.mono HB3.out.size)); clear hb) | ((with_reducible refine (lives_calls _).mono ?_); rintro e w6 ⟨rfl, hb6⟩))
      go_ret
      exact ⟨rfl, HB4.out.trans (hb6.mono HB4.out.size)⟩
    case pos =>
      have HM := Lib.hid hm
      clear hm
      have hlen : (encMail x).length ≤ 1048576 := light_len x HLG.out HI.out HM.out
      have HUB := Lib.hid (encMail_bytes x HM.out.op)
      go_wp2_with (refine gate_guard (by rfl) ?_; dsimp only; refine wpList_load_row rfl 34 (.tmp 1) rfl w.heap.size rfl 34 cs (0, 0) _ HBK2.out Try.underlying34 rfl HINF.out ?_)
      ((with_reducible refine (enc_ok_m (HX.out.below HB2.out) HM.out HI.out hlen).mono ?_); rintro e w3 ⟨g, cap, rfl, hcap, hgb, HO3, hb⟩)
      have HB3 := Lib.hid (HB2.out.trans (hb.mono HB2.out.size))
      have HBK3 := Lib.hid (blk_below HBK2.out hb)
      have HR3 : Hid (ReadsInt w3 .u8 (some ⟨g, 0, none⟩) ((encMail x).length + 8) (frameL (encMail x))) := Lib.hid (by
        obtain ⟨A', c', hv, hr⟩ := own_reads HO3.out
        injection hv with h1 h2 h3
        rw [h1]; exact hr)
      clear hb HO3 HB2 HBK2 hgb
      go_wp2_with (first | (refine gate_guard (by rfl) ?_; dsimp only; refine wpList_load_row rfl 34 (.tmp 1) rfl w.heap.size rfl 34 cs (0, 0) _ HBK3.out Try.underlying34 rfl HINF.out ?_) | ((with_reducible refine (may_t (HX.out.below HB3.out) HM.out).mono ?_); rintro e w4 ⟨rfl, hb⟩; have HB4 := Lib.hid (HB3.out.trans (hb.mono HB3.out.size)); have HBK4 := Lib.hid (blk_below HBK3.out hb); have HR4 := Lib.hid (HR3.out.below hb); clear hb))
      ((with_reducible refine (dec_m _ _ cap _ HR4.out hcap (frameL_bytes _ HUB.out)).mono ?_); rintro e w5 ⟨ds, rfl, HD, hb⟩)
      have HB5 := Lib.hid (HB4.out.trans (hb.mono HB4.out.size))
      have HBz := Lib.hid (blk_new w5 (.cells #[.int .i64 0, .int .i64 0, .int .i64 0, .int .i64 0, .int .i64 0, .int .i64 0, .int .i64 0, .int .i64 0, .int .i64 0, .int .i64 0, .int .i64 0, .bool false, .int .i64 0, .int .i64 0, .int .i64 0, .int .i64 0, .int .i64 0, .slice none 0 0, .int .i64 0, .slice none 0 0, .bool false, .int .i64 0, .int .i64 0, .int .i64 0, .int .i64 0, .int .i64 0, .slice none 0 0, .string ⟨#[]⟩] 34))
      have hrow := below_row (cs := ds) ((Below.refl w5.heap.size w5).alloc (Nat.le_refl _) (.cells #[.int .i64 0, .int .i64 0, .int .i64 0, .int .i64 0, .int .i64 0, .int .i64 0, .int .i64 0, .int .i64 0, .int .i64 0, .int .i64 0, .int .i64 0, .bool false, .int .i64 0, .int .i64 0, .int .i64 0, .int .i64 0, .int .i64 0, .slice none 0 0, .int .i64 0, .slice none 0 0, .bool false, .int .i64 0, .int .i64 0, .int .i64 0, .int .i64 0, .int .i64 0, .slice none 0 0, .string ⟨#[]⟩] 34)) (Nat.le_refl _)
      have hb46 := hb.trans (hrow.mono hb.size)
      have HB6 := Lib.hid (HB5.out.trans (hrow.mono HB5.out.size))
      have HD6 := Lib.hid (HD.out.below hrow)
      have HBK6 := Lib.hid (blk_below HBK4.out hb46)
      have HR6 := Lib.hid (HR4.out.below hb46)
      have HBX6 := Lib.hid (setRow_heap (w5.alloc (.cells #[.int .i64 0, .int .i64 0, .int .i64 0, .int .i64 0, .int .i64 0, .int .i64 0, .int .i64 0, .int .i64 0, .int .i64 0, .int .i64 0, .int .i64 0, .bool false, .int .i64 0, .int .i64 0, .int .i64 0, .int .i64 0, .int .i64 0, .slice none 0 0, .int .i64 0, .slice none 0 0, .bool false, .int .i64 0, .int .i64 0, .int .i64 0, .int .i64 0, .int .i64 0, .slice none 0 0, .string ⟨#[]⟩] 34)) w5.heap.size #[.int .i64 0, .int .i64 0, .int .i64 0, .int .i64 0, .int .i64 0, .int .i64 0, .int .i64 0, .int .i64 0, .int .i64 0, .int .i64 0, .int .i64 0, .bool false, .int .i64 0, .int .i64 0, .int .i64 0, .int .i64 0, .int .i64 0, .slice none 0 0, .int .i64 0, .slice none 0 0, .bool false, .int .i64 0, .int .i64 0, .int .i64 0, .int .i64 0, .int .i64 0, .slice none 0 0, .string ⟨#[]⟩] ds 34 (0, 0) HBz.out)
      obtain ⟨h0, hm⟩ := dec_enc x HI.out HM.out hlen
      rw [hm] at HD6
      rw [h0]
      clear hb hb46 hrow HB3 HBK3 HR3 HB4 HBK4 HR4 HB5 h0 hm
      go_upto_region 7 with (refine wpList_store_row rfl 34 (.tmp 5) (.tmp 32) rfl w5.heap.size ds rfl rfl 34 _ HBz.out HD.out.info HD.out.size.symm HD.out.one ?_)
      generalize (w5.alloc (.cells #[.int .i64 0, .int .i64 0, .int .i64 0, .int .i64 0, .int .i64 0, .int .i64 0, .int .i64 0, .int .i64 0, .int .i64 0, .int .i64 0, .int .i64 0, .bool false, .int .i64 0, .int .i64 0, .int .i64 0, .int .i64 0, .int .i64 0, .slice none 0 0, .int .i64 0, .slice none 0 0, .bool false, .int .i64 0, .int .i64 0, .int .i64 0, .int .i64 0, .int .i64 0, .slice none 0 0, .string ⟨#[]⟩] 34)).setRow w5.heap.size ds = w6 at HB6 HD6 HBK6 HR6 HBX6 ⊢
      clear HBz HD
      refine lays_last w.heap.size w5.heap.size w6 _ cs ds x (encMail x) (some ⟨g, 0, none⟩) ((encMail x).length + 8) cap (fun _ _ _ _ _ h => h) HBK6.out HBX6.out (HX.out.below HB6.out) HD6.out HM.out HI.out rfl HUB.out hlen HR6.out ?_ _ _ _ _ _ _ _ _ _ _ _ _ _ _ _ _ _ _ _ _ _ _ _ _ _ _ _ _ _ _ _ _ _ _ _ _ _ _ _ _ _ _ _ _ _ _ _ _ _ _ _ _
      intro tmps w' h2 hb
      go_wp2_with fail
      refine bodyPost_ret (a := ⟨tmps, []⟩) (v := .bool true) (by have h3 : tmps[2]?.getD undef = Value.bool true := (by simpa using h2); simp [results, Try.results3, go_sem, h3]) rfl ⟨rfl, ?_⟩
      have hb' : Below w6.heap.size w6 w' := ⟨hb.os, hb.tape, hb.output, hb.size, hb.block⟩
      exact HB6.out.trans (hb'.mono HB6.out.size)

end Go.Proofs.Ytneebjlpeekmbaa
