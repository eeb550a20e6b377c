/- The last statement of the law CouncilLoads, whose order is open, as a theorem of its own. No conditions beyond those typed. Printed by wip/tools/mkLoadsR.py. -/
import Derived.Test.YtfanbhbpmhojaaaRdR
namespace Go.Proofs.Ytfanbhbpmhojaaa
open Go.RowKit Go.Proofs.YtfanbhbpmhojaaaW.PrintWords Go.Proofs.YtfanbhbpmhojaaaW.PrintLast Go.Proofs.YtfanbhbpmhojaaaW.PrintMore PRef
set_option linter.unusedVariables false
set_option linter.unusedSimpArgs false

section
variable {a : Act} {o1 : Oper} {w : World}
theorem y_eqc25 {x : Operand} {n k : Int} (ho : o1.op = .binOp .eql 25 x (.const (.int .i64 k)) 25) (hx : a.eval x = .int .i64 n) (hn : (n == k) = true) : (execOp a.eval o1).run Try.prog w = .ok (.value (.bool true)) w := by
  have hu25 := Try.underlying25
  unfold execOp
  simp only [ho, hx]
  go_simp
theorem y_eqv {x y : Operand} {n : Int} (ho : o1.op = .binOp .eql 3 x y 3) (hx : a.eval x = .int .i64 n) (hy : a.eval y = .int .i64 n) : (execOp a.eval o1).run Try.prog w = .ok (.value (.bool true)) w := by
  have hu3 := Try.underlying3
  have hn : (n == n) = true := beq_self_eq_true n
  unfold execOp
  simp only [ho, hx, hy]
  go_simp
theorem y_eqs {x y : Operand} {s : ByteArray} (ho : o1.op = .binOp .eql 9 x y 9) (hx : a.eval x = .string s) (hy : a.eval y = .string s) : (execOp a.eval o1).run Try.prog w = .ok (.value (.bool true)) w := by
  have hu9 := Try.underlying9
  have hn : (s.toList == s.toList) = true := beq_self_eq_true _
  unfold execOp
  simp only [ho, hx, hy]
  go_simp
theorem y_conv43 {x : Operand} {v : Value} {s : ByteArray} (ho : o1.op = .convert 43 9 x) (hx : a.eval x = v) (h : (convert 43 9 v).run Try.prog w = .ok (.string s) w) : (execOp a.eval o1).run Try.prog w = .ok (.value (.string s)) w := by
  unfold execOp
  simp only [ho, hx]
  simp [Sem.run_bind, h, Result.andThen]
theorem y_f47_0 {x : Operand} {b o : Nat} (ho : o1.op = .fieldAddr 47 x 0) (hx : a.eval x = .pointer (some ⟨b, o, none⟩)) : (execOp a.eval o1).run Try.prog w = .ok (.value (.pointer (some ⟨b, o + 0, none⟩))) w := by
  have hu := Try.underlying47
  unfold execOp
  simp only [ho, hx]
  go_simp
theorem y_f47_2 {x : Operand} {b o : Nat} (ho : o1.op = .fieldAddr 47 x 2) (hx : a.eval x = .pointer (some ⟨b, o, none⟩)) : (execOp a.eval o1).run Try.prog w = .ok (.value (.pointer (some ⟨b, o + 2, none⟩))) w := by
  have hu := Try.underlying47
  unfold execOp
  simp only [ho, hx]
  go_simp
end

noncomputable def loads_last_reg : Code := (Try.f4.body.bind (regionOf 11)).getD .skip
set_option maxRecDepth 1000000 in
set_option maxHeartbeats 4000000 in
/-- The law's last statement: all that a council tells is the state's. -/
theorem loads_last (u1 u2 u3 u4 u8 u10 u12 u13 u14 u15 u16 u17 u18 u19 u20 u21 u22 u23 u24 u25 u26 u27 u28 u29 u30 u31 u32 u33 u34 u35 u36 u37 u38 u39 u40 u41 u42 u43 u44 u45 u46 u47 u48 u49 u50 u51 u52 u53 u54 u55 u56 u57 u58 u59 u60 u61 u62 u63 u64 u65 u66 u67 u68 u69 u70 u71 u72 u73 u74 u75 u76 u77 u78 u79 u80 u81 u82 u83 u84 u85 u86 u87 u88 u89 u90 u91 u92 u93 u94 u95 u96 u97 u98 u99 u100 u101 u102 u103 u104 u105 u106 u107 u108 u109 u110 u111 : Value) (g b7 : Nat) (w : World) (Q : Exit → Act → World → Prop) (xs : List Int) (A Av : Option Addr) (n c nv cv : Nat) (term idx last : Int) (t : ByteArray) (PV : Option Addr → Nat → Nat → World → Prop) (hP : ∀ x a d v w, Q (.panic x) (a.put (some d) v) w → Q (.panic x) a w) (h0 : ReadsInt w .u8 A n xs) (e0 : w.cell? ⟨b7, 0, none⟩ = some (.int .i64 term)) (e2 : w.cell? ⟨b7, 2, none⟩ = some (.int .i64 idx))
    (hcE : ∀ w', Below w.drew.heap.size w.drew w' → Calls Try.prog 23 #[.pointer (some ⟨g, 0, none⟩)] w' fun e w'' => ∃ A8 c8, e = .returned (.slice A8 n c8) ∧ n ≤ c8 ∧ Hid (ReadsInt w'' .u8 A8 n xs) ∧ Below w'.heap.size w' w'')
    (hcT : ∀ w', Below w.drew.heap.size w.drew w' → Calls Try.prog 24 #[.pointer (some ⟨g, 0, none⟩)] w' fun e w'' => e = .returned (.int .i64 term) ∧ Below w'.heap.size w' w'') (hcL : ∀ w', Below w.drew.heap.size w.drew w' → Calls Try.prog 17 #[.pointer (some ⟨g, 0, none⟩)] w' fun e w'' => e = .returned (.int .i64 last) ∧ Below w'.heap.size w' w'') (hcI : ∀ w', Below w.drew.heap.size w.drew w' → Calls Try.prog 14 #[.pointer (some ⟨g, 0, none⟩)] w' fun e w'' => e = .returned (.int .i64 idx) ∧ Below w'.heap.size w' w'')
    (hcV : ∀ w', Below w.drew.heap.size w.drew w' → Calls Try.prog 26 #[.pointer (some ⟨g, 0, none⟩)] w' fun e w'' => ∃ A1 n1 c1, e = .returned (.slice A1 n1 c1) ∧ PV A1 n1 c1 w'' ∧ Below w'.heap.size w' w'')
    (hcX : ∀ A1 n1 c1 w', PV A1 n1 c1 w' → Calls Try.prog 25 #[.slice A1 n1 c1] w' fun e w'' => e = .returned (.string t) ∧ Below w'.heap.size w' w'')
    (hcY : ∀ w', Below w.drew.heap.size w.drew w' → Calls Try.prog 25 #[.slice Av nv cv] w' fun e w'' => e = .returned (.string t) ∧ Below w'.heap.size w' w'') (hcD : ∀ w', Below w.drew.heap.size w.drew w' → Calls Try.prog 13 #[.pointer (some ⟨g, 0, none⟩)] w' fun e w'' => e = .returned (.bool false) ∧ Below w'.heap.size w' w'') (hcV2 : ∀ w', Below w.drew.heap.size w.drew w' → Calls Try.prog 15 #[] w' fun e w'' => e = .returned (.bool true) ∧ Below w'.heap.size w' w'')
    (h : ∀ (w1 : World) (A8 A1 : Option Addr) (c8 n1 c1 : Nat), Below w.drew.heap.size w.drew w1 → Q .normal ⟨[.slice A n c, u1, u2, u3, .bool true, .pointer (some ⟨g, 0, none⟩), .int .i64 0, .pointer (some ⟨b7, 0, none⟩), u8, .int .i64 last, u10, .slice Av nv cv, u12, u13, u14, u15, u16, u17, u18, u19, u20, u21, u22, u23, u24, u25, u26, u27, u28, u29, u30, u31, u32, u33, u34, u35, u36, u37, u38, u39, u40, u41, u42, u43, u44, u45, u46, u47, u48, u49, u50, u51, u52, u53, u54, u55, u56, u57, u58, u59, u60, u61, u62, u63, u64, u65, .int .i64 0, .bool true, .bool true, .pointer (some ⟨g, 0, none⟩), .slice A8 n c8, .string (strOfNums xs), .slice A n c, .string (strOfNums xs), .bool true, .bool true, .bool true, .pointer (some ⟨g, 0, none⟩), .int .i64 term, .pointer (some ⟨b7, 0, none⟩), .int .i64 term, .bool true, .bool true, .bool true, .pointer (some ⟨g, 0, none⟩), .int .i64 last, .int .i64 last, .bool true, .bool true, .bool true, .pointer (some ⟨g, 0, none⟩), .int .i64 idx, .pointer (some ⟨b7, 2, none⟩), .int .i64 idx, .bool true, .bool true, .bool true, .pointer (some ⟨g, 0, none⟩), .slice A1 n1 c1, .string t, .slice Av nv cv, .string t, .bool true, .bool true, .bool true, .pointer (some ⟨g, 0, none⟩), .bool false, .bool true, .bool true, .bool true, .bool true, .bool true].toArray, []⟩ w1) :
    Code.wp Try.prog loads_last_reg Q ⟨[.slice A n c, u1, u2, u3, u4, .pointer (some ⟨g, 0, none⟩), .int .i64 0, .pointer (some ⟨b7, 0, none⟩), u8, .int .i64 last, u10, .slice Av nv cv, u12, u13, u14, u15, u16, u17, u18, u19, u20, u21, u22, u23, u24, u25, u26, u27, u28, u29, u30, u31, u32, u33, u34, u35, u36, u37, u38, u39, u40, u41, u42, u43, u44, u45, u46, u47, u48, u49, u50, u51, u52, u53, u54, u55, u56, u57, u58, u59, u60, u61, u62, u63, u64, u65, u66, u67, u68, u69, u70, u71, u72, u73, u74, u75, u76, u77, u78, u79, u80, u81, u82, u83, u84, u85, u86, u87, u88, u89, u90, u91, u92, u93, u94, u95, u96, u97, u98, u99, u100, u101, u102, u103, u104, u105, u106, u107, u108, u109, u110, u111].toArray, []⟩ w := by
  conv => arg 2; whnf
  have HS1 : ∀ w', Below w.drew.heap.size w.drew w' → ReadsInt w' .u8 A n xs ∧ w'.cell? ⟨b7, 0, none⟩ = some (.int .i64 term) ∧ w'.cell? ⟨b7, 2, none⟩ = some (.int .i64 idx) := fun w' hb => ⟨ReadsInt.below (w := w.drew) h0 hb, pw_cell_below hb e0, pw_cell_below hb e2⟩
  refine start_ (n := 47) (S := fun w' => ReadsInt w' .u8 A n xs ∧ w'.cell? ⟨b7, 0, none⟩ = some (.int .i64 term) ∧ w'.cell? ⟨b7, 2, none⟩ = some (.int .i64 idx)) (ds := []) (ms 47 0) (by kernel_rfl) rfl rfl ⟨h0, e0, e2⟩ (fun hHeld => ?_)
  refine pure_ (i := 0) (N := some 66) (v := .int .i64 0) (ms 47 1) rfl rfl (by kernel_rfl) (fun _ _ _ h => hP _ _ _ _ _ h) (Or.inl ⟨by rfl, ?_⟩) rfl ?_
  · intro w'
    exact y_move rfl rfl
  refine pure_ (i := 1) (N := some 67) (v := .bool true) (ms 47 2) rfl rfl (by kernel_rfl) (fun _ _ _ h => hP _ _ _ _ _ h) (Or.inl ⟨by rfl, ?_⟩) rfl ?_
  · intro w'
    exact y_eqc25 rfl rfl rfl
  refine pure_ (i := 2) (N := some 68) (v := .bool true) (ms 47 3) rfl rfl (by kernel_rfl) (fun _ _ _ h => hP _ _ _ _ _ h) (Or.inl ⟨by rfl, ?_⟩) rfl ?_
  · intro w'
    exact y_move rfl rfl
  refine pure_ (i := 3) (N := some 69) (v := .pointer (some ⟨g, 0, none⟩)) (a' := ⟨[.slice A n c, u1, u2, u3, u4, .pointer (some ⟨g, 0, none⟩), .int .i64 0, .pointer (some ⟨b7, 0, none⟩), u8, .int .i64 last, u10, .slice Av nv cv, u12, u13, u14, u15, u16, u17, u18, u19, u20, u21, u22, u23, u24, u25, u26, u27, u28, u29, u30, u31, u32, u33, u34, u35, u36, u37, u38, u39, u40, u41, u42, u43, u44, u45, u46, u47, u48, u49, u50, u51, u52, u53, u54, u55, u56, u57, u58, u59, u60, u61, u62, u63, u64, u65, .int .i64 0, .bool true, .bool true, .pointer (some ⟨g, 0, none⟩), u70, u71, u72, u73, u74, u75, u76, u77, u78, u79, u80, u81, u82, u83, u84, u85, u86, u87, u88, u89, u90, u91, u92, u93, u94, u95, u96, u97, u98, u99, u100, u101, u102, u103, u104, u105, u106, u107, u108, u109, u110, u111].toArray, []⟩) (ms 47 4) rfl rfl (by kernel_rfl) (fun _ _ _ h => hP _ _ _ _ _ h) (Or.inl ⟨by rfl, ?_⟩) rfl ?_
  · intro w'
    exact y_move rfl rfl
  refine pure_ (i := 6) (N := some 72) (v := .slice A n c) #[true, true, true, true, false, false, true, false, false, false, false, false, false, false, false, false, false, false, false, false, false, false, false, false, false, false, false, false, false, false, false, false, false, false, false, false, false, false, false, false, false, false, false, false, false, false, false] rfl rfl (by kernel_rfl) (fun _ _ _ h => hP _ _ _ _ _ h) (Or.inl ⟨by rfl, ?_⟩) rfl ?_
  · intro w'
    exact y_move rfl rfl
  refine take_ (i := 7) (N := some 73) (v := .string (strOfNums xs)) (a' := ⟨[.slice A n c, u1, u2, u3, u4, .pointer (some ⟨g, 0, none⟩), .int .i64 0, .pointer (some ⟨b7, 0, none⟩), u8, .int .i64 last, u10, .slice Av nv cv, u12, u13, u14, u15, u16, u17, u18, u19, u20, u21, u22, u23, u24, u25, u26, u27, u28, u29, u30, u31, u32, u33, u34, u35, u36, u37, u38, u39, u40, u41, u42, u43, u44, u45, u46, u47, u48, u49, u50, u51, u52, u53, u54, u55, u56, u57, u58, u59, u60, u61, u62, u63, u64, u65, .int .i64 0, .bool true, .bool true, .pointer (some ⟨g, 0, none⟩), u70, u71, .slice A n c, .string (strOfNums xs), u74, u75, u76, u77, u78, u79, u80, u81, u82, u83, u84, u85, u86, u87, u88, u89, u90, u91, u92, u93, u94, u95, u96, u97, u98, u99, u100, u101, u102, u103, u104, u105, u106, u107, u108, u109, u110, u111].toArray, []⟩) #[true, true, true, true, false, false, true, true, false, false, false, false, false, false, false, false, false, false, false, false, false, false, false, false, false, false, false, false, false, false, false, false, false, false, false, false, false, false, false, false, false, false, false, false, false, false, false] rfl rfl (by kernel_rfl) (fun _ _ _ h => hP _ _ _ _ _ h) (Or.inl ⟨by rfl, ?_⟩) hHeld rfl ?_
  · rintro w' ⟨q1, q2, q3⟩
    exact y_conv43 rfl rfl (string_of_reads Try.underlying43 Try.underlying5 Try.underlying9 q1)
  refine one_ (i := 4) (N := some 70) #[true, true, true, true, true, false, true, true, false, false, false, false, false, false, false, false, false, false, false, false, false, false, false, false, false, false, false, false, false, false, false, false, false, false, false, false, false, false, false, false, false, false, false, false, false, false, false] rfl rfl (by kernel_rfl) (by decide) (fun K hK => ?_)
  refine goes_ Try.func23 (by kernel_rfl) rfl #[.pointer (some ⟨g, 0, none⟩)] (by rfl) rfl rfl (by (try simp only [List.map_toArray, List.map_cons, List.map_nil]); first | done | rfl) ?_
  refine (hcE w.drew (Below.refl _ _)).mono ?_
  rintro e w1 ⟨A8, c8, rfl, hl8, HR8, hb⟩
  have hB1 : Below w.drew.heap.size w.drew w1 := hb
  refine ⟨_, rfl, hK.out _ _ ?_ ?_⟩
  · exact HS1 _ hB1
  intro hHeld1
  replace hHeld := hHeld1
  refine wpAnyLast_eq (a' := ⟨[.slice A n c, u1, u2, u3, u4, .pointer (some ⟨g, 0, none⟩), .int .i64 0, .pointer (some ⟨b7, 0, none⟩), u8, .int .i64 last, u10, .slice Av nv cv, u12, u13, u14, u15, u16, u17, u18, u19, u20, u21, u22, u23, u24, u25, u26, u27, u28, u29, u30, u31, u32, u33, u34, u35, u36, u37, u38, u39, u40, u41, u42, u43, u44, u45, u46, u47, u48, u49, u50, u51, u52, u53, u54, u55, u56, u57, u58, u59, u60, u61, u62, u63, u64, u65, .int .i64 0, .bool true, .bool true, .pointer (some ⟨g, 0, none⟩), .slice A8 n c8, u71, .slice A n c, .string (strOfNums xs), u74, u75, u76, u77, u78, u79, u80, u81, u82, u83, u84, u85, u86, u87, u88, u89, u90, u91, u92, u93, u94, u95, u96, u97, u98, u99, u100, u101, u102, u103, u104, u105, u106, u107, u108, u109, u110, u111].toArray, []⟩) rfl ?_
  refine one_ (i := 5) (N := some 71) (ms 47 8) rfl rfl (by kernel_rfl) (by decide) (fun K hK => ?_)
  refine value_ (v := .string (strOfNums xs)) (w1 := w1) (by rfl) rfl (y_conv43 rfl rfl (string_of_reads Try.underlying43 Try.underlying5 Try.underlying9 HR8.out)) ?_
  refine hK.out _ _ ?_ ?_
  · exact hHeld
  intro hHeldc
  refine wpAnyLast_eq (a' := ⟨[.slice A n c, u1, u2, u3, u4, .pointer (some ⟨g, 0, none⟩), .int .i64 0, .pointer (some ⟨b7, 0, none⟩), u8, .int .i64 last, u10, .slice Av nv cv, u12, u13, u14, u15, u16, u17, u18, u19, u20, u21, u22, u23, u24, u25, u26, u27, u28, u29, u30, u31, u32, u33, u34, u35, u36, u37, u38, u39, u40, u41, u42, u43, u44, u45, u46, u47, u48, u49, u50, u51, u52, u53, u54, u55, u56, u57, u58, u59, u60, u61, u62, u63, u64, u65, .int .i64 0, .bool true, .bool true, .pointer (some ⟨g, 0, none⟩), .slice A8 n c8, .string (strOfNums xs), .slice A n c, .string (strOfNums xs), u74, u75, u76, u77, u78, u79, u80, u81, u82, u83, u84, u85, u86, u87, u88, u89, u90, u91, u92, u93, u94, u95, u96, u97, u98, u99, u100, u101, u102, u103, u104, u105, u106, u107, u108, u109, u110, u111].toArray, []⟩) rfl ?_
  refine pure_ (i := 8) (N := some 74) (v := .bool true) (ms 47 9) rfl rfl (by kernel_rfl) (fun _ _ _ h => hP _ _ _ _ _ h) (Or.inl ⟨by rfl, ?_⟩) rfl ?_
  · intro w'
    exact y_eqs rfl rfl rfl
  refine pure_ (i := 9) (N := some 75) (v := .bool true) (ms 47 10) rfl rfl (by kernel_rfl) (fun _ _ _ h => hP _ _ _ _ _ h) (Or.inl ⟨by rfl, ?_⟩) rfl ?_
  · intro w'
    exact y_pick_t rfl rfl rfl
  refine pure_ (i := 10) (N := some 76) (v := .bool true) (ms 47 11) rfl rfl (by kernel_rfl) (fun _ _ _ h => hP _ _ _ _ _ h) (Or.inl ⟨by rfl, ?_⟩) rfl ?_
  · intro w'
    exact y_move rfl rfl
  refine pure_ (i := 11) (N := some 77) (v := .pointer (some ⟨g, 0, none⟩)) (a' := ⟨[.slice A n c, u1, u2, u3, u4, .pointer (some ⟨g, 0, none⟩), .int .i64 0, .pointer (some ⟨b7, 0, none⟩), u8, .int .i64 last, u10, .slice Av nv cv, u12, u13, u14, u15, u16, u17, u18, u19, u20, u21, u22, u23, u24, u25, u26, u27, u28, u29, u30, u31, u32, u33, u34, u35, u36, u37, u38, u39, u40, u41, u42, u43, u44, u45, u46, u47, u48, u49, u50, u51, u52, u53, u54, u55, u56, u57, u58, u59, u60, u61, u62, u63, u64, u65, .int .i64 0, .bool true, .bool true, .pointer (some ⟨g, 0, none⟩), .slice A8 n c8, .string (strOfNums xs), .slice A n c, .string (strOfNums xs), .bool true, .bool true, .bool true, .pointer (some ⟨g, 0, none⟩), u78, u79, u80, u81, u82, u83, u84, u85, u86, u87, u88, u89, u90, u91, u92, u93, u94, u95, u96, u97, u98, u99, u100, u101, u102, u103, u104, u105, u106, u107, u108, u109, u110, u111].toArray, []⟩) (ms 47 12) rfl rfl (by kernel_rfl) (fun _ _ _ h => hP _ _ _ _ _ h) (Or.inl ⟨by rfl, ?_⟩) rfl ?_
  · intro w'
    exact y_move rfl rfl
  refine pure_ (i := 13) (N := some 79) (v := .pointer (some ⟨b7, 0, none⟩)) #[true, true, true, true, true, true, true, true, true, true, true, true, false, true, false, false, false, false, false, false, false, false, false, false, false, false, false, false, false, false, false, false, false, false, false, false, false, false, false, false, false, false, false, false, false, false, false] rfl rfl (by kernel_rfl) (fun _ _ _ h => hP _ _ _ _ _ h) (Or.inl ⟨by rfl, ?_⟩) rfl ?_
  · intro w'
    exact y_f47_0 rfl rfl
  refine take_ (i := 14) (N := some 80) (v := .int .i64 term) (a' := ⟨[.slice A n c, u1, u2, u3, u4, .pointer (some ⟨g, 0, none⟩), .int .i64 0, .pointer (some ⟨b7, 0, none⟩), u8, .int .i64 last, u10, .slice Av nv cv, u12, u13, u14, u15, u16, u17, u18, u19, u20, u21, u22, u23, u24, u25, u26, u27, u28, u29, u30, u31, u32, u33, u34, u35, u36, u37, u38, u39, u40, u41, u42, u43, u44, u45, u46, u47, u48, u49, u50, u51, u52, u53, u54, u55, u56, u57, u58, u59, u60, u61, u62, u63, u64, u65, .int .i64 0, .bool true, .bool true, .pointer (some ⟨g, 0, none⟩), .slice A8 n c8, .string (strOfNums xs), .slice A n c, .string (strOfNums xs), .bool true, .bool true, .bool true, .pointer (some ⟨g, 0, none⟩), u78, .pointer (some ⟨b7, 0, none⟩), .int .i64 term, u81, u82, u83, u84, u85, u86, u87, u88, u89, u90, u91, u92, u93, u94, u95, u96, u97, u98, u99, u100, u101, u102, u103, u104, u105, u106, u107, u108, u109, u110, u111].toArray, []⟩) #[true, true, true, true, true, true, true, true, true, true, true, true, false, true, true, false, false, false, false, false, false, false, false, false, false, false, false, false, false, false, false, false, false, false, false, false, false, false, false, false, false, false, false, false, false, false, false] rfl rfl (by kernel_rfl) (fun _ _ _ h => hP _ _ _ _ _ h) (Or.inl ⟨by rfl, ?_⟩) hHeld rfl ?_
  · rintro w' ⟨q1, q2, q3⟩
    exact y_load3 rfl rfl q2
  refine one_ (i := 12) (N := some 78) (ms 47 15) rfl rfl (by kernel_rfl) (by decide) (fun K hK => ?_)
  refine goes_ Try.func24 (by kernel_rfl) rfl #[.pointer (some ⟨g, 0, none⟩)] (by rfl) rfl rfl (by (try simp only [List.map_toArray, List.map_cons, List.map_nil]); first | done | rfl) ?_
  refine (hcT w1 hB1).mono ?_
  rintro e w2 ⟨rfl, hb⟩
  have hB2 : Below w.drew.heap.size w.drew w2 := hB1.trans ((hb).mono hB1.size)
  refine ⟨_, rfl, hK.out _ _ ?_ ?_⟩
  · exact HS1 _ hB2
  intro hHeld2
  replace hHeld := hHeld2
  refine wpAnyLast_eq (a' := ⟨[.slice A n c, u1, u2, u3, u4, .pointer (some ⟨g, 0, none⟩), .int .i64 0, .pointer (some ⟨b7, 0, none⟩), u8, .int .i64 last, u10, .slice Av nv cv, u12, u13, u14, u15, u16, u17, u18, u19, u20, u21, u22, u23, u24, u25, u26, u27, u28, u29, u30, u31, u32, u33, u34, u35, u36, u37, u38, u39, u40, u41, u42, u43, u44, u45, u46, u47, u48, u49, u50, u51, u52, u53, u54, u55, u56, u57, u58, u59, u60, u61, u62, u63, u64, u65, .int .i64 0, .bool true, .bool true, .pointer (some ⟨g, 0, none⟩), .slice A8 n c8, .string (strOfNums xs), .slice A n c, .string (strOfNums xs), .bool true, .bool true, .bool true, .pointer (some ⟨g, 0, none⟩), .int .i64 term, .pointer (some ⟨b7, 0, none⟩), .int .i64 term, u81, u82, u83, u84, u85, u86, u87, u88, u89, u90, u91, u92, u93, u94, u95, u96, u97, u98, u99, u100, u101, u102, u103, u104, u105, u106, u107, u108, u109, u110, u111].toArray, []⟩) rfl ?_
  refine pure_ (i := 15) (N := some 81) (v := .bool true) (ms 47 16) rfl rfl (by kernel_rfl) (fun _ _ _ h => hP _ _ _ _ _ h) (Or.inl ⟨by rfl, ?_⟩) rfl ?_
  · intro w'
    exact y_eqv rfl rfl rfl
  refine pure_ (i := 16) (N := some 82) (v := .bool true) (ms 47 17) rfl rfl (by kernel_rfl) (fun _ _ _ h => hP _ _ _ _ _ h) (Or.inl ⟨by rfl, ?_⟩) rfl ?_
  · intro w'
    exact y_pick_t rfl rfl rfl
  refine pure_ (i := 17) (N := some 83) (v := .bool true) (ms 47 18) rfl rfl (by kernel_rfl) (fun _ _ _ h => hP _ _ _ _ _ h) (Or.inl ⟨by rfl, ?_⟩) rfl ?_
  · intro w'
    exact y_move rfl rfl
  refine pure_ (i := 18) (N := some 84) (v := .pointer (some ⟨g, 0, none⟩)) (a' := ⟨[.slice A n c, u1, u2, u3, u4, .pointer (some ⟨g, 0, none⟩), .int .i64 0, .pointer (some ⟨b7, 0, none⟩), u8, .int .i64 last, u10, .slice Av nv cv, u12, u13, u14, u15, u16, u17, u18, u19, u20, u21, u22, u23, u24, u25, u26, u27, u28, u29, u30, u31, u32, u33, u34, u35, u36, u37, u38, u39, u40, u41, u42, u43, u44, u45, u46, u47, u48, u49, u50, u51, u52, u53, u54, u55, u56, u57, u58, u59, u60, u61, u62, u63, u64, u65, .int .i64 0, .bool true, .bool true, .pointer (some ⟨g, 0, none⟩), .slice A8 n c8, .string (strOfNums xs), .slice A n c, .string (strOfNums xs), .bool true, .bool true, .bool true, .pointer (some ⟨g, 0, none⟩), .int .i64 term, .pointer (some ⟨b7, 0, none⟩), .int .i64 term, .bool true, .bool true, .bool true, .pointer (some ⟨g, 0, none⟩), u85, u86, u87, u88, u89, u90, u91, u92, u93, u94, u95, u96, u97, u98, u99, u100, u101, u102, u103, u104, u105, u106, u107, u108, u109, u110, u111].toArray, []⟩) (ms 47 19) rfl rfl (by kernel_rfl) (fun _ _ _ h => hP _ _ _ _ _ h) (Or.inl ⟨by rfl, ?_⟩) rfl ?_
  · intro w'
    exact y_move rfl rfl
  refine pure_ (i := 20) (N := some 86) (v := .int .i64 last) (a' := ⟨[.slice A n c, u1, u2, u3, u4, .pointer (some ⟨g, 0, none⟩), .int .i64 0, .pointer (some ⟨b7, 0, none⟩), u8, .int .i64 last, u10, .slice Av nv cv, u12, u13, u14, u15, u16, u17, u18, u19, u20, u21, u22, u23, u24, u25, u26, u27, u28, u29, u30, u31, u32, u33, u34, u35, u36, u37, u38, u39, u40, u41, u42, u43, u44, u45, u46, u47, u48, u49, u50, u51, u52, u53, u54, u55, u56, u57, u58, u59, u60, u61, u62, u63, u64, u65, .int .i64 0, .bool true, .bool true, .pointer (some ⟨g, 0, none⟩), .slice A8 n c8, .string (strOfNums xs), .slice A n c, .string (strOfNums xs), .bool true, .bool true, .bool true, .pointer (some ⟨g, 0, none⟩), .int .i64 term, .pointer (some ⟨b7, 0, none⟩), .int .i64 term, .bool true, .bool true, .bool true, .pointer (some ⟨g, 0, none⟩), u85, .int .i64 last, u87, u88, u89, u90, u91, u92, u93, u94, u95, u96, u97, u98, u99, u100, u101, u102, u103, u104, u105, u106, u107, u108, u109, u110, u111].toArray, []⟩) #[true, true, true, true, true, true, true, true, true, true, true, true, true, true, true, true, true, true, true, false, true, false, false, false, false, false, false, false, false, false, false, false, false, false, false, false, false, false, false, false, false, false, false, false, false, false, false] rfl rfl (by kernel_rfl) (fun _ _ _ h => hP _ _ _ _ _ h) (Or.inl ⟨by rfl, ?_⟩) rfl ?_
  · intro w'
    exact y_move rfl rfl
  refine one_ (i := 19) (N := some 85) (ms 47 21) rfl rfl (by kernel_rfl) (by decide) (fun K hK => ?_)
  refine goes_ Try.func17 (by kernel_rfl) rfl #[.pointer (some ⟨g, 0, none⟩)] (by rfl) rfl rfl (by (try simp only [List.map_toArray, List.map_cons, List.map_nil]); first | done | rfl) ?_
  refine (hcL w2 hB2).mono ?_
  rintro e w3 ⟨rfl, hb⟩
  have hB3 : Below w.drew.heap.size w.drew w3 := hB2.trans ((hb).mono hB2.size)
  refine ⟨_, rfl, hK.out _ _ ?_ ?_⟩
  · exact HS1 _ hB3
  intro hHeld3
  replace hHeld := hHeld3
  refine wpAnyLast_eq (a' := ⟨[.slice A n c, u1, u2, u3, u4, .pointer (some ⟨g, 0, none⟩), .int .i64 0, .pointer (some ⟨b7, 0, none⟩), u8, .int .i64 last, u10, .slice Av nv cv, u12, u13, u14, u15, u16, u17, u18, u19, u20, u21, u22, u23, u24, u25, u26, u27, u28, u29, u30, u31, u32, u33, u34, u35, u36, u37, u38, u39, u40, u41, u42, u43, u44, u45, u46, u47, u48, u49, u50, u51, u52, u53, u54, u55, u56, u57, u58, u59, u60, u61, u62, u63, u64, u65, .int .i64 0, .bool true, .bool true, .pointer (some ⟨g, 0, none⟩), .slice A8 n c8, .string (strOfNums xs), .slice A n c, .string (strOfNums xs), .bool true, .bool true, .bool true, .pointer (some ⟨g, 0, none⟩), .int .i64 term, .pointer (some ⟨b7, 0, none⟩), .int .i64 term, .bool true, .bool true, .bool true, .pointer (some ⟨g, 0, none⟩), .int .i64 last, .int .i64 last, u87, u88, u89, u90, u91, u92, u93, u94, u95, u96, u97, u98, u99, u100, u101, u102, u103, u104, u105, u106, u107, u108, u109, u110, u111].toArray, []⟩) rfl ?_
  refine pure_ (i := 21) (N := some 87) (v := .bool true) (ms 47 22) rfl rfl (by kernel_rfl) (fun _ _ _ h => hP _ _ _ _ _ h) (Or.inl ⟨by rfl, ?_⟩) rfl ?_
  · intro w'
    exact y_eqv rfl rfl rfl
  refine pure_ (i := 22) (N := some 88) (v := .bool true) (ms 47 23) rfl rfl (by kernel_rfl) (fun _ _ _ h => hP _ _ _ _ _ h) (Or.inl ⟨by rfl, ?_⟩) rfl ?_
  · intro w'
    exact y_pick_t rfl rfl rfl
  refine pure_ (i := 23) (N := some 89) (v := .bool true) (ms 47 24) rfl rfl (by kernel_rfl) (fun _ _ _ h => hP _ _ _ _ _ h) (Or.inl ⟨by rfl, ?_⟩) rfl ?_
  · intro w'
    exact y_move rfl rfl
  refine pure_ (i := 24) (N := some 90) (v := .pointer (some ⟨g, 0, none⟩)) (a' := ⟨[.slice A n c, u1, u2, u3, u4, .pointer (some ⟨g, 0, none⟩), .int .i64 0, .pointer (some ⟨b7, 0, none⟩), u8, .int .i64 last, u10, .slice Av nv cv, u12, u13, u14, u15, u16, u17, u18, u19, u20, u21, u22, u23, u24, u25, u26, u27, u28, u29, u30, u31, u32, u33, u34, u35, u36, u37, u38, u39, u40, u41, u42, u43, u44, u45, u46, u47, u48, u49, u50, u51, u52, u53, u54, u55, u56, u57, u58, u59, u60, u61, u62, u63, u64, u65, .int .i64 0, .bool true, .bool true, .pointer (some ⟨g, 0, none⟩), .slice A8 n c8, .string (strOfNums xs), .slice A n c, .string (strOfNums xs), .bool true, .bool true, .bool true, .pointer (some ⟨g, 0, none⟩), .int .i64 term, .pointer (some ⟨b7, 0, none⟩), .int .i64 term, .bool true, .bool true, .bool true, .pointer (some ⟨g, 0, none⟩), .int .i64 last, .int .i64 last, .bool true, .bool true, .bool true, .pointer (some ⟨g, 0, none⟩), u91, u92, u93, u94, u95, u96, u97, u98, u99, u100, u101, u102, u103, u104, u105, u106, u107, u108, u109, u110, u111].toArray, []⟩) (ms 47 25) rfl rfl (by kernel_rfl) (fun _ _ _ h => hP _ _ _ _ _ h) (Or.inl ⟨by rfl, ?_⟩) rfl ?_
  · intro w'
    exact y_move rfl rfl
  refine pure_ (i := 26) (N := some 92) (v := .pointer (some ⟨b7, 2, none⟩)) #[true, true, true, true, true, true, true, true, true, true, true, true, true, true, true, true, true, true, true, true, true, true, true, true, true, false, true, false, false, false, false, false, false, false, false, false, false, false, false, false, false, false, false, false, false, false, false] rfl rfl (by kernel_rfl) (fun _ _ _ h => hP _ _ _ _ _ h) (Or.inl ⟨by rfl, ?_⟩) rfl ?_
  · intro w'
    exact y_f47_2 rfl rfl
  refine take_ (i := 27) (N := some 93) (v := .int .i64 idx) (a' := ⟨[.slice A n c, u1, u2, u3, u4, .pointer (some ⟨g, 0, none⟩), .int .i64 0, .pointer (some ⟨b7, 0, none⟩), u8, .int .i64 last, u10, .slice Av nv cv, u12, u13, u14, u15, u16, u17, u18, u19, u20, u21, u22, u23, u24, u25, u26, u27, u28, u29, u30, u31, u32, u33, u34, u35, u36, u37, u38, u39, u40, u41, u42, u43, u44, u45, u46, u47, u48, u49, u50, u51, u52, u53, u54, u55, u56, u57, u58, u59, u60, u61, u62, u63, u64, u65, .int .i64 0, .bool true, .bool true, .pointer (some ⟨g, 0, none⟩), .slice A8 n c8, .string (strOfNums xs), .slice A n c, .string (strOfNums xs), .bool true, .bool true, .bool true, .pointer (some ⟨g, 0, none⟩), .int .i64 term, .pointer (some ⟨b7, 0, none⟩), .int .i64 term, .bool true, .bool true, .bool true, .pointer (some ⟨g, 0, none⟩), .int .i64 last, .int .i64 last, .bool true, .bool true, .bool true, .pointer (some ⟨g, 0, none⟩), u91, .pointer (some ⟨b7, 2, none⟩), .int .i64 idx, u94, u95, u96, u97, u98, u99, u100, u101, u102, u103, u104, u105, u106, u107, u108, u109, u110, u111].toArray, []⟩) #[true, true, true, true, true, true, true, true, true, true, true, true, true, true, true, true, true, true, true, true, true, true, true, true, true, false, true, true, false, false, false, false, false, false, false, false, false, false, false, false, false, false, false, false, false, false, false] rfl rfl (by kernel_rfl) (fun _ _ _ h => hP _ _ _ _ _ h) (Or.inl ⟨by rfl, ?_⟩) hHeld rfl ?_
  · rintro w' ⟨q1, q2, q3⟩
    exact y_load3 rfl rfl q3
  refine one_ (i := 25) (N := some 91) (ms 47 28) rfl rfl (by kernel_rfl) (by decide) (fun K hK => ?_)
  refine goes_ Try.func14 (by kernel_rfl) rfl #[.pointer (some ⟨g, 0, none⟩)] (by rfl) rfl rfl (by (try simp only [List.map_toArray, List.map_cons, List.map_nil]); first | done | rfl) ?_
  refine (hcI w3 hB3).mono ?_
  rintro e w4 ⟨rfl, hb⟩
  have hB4 : Below w.drew.heap.size w.drew w4 := hB3.trans ((hb).mono hB3.size)
  refine ⟨_, rfl, hK.out _ _ ?_ ?_⟩
  · exact HS1 _ hB4
  intro hHeld4
  replace hHeld := hHeld4
  refine wpAnyLast_eq (a' := ⟨[.slice A n c, u1, u2, u3, u4, .pointer (some ⟨g, 0, none⟩), .int .i64 0, .pointer (some ⟨b7, 0, none⟩), u8, .int .i64 last, u10, .slice Av nv cv, u12, u13, u14, u15, u16, u17, u18, u19, u20, u21, u22, u23, u24, u25, u26, u27, u28, u29, u30, u31, u32, u33, u34, u35, u36, u37, u38, u39, u40, u41, u42, u43, u44, u45, u46, u47, u48, u49, u50, u51, u52, u53, u54, u55, u56, u57, u58, u59, u60, u61, u62, u63, u64, u65, .int .i64 0, .bool true, .bool true, .pointer (some ⟨g, 0, none⟩), .slice A8 n c8, .string (strOfNums xs), .slice A n c, .string (strOfNums xs), .bool true, .bool true, .bool true, .pointer (some ⟨g, 0, none⟩), .int .i64 term, .pointer (some ⟨b7, 0, none⟩), .int .i64 term, .bool true, .bool true, .bool true, .pointer (some ⟨g, 0, none⟩), .int .i64 last, .int .i64 last, .bool true, .bool true, .bool true, .pointer (some ⟨g, 0, none⟩), .int .i64 idx, .pointer (some ⟨b7, 2, none⟩), .int .i64 idx, u94, u95, u96, u97, u98, u99, u100, u101, u102, u103, u104, u105, u106, u107, u108, u109, u110, u111].toArray, []⟩) rfl ?_
  refine pure_ (i := 28) (N := some 94) (v := .bool true) (ms 47 29) rfl rfl (by kernel_rfl) (fun _ _ _ h => hP _ _ _ _ _ h) (Or.inl ⟨by rfl, ?_⟩) rfl ?_
  · intro w'
    exact y_eqv rfl rfl rfl
  refine pure_ (i := 29) (N := some 95) (v := .bool true) (ms 47 30) rfl rfl (by kernel_rfl) (fun _ _ _ h => hP _ _ _ _ _ h) (Or.inl ⟨by rfl, ?_⟩) rfl ?_
  · intro w'
    exact y_pick_t rfl rfl rfl
  refine pure_ (i := 30) (N := some 96) (v := .bool true) (ms 47 31) rfl rfl (by kernel_rfl) (fun _ _ _ h => hP _ _ _ _ _ h) (Or.inl ⟨by rfl, ?_⟩) rfl ?_
  · intro w'
    exact y_move rfl rfl
  refine pure_ (i := 31) (N := some 97) (v := .pointer (some ⟨g, 0, none⟩)) (a' := ⟨[.slice A n c, u1, u2, u3, u4, .pointer (some ⟨g, 0, none⟩), .int .i64 0, .pointer (some ⟨b7, 0, none⟩), u8, .int .i64 last, u10, .slice Av nv cv, u12, u13, u14, u15, u16, u17, u18, u19, u20, u21, u22, u23, u24, u25, u26, u27, u28, u29, u30, u31, u32, u33, u34, u35, u36, u37, u38, u39, u40, u41, u42, u43, u44, u45, u46, u47, u48, u49, u50, u51, u52, u53, u54, u55, u56, u57, u58, u59, u60, u61, u62, u63, u64, u65, .int .i64 0, .bool true, .bool true, .pointer (some ⟨g, 0, none⟩), .slice A8 n c8, .string (strOfNums xs), .slice A n c, .string (strOfNums xs), .bool true, .bool true, .bool true, .pointer (some ⟨g, 0, none⟩), .int .i64 term, .pointer (some ⟨b7, 0, none⟩), .int .i64 term, .bool true, .bool true, .bool true, .pointer (some ⟨g, 0, none⟩), .int .i64 last, .int .i64 last, .bool true, .bool true, .bool true, .pointer (some ⟨g, 0, none⟩), .int .i64 idx, .pointer (some ⟨b7, 2, none⟩), .int .i64 idx, .bool true, .bool true, .bool true, .pointer (some ⟨g, 0, none⟩), u98, u99, u100, u101, u102, u103, u104, u105, u106, u107, u108, u109, u110, u111].toArray, []⟩) (ms 47 32) rfl rfl (by kernel_rfl) (fun _ _ _ h => hP _ _ _ _ _ h) (Or.inl ⟨by rfl, ?_⟩) rfl ?_
  · intro w'
    exact y_move rfl rfl
  refine pure_ (i := 34) (N := some 100) (v := .slice Av nv cv) (a' := ⟨[.slice A n c, u1, u2, u3, u4, .pointer (some ⟨g, 0, none⟩), .int .i64 0, .pointer (some ⟨b7, 0, none⟩), u8, .int .i64 last, u10, .slice Av nv cv, u12, u13, u14, u15, u16, u17, u18, u19, u20, u21, u22, u23, u24, u25, u26, u27, u28, u29, u30, u31, u32, u33, u34, u35, u36, u37, u38, u39, u40, u41, u42, u43, u44, u45, u46, u47, u48, u49, u50, u51, u52, u53, u54, u55, u56, u57, u58, u59, u60, u61, u62, u63, u64, u65, .int .i64 0, .bool true, .bool true, .pointer (some ⟨g, 0, none⟩), .slice A8 n c8, .string (strOfNums xs), .slice A n c, .string (strOfNums xs), .bool true, .bool true, .bool true, .pointer (some ⟨g, 0, none⟩), .int .i64 term, .pointer (some ⟨b7, 0, none⟩), .int .i64 term, .bool true, .bool true, .bool true, .pointer (some ⟨g, 0, none⟩), .int .i64 last, .int .i64 last, .bool true, .bool true, .bool true, .pointer (some ⟨g, 0, none⟩), .int .i64 idx, .pointer (some ⟨b7, 2, none⟩), .int .i64 idx, .bool true, .bool true, .bool true, .pointer (some ⟨g, 0, none⟩), u98, u99, .slice Av nv cv, u101, u102, u103, u104, u105, u106, u107, u108, u109, u110, u111].toArray, []⟩) #[true, true, true, true, true, true, true, true, true, true, true, true, true, true, true, true, true, true, true, true, true, true, true, true, true, true, true, true, true, true, true, true, false, false, true, false, false, false, false, false, false, false, false, false, false, false, false] rfl rfl (by kernel_rfl) (fun _ _ _ h => hP _ _ _ _ _ h) (Or.inl ⟨by rfl, ?_⟩) rfl ?_
  · intro w'
    exact y_move rfl rfl
  refine one_ (i := 32) (N := some 98) #[true, true, true, true, true, true, true, true, true, true, true, true, true, true, true, true, true, true, true, true, true, true, true, true, true, true, true, true, true, true, true, true, true, false, true, false, false, false, false, false, false, false, false, false, false, false, false] rfl rfl (by kernel_rfl) (by decide) (fun K hK => ?_)
  refine goes_ Try.func26 (by kernel_rfl) rfl #[.pointer (some ⟨g, 0, none⟩)] (by rfl) rfl rfl (by (try simp only [List.map_toArray, List.map_cons, List.map_nil]); first | done | rfl) ?_
  refine (hcV w4 hB4).mono ?_
  rintro e w5 ⟨A1, n1, c1, rfl, hPV, hb⟩
  have hB5 : Below w.drew.heap.size w.drew w5 := hB4.trans ((hb).mono hB4.size)
  refine ⟨_, rfl, hK.out _ _ ?_ ?_⟩
  · exact HS1 _ hB5
  intro hHeld5
  replace hHeld := hHeld5
  refine wpAnyLast_eq (a' := ⟨[.slice A n c, u1, u2, u3, u4, .pointer (some ⟨g, 0, none⟩), .int .i64 0, .pointer (some ⟨b7, 0, none⟩), u8, .int .i64 last, u10, .slice Av nv cv, u12, u13, u14, u15, u16, u17, u18, u19, u20, u21, u22, u23, u24, u25, u26, u27, u28, u29, u30, u31, u32, u33, u34, u35, u36, u37, u38, u39, u40, u41, u42, u43, u44, u45, u46, u47, u48, u49, u50, u51, u52, u53, u54, u55, u56, u57, u58, u59, u60, u61, u62, u63, u64, u65, .int .i64 0, .bool true, .bool true, .pointer (some ⟨g, 0, none⟩), .slice A8 n c8, .string (strOfNums xs), .slice A n c, .string (strOfNums xs), .bool true, .bool true, .bool true, .pointer (some ⟨g, 0, none⟩), .int .i64 term, .pointer (some ⟨b7, 0, none⟩), .int .i64 term, .bool true, .bool true, .bool true, .pointer (some ⟨g, 0, none⟩), .int .i64 last, .int .i64 last, .bool true, .bool true, .bool true, .pointer (some ⟨g, 0, none⟩), .int .i64 idx, .pointer (some ⟨b7, 2, none⟩), .int .i64 idx, .bool true, .bool true, .bool true, .pointer (some ⟨g, 0, none⟩), .slice A1 n1 c1, u99, .slice Av nv cv, u101, u102, u103, u104, u105, u106, u107, u108, u109, u110, u111].toArray, []⟩) rfl ?_
  refine one_ (i := 33) (N := some 99) (ms 47 35) rfl rfl (by kernel_rfl) (by decide) (fun K hK => ?_)
  refine goes_ Try.func25 (by kernel_rfl) rfl #[.slice A1 n1 c1] (by rfl) rfl rfl (by (try simp only [List.map_toArray, List.map_cons, List.map_nil]); first | done | rfl) ?_
  refine (hcX A1 n1 c1 _ hPV).mono ?_
  rintro e w6 ⟨rfl, hb⟩
  have hB6 : Below w.drew.heap.size w.drew w6 := hB5.trans ((hb).mono hB5.size)
  refine ⟨_, rfl, hK.out _ _ ?_ ?_⟩
  · exact HS1 _ hB6
  intro hHeld6
  replace hHeld := hHeld6
  refine wpAnyLast_eq (a' := ⟨[.slice A n c, u1, u2, u3, u4, .pointer (some ⟨g, 0, none⟩), .int .i64 0, .pointer (some ⟨b7, 0, none⟩), u8, .int .i64 last, u10, .slice Av nv cv, u12, u13, u14, u15, u16, u17, u18, u19, u20, u21, u22, u23, u24, u25, u26, u27, u28, u29, u30, u31, u32, u33, u34, u35, u36, u37, u38, u39, u40, u41, u42, u43, u44, u45, u46, u47, u48, u49, u50, u51, u52, u53, u54, u55, u56, u57, u58, u59, u60, u61, u62, u63, u64, u65, .int .i64 0, .bool true, .bool true, .pointer (some ⟨g, 0, none⟩), .slice A8 n c8, .string (strOfNums xs), .slice A n c, .string (strOfNums xs), .bool true, .bool true, .bool true, .pointer (some ⟨g, 0, none⟩), .int .i64 term, .pointer (some ⟨b7, 0, none⟩), .int .i64 term, .bool true, .bool true, .bool true, .pointer (some ⟨g, 0, none⟩), .int .i64 last, .int .i64 last, .bool true, .bool true, .bool true, .pointer (some ⟨g, 0, none⟩), .int .i64 idx, .pointer (some ⟨b7, 2, none⟩), .int .i64 idx, .bool true, .bool true, .bool true, .pointer (some ⟨g, 0, none⟩), .slice A1 n1 c1, .string t, .slice Av nv cv, u101, u102, u103, u104, u105, u106, u107, u108, u109, u110, u111].toArray, []⟩) rfl ?_
  refine one_ (i := 35) (N := some 101) (ms 47 36) rfl rfl (by kernel_rfl) (by decide) (fun K hK => ?_)
  refine goes_ Try.func25 (by kernel_rfl) rfl #[.slice Av nv cv] (by rfl) rfl rfl (by (try simp only [List.map_toArray, List.map_cons, List.map_nil]); first | done | rfl) ?_
  refine (hcY w6 hB6).mono ?_
  rintro e w7 ⟨rfl, hb⟩
  have hB7 : Below w.drew.heap.size w.drew w7 := hB6.trans ((hb).mono hB6.size)
  refine ⟨_, rfl, hK.out _ _ ?_ ?_⟩
  · exact HS1 _ hB7
  intro hHeld7
  replace hHeld := hHeld7
  refine wpAnyLast_eq (a' := ⟨[.slice A n c, u1, u2, u3, u4, .pointer (some ⟨g, 0, none⟩), .int .i64 0, .pointer (some ⟨b7, 0, none⟩), u8, .int .i64 last, u10, .slice Av nv cv, u12, u13, u14, u15, u16, u17, u18, u19, u20, u21, u22, u23, u24, u25, u26, u27, u28, u29, u30, u31, u32, u33, u34, u35, u36, u37, u38, u39, u40, u41, u42, u43, u44, u45, u46, u47, u48, u49, u50, u51, u52, u53, u54, u55, u56, u57, u58, u59, u60, u61, u62, u63, u64, u65, .int .i64 0, .bool true, .bool true, .pointer (some ⟨g, 0, none⟩), .slice A8 n c8, .string (strOfNums xs), .slice A n c, .string (strOfNums xs), .bool true, .bool true, .bool true, .pointer (some ⟨g, 0, none⟩), .int .i64 term, .pointer (some ⟨b7, 0, none⟩), .int .i64 term, .bool true, .bool true, .bool true, .pointer (some ⟨g, 0, none⟩), .int .i64 last, .int .i64 last, .bool true, .bool true, .bool true, .pointer (some ⟨g, 0, none⟩), .int .i64 idx, .pointer (some ⟨b7, 2, none⟩), .int .i64 idx, .bool true, .bool true, .bool true, .pointer (some ⟨g, 0, none⟩), .slice A1 n1 c1, .string t, .slice Av nv cv, .string t, u102, u103, u104, u105, u106, u107, u108, u109, u110, u111].toArray, []⟩) rfl ?_
  refine pure_ (i := 36) (N := some 102) (v := .bool true) (ms 47 37) rfl rfl (by kernel_rfl) (fun _ _ _ h => hP _ _ _ _ _ h) (Or.inl ⟨by rfl, ?_⟩) rfl ?_
  · intro w'
    exact y_eqs rfl rfl rfl
  refine pure_ (i := 37) (N := some 103) (v := .bool true) (ms 47 38) rfl rfl (by kernel_rfl) (fun _ _ _ h => hP _ _ _ _ _ h) (Or.inl ⟨by rfl, ?_⟩) rfl ?_
  · intro w'
    exact y_pick_t rfl rfl rfl
  refine pure_ (i := 38) (N := some 104) (v := .bool true) (ms 47 39) rfl rfl (by kernel_rfl) (fun _ _ _ h => hP _ _ _ _ _ h) (Or.inl ⟨by rfl, ?_⟩) rfl ?_
  · intro w'
    exact y_move rfl rfl
  refine pure_ (i := 39) (N := some 105) (v := .pointer (some ⟨g, 0, none⟩)) (a' := ⟨[.slice A n c, u1, u2, u3, u4, .pointer (some ⟨g, 0, none⟩), .int .i64 0, .pointer (some ⟨b7, 0, none⟩), u8, .int .i64 last, u10, .slice Av nv cv, u12, u13, u14, u15, u16, u17, u18, u19, u20, u21, u22, u23, u24, u25, u26, u27, u28, u29, u30, u31, u32, u33, u34, u35, u36, u37, u38, u39, u40, u41, u42, u43, u44, u45, u46, u47, u48, u49, u50, u51, u52, u53, u54, u55, u56, u57, u58, u59, u60, u61, u62, u63, u64, u65, .int .i64 0, .bool true, .bool true, .pointer (some ⟨g, 0, none⟩), .slice A8 n c8, .string (strOfNums xs), .slice A n c, .string (strOfNums xs), .bool true, .bool true, .bool true, .pointer (some ⟨g, 0, none⟩), .int .i64 term, .pointer (some ⟨b7, 0, none⟩), .int .i64 term, .bool true, .bool true, .bool true, .pointer (some ⟨g, 0, none⟩), .int .i64 last, .int .i64 last, .bool true, .bool true, .bool true, .pointer (some ⟨g, 0, none⟩), .int .i64 idx, .pointer (some ⟨b7, 2, none⟩), .int .i64 idx, .bool true, .bool true, .bool true, .pointer (some ⟨g, 0, none⟩), .slice A1 n1 c1, .string t, .slice Av nv cv, .string t, .bool true, .bool true, .bool true, .pointer (some ⟨g, 0, none⟩), u106, u107, u108, u109, u110, u111].toArray, []⟩) (ms 47 40) rfl rfl (by kernel_rfl) (fun _ _ _ h => hP _ _ _ _ _ h) (Or.inl ⟨by rfl, ?_⟩) rfl ?_
  · intro w'
    exact y_move rfl rfl
  refine one_ (i := 40) (N := some 106) (ms 47 41) rfl rfl (by kernel_rfl) (by decide) (fun K hK => ?_)
  refine goes_ Try.func13 (by kernel_rfl) rfl #[.pointer (some ⟨g, 0, none⟩)] (by rfl) rfl rfl (by (try simp only [List.map_toArray, List.map_cons, List.map_nil]); first | done | rfl) ?_
  refine (hcD w7 hB7).mono ?_
  rintro e w8 ⟨rfl, hb⟩
  have hB8 : Below w.drew.heap.size w.drew w8 := hB7.trans ((hb).mono hB7.size)
  refine ⟨_, rfl, hK.out _ _ ?_ ?_⟩
  · exact HS1 _ hB8
  intro hHeld8
  replace hHeld := hHeld8
  refine wpAnyLast_eq (a' := ⟨[.slice A n c, u1, u2, u3, u4, .pointer (some ⟨g, 0, none⟩), .int .i64 0, .pointer (some ⟨b7, 0, none⟩), u8, .int .i64 last, u10, .slice Av nv cv, u12, u13, u14, u15, u16, u17, u18, u19, u20, u21, u22, u23, u24, u25, u26, u27, u28, u29, u30, u31, u32, u33, u34, u35, u36, u37, u38, u39, u40, u41, u42, u43, u44, u45, u46, u47, u48, u49, u50, u51, u52, u53, u54, u55, u56, u57, u58, u59, u60, u61, u62, u63, u64, u65, .int .i64 0, .bool true, .bool true, .pointer (some ⟨g, 0, none⟩), .slice A8 n c8, .string (strOfNums xs), .slice A n c, .string (strOfNums xs), .bool true, .bool true, .bool true, .pointer (some ⟨g, 0, none⟩), .int .i64 term, .pointer (some ⟨b7, 0, none⟩), .int .i64 term, .bool true, .bool true, .bool true, .pointer (some ⟨g, 0, none⟩), .int .i64 last, .int .i64 last, .bool true, .bool true, .bool true, .pointer (some ⟨g, 0, none⟩), .int .i64 idx, .pointer (some ⟨b7, 2, none⟩), .int .i64 idx, .bool true, .bool true, .bool true, .pointer (some ⟨g, 0, none⟩), .slice A1 n1 c1, .string t, .slice Av nv cv, .string t, .bool true, .bool true, .bool true, .pointer (some ⟨g, 0, none⟩), .bool false, u107, u108, u109, u110, u111].toArray, []⟩) rfl ?_
  refine pure_ (i := 41) (N := some 107) (v := .bool true) (ms 47 42) rfl rfl (by kernel_rfl) (fun _ _ _ h => hP _ _ _ _ _ h) (Or.inl ⟨by rfl, ?_⟩) rfl ?_
  · intro w'
    exact y_not (v := false) rfl rfl
  refine pure_ (i := 42) (N := some 108) (v := .bool true) (ms 47 43) rfl rfl (by kernel_rfl) (fun _ _ _ h => hP _ _ _ _ _ h) (Or.inl ⟨by rfl, ?_⟩) rfl ?_
  · intro w'
    exact y_pick_t rfl rfl rfl
  refine pure_ (i := 43) (N := some 109) (v := .bool true) (a' := ⟨[.slice A n c, u1, u2, u3, u4, .pointer (some ⟨g, 0, none⟩), .int .i64 0, .pointer (some ⟨b7, 0, none⟩), u8, .int .i64 last, u10, .slice Av nv cv, u12, u13, u14, u15, u16, u17, u18, u19, u20, u21, u22, u23, u24, u25, u26, u27, u28, u29, u30, u31, u32, u33, u34, u35, u36, u37, u38, u39, u40, u41, u42, u43, u44, u45, u46, u47, u48, u49, u50, u51, u52, u53, u54, u55, u56, u57, u58, u59, u60, u61, u62, u63, u64, u65, .int .i64 0, .bool true, .bool true, .pointer (some ⟨g, 0, none⟩), .slice A8 n c8, .string (strOfNums xs), .slice A n c, .string (strOfNums xs), .bool true, .bool true, .bool true, .pointer (some ⟨g, 0, none⟩), .int .i64 term, .pointer (some ⟨b7, 0, none⟩), .int .i64 term, .bool true, .bool true, .bool true, .pointer (some ⟨g, 0, none⟩), .int .i64 last, .int .i64 last, .bool true, .bool true, .bool true, .pointer (some ⟨g, 0, none⟩), .int .i64 idx, .pointer (some ⟨b7, 2, none⟩), .int .i64 idx, .bool true, .bool true, .bool true, .pointer (some ⟨g, 0, none⟩), .slice A1 n1 c1, .string t, .slice Av nv cv, .string t, .bool true, .bool true, .bool true, .pointer (some ⟨g, 0, none⟩), .bool false, .bool true, .bool true, .bool true, u110, u111].toArray, []⟩) (ms 47 44) rfl rfl (by kernel_rfl) (fun _ _ _ h => hP _ _ _ _ _ h) (Or.inl ⟨by rfl, ?_⟩) rfl ?_
  · intro w'
    exact y_move rfl rfl
  refine one_ (i := 44) (N := some 110) (ms 47 45) rfl rfl (by kernel_rfl) (by decide) (fun K hK => ?_)
  refine goes_ Try.func15 (by kernel_rfl) rfl #[] (by rfl) rfl rfl (by (try simp only [List.map_toArray, List.map_cons, List.map_nil]); first | done | rfl) ?_
  refine (hcV2 w8 hB8).mono ?_
  rintro e w9 ⟨rfl, hb⟩
  have hB9 : Below w.drew.heap.size w.drew w9 := hB8.trans ((hb).mono hB8.size)
  refine ⟨_, rfl, hK.out _ _ ?_ ?_⟩
  · exact HS1 _ hB9
  intro hHeld9
  replace hHeld := hHeld9
  refine wpAnyLast_eq (a' := ⟨[.slice A n c, u1, u2, u3, u4, .pointer (some ⟨g, 0, none⟩), .int .i64 0, .pointer (some ⟨b7, 0, none⟩), u8, .int .i64 last, u10, .slice Av nv cv, u12, u13, u14, u15, u16, u17, u18, u19, u20, u21, u22, u23, u24, u25, u26, u27, u28, u29, u30, u31, u32, u33, u34, u35, u36, u37, u38, u39, u40, u41, u42, u43, u44, u45, u46, u47, u48, u49, u50, u51, u52, u53, u54, u55, u56, u57, u58, u59, u60, u61, u62, u63, u64, u65, .int .i64 0, .bool true, .bool true, .pointer (some ⟨g, 0, none⟩), .slice A8 n c8, .string (strOfNums xs), .slice A n c, .string (strOfNums xs), .bool true, .bool true, .bool true, .pointer (some ⟨g, 0, none⟩), .int .i64 term, .pointer (some ⟨b7, 0, none⟩), .int .i64 term, .bool true, .bool true, .bool true, .pointer (some ⟨g, 0, none⟩), .int .i64 last, .int .i64 last, .bool true, .bool true, .bool true, .pointer (some ⟨g, 0, none⟩), .int .i64 idx, .pointer (some ⟨b7, 2, none⟩), .int .i64 idx, .bool true, .bool true, .bool true, .pointer (some ⟨g, 0, none⟩), .slice A1 n1 c1, .string t, .slice Av nv cv, .string t, .bool true, .bool true, .bool true, .pointer (some ⟨g, 0, none⟩), .bool false, .bool true, .bool true, .bool true, .bool true, u111].toArray, []⟩) rfl ?_
  refine pure_ (i := 45) (N := some 111) (v := .bool true) (ms 47 46) rfl rfl (by kernel_rfl) (fun _ _ _ h => hP _ _ _ _ _ h) (Or.inl ⟨by rfl, ?_⟩) rfl ?_
  · intro w'
    exact y_pick_t rfl rfl rfl
  refine pure_ (i := 46) (N := some 4) (v := .bool true) (a' := ⟨[.slice A n c, u1, u2, u3, .bool true, .pointer (some ⟨g, 0, none⟩), .int .i64 0, .pointer (some ⟨b7, 0, none⟩), u8, .int .i64 last, u10, .slice Av nv cv, u12, u13, u14, u15, u16, u17, u18, u19, u20, u21, u22, u23, u24, u25, u26, u27, u28, u29, u30, u31, u32, u33, u34, u35, u36, u37, u38, u39, u40, u41, u42, u43, u44, u45, u46, u47, u48, u49, u50, u51, u52, u53, u54, u55, u56, u57, u58, u59, u60, u61, u62, u63, u64, u65, .int .i64 0, .bool true, .bool true, .pointer (some ⟨g, 0, none⟩), .slice A8 n c8, .string (strOfNums xs), .slice A n c, .string (strOfNums xs), .bool true, .bool true, .bool true, .pointer (some ⟨g, 0, none⟩), .int .i64 term, .pointer (some ⟨b7, 0, none⟩), .int .i64 term, .bool true, .bool true, .bool true, .pointer (some ⟨g, 0, none⟩), .int .i64 last, .int .i64 last, .bool true, .bool true, .bool true, .pointer (some ⟨g, 0, none⟩), .int .i64 idx, .pointer (some ⟨b7, 2, none⟩), .int .i64 idx, .bool true, .bool true, .bool true, .pointer (some ⟨g, 0, none⟩), .slice A1 n1 c1, .string t, .slice Av nv cv, .string t, .bool true, .bool true, .bool true, .pointer (some ⟨g, 0, none⟩), .bool false, .bool true, .bool true, .bool true, .bool true, .bool true].toArray, []⟩) (ms 47 47) rfl rfl (by kernel_rfl) (fun _ _ _ h => hP _ _ _ _ _ h) (Or.inl ⟨by rfl, ?_⟩) rfl ?_
  · intro w'
    exact y_assign rfl rfl
  refine done_ (by kernel_rfl) ?_
  exact h _ _ _ _ _ _ hB9

end Go.Proofs.Ytfanbhbpmhojaaa
