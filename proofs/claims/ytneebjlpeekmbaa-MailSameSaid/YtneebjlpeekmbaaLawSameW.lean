/- Whether any two mails are the same: mail.Same and the document's Same say so alike; and the walk of the law MailSame. Conditions: the kinds' ranges. -/
import Derived.Test.YtneebjlpeekmbaaAbL
import Derived.Test.YtneebjlpeekmbaaSameF1
import Derived.Test.YtneebjlpeekmbaaSameF2
import Derived.Test.YtneebjlpeekmbaaSameF3
import Derived.Test.YtneebjlpeekmbaaSameF4
import Derived.Test.YtneebjlpeekmbaaSameF5
import Derived.Test.YtneebjlpeekmbaaSameF6
import Derived.Test.YtneebjlpeekmbaaSameF7
namespace Go.Proofs.Ytneebjlpeekmbaa
open Go.RowKit Go.Proofs.YtneebjlpeekmbaaW.PrintWords Go.Proofs.YtneebjlpeekmbaaW.PrintLast Go.Proofs.YtneebjlpeekmbaaW.PrintMore PRef
set_option linter.unusedVariables false
set_option linter.unusedSimpArgs false

set_option maxRecDepth 100000
theorem msame20 {cx cy : Array Value} {x y : Mail} {w : World} (r : Bool) (hr : r = true ↔ x = y) (hx : InM w cx x) (hy : InM w cy y) : Calls Try.prog 20 #[.agg cx, .agg cy] w fun e w' => e = .returned (.bool r) ∧ Below w.heap.size w w' := by
  have no : x ≠ y → r = false := fun h => by
    cases r with
    | false => rfl
    | true => exact absurd (hr.1 rfl) h
  by_cases e0 : x.kind = y.kind
  · skip
    by_cases e1 : x.mfrom = y.mfrom
    · skip
      by_cases e2 : x.mto = y.mto
      · skip
        by_cases e3 : x.shard = y.shard
        · skip
          by_cases e4 : x.inst = y.inst
          · skip
            by_cases e5 : x.ok = y.ok
            · skip
              by_cases e6 : x.term = y.term
              · skip
                by_cases e7 : x.mindex = y.mindex
                · skip
                  by_cases e8 : x.past = y.past
                  · skip
                    by_cases e9 : x.commit = y.commit
                    · skip
                      by_cases e10 : x.epoch = y.epoch
                      · skip
                        by_cases e11 : x.entries = y.entries
                        · skip
                          by_cases e12 : x.text = y.text
                          · skip
                            have hxy : x = y := by
                              cases x; cases y
                              simp only [Mail.mk.injEq]
                              exact ⟨e0, e1, e2, e3, e4, e5, e6, e7, e8, e9, e10, e11, e12⟩
                            obtain rfl : r = true := hr.2 hxy
                            clear no hr e0 e1 e2 e3 e4 e5 e6 e7 e8 e9 e10 e11 e12
                            subst hxy
                            obtain ⟨A1, c1, A2, c2, A3, c3, rfl, h1, h2, h3⟩ := hx
                            obtain ⟨B1, d1, B2, d2, B3, d3, rfl, k1, k2, k3⟩ := hy
                            exact mailsame_true x h1 h2 h3 k1 k2 k3
                          · rw [no (fun h => e12 (by rw [h]))]; exact ms20_12 hx hy e0 e1 e2 e3 e4 e5 e6 e7 e8 e9 e10 e11 e12
                        · rw [no (fun h => e11 (by rw [h]))]; exact ms20_11 hx hy e0 e1 e2 e3 e4 e5 e6 e7 e8 e9 e10 e11
                      · rw [no (fun h => e10 (by rw [h]))]; exact ms20_10 hx hy e0 e1 e2 e3 e4 e5 e6 e7 e8 e9 e10
                    · rw [no (fun h => e9 (by rw [h]))]; exact ms20_9 hx hy e0 e1 e2 e3 e4 e5 e6 e7 e8 e9
                  · rw [no (fun h => e8 (by rw [h]))]; exact ms20_8 hx hy e0 e1 e2 e3 e4 e5 e6 e7 e8
                · rw [no (fun h => e7 (by rw [h]))]; exact ms20_7 hx hy e0 e1 e2 e3 e4 e5 e6 e7
              · rw [no (fun h => e6 (by rw [h]))]; exact ms20_6 hx hy e0 e1 e2 e3 e4 e5 e6
            · rw [no (fun h => e5 (by rw [h]))]; exact ms20_5 hx hy e0 e1 e2 e3 e4 e5
          · rw [no (fun h => e4 (by rw [h]))]; exact ms20_4 hx hy e0 e1 e2 e3 e4
        · rw [no (fun h => e3 (by rw [h]))]; exact ms20_3 hx hy e0 e1 e2 e3
      · rw [no (fun h => e2 (by rw [h]))]; exact ms20_2 hx hy e0 e1 e2
    · rw [no (fun h => e1 (by rw [h]))]; exact ms20_1 hx hy e0 e1
  · rw [no (fun h => e0 (by rw [h]))]; exact ms20_0 hx hy  e0
theorem msame17 {cx cy : Array Value} {x y : Mail} {w : World} (r : Bool) (hr : r = true ↔ x = y) (hx : InM w cx x) (hy : InM w cy y) : Calls Try.prog 17 #[.agg cx, .agg cy] w fun e w' => e = .returned (.bool r) ∧ Below w.heap.size w w' := by
  have no : x ≠ y → r = false := fun h => by
    cases r with
    | false => rfl
    | true => exact absurd (hr.1 rfl) h
  by_cases e0 : x.kind = y.kind
  · skip
    by_cases e1 : x.mfrom = y.mfrom
    · skip
      by_cases e2 : x.mto = y.mto
      · skip
        by_cases e3 : x.shard = y.shard
        · skip
          by_cases e4 : x.inst = y.inst
          · skip
            by_cases e5 : x.ok = y.ok
            · skip
              by_cases e6 : x.term = y.term
              · skip
                by_cases e7 : x.mindex = y.mindex
                · skip
                  by_cases e8 : x.past = y.past
                  · skip
                    by_cases e9 : x.commit = y.commit
                    · skip
                      by_cases e10 : x.epoch = y.epoch
                      · skip
                        by_cases e11 : x.entries.length = y.entries.length
                        · skip
                          by_cases e12 : x.text = y.text
                          · skip
                            by_cases e13 : x.entries = y.entries
                            · skip
                              have hxy : x = y := by
                                cases x; cases y
                                simp only [Mail.mk.injEq]
                                exact ⟨e0, e1, e2, e3, e4, e5, e6, e7, e8, e9, e10, e13, e12⟩
                              obtain rfl : r = true := hr.2 hxy
                              clear no hr e0 e1 e2 e3 e4 e5 e6 e7 e8 e9 e10 e11 e12 e13
                              subst hxy
                              obtain ⟨A1, c1, A2, c2, A3, c3, rfl, h1, h2, h3⟩ := hx
                              obtain ⟨B1, d1, B2, d2, B3, d3, rfl, k1, k2, k3⟩ := hy
                              exact mailsame15_true x h1 h2 h3 k1 k2 k3
                            · rw [no (fun h => e13 (by rw [h]))]; exact ms17_13 hx hy e0 e1 e2 e3 e4 e5 e6 e7 e8 e9 e10 e11 e12 e13
                          · rw [no (fun h => e12 (by rw [h]))]; exact ms17_12 hx hy e0 e1 e2 e3 e4 e5 e6 e7 e8 e9 e10 e11 e12
                        · rw [no (fun h => e11 (by rw [h]))]; exact ms17_11 hx hy e0 e1 e2 e3 e4 e5 e6 e7 e8 e9 e10 e11
                      · rw [no (fun h => e10 (by rw [h]))]; exact ms17_10 hx hy e0 e1 e2 e3 e4 e5 e6 e7 e8 e9 e10
                    · rw [no (fun h => e9 (by rw [h]))]; exact ms17_9 hx hy e0 e1 e2 e3 e4 e5 e6 e7 e8 e9
                  · rw [no (fun h => e8 (by rw [h]))]; exact ms17_8 hx hy e0 e1 e2 e3 e4 e5 e6 e7 e8
                · rw [no (fun h => e7 (by rw [h]))]; exact ms17_7 hx hy e0 e1 e2 e3 e4 e5 e6 e7
              · rw [no (fun h => e6 (by rw [h]))]; exact ms17_6 hx hy e0 e1 e2 e3 e4 e5 e6
            · rw [no (fun h => e5 (by rw [h]))]; exact ms17_5 hx hy e0 e1 e2 e3 e4 e5
          · rw [no (fun h => e4 (by rw [h]))]; exact ms17_4 hx hy e0 e1 e2 e3 e4
        · rw [no (fun h => e3 (by rw [h]))]; exact ms17_3 hx hy e0 e1 e2 e3
      · rw [no (fun h => e2 (by rw [h]))]; exact ms17_2 hx hy e0 e1 e2
    · rw [no (fun h => e1 (by rw [h]))]; exact ms17_1 hx hy e0 e1
  · rw [no (fun h => e0 (by rw [h]))]; exact ms17_0 hx hy  e0

def regionOf (n : Nat) : Code → Option Code
  | .region i o d => if i = n then some (.region i o d) else none
  | .loop c => regionOf n c
  | .seq a b => match regionOf n a with
    | some c => some c
    | none => regionOf n b
  | .block _ c => regionOf n c
  | .scope c => regionOf n c
  | .cond _ a b => match regionOf n a with
    | some c => some c
    | none => regionOf n b
  | _ => none
noncomputable def regS : Code := (Try.f7.body.bind (regionOf 3)).getD .skip
theorem load_yields {P : Program} {a : Act} {o : Oper} {w : World} (ty : TypeId) (x : Operand) (ho : o.op = .load ty x) (g : Nat) (hx : a.eval x = .pointer (some ⟨g, 0, none⟩)) (t : TypeId) (cs : Array Value) (fr : Nat × Nat) (d : TypeDesc) (hg : w.heap[g]? = some (.cells cs t fr)) (hu : P.underlying ty = some d) (hd : (match d with | .struct _ | .array _ _ => true | _ => false) = true) (hi : (P.info? ty).map (·.size) = some cs.size) :
    (execOp a.eval o).run P w = .ok (.value (.agg cs)) w := by
  unfold execOp
  simp only [ho, hx, Instr.loadAt, Instr.sureAddr, Sem.run_bind, Sem.run_pure, Result.andThen_ok, run_loadVar_row w g t ty cs fr d hg hu hd hi]
section
variable {P : Program} {a : Act} {o : Oper} {w : World}
theorem y_move {x : Operand} {v : Value} (ho : o.op = .move x) (hx : a.eval x = v) : (execOp a.eval o).run P w = .ok (.value v) w := by
  unfold execOp
  simp only [ho, hx]
  go_simp
theorem y_assign {x : Operand} {v : Value} (ho : o.op = .assign x) (hx : a.eval x = v) : (execOp a.eval o).run P w = .ok (.value v) w := by
  unfold execOp
  simp only [ho, hx]
  go_simp
theorem y_pick_t {x y z : Operand} {v : Value} (ho : o.op = .pick x y z) (hx : a.eval x = .bool true) (hz : a.eval y = v) : (execOp a.eval o).run P w = .ok (.value v) w := by
  unfold execOp
  simp only [ho, hx, hz]
  go_simp
end
theorem y_eqb {a : Act} {o : Oper} {w : World} {x y : Operand} {r : Bool} (ho : o.op = .binOp .eql 4 x y 4) (hx : a.eval x = .bool r) (hy : a.eval y = .bool r) : (execOp a.eval o).run Try.prog w = .ok (.value (.bool true)) w := by
  have hu4 := Try.underlying4
  unfold execOp
  simp only [ho, hx, hy]
  cases r <;> go_simp
set_option maxRecDepth 1000000 in
set_option maxHeartbeats 4000000 in
theorem same_last (b1 b2 : Nat) (w0 : World) (Q : Exit → Act → World → Prop) (ca cb : Array Value) (x y : Mail)
    (hP : ∀ x a d v w, Q (.panic x) (a.put (some d) v) w → Q (.panic x) a w) (hca0 : w0.heap[b1]? = some (.cells ca 34 (0, 0))) (hcb0 : w0.heap[b2]? = some (.cells cb 34 (0, 0))) (hx0 : InM w0 ca x) (hy0 : InM w0 cb y)
    (h : ∀ (tmps : Array Value) (w' : World), tmps.getD 4 undef = .bool true → Below w0.drew.heap.size w0.drew w' → Q .normal ⟨tmps, []⟩ w') (u0 u1 u4 u5 u6 u7 u8 u9 u10 u11 u12 u13 u14 u15 u16 u17 u18 u19 u20 u21 u22 u23 u24 u25 u26 u27 u28 : Value) :
    Code.wp Try.prog regS Q ⟨[u0, u1, .pointer (some ⟨b1, 0, none⟩), .pointer (some ⟨b2, 0, none⟩), u4, u5, u6, u7, u8, u9, u10, u11, u12, u13, u14, u15, u16, u17, u18, u19, u20, u21, u22, u23, u24, u25, u26, u27, u28].toArray, []⟩ w0 := by
  conv => arg 2; whnf
  obtain ⟨r, hr⟩ : ∃ r : Bool, r = true ↔ x = y := by
    by_cases h : x = y
    · exact ⟨true, fun _ => h, fun _ => rfl⟩
    · exact ⟨false, fun h => (by cases h), fun h2 => absurd h2 h⟩
  obtain ⟨w, hw⟩ : ∃ w, w = w0.drew := ⟨_, rfl⟩
  have hca : w.heap[b1]? = some (.cells ca 34 (0, 0)) := by rw [hw]; exact hca0
  have hcb : w.heap[b2]? = some (.cells cb 34 (0, 0)) := by rw [hw]; exact hcb0
  have hx : InM w ca x := by rw [hw]; exact hx0.below ((Below.refl _ _).drew)
  have hy : InM w cb y := by rw [hw]; exact hy0.below ((Below.refl _ _).drew)
  refine start_ (n := 16) (S := fun w' => Below w.heap.size w w') (ds := []) #[false, false, false, false, false, false, false, false, false, false, false, false, false, false, false, false] (by kernel_rfl) rfl rfl (by rw [hw]; exact Below.refl _ _) (fun hHeld => ?_)
  rw [← hw] at h hHeld ⊢
  refine take_ (i := 0) (N := some 14) (v := .agg ca) (a' := ⟨[u0, u1, .pointer (some ⟨b1, 0, none⟩), .pointer (some ⟨b2, 0, none⟩), u4, u5, u6, u7, u8, u9, u10, u11, u12, u13, .agg ca, u15, u16, u17, u18, u19, u20, u21, u22, u23, u24, u25, u26, u27, u28].toArray, []⟩) #[true, false, false, false, false, false, false, false, false, false, false, false, false, false, false, false] rfl rfl (by kernel_rfl) (fun _ _ _ h => hP _ _ _ _ _ h) (Or.inl ⟨by rfl, ?_⟩) hHeld rfl ?_
  · intro w' hw; exact load_yields 34 (.tmp 2) rfl b1 rfl 34 ca (0, 0) _ (blk_below hca hw) Try.underlying34 rfl hx.info
  refine take_ (i := 1) (N := some 15) (v := .agg cb) (a' := ⟨[u0, u1, .pointer (some ⟨b1, 0, none⟩), .pointer (some ⟨b2, 0, none⟩), u4, u5, u6, u7, u8, u9, u10, u11, u12, u13, .agg ca, .agg cb, u16, u17, u18, u19, u20, u21, u22, u23, u24, u25, u26, u27, u28].toArray, []⟩) #[true, true, false, false, false, false, false, false, false, false, false, false, false, false, false, false] rfl rfl (by kernel_rfl) (fun _ _ _ h => hP _ _ _ _ _ h) (Or.inl ⟨by rfl, ?_⟩) hHeld rfl ?_
  · intro w' hw; exact load_yields 34 (.tmp 3) rfl b2 rfl 34 cb (0, 0) _ (blk_below hcb hw) Try.underlying34 rfl hy.info
  refine take_ (i := 3) (N := some 17) (v := .agg ca) (a' := ⟨[u0, u1, .pointer (some ⟨b1, 0, none⟩), .pointer (some ⟨b2, 0, none⟩), u4, u5, u6, u7, u8, u9, u10, u11, u12, u13, .agg ca, .agg cb, u16, .agg ca, u18, u19, u20, u21, u22, u23, u24, u25, u26, u27, u28].toArray, []⟩) #[true, true, false, true, false, false, false, false, false, false, false, false, false, false, false, false] rfl rfl (by kernel_rfl) (fun _ _ _ h => hP _ _ _ _ _ h) (Or.inl ⟨by rfl, ?_⟩) hHeld rfl ?_
  · intro w' hw; exact load_yields 34 (.tmp 2) rfl b1 rfl 34 ca (0, 0) _ (blk_below hca hw) Try.underlying34 rfl hx.info
  refine take_ (i := 4) (N := some 18) (v := .agg cb) (a' := ⟨[u0, u1, .pointer (some ⟨b1, 0, none⟩), .pointer (some ⟨b2, 0, none⟩), u4, u5, u6, u7, u8, u9, u10, u11, u12, u13, .agg ca, .agg cb, u16, .agg ca, .agg cb, u19, u20, u21, u22, u23, u24, u25, u26, u27, u28].toArray, []⟩) #[true, true, false, true, true, false, false, false, false, false, false, false, false, false, false, false] rfl rfl (by kernel_rfl) (fun _ _ _ h => hP _ _ _ _ _ h) (Or.inl ⟨by rfl, ?_⟩) hHeld rfl ?_
  · intro w' hw; exact load_yields 34 (.tmp 3) rfl b2 rfl 34 cb (0, 0) _ (blk_below hcb hw) Try.underlying34 rfl hy.info
  refine one_ (i := 2) (N := some 16) #[true, true, true, true, true, false, false, false, false, false, false, false, false, false, false, false] rfl rfl (by kernel_rfl) (by decide) (fun K hK => ?_)
  refine goes_ Try.func20 (by kernel_rfl) rfl #[.agg ca, .agg cb] (by rfl) rfl rfl (by (try simp only [List.map_toArray, List.map_cons, List.map_nil]); first | done | rfl) ?_
  refine (msame20 r hr (hx.below hHeld) (hy.below hHeld)).mono ?_
  rintro e w2 ⟨rfl, hb2⟩
  refine ⟨_, rfl, hK.out _ _ (hHeld.trans (hb2.mono hHeld.size)) ?_⟩
  intro hH1
  refine norm_ (a' := ⟨[u0, u1, .pointer (some ⟨b1, 0, none⟩), .pointer (some ⟨b2, 0, none⟩), u4, u5, u6, u7, u8, u9, u10, u11, u12, u13, .agg ca, .agg cb, .bool r, .agg ca, .agg cb, u19, u20, u21, u22, u23, u24, u25, u26, u27, u28].toArray, []⟩) rfl ?_
  refine one_ (i := 5) (N := some 19) #[true, true, true, true, true, true, false, false, false, false, false, false, false, false, false, false] rfl rfl (by kernel_rfl) (by decide) (fun K hK => ?_)
  refine goes_ Try.func17 (by kernel_rfl) rfl #[.agg ca, .agg cb] (by rfl) rfl rfl (by (try simp only [List.map_toArray, List.map_cons, List.map_nil]); first | done | rfl) ?_
  refine (msame17 r hr (hx.below hH1) (hy.below hH1)).mono ?_
  rintro e w5 ⟨rfl, hb5⟩
  refine ⟨_, rfl, hK.out _ _ (hH1.trans (hb5.mono hH1.size)) ?_⟩
  intro hH2
  refine norm_ (a' := ⟨[u0, u1, .pointer (some ⟨b1, 0, none⟩), .pointer (some ⟨b2, 0, none⟩), u4, u5, u6, u7, u8, u9, u10, u11, u12, u13, .agg ca, .agg cb, .bool r, .agg ca, .agg cb, .bool r, u20, u21, u22, u23, u24, u25, u26, u27, u28].toArray, []⟩) rfl ?_
  refine pure_ (i := 6) (N := some 20) (v := .bool true) (a' := ⟨[u0, u1, .pointer (some ⟨b1, 0, none⟩), .pointer (some ⟨b2, 0, none⟩), u4, u5, u6, u7, u8, u9, u10, u11, u12, u13, .agg ca, .agg cb, .bool r, .agg ca, .agg cb, .bool r, .bool true, u21, u22, u23, u24, u25, u26, u27, u28].toArray, []⟩) #[true, true, true, true, true, true, true, false, false, false, false, false, false, false, false, false] rfl rfl (by kernel_rfl) (fun _ _ _ h => hP _ _ _ _ _ h) (Or.inl ⟨by rfl, ?_⟩) rfl ?_
  · intro w'; exact y_eqb (r := r) rfl (by rfl) (by rfl)
  refine pure_ (i := 7) (N := some 21) (v := .bool true) (a' := ⟨[u0, u1, .pointer (some ⟨b1, 0, none⟩), .pointer (some ⟨b2, 0, none⟩), u4, u5, u6, u7, u8, u9, u10, u11, u12, u13, .agg ca, .agg cb, .bool r, .agg ca, .agg cb, .bool r, .bool true, .bool true, u22, u23, u24, u25, u26, u27, u28].toArray, []⟩) #[true, true, true, true, true, true, true, true, false, false, false, false, false, false, false, false] rfl rfl (by kernel_rfl) (fun _ _ _ h => hP _ _ _ _ _ h) (Or.inl ⟨by rfl, ?_⟩) rfl ?_
  · intro w'; exact y_move rfl rfl
  refine take_ (i := 8) (N := some 22) (v := .agg ca) (a' := ⟨[u0, u1, .pointer (some ⟨b1, 0, none⟩), .pointer (some ⟨b2, 0, none⟩), u4, u5, u6, u7, u8, u9, u10, u11, u12, u13, .agg ca, .agg cb, .bool r, .agg ca, .agg cb, .bool r, .bool true, .bool true, .agg ca, u23, u24, u25, u26, u27, u28].toArray, []⟩) #[true, true, true, true, true, true, true, true, true, false, false, false, false, false, false, false] rfl rfl (by kernel_rfl) (fun _ _ _ h => hP _ _ _ _ _ h) (Or.inl ⟨by rfl, ?_⟩) hH2 rfl ?_
  · intro w' hw; exact load_yields 34 (.tmp 2) rfl b1 rfl 34 ca (0, 0) _ (blk_below hca hw) Try.underlying34 rfl hx.info
  refine take_ (i := 9) (N := some 23) (v := .agg ca) (a' := ⟨[u0, u1, .pointer (some ⟨b1, 0, none⟩), .pointer (some ⟨b2, 0, none⟩), u4, u5, u6, u7, u8, u9, u10, u11, u12, u13, .agg ca, .agg cb, .bool r, .agg ca, .agg cb, .bool r, .bool true, .bool true, .agg ca, .agg ca, u24, u25, u26, u27, u28].toArray, []⟩) #[true, true, true, true, true, true, true, true, true, true, false, false, false, false, false, false] rfl rfl (by kernel_rfl) (fun _ _ _ h => hP _ _ _ _ _ h) (Or.inl ⟨by rfl, ?_⟩) hH2 rfl ?_
  · intro w' hw; exact load_yields 34 (.tmp 2) rfl b1 rfl 34 ca (0, 0) _ (blk_below hca hw) Try.underlying34 rfl hx.info
  refine one_ (i := 10) (N := some 24) #[true, true, true, true, true, true, true, true, true, true, true, false, false, false, false, false] rfl rfl (by kernel_rfl) (by decide) (fun K hK => ?_)
  refine goes_ Try.func20 (by kernel_rfl) rfl #[.agg ca, .agg ca] (by rfl) rfl rfl (by (try simp only [List.map_toArray, List.map_cons, List.map_nil]); first | done | rfl) ?_
  refine (msame20 true ⟨fun _ => rfl, fun _ => rfl⟩ (hx.below hH2) (hx.below hH2)).mono ?_
  rintro e w10 ⟨rfl, hb10⟩
  refine ⟨_, rfl, hK.out _ _ (hH2.trans (hb10.mono hH2.size)) ?_⟩
  intro hH3
  refine norm_ (a' := ⟨[u0, u1, .pointer (some ⟨b1, 0, none⟩), .pointer (some ⟨b2, 0, none⟩), u4, u5, u6, u7, u8, u9, u10, u11, u12, u13, .agg ca, .agg cb, .bool r, .agg ca, .agg cb, .bool r, .bool true, .bool true, .agg ca, .agg ca, .bool true, u25, u26, u27, u28].toArray, []⟩) rfl ?_
  refine pure_ (i := 11) (N := some 25) (v := .bool true) (a' := ⟨[u0, u1, .pointer (some ⟨b1, 0, none⟩), .pointer (some ⟨b2, 0, none⟩), u4, u5, u6, u7, u8, u9, u10, u11, u12, u13, .agg ca, .agg cb, .bool r, .agg ca, .agg cb, .bool r, .bool true, .bool true, .agg ca, .agg ca, .bool true, .bool true, u26, u27, u28].toArray, []⟩) #[true, true, true, true, true, true, true, true, true, true, true, true, false, false, false, false] rfl rfl (by kernel_rfl) (fun _ _ _ h => hP _ _ _ _ _ h) (Or.inl ⟨by rfl, ?_⟩) rfl ?_
  · intro w'; exact y_pick_t rfl rfl rfl
  refine pure_ (i := 12) (N := some 26) (v := .bool true) (a' := ⟨[u0, u1, .pointer (some ⟨b1, 0, none⟩), .pointer (some ⟨b2, 0, none⟩), u4, u5, u6, u7, u8, u9, u10, u11, u12, u13, .agg ca, .agg cb, .bool r, .agg ca, .agg cb, .bool r, .bool true, .bool true, .agg ca, .agg ca, .bool true, .bool true, .bool true, u27, u28].toArray, []⟩) #[true, true, true, true, true, true, true, true, true, true, true, true, true, false, false, false] rfl rfl (by kernel_rfl) (fun _ _ _ h => hP _ _ _ _ _ h) (Or.inl ⟨by rfl, ?_⟩) rfl ?_
  · intro w'; exact y_move rfl rfl
  refine one_ (i := 13) (N := some 27) #[true, true, true, true, true, true, true, true, true, true, true, true, true, true, false, false] rfl rfl (by kernel_rfl) (by decide) (fun K hK => ?_)
  refine goes_ Try.func11 (by kernel_rfl) rfl #[] (by rfl) rfl rfl (by (try simp only [List.map_toArray, List.map_cons, List.map_nil]); first | done | rfl) ?_
  refine (lives_calls _).mono ?_
  rintro e w13 ⟨rfl, hb13⟩
  refine ⟨_, rfl, hK.out _ _ (hH3.trans (hb13.mono hH3.size)) ?_⟩
  intro hH4
  refine norm_ (a' := ⟨[u0, u1, .pointer (some ⟨b1, 0, none⟩), .pointer (some ⟨b2, 0, none⟩), u4, u5, u6, u7, u8, u9, u10, u11, u12, u13, .agg ca, .agg cb, .bool r, .agg ca, .agg cb, .bool r, .bool true, .bool true, .agg ca, .agg ca, .bool true, .bool true, .bool true, .bool true, u28].toArray, []⟩) rfl ?_
  refine pure_ (i := 14) (N := some 28) (v := .bool true) (a' := ⟨[u0, u1, .pointer (some ⟨b1, 0, none⟩), .pointer (some ⟨b2, 0, none⟩), u4, u5, u6, u7, u8, u9, u10, u11, u12, u13, .agg ca, .agg cb, .bool r, .agg ca, .agg cb, .bool r, .bool true, .bool true, .agg ca, .agg ca, .bool true, .bool true, .bool true, .bool true, .bool true].toArray, []⟩) #[true, true, true, true, true, true, true, true, true, true, true, true, true, true, true, false] rfl rfl (by kernel_rfl) (fun _ _ _ h => hP _ _ _ _ _ h) (Or.inl ⟨by rfl, ?_⟩) rfl ?_
  · intro w'; exact y_pick_t rfl rfl rfl
  refine pure_ (i := 15) (N := some 4) (v := .bool true) (a' := ⟨[u0, u1, .pointer (some ⟨b1, 0, none⟩), .pointer (some ⟨b2, 0, none⟩), .bool true, u5, u6, u7, u8, u9, u10, u11, u12, u13, .agg ca, .agg cb, .bool r, .agg ca, .agg cb, .bool r, .bool true, .bool true, .agg ca, .agg ca, .bool true, .bool true, .bool true, .bool true, .bool true].toArray, []⟩) #[true, true, true, true, true, true, true, true, true, true, true, true, true, true, true, true] rfl rfl (by kernel_rfl) (fun _ _ _ h => hP _ _ _ _ _ h) (Or.inl ⟨by rfl, ?_⟩) rfl ?_
  · intro w'; exact y_assign rfl rfl
  refine done_ (by kernel_rfl) ?_
  exact h _ _ rfl hH4

set_option maxRecDepth 100000 in
set_option maxHeartbeats 4000000 in
theorem same_law (ca cb : Array Value) (x y : Mail) (w : World) (hx : InM w ca x) (hy : InM w cb y) (hxt : x.text.size ≤ 9223372036854775807) (hyt : y.text.size ≤ 9223372036854775807) :
    Calls Try.prog 7 #[.agg ca, .agg cb] w fun e w' => e = .returned (.bool true) ∧ Below w.heap.size w w' := by
  have HX := Lib.hid hx
  have HY := Lib.hid hy
  have hinf := hx.info
  have hing := hy.info
  have HINF := Lib.hid hinf
  have HING := Lib.hid hing
  have hu34 := Try.underlying34
  have hw1 := blk_alloc (blk_new w (.cells ca 34)) (.cells cb 34)
  have hw2 := blk_new (w.alloc (.cells ca 34)) (.cells cb 34)
  rw [World.size_alloc] at hw2
  have HA1 := Lib.hid hw1
  have HC1 := Lib.hid hw2
  have HB1 := Lib.hid (((Below.refl w.heap.size w).alloc (Nat.le_refl _) (.cells ca 34)).alloc (by simp) (.cells cb 34))
  clear hx hy hinf hing hw1 hw2
  go_enter Try.func7, Try.ntmps7
  go_upto_region 1 with fail
  generalize (w.alloc (.cells ca 34)).alloc (.cells cb 34) = w1 at HA1 HC1 HB1 ⊢
  go_wp2_with (refine gate_guard (by rfl) ?_; dsimp only; refine wpList_load_row rfl 34 (.tmp 2) rfl w.heap.size rfl 34 ca (0, 0) _ HA1.out Try.underlying34 rfl HINF.out ?_)
  ((with_reducible refine (light_m (HX.out.below HB1.out) hxt).mono ?_); rintro e w2 ⟨b, rfl, _, hb⟩)
  have HB2 := Lib.hid (HB1.out.trans (hb.mono HB1.out.size))
  have HA2 := Lib.hid (blk_below HA1.out hb)
  have HC2 := Lib.hid (blk_below HC1.out hb)
  clear hb HB1 HA1 HC1
  cases b with
  | false =>
    go_wp2_with ((with_reducible refine (lives_calls _).mono ?_); rintro e w6 ⟨rfl, hb6⟩)
    go_ret
    exact ⟨rfl, HB2.out.trans (hb6.mono HB2.out.size)⟩
  | true =>
    go_wp2_with (refine gate_guard (by rfl) ?_; dsimp only; refine wpList_load_row rfl 34 (.tmp 3) rfl (w.heap.size + 1) rfl 34 cb (0, 0) _ HC2.out Try.underlying34 rfl HING.out ?_)
    ((with_reducible refine (light_m (HY.out.below HB2.out) hyt).mono ?_); rintro e w3 ⟨b, rfl, _, hb⟩)
    have HB3 := Lib.hid (HB2.out.trans (hb.mono HB2.out.size))
    have HA3 := Lib.hid (blk_below HA2.out hb)
    have HC3 := Lib.hid (blk_below HC2.out hb)
    clear hb HB2 HA2 HC2
    cases b with
    | false =>
      go_wp2_with ((with_reducible refine (lives_calls _).mono ?_); rintro e w6 ⟨rfl, hb6⟩)
      go_ret
      exact ⟨rfl, HB3.out.trans (hb6.mono HB3.out.size)⟩
    | true =>
      go_upto_region 3 with fail
      refine same_last w.heap.size (w.heap.size + 1) w3 _ ca cb x y (fun _ _ _ _ _ h => h) HA3.out HC3.out (HX.out.below HB3.out) (HY.out.below HB3.out) ?_ _ _ _ _ _ _ _ _ _ _ _ _ _ _ _ _ _ _ _ _ _ _ _ _ _ _ _
      intro tmps w' h2 hb
      go_wp2_with fail
      refine bodyPost_ret (a := ⟨tmps, []⟩) (v := .bool true) (by have h3 : tmps[4]?.getD undef = Value.bool true := (by simpa using h2); simp [results, Try.results7, go_sem, h3]) rfl ⟨rfl, ?_⟩
      have hb' : Below w3.heap.size w3 w' := ⟨hb.os, hb.tape, hb.output, hb.size, hb.block⟩
      exact HB3.out.trans (hb'.mono HB3.out.size)

end Go.Proofs.Ytneebjlpeekmbaa
