/- The reference's Read: the mail with which bytes begin. Conditions: bytes are bytes. -/
import Derived.Test.YtneebjlpeekmbaaReadL
namespace Go.Proofs.Ytneebjlpeekmbaa
open Go.RowKit Go.Proofs.YtneebjlpeekmbaaW.PrintWords Go.Proofs.YtneebjlpeekmbaaW.PrintLast Go.Proofs.YtneebjlpeekmbaaW.PrintMore PRef
set_option linter.unusedVariables false
set_option linter.unusedSimpArgs false

theorem Rg.lt {w0 w : World} {g : Nat} {xs : List Int} {s : Option Nat} (h : Rg w0 w g xs s) : w0.heap.size ≤ g ∧ g < w.heap.size := by
  cases s with
  | none => obtain ⟨a, h⟩ := h; obtain ⟨A, c, h1, _⟩ := h.row; exact ⟨h.low, blk_lt h1⟩
  | some a => obtain ⟨A, c, h1, _⟩ := h.1.row; exact ⟨h.1.low, blk_lt h1⟩
theorem blk_puts {b : Nat} {t : TypeId} : ∀ (vs : List Value) (o : Nat) {wr : World} {cs : Array Value}, wr.heap[b]? = some (.cells cs t (0, 0)) → (wr.setCells b o vs).heap[b]? = some (.cells (fillv cs o vs) t (0, 0))
  | [], _, _, _, h => h
  | v :: vs, o, _, _, h => blk_puts vs (o + 1) (blk_set h o v)
theorem own_g {w1 w2 : World} {B x n size : Nat} {e : TypeId} {v : Value} {l : List Value} (ho : w1.ownsRow B e size v n l) (hc : Chg (fun k => k = x) w1 w2) (hx : x < B) : w2.ownsRow B e size v n l :=
  carry ho hc (fun hk => by have := own_base ho _ hk.symm; omega)
theorem own_gO {α : Type} {R : α → List Value → Prop} {w1 w2 : World} {B x size : Nat} {e : TypeId} {v : Value} {l : List α} (ho : OwnRow R e size w1 B v l) (hc : Chg (fun k => k = x) w1 w2) (hx : x < B) : OwnRow R e size w2 B v l :=
  carryO ho hc (fun hk => by have := orow_base ho _ hk.symm; omega)
theorem own_f {w1 w2 : World} {B B2 n size : Nat} {e : TypeId} {v : Value} {l : List Value} (ho : w1.ownsRow B e size v n l) (hc : Chg (fun k => B2 ≤ k) w1 w2) (hx : ∀ k, v.ownBlock = some k → k < B2) : w2.ownsRow B e size v n l :=
  own_move ho (fun k hk => hc.block k (own_lt ho k hk) (by have := hx k hk; omega))
theorem own_fO {α : Type} {R : α → List Value → Prop} {w1 w2 : World} {B B2 size : Nat} {e : TypeId} {v : Value} {l : List α} (ho : OwnRow R e size w1 B v l) (hc : Chg (fun k => B2 ≤ k) w1 w2) (hx : ∀ k, v.ownBlock = some k → k < B2) : OwnRow R e size w2 B v l :=
  orow_move ho (fun k hk => hc.block k (orow_lt ho k hk) (by have := hx k hk; omega))
theorem Rg.drew {w0 w : World} {g : Nat} {xs : List Int} {s : Option Nat} (h : Rg w0 w g xs s) : Rg w0 w.drew g xs s :=
  h.move ((Chg.refl (fun _ => False) w).drew) (fun h => h) (fun k h => h.elim)
/-- Where Read stands: its Reader, its result's cells, the mail m and the command c that it fills. -/
structure Us (w wr : World) (g : Nat) (xs : List Int) (s : Option Nat) (bm : Nat) (cm : Array Value) (bc : Nat) (cc : Array Value) (B : Nat) : Prop where
  rd : Rg w wr g xs s
  res : wr.heap[w.heap.size]? = some (.cells #[.int .i64 0, .int .i64 0, .int .i64 0, .int .i64 0, .int .i64 0, .int .i64 0, .int .i64 0, .int .i64 0, .int .i64 0, .int .i64 0, .int .i64 0, .bool false, .int .i64 0, .int .i64 0, .int .i64 0, .int .i64 0, .int .i64 0, .slice none 0 0, .int .i64 0, .slice none 0 0, .bool false, .int .i64 0, .int .i64 0, .int .i64 0, .int .i64 0, .int .i64 0, .slice none 0 0, .string ⟨#[]⟩] 34 (0, 0))
  blk : wr.heap[bm]? = some (.cells cm 34 (0, 0))
  blc : wr.heap[bc]? = some (.cells cc 28 (0, 0))
  ord : w.heap.size < g ∧ g < bm ∧ bm < bc ∧ bc < B ∧ B ≤ wr.heap.size
namespace Us
variable {w wr w2 : World} {g bm bc B : Nat} {xs : List Int} {s s' : Option Nat} {cm cc : Array Value}
theorem read (h : Us w wr g xs s bm cm bc cc B) (hr : Rg w w2 g xs s') (hc : Chg (fun k => k = g) wr w2) : Us w w2 g xs s' bm cm bc cc B := by
  have := h.ord
  have := hc.size
  exact ⟨hr, hc.get h.res (by omega), hc.get h.blk (by omega), hc.get h.blc (by omega), by omega⟩
theorem putc (h : Us w wr g xs s bm cm bc cc B) (i : Nat) (u : Value) : Us w (wr.setCell ⟨bc, i, none⟩ u) g xs s bm cm bc (cc.setIfInBounds i u) B := by
  have ho := h.ord
  have hc := (Chg.refl (fun k => k = bc) wr).setCell (p := ⟨bc, i, none⟩) (.inl rfl) u
  have := hc.size
  exact ⟨h.rd.move hc (by omega) (fun k hk => by omega), hc.get h.res (by omega), hc.get h.blk (by omega), blk_set h.blc i u, by omega⟩
theorem putm (h : Us w wr g xs s bm cm bc cc B) (i : Nat) (u : Value) : Us w (wr.setCell ⟨bm, i, none⟩ u) g xs s bm (cm.setIfInBounds i u) bc cc B := by
  have ho := h.ord
  have hc := (Chg.refl (fun k => k = bm) wr).setCell (p := ⟨bm, i, none⟩) (.inl rfl) u
  have := hc.size
  exact ⟨h.rd.move hc (by omega) (fun k hk => by omega), hc.get h.res (by omega), blk_set h.blk i u, hc.get h.blc (by omega), by omega⟩
theorem putsm (h : Us w wr g xs s bm cm bc cc B) (o : Nat) (vs : List Value) : Us w (wr.setCells bm o vs) g xs s bm (fillv cm o vs) bc cc B := by
  have ho := h.ord
  have hc := chg_setCells bm vs o wr
  have := hc.size
  exact ⟨h.rd.move hc (by omega) (fun k hk => by omega), hc.get h.res (by omega), blk_puts vs o h.blk, hc.get h.blc (by omega), by omega⟩
theorem far (h : Us w wr g xs s bm cm bc cc B) (hc : Chg (fun k => B ≤ k) wr w2) : Us w w2 g xs s bm cm bc cc B := by
  have ho := h.ord
  have := hc.size
  exact ⟨h.rd.move hc (by omega) (fun k hk => by omega), hc.get h.res (by omega), hc.get h.blk (by omega), hc.get h.blc (by omega), by omega⟩
theorem drew (h : Us w wr g xs s bm cm bc cc B) : Us w wr.drew g xs s bm cm bc cc B := ⟨h.rd.drew, h.res, h.blk, h.blc, h.ord⟩
theorem up (h : Us w wr g xs s bm cm bc cc B) : Us w wr g xs s bm cm bc cc wr.heap.size := ⟨h.rd, h.res, h.blk, h.blc, by have := h.ord; omega⟩
theorem cm_ (h : Us w wr g xs s bm cm bc cc B) (i : Nat) : wr.cell? ⟨bm, i, none⟩ = cm[i]? := blk_cell h.blk i
theorem fm_ (h : Us w wr g xs s bm cm bc cc B) (i : Nat) : wr.frozen? ⟨bm, i, none⟩ = false := blk_frozen h.blk i
theorem cc_ (h : Us w wr g xs s bm cm bc cc B) (i : Nat) : wr.cell? ⟨bc, i, none⟩ = cc[i]? := blk_cell h.blc i
theorem fc_ (h : Us w wr g xs s bm cm bc cc B) (i : Nat) : wr.frozen? ⟨bc, i, none⟩ = false := blk_frozen h.blc i
end Us
def MailAt (w' : World) (M : Mail) (A1 : Option Addr) (c1 : Nat) (A2 : Option Addr) (c2 : Nat) (A3 : Option Addr) (c3 : Nat) : Prop := InC w' A1 c1 M.inst.cmd.data ∧ InR w' A2 c2 M.inst.deps ∧ InE w' A3 c3 M.entries
def ReadPost (w : World) (xs : List Int) (e : Ending) (w' : World) : Prop :=
  ∃ (M : Mail) (A1 : Option Addr) (c1 : Nat) (A2 : Option Addr) (c2 : Nat) (A3 : Option Addr) (c3 : Nat), e = .returned (.tuple #[.agg #[.int .i64 M.kind, .int .i64 M.mfrom, .int .i64 M.mto, .int .i64 M.shard, .int .i64 M.inst.lead, .int .i64 M.inst.index, .int .i64 M.inst.bn, .int .i64 M.inst.bnode, .int .i64 M.inst.vn, .int .i64 M.inst.vnode, .int .i64 M.inst.status, .bool M.inst.same, .int .i64 M.inst.cmd.op, .int .i64 M.inst.cmd.client, .int .i64 M.inst.cmd.seq, .int .i64 M.inst.cmd.cfrom, .int .i64 M.inst.cmd.cto, .slice A1 M.inst.cmd.data.length c1, .int .i64 M.inst.iseq, .slice A2 M.inst.deps.length c2, .bool M.ok, .int .i64 M.term, .int .i64 M.mindex, .int .i64 M.past, .int .i64 M.commit, .int .i64 M.epoch, .slice A3 M.entries.length c3, .string M.text], .bool (decide ((mailR xs (some 0)).2 = some xs.length))]) ∧ ((mailR xs (some 0)).2 = some xs.length → M = (mailR xs (some 0)).1) ∧ (∀ w2 : World, (∀ k, w.heap.size ≤ k → w2.heap[k]? = w'.heap[k]?) → MailAt w2 M A1 c1 A2 c2 A3 c3) ∧ Below w.heap.size w w'
theorem still_load {P : Program} {ops : Array Oper} {w : World} {Q : Act → Prop} {a : Act} {o : Oper} {rest : List Oper} (hgd : o.guard = none) (ty : TypeId) (x : Operand) (ho : o.op = .load ty x) (g : Nat) (hx : a.eval x = .pointer (some ⟨g, 0, none⟩)) (t : TypeId) (cs : Array Value) (fr : Nat × Nat) (d : TypeDesc) (hg : w.heap[g]? = some (.cells cs t fr)) (hu : P.underlying ty = some d) (hd : (match d with | .struct _ | .array _ _ => true | _ => false) = true) (hi : (P.info? ty).map (·.size) = some cs.size) (h : wpStill P ops w Q rest (a.put o.dst (.agg cs))) : wpStill P ops w Q (o :: rest) a := by
  refine wpStill_step fun K hK => ?_
  have hw : Region.wanted o (yielded ops a.tmps) = true := by simp [Region.wanted, hgd]
  rw [if_pos hw]
  unfold Oper.still execOp
  simp only [ho, hx, Instr.loadAt, Instr.sureAddr, Sem.run_bind, Sem.run_pure, Result.andThen_ok, run_loadVar_row w g t ty cs fr d hg hu hd hi, Oper.stillUpon_value]
  exact hK _ h
theorem inf60b : (Try.prog.info? 60).map (·.size) = some 3 := by kernel_rfl
/-- All steps of Read, one behind the other. -/
theorem read_stp {xs : List Int} {s1 s2 s3 s4 s5 s6 s7 s8 s9 s10 s11 s12 s13 s14 s15 s16 s17 s18 s19 s20 s21 s22 s23 s24 s25 s26 s27 s28 : Option Nat} {v1 v2 v3 v4 v5 v6 v7 v8 v9 v10 v11 v13 v14 v15 v16 v17 v19 v22 v23 v24 v25 v26 : Int} {b12 b21 : Bool} {L1 : List ByteArray} {L2 : List S23} {L3 : List S60} {t1 : ByteArray}
    (h1 : Stp (intR xs (some 0)) v1 s1) (h2 : Stp (intR xs s1) v2 s2) (h3 : Stp (intR xs s2) v3 s3) (h4 : Stp (intR xs s3) v4 s4) (h5 : Stp (intR xs s4) v5 s5) (h6 : Stp (intR xs s5) v6 s6) (h7 : Stp (intR xs s6) v7 s7) (h8 : Stp (intR xs s7) v8 s8) (h9 : Stp (intR xs s8) v9 s9) (h10 : Stp (intR xs s9) v10 s10) (h11 : Stp (intR xs s10) v11 s11) (h12 : Stp (boolR xs s11) b12 s12) (h13 : Stp (byteR xs s12) v13 s13) (h14 : Stp (intR xs s13) v14 s14) (h15 : Stp (intR xs s14) v15 s15) (h16 : Stp (intR xs s15) v16 s16) (h17 : Stp (intR xs s16) v17 s17) (h18 : Stp (getR xs (textS xs) s17) L1 s18) (h19 : Stp (intR xs s18) v19 s19) (h20 : Stp (getR xs (refR xs) s19) L2 s20) (h21 : Stp (boolR xs s20) b21 s21) (h22 : Stp (intR xs s21) v22 s22) (h23 : Stp (intR xs s22) v23 s23) (h24 : Stp (intR xs s23) v24 s24) (h25 : Stp (intR xs s24) v25 s25) (h26 : Stp (intR xs s25) v26 s26) (h27 : Stp (getR xs (entR xs) s26) L3 s27) (h28 : Stp (textS xs s27) t1 s28) :
    Stp (mailR xs (some 0)) (⟨v1, v2, v3, v4, ⟨v5, v6, v7, v8, v9, v10, v11, b12, ⟨v13, v14, v15, v16, v17, L1⟩, v19, L2⟩, b21, v22, v23, v24, v25, v26, L3, t1⟩ : Mail) s28 := by
  have nG : ∀ {α : Type} (each : Option Nat → α × Option Nat), (getR xs each none).2 = none := fun each => by
    unfold getR
    simp [numR, loopR_none]
  have hc : ∀ s, (cmdR xs s).2 = (getR xs (textS xs) (intsR xs 4 (byteR xs s).2).2).2 := fun s => by
    unfold cmdR
    dsimp only
    by_cases h : (getR xs (textS xs) (intsR xs 4 (byteR xs s).2).2).2 = none
    · rw [if_pos h, h]
    · rw [if_neg h]
  have hi : ∀ s, (instR xs s).2 = (getR xs (refR xs) (intR xs (cmdR xs (boolR xs (intsR xs 7 s).2).2).2).2).2 := fun s => by
    unfold instR
    dsimp only
    by_cases h : (getR xs (refR xs) (intR xs (cmdR xs (boolR xs (intsR xs 7 s).2).2).2).2).2 = none
    · rw [if_pos h, h]
    · rw [if_neg h]
  have e4 : (intsR xs 4 (some 0)).2 = s4 := by rw [h4.1, h3.1, h2.1, h1.1]; rfl
  have e11 : (intsR xs 7 s4).2 = s11 := by rw [h11.1, h10.1, h9.1, h8.1, h7.1, h6.1, h5.1]; rfl
  have e17 : (intsR xs 4 s13).2 = s17 := by rw [h17.1, h16.1, h15.1, h14.1]; rfl
  have e26 : (intsR xs 5 s21).2 = s26 := by rw [h26.1, h25.1, h24.1, h23.1, h22.1]; rfl
  have ec : (cmdR xs s12).2 = s18 := by rw [hc, ← h13.1, e17, ← h18.1]
  have ei : (instR xs s4).2 = s20 := by rw [hi, e11, ← h12.1, ec, ← h19.1, ← h20.1]
  have em : (mailR xs (some 0)).2 = s28 := by
    unfold mailR
    dsimp only
    rw [e4, ei, ← h21.1, e26, ← h27.1, ← h28.1]
  refine ⟨em.symm, fun k28 => ?_⟩
  have k27 : s27 ≠ none := fun h => k28 (by rw [h28.1, h]; rfl)
  have k26 : s26 ≠ none := fun h => k27 (by rw [h27.1, h]; exact nG _)
  have k25 : s25 ≠ none := fun h => k26 (by rw [h26.1, h]; rfl)
  have k24 : s24 ≠ none := fun h => k25 (by rw [h25.1, h]; rfl)
  have k23 : s23 ≠ none := fun h => k24 (by rw [h24.1, h]; rfl)
  have k22 : s22 ≠ none := fun h => k23 (by rw [h23.1, h]; rfl)
  have k21 : s21 ≠ none := fun h => k22 (by rw [h22.1, h]; rfl)
  have k20 : s20 ≠ none := fun h => k21 (by rw [h21.1, h]; rfl)
  have k19 : s19 ≠ none := fun h => k20 (by rw [h20.1, h]; exact nG _)
  have k18 : s18 ≠ none := fun h => k19 (by rw [h19.1, h]; rfl)
  have k17 : s17 ≠ none := fun h => k18 (by rw [h18.1, h]; exact nG _)
  have k16 : s16 ≠ none := fun h => k17 (by rw [h17.1, h]; rfl)
  have k15 : s15 ≠ none := fun h => k16 (by rw [h16.1, h]; rfl)
  have k14 : s14 ≠ none := fun h => k15 (by rw [h15.1, h]; rfl)
  have k13 : s13 ≠ none := fun h => k14 (by rw [h14.1, h]; rfl)
  have k12 : s12 ≠ none := fun h => k13 (by rw [h13.1, h]; rfl)
  have k11 : s11 ≠ none := fun h => k12 (by rw [h12.1, h]; rfl)
  have k10 : s10 ≠ none := fun h => k11 (by rw [h11.1, h]; rfl)
  have k9 : s9 ≠ none := fun h => k10 (by rw [h10.1, h]; rfl)
  have k8 : s8 ≠ none := fun h => k9 (by rw [h9.1, h]; rfl)
  have k7 : s7 ≠ none := fun h => k8 (by rw [h8.1, h]; rfl)
  have k6 : s6 ≠ none := fun h => k7 (by rw [h7.1, h]; rfl)
  have k5 : s5 ≠ none := fun h => k6 (by rw [h6.1, h]; rfl)
  have k4 : s4 ≠ none := fun h => k5 (by rw [h5.1, h]; rfl)
  have k3 : s3 ≠ none := fun h => k4 (by rw [h4.1, h]; rfl)
  have k2 : s2 ≠ none := fun h => k3 (by rw [h3.1, h]; rfl)
  have k1 : s1 ≠ none := fun h => k2 (by rw [h2.1, h]; rfl)
  have q4 : (intsR xs 4 (some 0)).1 = [v1, v2, v3, v4] := by
    rw [h1.2 k1, h2.2 k2, h3.2 k3, h4.2 k4, h3.1, h2.1, h1.1]; rfl
  have q11 : (intsR xs 7 s4).1 = [v5, v6, v7, v8, v9, v10, v11] := by
    rw [h5.2 k5, h6.2 k6, h7.2 k7, h8.2 k8, h9.2 k9, h10.2 k10, h11.2 k11, h10.1, h9.1, h8.1, h7.1, h6.1, h5.1]; rfl
  have q17 : (intsR xs 4 s13).1 = [v14, v15, v16, v17] := by
    rw [h14.2 k14, h15.2 k15, h16.2 k16, h17.2 k17, h16.1, h15.1, h14.1]; rfl
  have q26 : (intsR xs 5 s21).1 = [v22, v23, v24, v25, v26] := by
    rw [h22.2 k22, h23.2 k23, h24.2 k24, h25.2 k25, h26.2 k26, h25.1, h24.1, h23.1, h22.1]; rfl
  have qc : (cmdR xs s12).1 = ⟨v13, v14, v15, v16, v17, L1⟩ := by
    unfold cmdR
    dsimp only
    rw [← h13.1, e17, ← h18.1, if_neg k18, q17, ← h13.2 k13, ← h18.2 k18]
    rfl
  have qi : (instR xs s4).1 = ⟨v5, v6, v7, v8, v9, v10, v11, b12, ⟨v13, v14, v15, v16, v17, L1⟩, v19, L2⟩ := by
    unfold instR
    dsimp only
    rw [e11, ← h12.1, ec, ← h19.1, ← h20.1, if_neg k20, q11, qc, ← h12.2 k12, ← h19.2 k19, ← h20.2 k20]
    rfl
  unfold mailR
  dsimp only
  rw [e4, ei, ← h21.1, e26, ← h27.1, q4, qi, q26, ← h21.2 k21, ← h27.2 k27, ← h28.2 k28]
  rfl

theorem read_post {w w8 : World} {xs : List Int} {s28 : Option Nat} (M : Mail) {A1 A2 A3 : Option Addr} {d1 d2 d3 B1 B2 B3 : Nat} (hs : Stp (mailR xs (some 0)) M s28)
    (ho : OwnS w8 B1 (.slice A1 M.inst.cmd.data.length d1) M.inst.cmd.data) (hp : OwnR w8 B2 (.slice A2 M.inst.deps.length d2) M.inst.deps) (hq : OwnE w8 B3 (.slice A3 M.entries.length d3) M.entries)
    (hb : Below w.heap.size w w8) (h1 : w.heap.size < B1) (h2 : w.heap.size < B2) (h3 : w.heap.size < B3) (cs : Array Value) (ok : Bool) (hok : ok = decide (s28 = some xs.length)) :
    ReadPost w xs (.returned (.tuple #[.agg #[.int .i64 M.kind, .int .i64 M.mfrom, .int .i64 M.mto, .int .i64 M.shard, .int .i64 M.inst.lead, .int .i64 M.inst.index, .int .i64 M.inst.bn, .int .i64 M.inst.bnode, .int .i64 M.inst.vn, .int .i64 M.inst.vnode, .int .i64 M.inst.status, .bool M.inst.same, .int .i64 M.inst.cmd.op, .int .i64 M.inst.cmd.client, .int .i64 M.inst.cmd.seq, .int .i64 M.inst.cmd.cfrom, .int .i64 M.inst.cmd.cto, .slice A1 M.inst.cmd.data.length d1, .int .i64 M.inst.iseq, .slice A2 M.inst.deps.length d2, .bool M.ok, .int .i64 M.term, .int .i64 M.mindex, .int .i64 M.past, .int .i64 M.commit, .int .i64 M.epoch, .slice A3 M.entries.length d3, .string M.text], .bool ok])) (w8.drew.setRow w.heap.size cs) := by
  obtain ⟨e1, e2⟩ := hs
  have hrw : Below w.heap.size w (w8.drew.setRow w.heap.size cs) := below_row (show Below w.heap.size w w8.drew from ⟨hb.os, hb.tape, hb.output, hb.size, hb.block⟩) (Nat.le_refl _)
  have hcw := chg_setRow w8.drew w.heap.size cs
  have q1 : OwnS (w8.drew.setRow w.heap.size cs) B1 (.slice A1 M.inst.cmd.data.length d1) M.inst.cmd.data := own_g (show World.ownsRow _ _ _ _ _ _ _ from World.ownsRow.drew ho) hcw h1
  have q2 : OwnR (w8.drew.setRow w.heap.size cs) B2 (.slice A2 M.inst.deps.length d2) M.inst.deps := own_gO (orow_move (w1 := w8.drew) hp (fun k hk => rfl)) hcw h2
  have q3 : OwnE (w8.drew.setRow w.heap.size cs) B3 (.slice A3 M.entries.length d3) M.entries := own_gO (orow_move (w1 := w8.drew) hq (fun k hk => rfl)) hcw h3
  refine ⟨M, A1, d1, A2, d2, A3, d3, ?_, fun hf => (e2 (by rw [e1, hf]; simp)), fun w2 hw2 => ?_, hrw⟩
  · rw [hok, e1]
  have q1 : OwnS w2 B1 (.slice A1 M.inst.cmd.data.length d1) M.inst.cmd.data := own_move q1 (fun k hk => hw2 k (by have := own_base q1 k hk; omega))
  have q2 : OwnR w2 B2 (.slice A2 M.inst.deps.length d2) M.inst.deps := orow_move q2 (fun k hk => hw2 k (by have := orow_base q2 k hk; omega))
  have q3 : OwnE w2 B3 (.slice A3 M.entries.length d3) M.entries := orow_move q3 (fun k hk => hw2 k (by have := orow_base q3 k hk; omega))
  obtain ⟨a1, e1x, k1, r1⟩ := q1.readsC
  obtain ⟨a2, e2x, k2, r2⟩ := q2.reads
  obtain ⟨a3, e3x, k3, r3⟩ := q3.reads
  injection k1 with h1a h1b h1c
  injection k2 with h2a h2b h2c
  injection k3 with h3a h3b h3c
  subst h1a h1c h2a h2c h3a h3c
  exact ⟨r1, r2, r3⟩
set_option maxRecDepth 100000 in
set_option maxHeartbeats 8000000 in
theorem read_calls (A : Option Addr) (c : Nat) (xs : List Int) (w : World) (hr : ReadsInt w .u8 A xs.length xs) (hc : xs.length ≤ c) (hb : IsBytes xs) :
    Calls Try.prog 19 #[.slice A xs.length c] w (ReadPost w xs) := by
  have HX := Lib.hid hr
  have HY := Lib.hid hb
  clear hr hb
  have hu34 := Try.underlying34
  have hu31 := Try.underlying31
  have hu28 := Try.underlying28
  have hu23 := Try.underlying23
  have hu25 := Try.underlying25
  go_enter Try.func19, Try.ntmps19
  go_upto_region 1 with fail
  have HZ1 := Lib.hid (blk_new w (.cells #[.int .i64 0, .int .i64 0, .int .i64 0, .int .i64 0, .int .i64 0, .int .i64 0, .int .i64 0, .int .i64 0, .int .i64 0, .int .i64 0, .int .i64 0, .bool false, .int .i64 0, .int .i64 0, .int .i64 0, .int .i64 0, .int .i64 0, .slice none 0 0, .int .i64 0, .slice none 0 0, .bool false, .int .i64 0, .int .i64 0, .int .i64 0, .int .i64 0, .int .i64 0, .slice none 0 0, .string ⟨#[]⟩] 34))
  have HB1 : Hid (Below w.heap.size w (w.alloc (.cells #[.int .i64 0, .int .i64 0, .int .i64 0, .int .i64 0, .int .i64 0, .int .i64 0, .int .i64 0, .int .i64 0, .int .i64 0, .int .i64 0, .int .i64 0, .bool false, .int .i64 0, .int .i64 0, .int .i64 0, .int .i64 0, .int .i64 0, .slice none 0 0, .int .i64 0, .slice none 0 0, .bool false, .int .i64 0, .int .i64 0, .int .i64 0, .int .i64 0, .int .i64 0, .slice none 0 0, .string ⟨#[]⟩] 34))) := Lib.hid ((Below.refl w.heap.size w).alloc (Nat.le_refl _) _)
  generalize w.alloc (.cells #[.int .i64 0, .int .i64 0, .int .i64 0, .int .i64 0, .int .i64 0, .int .i64 0, .int .i64 0, .int .i64 0, .int .i64 0, .int .i64 0, .int .i64 0, .bool false, .int .i64 0, .int .i64 0, .int .i64 0, .int .i64 0, .int .i64 0, .slice none 0 0, .int .i64 0, .slice none 0 0, .bool false, .int .i64 0, .int .i64 0, .int .i64 0, .int .i64 0, .int .i64 0, .slice none 0 0, .string ⟨#[]⟩] 34) = w1 at HZ1 HB1 ⊢
  have hwg : w.heap.size < w1.heap.size := blk_lt HZ1.out
  go_upto_region 2 with fail
  have HR2 : Hid (Rg w (w1.alloc (.cells #[.slice A xs.length c, .bool false] 95)) w1.heap.size xs (some 0)) := Lib.hid ⟨⟨⟨A, c, blk_new w1 _, HX.out, hc⟩, by omega, HB1.out.alloc HB1.out.size _, HY.out⟩, Nat.zero_le _⟩
  have HZ2 := Lib.hid (blk_below HZ1.out ((Below.refl w1.heap.size w1).alloc (Nat.le_refl _) (.cells #[.slice A xs.length c, .bool false] 95)))
  clear HZ1 HB1 HX HY hc
  generalize w1.alloc (.cells #[.slice A xs.length c, .bool false] 95) = w2 at HR2 HZ2 ⊢
  go_wp2_with fail
  ((with_reducible refine (rgint_calls HR2.out).mono ?_); rintro e w3 ⟨v1, s1, rfl, HS1, hr, hc⟩)
  have HR3 := Lib.hid hr
  have HZ3 := Lib.hid (hc.get HZ2.out (show ¬ w.heap.size = w1.heap.size by omega))
  clear hr hc HR2 HZ2
  go_wp2_with fail
  ((with_reducible refine (rgint_calls HR3.out).mono ?_); rintro e w4 ⟨v2, s2, rfl, HS2, hr, hc⟩)
  have HR4 := Lib.hid hr
  have HZ4 := Lib.hid (hc.get HZ3.out (show ¬ w.heap.size = w1.heap.size by omega))
  clear hr hc HR3 HZ3
  go_wp2_with fail
  ((with_reducible refine (rgint_calls HR4.out).mono ?_); rintro e w5 ⟨v3, s3, rfl, HS3, hr, hc⟩)
  have HR5 := Lib.hid hr
  have HZ5 := Lib.hid (hc.get HZ4.out (show ¬ w.heap.size = w1.heap.size by omega))
  clear hr hc HR4 HZ4
  go_wp2_with fail
  ((with_reducible refine (rgint_calls HR5.out).mono ?_); rintro e wM ⟨v4, s4, rfl, HS4, hr, hc⟩)
  have HR6 := Lib.hid hr
  have HZ6 := Lib.hid (hc.get HZ5.out (show ¬ w.heap.size = w1.heap.size by omega))
  clear hr hc HR5 HZ5
  have hgm : w1.heap.size < wM.heap.size := HR6.out.lt.2
  have HMz := Lib.hid (blk_new wM (.cells #[.int .i64 0, .int .i64 0, .int .i64 0, .int .i64 0, .int .i64 0, .int .i64 0, .int .i64 0, .int .i64 0, .int .i64 0, .int .i64 0, .int .i64 0, .bool false, .int .i64 0, .int .i64 0, .int .i64 0, .int .i64 0, .int .i64 0, .slice none 0 0, .int .i64 0, .slice none 0 0, .bool false, .int .i64 0, .int .i64 0, .int .i64 0, .int .i64 0, .int .i64 0, .slice none 0 0, .string ⟨#[]⟩] 34))
  have HMk := Lib.hid (setRow_heap (wM.alloc (.cells #[.int .i64 0, .int .i64 0, .int .i64 0, .int .i64 0, .int .i64 0, .int .i64 0, .int .i64 0, .int .i64 0, .int .i64 0, .int .i64 0, .int .i64 0, .bool false, .int .i64 0, .int .i64 0, .int .i64 0, .int .i64 0, .int .i64 0, .slice none 0 0, .int .i64 0, .slice none 0 0, .bool false, .int .i64 0, .int .i64 0, .int .i64 0, .int .i64 0, .int .i64 0, .slice none 0 0, .string ⟨#[]⟩] 34)) wM.heap.size #[.int .i64 0, .int .i64 0, .int .i64 0, .int .i64 0, .int .i64 0, .int .i64 0, .int .i64 0, .int .i64 0, .int .i64 0, .int .i64 0, .int .i64 0, .bool false, .int .i64 0, .int .i64 0, .int .i64 0, .int .i64 0, .int .i64 0, .slice none 0 0, .int .i64 0, .slice none 0 0, .bool false, .int .i64 0, .int .i64 0, .int .i64 0, .int .i64 0, .int .i64 0, .slice none 0 0, .string ⟨#[]⟩] #[.int .i64 v1, .int .i64 v2, .int .i64 v3, .int .i64 v4, .int .i64 0, .int .i64 0, .int .i64 0, .int .i64 0, .int .i64 0, .int .i64 0, .int .i64 0, .bool false, .int .i64 0, .int .i64 0, .int .i64 0, .int .i64 0, .int .i64 0, .slice none 0 0, .int .i64 0, .slice none 0 0, .bool false, .int .i64 0, .int .i64 0, .int .i64 0, .int .i64 0, .int .i64 0, .slice none 0 0, .string ⟨#[]⟩] 34 (0, 0) HMz.out)
  have HBL : Hid (Below wM.heap.size wM ((wM.alloc (.cells #[.int .i64 0, .int .i64 0, .int .i64 0, .int .i64 0, .int .i64 0, .int .i64 0, .int .i64 0, .int .i64 0, .int .i64 0, .int .i64 0, .int .i64 0, .bool false, .int .i64 0, .int .i64 0, .int .i64 0, .int .i64 0, .int .i64 0, .slice none 0 0, .int .i64 0, .slice none 0 0, .bool false, .int .i64 0, .int .i64 0, .int .i64 0, .int .i64 0, .int .i64 0, .slice none 0 0, .string ⟨#[]⟩] 34)).setRow wM.heap.size #[.int .i64 v1, .int .i64 v2, .int .i64 v3, .int .i64 v4, .int .i64 0, .int .i64 0, .int .i64 0, .int .i64 0, .int .i64 0, .int .i64 0, .int .i64 0, .bool false, .int .i64 0, .int .i64 0, .int .i64 0, .int .i64 0, .int .i64 0, .slice none 0 0, .int .i64 0, .slice none 0 0, .bool false, .int .i64 0, .int .i64 0, .int .i64 0, .int .i64 0, .int .i64 0, .slice none 0 0, .string ⟨#[]⟩])) := Lib.hid (below_row ((Below.refl wM.heap.size wM).alloc (Nat.le_refl _) _) (Nat.le_refl _))
  have HR7 := Lib.hid (HR6.out.below HBL.out)
  have HZ7 := Lib.hid (blk_below HZ6.out HBL.out)
  clear HR6 HZ6 HBL
  go_upto_region 3 with (refine wpList_store_row rfl 34 (.tmp 5) (.tmp 23) rfl wM.heap.size #[.int .i64 v1, .int .i64 v2, .int .i64 v3, .int .i64 v4, .int .i64 0, .int .i64 0, .int .i64 0, .int .i64 0, .int .i64 0, .int .i64 0, .int .i64 0, .bool false, .int .i64 0, .int .i64 0, .int .i64 0, .int .i64 0, .int .i64 0, .slice none 0 0, .int .i64 0, .slice none 0 0, .bool false, .int .i64 0, .int .i64 0, .int .i64 0, .int .i64 0, .int .i64 0, .slice none 0 0, .string ⟨#[]⟩] rfl rfl 34 _ HMz.out inf34b rfl (by simp [Value.oneCell']) ?_)
  clear HMz
  generalize (wM.alloc (.cells #[.int .i64 0, .int .i64 0, .int .i64 0, .int .i64 0, .int .i64 0, .int .i64 0, .int .i64 0, .int .i64 0, .int .i64 0, .int .i64 0, .int .i64 0, .bool false, .int .i64 0, .int .i64 0, .int .i64 0, .int .i64 0, .int .i64 0, .slice none 0 0, .int .i64 0, .slice none 0 0, .bool false, .int .i64 0, .int .i64 0, .int .i64 0, .int .i64 0, .int .i64 0, .slice none 0 0, .string ⟨#[]⟩] 34)).setRow wM.heap.size #[.int .i64 v1, .int .i64 v2, .int .i64 v3, .int .i64 v4, .int .i64 0, .int .i64 0, .int .i64 0, .int .i64 0, .int .i64 0, .int .i64 0, .int .i64 0, .bool false, .int .i64 0, .int .i64 0, .int .i64 0, .int .i64 0, .int .i64 0, .slice none 0 0, .int .i64 0, .slice none 0 0, .bool false, .int .i64 0, .int .i64 0, .int .i64 0, .int .i64 0, .int .i64 0, .slice none 0 0, .string ⟨#[]⟩] = w7 at HMk HR7 HZ7 ⊢
  have HM7 := HMk
  clear HMk
  go_wp2_with fail
  ((with_reducible refine (rgint_calls HR7.out).mono ?_); rintro e w8 ⟨v5, s5, rfl, HS5, hr, hc⟩)
  have HR8 := Lib.hid hr
  have HZ8 := Lib.hid (hc.get HZ7.out (show ¬ w.heap.size = w1.heap.size by omega))
  have HM8 := Lib.hid (hc.get HM7.out (show ¬ wM.heap.size = w1.heap.size by omega))
  clear hr hc HR7 HZ7 HM7
  go_wp2_with fail
  ((with_reducible refine (rgint_calls HR8.out).mono ?_); rintro e w9 ⟨v6, s6, rfl, HS6, hr, hc⟩)
  have HR9 := Lib.hid hr
  have HZ9 := Lib.hid (hc.get HZ8.out (show ¬ w.heap.size = w1.heap.size by omega))
  have HM9 := Lib.hid (hc.get HM8.out (show ¬ wM.heap.size = w1.heap.size by omega))
  clear hr hc HR8 HZ8 HM8
  go_wp2_with fail
  ((with_reducible refine (rgint_calls HR9.out).mono ?_); rintro e w10 ⟨v7, s7, rfl, HS7, hr, hc⟩)
  have HR10 := Lib.hid hr
  have HZ10 := Lib.hid (hc.get HZ9.out (show ¬ w.heap.size = w1.heap.size by omega))
  have HM10 := Lib.hid (hc.get HM9.out (show ¬ wM.heap.size = w1.heap.size by omega))
  clear hr hc HR9 HZ9 HM9
  go_wp2_with fail
  ((with_reducible refine (rgint_calls HR10.out).mono ?_); rintro e w11 ⟨v8, s8, rfl, HS8, hr, hc⟩)
  have HR11 := Lib.hid hr
  have HZ11 := Lib.hid (hc.get HZ10.out (show ¬ w.heap.size = w1.heap.size by omega))
  have HM11 := Lib.hid (hc.get HM10.out (show ¬ wM.heap.size = w1.heap.size by omega))
  clear hr hc HR10 HZ10 HM10
  go_wp2_with fail
  ((with_reducible refine (rgint_calls HR11.out).mono ?_); rintro e w12 ⟨v9, s9, rfl, HS9, hr, hc⟩)
  have HR12 := Lib.hid hr
  have HZ12 := Lib.hid (hc.get HZ11.out (show ¬ w.heap.size = w1.heap.size by omega))
  have HM12 := Lib.hid (hc.get HM11.out (show ¬ wM.heap.size = w1.heap.size by omega))
  clear hr hc HR11 HZ11 HM11
  go_wp2_with fail
  ((with_reducible refine (rgint_calls HR12.out).mono ?_); rintro e w13 ⟨v10, s10, rfl, HS10, hr, hc⟩)
  have HR13 := Lib.hid hr
  have HZ13 := Lib.hid (hc.get HZ12.out (show ¬ w.heap.size = w1.heap.size by omega))
  have HM13 := Lib.hid (hc.get HM12.out (show ¬ wM.heap.size = w1.heap.size by omega))
  clear hr hc HR12 HZ12 HM12
  go_wp2_with fail
  ((with_reducible refine (rgint_calls HR13.out).mono ?_); rintro e w14 ⟨v11, s11, rfl, HS11, hr, hc⟩)
  have HR14 := Lib.hid hr
  have HZ14 := Lib.hid (hc.get HZ13.out (show ¬ w.heap.size = w1.heap.size by omega))
  have HM14 := Lib.hid (hc.get HM13.out (show ¬ wM.heap.size = w1.heap.size by omega))
  clear hr hc HR13 HZ13 HM13
  go_upto_region 4 with (refine wpList_store_mid rfl 31 (.tmp 42) (.tmp 41) rfl wM.heap.size 4 #[.int .i64 v5, .int .i64 v6, .int .i64 v7, .int .i64 v8, .int .i64 v9, .int .i64 v10, .int .i64 v11, .bool false, .int .i64 0, .int .i64 0, .int .i64 0, .int .i64 0, .int .i64 0, .slice none 0 0, .int .i64 0, .slice none 0 0] rfl rfl (there_blk HM14.out 4 16 (by show 20 ≤ 28; omega)) inf31 (by simp [Value.oneCell']) ?_)
  have HM15 : Hid ((w14.setCells wM.heap.size 4 [.int .i64 v5, .int .i64 v6, .int .i64 v7, .int .i64 v8, .int .i64 v9, .int .i64 v10, .int .i64 v11, .bool false, .int .i64 0, .int .i64 0, .int .i64 0, .int .i64 0, .int .i64 0, .slice none 0 0, .int .i64 0, .slice none 0 0]).heap[wM.heap.size]? = some (.cells #[.int .i64 v1, .int .i64 v2, .int .i64 v3, .int .i64 v4, .int .i64 v5, .int .i64 v6, .int .i64 v7, .int .i64 v8, .int .i64 v9, .int .i64 v10, .int .i64 v11, .bool false, .int .i64 0, .int .i64 0, .int .i64 0, .int .i64 0, .int .i64 0, .slice none 0 0, .int .i64 0, .slice none 0 0, .bool false, .int .i64 0, .int .i64 0, .int .i64 0, .int .i64 0, .int .i64 0, .slice none 0 0, .string ⟨#[]⟩] 34 (0, 0))) := Lib.hid (by have := blk_puts [.int .i64 v5, .int .i64 v6, .int .i64 v7, .int .i64 v8, .int .i64 v9, .int .i64 v10, .int .i64 v11, .bool false, .int .i64 0, .int .i64 0, .int .i64 0, .int .i64 0, .int .i64 0, .slice none 0 0, .int .i64 0, .slice none 0 0] 4 HM14.out; rw [fillv_eq _ _ _ (by show 20 ≤ 28; omega)] at this; exact this)
  have HR15 := Lib.hid (HR14.out.move (chg_setCells wM.heap.size [.int .i64 v5, .int .i64 v6, .int .i64 v7, .int .i64 v8, .int .i64 v9, .int .i64 v10, .int .i64 v11, .bool false, .int .i64 0, .int .i64 0, .int .i64 0, .int .i64 0, .int .i64 0, .slice none 0 0, .int .i64 0, .slice none 0 0] 4 w14) (show ¬ w1.heap.size = wM.heap.size by omega) (fun k hk => by have := HR14.out.lt; omega))
  have HZ15 := Lib.hid ((chg_setCells wM.heap.size [.int .i64 v5, .int .i64 v6, .int .i64 v7, .int .i64 v8, .int .i64 v9, .int .i64 v10, .int .i64 v11, .bool false, .int .i64 0, .int .i64 0, .int .i64 0, .int .i64 0, .int .i64 0, .slice none 0 0, .int .i64 0, .slice none 0 0] 4 w14).get HZ14.out (show ¬ w.heap.size = wM.heap.size by omega))
  clear HM14 HR14 HZ14
  generalize w14.setCells wM.heap.size 4 [.int .i64 v5, .int .i64 v6, .int .i64 v7, .int .i64 v8, .int .i64 v9, .int .i64 v10, .int .i64 v11, .bool false, .int .i64 0, .int .i64 0, .int .i64 0, .int .i64 0, .int .i64 0, .slice none 0 0, .int .i64 0, .slice none 0 0] = w15 at HM15 HR15 HZ15 ⊢
  go_wp2_with fail
  ((with_reducible refine (rgbool_calls HR15.out).mono ?_); rintro e w16 ⟨b12, s12, rfl, HS12, hr, hc⟩)
  have HR16 := Lib.hid hr
  have HZ16 := Lib.hid (hc.get HZ15.out (show ¬ w.heap.size = w1.heap.size by omega))
  have HM16 := Lib.hid (hc.get HM15.out (show ¬ wM.heap.size = w1.heap.size by omega))
  clear hr hc HR15 HZ15 HM15
  have hcl : w16.cell? ⟨wM.heap.size, 11, none⟩ = some (.bool false) := by rw [blk_cell HM16.out]; rfl
  have hfz : w16.frozen? ⟨wM.heap.size, 11, none⟩ = false := blk_frozen HM16.out 11
  go_upto_region 5 with fail
  have hch : Chg (fun k => k = wM.heap.size) w16 (w16.setCell ⟨wM.heap.size, 11, none⟩ (.bool b12)) := (Chg.refl (fun k => k = wM.heap.size) w16).setCell (p := ⟨wM.heap.size, 11, none⟩) (.inl rfl) _
  have HM17 : Hid ((w16.setCell ⟨wM.heap.size, 11, none⟩ (.bool b12)).heap[wM.heap.size]? = some (.cells #[.int .i64 v1, .int .i64 v2, .int .i64 v3, .int .i64 v4, .int .i64 v5, .int .i64 v6, .int .i64 v7, .int .i64 v8, .int .i64 v9, .int .i64 v10, .int .i64 v11, .bool b12, .int .i64 0, .int .i64 0, .int .i64 0, .int .i64 0, .int .i64 0, .slice none 0 0, .int .i64 0, .slice none 0 0, .bool false, .int .i64 0, .int .i64 0, .int .i64 0, .int .i64 0, .int .i64 0, .slice none 0 0, .string ⟨#[]⟩] 34 (0, 0))) := Lib.hid (blk_set HM16.out 11 (.bool b12))
  have HR17 := Lib.hid (HR16.out.move hch (show ¬ w1.heap.size = wM.heap.size by omega) (fun k hk => by have := HR16.out.lt; omega))
  have HZ17 := Lib.hid (hch.get HZ16.out (show ¬ w.heap.size = wM.heap.size by omega))
  clear hcl hfz hch HM16 HR16 HZ16
  generalize w16.setCell ⟨wM.heap.size, 11, none⟩ (.bool b12) = w17 at HM17 HR17 HZ17 ⊢
  go_wp2_with fail
  ((with_reducible refine (rgbyte_calls HR17.out).mono ?_); rintro e wC ⟨v13, s13, rfl, hv13, HS13, hr, hc⟩)
  have HR18 := Lib.hid hr
  have HZ18 := Lib.hid (hc.get HZ17.out (show ¬ w.heap.size = w1.heap.size by omega))
  have HM18 := Lib.hid (hc.get HM17.out (show ¬ wM.heap.size = w1.heap.size by omega))
  clear hr hc HR17 HZ17 HM17
  have hw13 : IntKind.i64.wrap v13 = v13 := IntWalk.i64_in _ (by omega)
  have hmc : wM.heap.size < wC.heap.size := blk_lt HM18.out
  have HCz := Lib.hid (blk_new wC (.cells #[.int .i64 0, .int .i64 0, .int .i64 0, .int .i64 0, .int .i64 0, .slice none 0 0] 28))
  have HCk := Lib.hid (setRow_heap (wC.alloc (.cells #[.int .i64 0, .int .i64 0, .int .i64 0, .int .i64 0, .int .i64 0, .slice none 0 0] 28)) wC.heap.size #[.int .i64 0, .int .i64 0, .int .i64 0, .int .i64 0, .int .i64 0, .slice none 0 0] #[.int .i64 v13, .int .i64 0, .int .i64 0, .int .i64 0, .int .i64 0, .slice none 0 0] 28 (0, 0) HCz.out)
  have HBL : Hid (Below wC.heap.size wC ((wC.alloc (.cells #[.int .i64 0, .int .i64 0, .int .i64 0, .int .i64 0, .int .i64 0, .slice none 0 0] 28)).setRow wC.heap.size #[.int .i64 v13, .int .i64 0, .int .i64 0, .int .i64 0, .int .i64 0, .slice none 0 0])) := Lib.hid (below_row ((Below.refl wC.heap.size wC).alloc (Nat.le_refl _) _) (Nat.le_refl _))
  have HU1 := Lib.hid (Us.mk (HR18.out.below HBL.out) (blk_below HZ18.out HBL.out) (blk_below HM18.out HBL.out) HCk.out ⟨hwg, hgm, hmc, blk_lt HCk.out, Nat.le_refl _⟩)
  clear HR18 HZ18 HM18 HCk HBL
  go_upto_region 6 with (refine wpList_store_row rfl 28 (.tmp 6) (.tmp 50) rfl wC.heap.size #[.int .i64 v13, .int .i64 0, .int .i64 0, .int .i64 0, .int .i64 0, .slice none 0 0] rfl rfl 28 _ HCz.out inf28 rfl (by simp [Value.oneCell']) ?_)
  clear HCz hv13 hw13
  generalize (wC.alloc (.cells #[.int .i64 0, .int .i64 0, .int .i64 0, .int .i64 0, .int .i64 0, .slice none 0 0] 28)).setRow wC.heap.size #[.int .i64 v13, .int .i64 0, .int .i64 0, .int .i64 0, .int .i64 0, .slice none 0 0] = w20 at HU1 ⊢
  have HU2 := Lib.hid HU1.out.up
  have hB1 : wC.heap.size < w20.heap.size := HU1.out.ord.2.2.2.1
  clear HU1
  go_wp2_with fail
  ((with_reducible refine (rgint_calls HU2.out.rd).mono ?_); rintro e w21 ⟨v14, s14, rfl, HS14, hr, hc⟩)
  have HU3 := Lib.hid (HU2.out.read hr hc)
  clear hr hc HU2
  have hcl : w21.cell? ⟨wC.heap.size, 1, none⟩ = some (Value.int .i64 0) := HU3.out.cc_ 1
  have hfz := HU3.out.fc_ 1
  go_upto_region 7 with fail
  have HU4 : Hid (Us w (w21.setCell ⟨wC.heap.size, 1, none⟩ (.int .i64 v14)) w1.heap.size xs s14 wM.heap.size #[.int .i64 v1, .int .i64 v2, .int .i64 v3, .int .i64 v4, .int .i64 v5, .int .i64 v6, .int .i64 v7, .int .i64 v8, .int .i64 v9, .int .i64 v10, .int .i64 v11, .bool b12, .int .i64 0, .int .i64 0, .int .i64 0, .int .i64 0, .int .i64 0, .slice none 0 0, .int .i64 0, .slice none 0 0, .bool false, .int .i64 0, .int .i64 0, .int .i64 0, .int .i64 0, .int .i64 0, .slice none 0 0, .string ⟨#[]⟩] wC.heap.size #[.int .i64 v13, .int .i64 v14, .int .i64 0, .int .i64 0, .int .i64 0, .slice none 0 0] w20.heap.size) := Lib.hid (HU3.out.putc 1 (.int .i64 v14))
  clear hcl hfz HU3
  generalize w21.setCell ⟨wC.heap.size, 1, none⟩ (.int .i64 v14) = w22 at HU4 ⊢
  go_wp2_with fail
  ((with_reducible refine (rgint_calls HU4.out.rd).mono ?_); rintro e w23 ⟨v15, s15, rfl, HS15, hr, hc⟩)
  have HU5 := Lib.hid (HU4.out.read hr hc)
  clear hr hc HU4
  have hcl : w23.cell? ⟨wC.heap.size, 2, none⟩ = some (Value.int .i64 0) := HU5.out.cc_ 2
  have hfz := HU5.out.fc_ 2
  go_upto_region 8 with fail
  have HU6 : Hid (Us w (w23.setCell ⟨wC.heap.size, 2, none⟩ (.int .i64 v15)) w1.heap.size xs s15 wM.heap.size #[.int .i64 v1, .int .i64 v2, .int .i64 v3, .int .i64 v4, .int .i64 v5, .int .i64 v6, .int .i64 v7, .int .i64 v8, .int .i64 v9, .int .i64 v10, .int .i64 v11, .bool b12, .int .i64 0, .int .i64 0, .int .i64 0, .int .i64 0, .int .i64 0, .slice none 0 0, .int .i64 0, .slice none 0 0, .bool false, .int .i64 0, .int .i64 0, .int .i64 0, .int .i64 0, .int .i64 0, .slice none 0 0, .string ⟨#[]⟩] wC.heap.size #[.int .i64 v13, .int .i64 v14, .int .i64 v15, .int .i64 0, .int .i64 0, .slice none 0 0] w20.heap.size) := Lib.hid (HU5.out.putc 2 (.int .i64 v15))
  clear hcl hfz HU5
  generalize w23.setCell ⟨wC.heap.size, 2, none⟩ (.int .i64 v15) = w24 at HU6 ⊢
  go_wp2_with fail
  ((with_reducible refine (rgint_calls HU6.out.rd).mono ?_); rintro e w25 ⟨v16, s16, rfl, HS16, hr, hc⟩)
  have HU7 := Lib.hid (HU6.out.read hr hc)
  clear hr hc HU6
  have hcl : w25.cell? ⟨wC.heap.size, 3, none⟩ = some (Value.int .i64 0) := HU7.out.cc_ 3
  have hfz := HU7.out.fc_ 3
  go_upto_region 9 with fail
  have HU8 : Hid (Us w (w25.setCell ⟨wC.heap.size, 3, none⟩ (.int .i64 v16)) w1.heap.size xs s16 wM.heap.size #[.int .i64 v1, .int .i64 v2, .int .i64 v3, .int .i64 v4, .int .i64 v5, .int .i64 v6, .int .i64 v7, .int .i64 v8, .int .i64 v9, .int .i64 v10, .int .i64 v11, .bool b12, .int .i64 0, .int .i64 0, .int .i64 0, .int .i64 0, .int .i64 0, .slice none 0 0, .int .i64 0, .slice none 0 0, .bool false, .int .i64 0, .int .i64 0, .int .i64 0, .int .i64 0, .int .i64 0, .slice none 0 0, .string ⟨#[]⟩] wC.heap.size #[.int .i64 v13, .int .i64 v14, .int .i64 v15, .int .i64 v16, .int .i64 0, .slice none 0 0] w20.heap.size) := Lib.hid (HU7.out.putc 3 (.int .i64 v16))
  clear hcl hfz HU7
  generalize w25.setCell ⟨wC.heap.size, 3, none⟩ (.int .i64 v16) = w26 at HU8 ⊢
  go_wp2_with fail
  ((with_reducible refine (rgint_calls HU8.out.rd).mono ?_); rintro e w27 ⟨v17, s17, rfl, HS17, hr, hc⟩)
  have HU9 := Lib.hid (HU8.out.read hr hc)
  clear hr hc HU8
  have hcl : w27.cell? ⟨wC.heap.size, 4, none⟩ = some (Value.int .i64 0) := HU9.out.cc_ 4
  have hfz := HU9.out.fc_ 4
  go_upto_region 10 with fail
  have HU10 : Hid (Us w (w27.setCell ⟨wC.heap.size, 4, none⟩ (.int .i64 v17)) w1.heap.size xs s17 wM.heap.size #[.int .i64 v1, .int .i64 v2, .int .i64 v3, .int .i64 v4, .int .i64 v5, .int .i64 v6, .int .i64 v7, .int .i64 v8, .int .i64 v9, .int .i64 v10, .int .i64 v11, .bool b12, .int .i64 0, .int .i64 0, .int .i64 0, .int .i64 0, .int .i64 0, .slice none 0 0, .int .i64 0, .slice none 0 0, .bool false, .int .i64 0, .int .i64 0, .int .i64 0, .int .i64 0, .int .i64 0, .slice none 0 0, .string ⟨#[]⟩] wC.heap.size #[.int .i64 v13, .int .i64 v14, .int .i64 v15, .int .i64 v16, .int .i64 v17, .slice none 0 0] w20.heap.size) := Lib.hid (HU9.out.putc 4 (.int .i64 v17))
  clear hcl hfz HU9
  generalize w27.setCell ⟨wC.heap.size, 4, none⟩ (.int .i64 v17) = w28 at HU10 ⊢
  go_wp2_with fail
  ((with_reducible refine (rgcount_calls HU10.out.rd).mono ?_); rintro e wc1 ⟨n1, u1, rfl, hn1, HN1, hr, hc⟩)
  have HU11 := Lib.hid (HU10.out.read hr hc)
  clear hr hc HU10
  go_wp2_with fail
  go_loopw [7] (fun vn wr => ∃ (m : Nat) (l : List ByteArray) (u : Option Nat) (A1 : Option Addr) (d : Nat), vn = .int .i64 m ∧ l.length + m ≤ 4096 ∧ Hid (Lst (textS xs) (loopR (textS xs) n1 u1) l m u) ∧ Hid (Us w wr w1.heap.size xs u wM.heap.size #[.int .i64 v1, .int .i64 v2, .int .i64 v3, .int .i64 v4, .int .i64 v5, .int .i64 v6, .int .i64 v7, .int .i64 v8, .int .i64 v9, .int .i64 v10, .int .i64 v11, .bool b12, .int .i64 0, .int .i64 0, .int .i64 0, .int .i64 0, .int .i64 0, .slice none 0 0, .int .i64 0, .slice none 0 0, .bool false, .int .i64 0, .int .i64 0, .int .i64 0, .int .i64 0, .int .i64 0, .slice none 0 0, .string ⟨#[]⟩] wC.heap.size #[.int .i64 v13, .int .i64 v14, .int .i64 v15, .int .i64 v16, .int .i64 v17, .slice A1 l.length d] w20.heap.size) ∧ Hid (OwnS wr w20.heap.size (.slice A1 l.length d) l)) (fun vn _ => (intOf vn).toNat)
  case atStart => exact ⟨n1, [], u1, none, 0, rfl, by simp; omega, Lib.hid (Lst.start _ _ _), HU11, Lib.hid (own_nil _ _ _ _)⟩
  case round =>
  obtain ⟨m, l, u, A1, d, rfl, hl, HL, HU, HO⟩ := hrel
  have hbad := HU.out.rd.bad
  go_upto_region 11 with fail
  go_cut [73] from 65 to 82 (fun v wc => v = .bool (decide (0 < m ∧ u ≠ none)) ∧ wc = wr)
  case first =>
    by_cases hm : (0 : Int) < (m : Int)
    · cases u with
      | none =>
        rw [Option.isNone_none] at hbad
        go_wp2_with fail
        go_meet
        exact ⟨by simp, rfl⟩
      | some a =>
        rw [Option.isNone_some] at hbad
        go_wp2_with fail
        go_meet
        exact ⟨by rw [decide_eq_true ⟨by omega, by simp⟩], rfl⟩
    · go_wp2_with fail
      go_meet
      exact ⟨by rw [decide_eq_false (fun h => by have := h.1; omega)], rfl⟩
  case rest =>
  obtain ⟨rfl, rfl⟩ := hcut
  clear hbad
  by_cases hb : 0 < m ∧ u ≠ none
  · have hbd : decide (0 < m ∧ u ≠ none) = true := decide_eq_true hb
    obtain ⟨hm, hu⟩ := hb
    obtain ⟨a, rfl⟩ : ∃ a, u = some a := by cases u with
      | none => exact absurd rfl hu
      | some a => exact ⟨a, rfl⟩
    rw [hbd]
    clear hbd hu
    go_wp2_with fail
    have hcl : wc.cell? ⟨wC.heap.size, 5, none⟩ = some (.slice A1 l.length d) := HU.out.cc_ 5
    have hcd : wc.drew.cell? ⟨wC.heap.size, 5, none⟩ = some (.slice A1 l.length d) := hcl
    have HUd := Lib.hid HU.out.drew
    have HOd : Hid (OwnS wc.drew w20.heap.size (.slice A1 l.length d) l) := Lib.hid (show World.ownsRow _ _ _ _ _ _ _ from HO.out.drew)
    clear HU HO
    go_region_law (first
      | (go_simp; go_at_call 52; refine (rgtext_calls HUd.out.rd).mono ?_; rintro e w5b ⟨z, s2, rfl, HS2, hr, hc⟩; have HU5 := Lib.hid (HUd.out.read hr hc); have hc5 : w5b.cell? ⟨wC.heap.size, 5, none⟩ = some (.slice A1 l.length d) := HU5.out.cc_ 5; have hc5a : ∀ o, (w5b.alloc o).cell? ⟨wC.heap.size, 5, none⟩ = some (.slice A1 l.length d) := (fun o => (((Below.refl w5b.heap.size w5b).alloc (Nat.le_refl _) o).cell (p := ⟨wC.heap.size, 5, none⟩) (blk_lt HU5.out.blc)).trans hc5); have HO5 : Hid (OwnS w5b w20.heap.size (.slice A1 l.length d) l) := Lib.hid (own_g HOd.out hc (by omega)); clear hr hc)
      | ((refine step_append_cells (w0 := w5b) w20.heap.size (by rfl) (.tmp 77) (.tmp 80) 26 9 (.string ⟨#[]⟩) 1 16 (by rfl) Try.underlying26 info9 rfl (by decide) (by decide) (.slice A1 l.length d) l.length (encs Value.string l) [.string z] (by rfl) (by rfl) rfl (by simp [Value.oneCell']) HO5.out (Below.refl _ _) HU5.out.ord.2.2.2.2 (by omega) ?_); intro v1 w6b hown hB hg hat; have HO6 : Hid (OwnS w6b w20.heap.size v1 (l ++ [z])) := Lib.hid (by have := hown; unfold OwnS; simpa [encs] using this); have HU6 := Lib.hid (HU5.out.far (Chg.of_grown hg (fun k hk => own_base HO5.out k hk))); clear hown hB hg hat; obtain ⟨A2, d2, rfl⟩ := own_slice HO6.out; have hc6 : w6b.cell? ⟨wC.heap.size, 5, none⟩ = some (.slice A1 l.length d) := HU6.out.cc_ 5; have hf6 := HU6.out.fc_ 5))
    all_goals
      go_wp2_with fail
      go_roundw
      case measure => simp [intOf]; omega
      case rel =>
        obtain ⟨j, rfl⟩ : ∃ j, m = j + 1 := ⟨m - 1, by omega⟩
        exact ⟨j, l ++ [z], s2, A2, d2, by go_num, by simp; omega, Lib.hid (HL.out.step HS2.out), Lib.hid (by rw [List.length_append]; exact HU6.out.putc 5 _), Lib.hid (own_g HO6.out ((Chg.refl (fun k => k = wC.heap.size) w6b).setCell (p := ⟨wC.heap.size, 5, none⟩) (.inl rfl) _) (by omega))⟩
  have hbd : decide (0 < m ∧ u ≠ none) = false := decide_eq_false hb
  rw [hbd]
  have HS18 := Lib.hid (stp_get HN1.out (HL.out.stop (by
    by_cases h0 : m = 0
    · exact .inl h0
    · exact .inr (by cases u with
        | none => rfl
        | some a => exact absurd ⟨by omega, by simp⟩ hb))))
  clear hbd hb HL HN1 hl hn1
  obtain ⟨L1, hL1⟩ : ∃ L1, L1 = l := ⟨_, rfl⟩
  obtain ⟨d1, hd1⟩ : ∃ d1, d1 = d := ⟨_, rfl⟩
  obtain ⟨s18, hs18⟩ : ∃ s18, s18 = u := ⟨_, rfl⟩
  rw [← hL1, ← hd1, ← hs18] at HU
  rw [← hL1, ← hd1] at HO
  rw [← hL1, ← hs18] at HS18
  have HU30 := HU
  have HO30 := HO
  clear HU HO hL1 hd1 hs18
  generalize wc = w30 at HU30 HO30 ⊢
  go_upto_region 14 with fail
  go_upto_region 15 with (first | (refine wpList_load_row rfl 28 (.tmp 6) rfl wC.heap.size rfl 28 #[.int .i64 v13, .int .i64 v14, .int .i64 v15, .int .i64 v16, .int .i64 v17, .slice A1 L1.length d1] (0, 0) _ HU30.out.blc Try.underlying28 rfl inf28 ?_) | (refine wpList_store_mid rfl 28 (.tmp 85) (.tmp 83) rfl wM.heap.size 12 #[.int .i64 v13, .int .i64 v14, .int .i64 v15, .int .i64 v16, .int .i64 v17, .slice A1 L1.length d1] rfl rfl (there_blk HU30.out.blk 12 6 (by show 18 ≤ 28; omega)) inf28 (by simp [Value.oneCell']) ?_))
  have HU31 : Hid (Us w (w30.setCells wM.heap.size 12 [.int .i64 v13, .int .i64 v14, .int .i64 v15, .int .i64 v16, .int .i64 v17, .slice A1 L1.length d1]) w1.heap.size xs s18 wM.heap.size #[.int .i64 v1, .int .i64 v2, .int .i64 v3, .int .i64 v4, .int .i64 v5, .int .i64 v6, .int .i64 v7, .int .i64 v8, .int .i64 v9, .int .i64 v10, .int .i64 v11, .bool b12, .int .i64 v13, .int .i64 v14, .int .i64 v15, .int .i64 v16, .int .i64 v17, .slice A1 L1.length d1, .int .i64 0, .slice none 0 0, .bool false, .int .i64 0, .int .i64 0, .int .i64 0, .int .i64 0, .int .i64 0, .slice none 0 0, .string ⟨#[]⟩] wC.heap.size #[.int .i64 v13, .int .i64 v14, .int .i64 v15, .int .i64 v16, .int .i64 v17, .slice A1 L1.length d1] w20.heap.size) := Lib.hid (by have := HU30.out.putsm 12 [.int .i64 v13, .int .i64 v14, .int .i64 v15, .int .i64 v16, .int .i64 v17, .slice A1 L1.length d1]; rw [fillv_eq _ _ _ (by show 18 ≤ 28; omega)] at this; exact this)
  have HO31 : Hid (OwnS (w30.setCells wM.heap.size 12 [.int .i64 v13, .int .i64 v14, .int .i64 v15, .int .i64 v16, .int .i64 v17, .slice A1 L1.length d1]) w20.heap.size (.slice A1 L1.length d1) L1) := Lib.hid (own_g HO30.out (chg_setCells wM.heap.size [.int .i64 v13, .int .i64 v14, .int .i64 v15, .int .i64 v16, .int .i64 v17, .slice A1 L1.length d1] 12 w30) (by omega))
  clear HU30 HO30
  generalize w30.setCells wM.heap.size 12 [.int .i64 v13, .int .i64 v14, .int .i64 v15, .int .i64 v16, .int .i64 v17, .slice A1 L1.length d1] = w31 at HU31 HO31 ⊢
  go_wp2_with fail
  ((with_reducible refine (rgint_calls HU31.out.rd).mono ?_); rintro e w32 ⟨v19, s19, rfl, HS19, hr, hc⟩)
  have HU32 := Lib.hid (HU31.out.read hr hc)
  have HO32 := Lib.hid (show OwnS w32 w20.heap.size (.slice A1 L1.length d1) L1 from own_g HO31.out hc (by omega))
  clear hr hc HU31 HO31
  have hcl : w32.cell? ⟨wM.heap.size, 18, none⟩ = some (Value.int .i64 0) := HU32.out.cm_ 18
  have hfz := HU32.out.fm_ 18
  go_upto_region 16 with fail
  have HU33 : Hid (Us w (w32.setCell ⟨wM.heap.size, 18, none⟩ (.int .i64 v19)) w1.heap.size xs s19 wM.heap.size #[.int .i64 v1, .int .i64 v2, .int .i64 v3, .int .i64 v4, .int .i64 v5, .int .i64 v6, .int .i64 v7, .int .i64 v8, .int .i64 v9, .int .i64 v10, .int .i64 v11, .bool b12, .int .i64 v13, .int .i64 v14, .int .i64 v15, .int .i64 v16, .int .i64 v17, .slice A1 L1.length d1, .int .i64 v19, .slice none 0 0, .bool false, .int .i64 0, .int .i64 0, .int .i64 0, .int .i64 0, .int .i64 0, .slice none 0 0, .string ⟨#[]⟩] wC.heap.size #[.int .i64 v13, .int .i64 v14, .int .i64 v15, .int .i64 v16, .int .i64 v17, .slice A1 L1.length d1] w20.heap.size) := Lib.hid (HU32.out.putm 18 (.int .i64 v19))
  have HO33 := Lib.hid (show OwnS (w32.setCell ⟨wM.heap.size, 18, none⟩ (.int .i64 v19)) w20.heap.size (.slice A1 L1.length d1) L1 from own_g HO32.out ((Chg.refl (fun k => k = wM.heap.size) w32).setCell (p := ⟨wM.heap.size, 18, none⟩) (.inl rfl) _) (by omega))
  clear hcl hfz HU32 HO32
  generalize w32.setCell ⟨wM.heap.size, 18, none⟩ (.int .i64 v19) = w33 at HU33 HO33 ⊢
  go_wp2_with fail
  ((with_reducible refine (rgcount_calls HU33.out.rd).mono ?_); rintro e wc2 ⟨n2, u2, rfl, hn2, HN2, hr, hc⟩)
  have HU34 := Lib.hid (HU33.out.read hr hc).up
  have HO34 : Hid (OwnS wc2 w20.heap.size (.slice A1 L1.length d1) L1) := Lib.hid (own_g HO33.out hc (by omega))
  have HSB2 : Hid (∀ k, (Value.slice A1 L1.length d1).ownBlock = some k → k < wc2.heap.size) := Lib.hid (own_lt HO34.out)
  have hB2 : wC.heap.size < wc2.heap.size ∧ w20.heap.size ≤ wc2.heap.size := ⟨HU34.out.ord.2.2.2.1, Nat.le_trans HU33.out.ord.2.2.2.2 hc.size⟩
  clear hr hc HU33 HO33
  go_wp2_with fail
  go_loopw [8] (fun vn wr => ∃ (m : Nat) (l : List S23) (u : Option Nat) (A2 : Option Addr) (d : Nat), vn = .int .i64 m ∧ l.length + m ≤ 4096 ∧ Hid (Lst (refR xs) (loopR (refR xs) n2 u2) l m u) ∧ Hid (Us w wr w1.heap.size xs u wM.heap.size #[.int .i64 v1, .int .i64 v2, .int .i64 v3, .int .i64 v4, .int .i64 v5, .int .i64 v6, .int .i64 v7, .int .i64 v8, .int .i64 v9, .int .i64 v10, .int .i64 v11, .bool b12, .int .i64 v13, .int .i64 v14, .int .i64 v15, .int .i64 v16, .int .i64 v17, .slice A1 L1.length d1, .int .i64 v19, .slice A2 l.length d, .bool false, .int .i64 0, .int .i64 0, .int .i64 0, .int .i64 0, .int .i64 0, .slice none 0 0, .string ⟨#[]⟩] wC.heap.size #[.int .i64 v13, .int .i64 v14, .int .i64 v15, .int .i64 v16, .int .i64 v17, .slice A1 L1.length d1] wc2.heap.size) ∧ Hid (OwnS wr w20.heap.size (.slice A1 L1.length d1) L1) ∧ Hid (OwnR wr wc2.heap.size (.slice A2 l.length d) l)) (fun vn _ => (intOf vn).toNat)
  case atStart => exact ⟨n2, [], u2, none, 0, rfl, by simp; omega, Lib.hid (Lst.start _ _ _), HU34, HO34, Lib.hid (OwnRow.none_ _ _ _ _ _)⟩
  case round =>
  obtain ⟨m, l, u, A2, d, rfl, hl, HL, HU, HO, HR⟩ := hrel
  have hbad := HU.out.rd.bad
  go_upto_region 17 with fail
  go_cut [100] from 92 to 115 (fun v wc => v = .bool (decide (0 < m ∧ u ≠ none)) ∧ wc = wr)
  case first =>
    by_cases hm : (0 : Int) < (m : Int)
    · cases u with
      | none =>
        rw [Option.isNone_none] at hbad
        go_wp2_with fail
        go_meet
        exact ⟨by simp, rfl⟩
      | some a =>
        rw [Option.isNone_some] at hbad
        go_wp2_with fail
        go_meet
        exact ⟨by rw [decide_eq_true ⟨by omega, by simp⟩], rfl⟩
    · go_wp2_with fail
      go_meet
      exact ⟨by rw [decide_eq_false (fun h => by have := h.1; omega)], rfl⟩
  case rest =>
  obtain ⟨rfl, rfl⟩ := hcut
  clear hbad
  by_cases hb : 0 < m ∧ u ≠ none
  · have hbd : decide (0 < m ∧ u ≠ none) = true := decide_eq_true hb
    obtain ⟨hm, hu⟩ := hb
    obtain ⟨a, rfl⟩ : ∃ a, u = some a := by cases u with
      | none => exact absurd rfl hu
      | some a => exact ⟨a, rfl⟩
    rw [hbd]
    clear hbd hu
    go_wp2_with fail
    ((with_reducible refine (rgint_calls HU.out.rd).mono ?_); rintro e w4b ⟨z1, t1, rfl, HT1, hr, hc⟩)
    have HU4 := Lib.hid (HU.out.read hr hc)
    have HO4 : Hid (OwnS w4b w20.heap.size (.slice A1 L1.length d1) L1) := Lib.hid (own_g HO.out hc (by omega))
    have HR4 : Hid (OwnR w4b wc2.heap.size (.slice A2 l.length d) l) := Lib.hid (own_gO HR.out hc (by omega))
    clear hr hc HU HO HR
    go_upto_region 20 with fail
    have hcl : w4b.cell? ⟨wM.heap.size, 19, none⟩ = some (.slice A2 l.length d) := HU4.out.cm_ 19
    have hcd : w4b.drew.cell? ⟨wM.heap.size, 19, none⟩ = some (.slice A2 l.length d) := hcl
    have HUd := Lib.hid HU4.out.drew
    have HOd : Hid (OwnS w4b.drew w20.heap.size (.slice A1 L1.length d1) L1) := Lib.hid (show World.ownsRow _ _ _ _ _ _ _ from HO4.out.drew)
    have HRd : Hid (OwnR w4b.drew wc2.heap.size (.slice A2 l.length d) l) := Lib.hid (orow_move HR4.out (fun k hk => rfl))
    clear HU4 HO4 HR4
    go_region_law (first
      | (go_simp; go_at_call 48; refine (rgint_calls HUd.out.rd).mono ?_; rintro e w5b ⟨z2, t2, rfl, HT2, hr, hc⟩; have HU5 := Lib.hid (HUd.out.read hr hc); have hc5 : w5b.cell? ⟨wM.heap.size, 19, none⟩ = some (.slice A2 l.length d) := HU5.out.cm_ 19; have hc5a : ∀ o, (w5b.alloc o).cell? ⟨wM.heap.size, 19, none⟩ = some (.slice A2 l.length d) := (fun o => (((Below.refl w5b.heap.size w5b).alloc (Nat.le_refl _) o).cell (p := ⟨wM.heap.size, 19, none⟩) (blk_lt HU5.out.blk)).trans hc5); have HO5 : Hid (OwnS w5b w20.heap.size (.slice A1 L1.length d1) L1) := Lib.hid (own_g HOd.out hc (by omega)); have HR5 : Hid (OwnR w5b wc2.heap.size (.slice A2 l.length d) l) := Lib.hid (own_gO HRd.out hc (by omega)); clear hr hc)
      | ((refine OwnRow.append_step (w0 := w5b) wc2.heap.size (by rfl) (.tmp 107) (.tmp 112) 29 23 (.agg #[.int .i64 0, .int .i64 0]) 2 16 (by rfl) Try.underlying29 zinfo23 rfl (by decide) (by decide) (.slice A2 l.length d) l ⟨z1, z2⟩ [.int .i64 z1, .int .i64 z2] (by rfl) (by rfl) rfl rfl (by simp [Value.oneCell']) HR5.out (Below.refl _ _) HU5.out.ord.2.2.2.2 (by omega) ?_); intro v1 w6b hown hB hg hat; have HR6 : Hid (OwnR w6b wc2.heap.size v1 (l ++ [⟨z1, z2⟩])) := Lib.hid hown; have hcg : Chg (fun k => wc2.heap.size ≤ k) w5b w6b := Chg.of_grown hg (fun k hk => orow_base HR5.out k hk); have HU6 := Lib.hid (HU5.out.far hcg); have HO6 : Hid (OwnS w6b w20.heap.size (.slice A1 L1.length d1) L1) := Lib.hid (own_f HO5.out hcg HSB2.out); clear hown hB hg hat hcg; obtain ⟨A3, d3, rfl, _⟩ := OwnRow.slice_ HR6.out; have hc6 : w6b.cell? ⟨wM.heap.size, 19, none⟩ = some (.slice A2 l.length d) := HU6.out.cm_ 19; have hf6 := HU6.out.fm_ 19))
    all_goals
      go_wp2_with fail
      go_roundw
      case measure => simp [intOf]; omega
      case rel =>
        obtain ⟨j, rfl⟩ : ∃ j, m = j + 1 := ⟨m - 1, by omega⟩
        have hcc : Chg (fun k => k = wM.heap.size) w6b (w6b.setCell ⟨wM.heap.size, 19, none⟩ (.slice A3 (l.length + 1) d3)) := (Chg.refl (fun k => k = wM.heap.size) w6b).setCell (p := ⟨wM.heap.size, 19, none⟩) (.inl rfl) _
        exact ⟨j, l ++ [(⟨z1, z2⟩ : S23)], t2, A3, d3, by go_num, by simp; omega, Lib.hid (HL.out.step (stp_ref HT1.out HT2.out)), Lib.hid (by rw [List.length_append]; exact HU6.out.putm 19 _), Lib.hid (own_g HO6.out hcc (by omega)), Lib.hid (own_gO HR6.out hcc (by omega))⟩
  have hbd : decide (0 < m ∧ u ≠ none) = false := decide_eq_false hb
  rw [hbd]
  have HS20 := Lib.hid (stp_get HN2.out (HL.out.stop (by
    by_cases h0 : m = 0
    · exact .inl h0
    · exact .inr (by cases u with
        | none => rfl
        | some a => exact absurd ⟨by omega, by simp⟩ hb))))
  clear hbd hb HL HN2 hl
  obtain ⟨L2, hL2⟩ : ∃ L2, L2 = l := ⟨_, rfl⟩
  obtain ⟨d2, hd2⟩ : ∃ d2, d2 = d := ⟨_, rfl⟩
  obtain ⟨s20, hs20⟩ : ∃ s20, s20 = u := ⟨_, rfl⟩
  rw [← hL2, ← hd2, ← hs20] at HU
  rw [← hL2, ← hd2] at HR
  rw [← hL2, ← hs20] at HS20
  have HU50 := HU
  have HO50 := HO
  have HP50 := HR
  clear HU HO HR hL2 hd2 hs20 hn2
  generalize wc = w50 at HU50 HO50 HP50 ⊢
  go_wp2_with fail
  ((with_reducible refine (rgbool_calls HU50.out.rd).mono ?_); rintro e w51 ⟨b21, s21, rfl, HS21, hr, hc⟩)
  have HU51 := Lib.hid (HU50.out.read hr hc)
  have HO51 := Lib.hid (show OwnS w51 w20.heap.size (.slice A1 L1.length d1) L1 from own_g HO50.out hc (by omega))
  have HP51 := Lib.hid (show OwnR w51 wc2.heap.size (.slice A2 L2.length d2) L2 from own_gO HP50.out hc (by omega))
  clear hr hc HU50 HO50 HP50
  have hcl : w51.cell? ⟨wM.heap.size, 20, none⟩ = some (Value.bool false) := HU51.out.cm_ 20
  have hfz := HU51.out.fm_ 20
  go_upto_region 22 with fail
  have HU52 : Hid (Us w (w51.setCell ⟨wM.heap.size, 20, none⟩ (.bool b21)) w1.heap.size xs s21 wM.heap.size #[.int .i64 v1, .int .i64 v2, .int .i64 v3, .int .i64 v4, .int .i64 v5, .int .i64 v6, .int .i64 v7, .int .i64 v8, .int .i64 v9, .int .i64 v10, .int .i64 v11, .bool b12, .int .i64 v13, .int .i64 v14, .int .i64 v15, .int .i64 v16, .int .i64 v17, .slice A1 L1.length d1, .int .i64 v19, .slice A2 L2.length d2, .bool b21, .int .i64 0, .int .i64 0, .int .i64 0, .int .i64 0, .int .i64 0, .slice none 0 0, .string ⟨#[]⟩] wC.heap.size #[.int .i64 v13, .int .i64 v14, .int .i64 v15, .int .i64 v16, .int .i64 v17, .slice A1 L1.length d1] wc2.heap.size) := Lib.hid (HU51.out.putm 20 (.bool b21))
  have HO52 := Lib.hid (show OwnS (w51.setCell ⟨wM.heap.size, 20, none⟩ (.bool b21)) w20.heap.size (.slice A1 L1.length d1) L1 from own_g HO51.out ((Chg.refl (fun k => k = wM.heap.size) w51).setCell (p := ⟨wM.heap.size, 20, none⟩) (.inl rfl) _) (by omega))
  have HP52 := Lib.hid (show OwnR (w51.setCell ⟨wM.heap.size, 20, none⟩ (.bool b21)) wc2.heap.size (.slice A2 L2.length d2) L2 from own_gO HP51.out ((Chg.refl (fun k => k = wM.heap.size) w51).setCell (p := ⟨wM.heap.size, 20, none⟩) (.inl rfl) _) (by omega))
  clear hcl hfz HU51 HO51 HP51
  generalize w51.setCell ⟨wM.heap.size, 20, none⟩ (.bool b21) = w52 at HU52 HO52 HP52 ⊢
  go_wp2_with fail
  ((with_reducible refine (rgint_calls HU52.out.rd).mono ?_); rintro e w53 ⟨v22, s22, rfl, HS22, hr, hc⟩)
  have HU53 := Lib.hid (HU52.out.read hr hc)
  have HO53 := Lib.hid (show OwnS w53 w20.heap.size (.slice A1 L1.length d1) L1 from own_g HO52.out hc (by omega))
  have HP53 := Lib.hid (show OwnR w53 wc2.heap.size (.slice A2 L2.length d2) L2 from own_gO HP52.out hc (by omega))
  clear hr hc HU52 HO52 HP52
  have hcl : w53.cell? ⟨wM.heap.size, 21, none⟩ = some (Value.int .i64 0) := HU53.out.cm_ 21
  have hfz := HU53.out.fm_ 21
  go_upto_region 23 with fail
  have HU54 : Hid (Us w (w53.setCell ⟨wM.heap.size, 21, none⟩ (.int .i64 v22)) w1.heap.size xs s22 wM.heap.size #[.int .i64 v1, .int .i64 v2, .int .i64 v3, .int .i64 v4, .int .i64 v5, .int .i64 v6, .int .i64 v7, .int .i64 v8, .int .i64 v9, .int .i64 v10, .int .i64 v11, .bool b12, .int .i64 v13, .int .i64 v14, .int .i64 v15, .int .i64 v16, .int .i64 v17, .slice A1 L1.length d1, .int .i64 v19, .slice A2 L2.length d2, .bool b21, .int .i64 v22, .int .i64 0, .int .i64 0, .int .i64 0, .int .i64 0, .slice none 0 0, .string ⟨#[]⟩] wC.heap.size #[.int .i64 v13, .int .i64 v14, .int .i64 v15, .int .i64 v16, .int .i64 v17, .slice A1 L1.length d1] wc2.heap.size) := Lib.hid (HU53.out.putm 21 (.int .i64 v22))
  have HO54 := Lib.hid (show OwnS (w53.setCell ⟨wM.heap.size, 21, none⟩ (.int .i64 v22)) w20.heap.size (.slice A1 L1.length d1) L1 from own_g HO53.out ((Chg.refl (fun k => k = wM.heap.size) w53).setCell (p := ⟨wM.heap.size, 21, none⟩) (.inl rfl) _) (by omega))
  have HP54 := Lib.hid (show OwnR (w53.setCell ⟨wM.heap.size, 21, none⟩ (.int .i64 v22)) wc2.heap.size (.slice A2 L2.length d2) L2 from own_gO HP53.out ((Chg.refl (fun k => k = wM.heap.size) w53).setCell (p := ⟨wM.heap.size, 21, none⟩) (.inl rfl) _) (by omega))
  clear hcl hfz HU53 HO53 HP53
  generalize w53.setCell ⟨wM.heap.size, 21, none⟩ (.int .i64 v22) = w54 at HU54 HO54 HP54 ⊢
  go_wp2_with fail
  ((with_reducible refine (rgint_calls HU54.out.rd).mono ?_); rintro e w55 ⟨v23, s23, rfl, HS23, hr, hc⟩)
  have HU55 := Lib.hid (HU54.out.read hr hc)
  have HO55 := Lib.hid (show OwnS w55 w20.heap.size (.slice A1 L1.length d1) L1 from own_g HO54.out hc (by omega))
  have HP55 := Lib.hid (show OwnR w55 wc2.heap.size (.slice A2 L2.length d2) L2 from own_gO HP54.out hc (by omega))
  clear hr hc HU54 HO54 HP54
  have hcl : w55.cell? ⟨wM.heap.size, 22, none⟩ = some (Value.int .i64 0) := HU55.out.cm_ 22
  have hfz := HU55.out.fm_ 22
  go_upto_region 24 with fail
  have HU56 : Hid (Us w (w55.setCell ⟨wM.heap.size, 22, none⟩ (.int .i64 v23)) w1.heap.size xs s23 wM.heap.size #[.int .i64 v1, .int .i64 v2, .int .i64 v3, .int .i64 v4, .int .i64 v5, .int .i64 v6, .int .i64 v7, .int .i64 v8, .int .i64 v9, .int .i64 v10, .int .i64 v11, .bool b12, .int .i64 v13, .int .i64 v14, .int .i64 v15, .int .i64 v16, .int .i64 v17, .slice A1 L1.length d1, .int .i64 v19, .slice A2 L2.length d2, .bool b21, .int .i64 v22, .int .i64 v23, .int .i64 0, .int .i64 0, .int .i64 0, .slice none 0 0, .string ⟨#[]⟩] wC.heap.size #[.int .i64 v13, .int .i64 v14, .int .i64 v15, .int .i64 v16, .int .i64 v17, .slice A1 L1.length d1] wc2.heap.size) := Lib.hid (HU55.out.putm 22 (.int .i64 v23))
  have HO56 := Lib.hid (show OwnS (w55.setCell ⟨wM.heap.size, 22, none⟩ (.int .i64 v23)) w20.heap.size (.slice A1 L1.length d1) L1 from own_g HO55.out ((Chg.refl (fun k => k = wM.heap.size) w55).setCell (p := ⟨wM.heap.size, 22, none⟩) (.inl rfl) _) (by omega))
  have HP56 := Lib.hid (show OwnR (w55.setCell ⟨wM.heap.size, 22, none⟩ (.int .i64 v23)) wc2.heap.size (.slice A2 L2.length d2) L2 from own_gO HP55.out ((Chg.refl (fun k => k = wM.heap.size) w55).setCell (p := ⟨wM.heap.size, 22, none⟩) (.inl rfl) _) (by omega))
  clear hcl hfz HU55 HO55 HP55
  generalize w55.setCell ⟨wM.heap.size, 22, none⟩ (.int .i64 v23) = w56 at HU56 HO56 HP56 ⊢
  go_wp2_with fail
  ((with_reducible refine (rgint_calls HU56.out.rd).mono ?_); rintro e w57 ⟨v24, s24, rfl, HS24, hr, hc⟩)
  have HU57 := Lib.hid (HU56.out.read hr hc)
  have HO57 := Lib.hid (show OwnS w57 w20.heap.size (.slice A1 L1.length d1) L1 from own_g HO56.out hc (by omega))
  have HP57 := Lib.hid (show OwnR w57 wc2.heap.size (.slice A2 L2.length d2) L2 from own_gO HP56.out hc (by omega))
  clear hr hc HU56 HO56 HP56
  have hcl : w57.cell? ⟨wM.heap.size, 23, none⟩ = some (Value.int .i64 0) := HU57.out.cm_ 23
  have hfz := HU57.out.fm_ 23
  go_upto_region 25 with fail
  have HU58 : Hid (Us w (w57.setCell ⟨wM.heap.size, 23, none⟩ (.int .i64 v24)) w1.heap.size xs s24 wM.heap.size #[.int .i64 v1, .int .i64 v2, .int .i64 v3, .int .i64 v4, .int .i64 v5, .int .i64 v6, .int .i64 v7, .int .i64 v8, .int .i64 v9, .int .i64 v10, .int .i64 v11, .bool b12, .int .i64 v13, .int .i64 v14, .int .i64 v15, .int .i64 v16, .int .i64 v17, .slice A1 L1.length d1, .int .i64 v19, .slice A2 L2.length d2, .bool b21, .int .i64 v22, .int .i64 v23, .int .i64 v24, .int .i64 0, .int .i64 0, .slice none 0 0, .string ⟨#[]⟩] wC.heap.size #[.int .i64 v13, .int .i64 v14, .int .i64 v15, .int .i64 v16, .int .i64 v17, .slice A1 L1.length d1] wc2.heap.size) := Lib.hid (HU57.out.putm 23 (.int .i64 v24))
  have HO58 := Lib.hid (show OwnS (w57.setCell ⟨wM.heap.size, 23, none⟩ (.int .i64 v24)) w20.heap.size (.slice A1 L1.length d1) L1 from own_g HO57.out ((Chg.refl (fun k => k = wM.heap.size) w57).setCell (p := ⟨wM.heap.size, 23, none⟩) (.inl rfl) _) (by omega))
  have HP58 := Lib.hid (show OwnR (w57.setCell ⟨wM.heap.size, 23, none⟩ (.int .i64 v24)) wc2.heap.size (.slice A2 L2.length d2) L2 from own_gO HP57.out ((Chg.refl (fun k => k = wM.heap.size) w57).setCell (p := ⟨wM.heap.size, 23, none⟩) (.inl rfl) _) (by omega))
  clear hcl hfz HU57 HO57 HP57
  generalize w57.setCell ⟨wM.heap.size, 23, none⟩ (.int .i64 v24) = w58 at HU58 HO58 HP58 ⊢
  go_wp2_with fail
  ((with_reducible refine (rgint_calls HU58.out.rd).mono ?_); rintro e w59 ⟨v25, s25, rfl, HS25, hr, hc⟩)
  have HU59 := Lib.hid (HU58.out.read hr hc)
  have HO59 := Lib.hid (show OwnS w59 w20.heap.size (.slice A1 L1.length d1) L1 from own_g HO58.out hc (by omega))
  have HP59 := Lib.hid (show OwnR w59 wc2.heap.size (.slice A2 L2.length d2) L2 from own_gO HP58.out hc (by omega))
  clear hr hc HU58 HO58 HP58
  have hcl : w59.cell? ⟨wM.heap.size, 24, none⟩ = some (Value.int .i64 0) := HU59.out.cm_ 24
  have hfz := HU59.out.fm_ 24
  go_upto_region 26 with fail
  have HU60 : Hid (Us w (w59.setCell ⟨wM.heap.size, 24, none⟩ (.int .i64 v25)) w1.heap.size xs s25 wM.heap.size #[.int .i64 v1, .int .i64 v2, .int .i64 v3, .int .i64 v4, .int .i64 v5, .int .i64 v6, .int .i64 v7, .int .i64 v8, .int .i64 v9, .int .i64 v10, .int .i64 v11, .bool b12, .int .i64 v13, .int .i64 v14, .int .i64 v15, .int .i64 v16, .int .i64 v17, .slice A1 L1.length d1, .int .i64 v19, .slice A2 L2.length d2, .bool b21, .int .i64 v22, .int .i64 v23, .int .i64 v24, .int .i64 v25, .int .i64 0, .slice none 0 0, .string ⟨#[]⟩] wC.heap.size #[.int .i64 v13, .int .i64 v14, .int .i64 v15, .int .i64 v16, .int .i64 v17, .slice A1 L1.length d1] wc2.heap.size) := Lib.hid (HU59.out.putm 24 (.int .i64 v25))
  have HO60 := Lib.hid (show OwnS (w59.setCell ⟨wM.heap.size, 24, none⟩ (.int .i64 v25)) w20.heap.size (.slice A1 L1.length d1) L1 from own_g HO59.out ((Chg.refl (fun k => k = wM.heap.size) w59).setCell (p := ⟨wM.heap.size, 24, none⟩) (.inl rfl) _) (by omega))
  have HP60 := Lib.hid (show OwnR (w59.setCell ⟨wM.heap.size, 24, none⟩ (.int .i64 v25)) wc2.heap.size (.slice A2 L2.length d2) L2 from own_gO HP59.out ((Chg.refl (fun k => k = wM.heap.size) w59).setCell (p := ⟨wM.heap.size, 24, none⟩) (.inl rfl) _) (by omega))
  clear hcl hfz HU59 HO59 HP59
  generalize w59.setCell ⟨wM.heap.size, 24, none⟩ (.int .i64 v25) = w60 at HU60 HO60 HP60 ⊢
  go_wp2_with fail
  ((with_reducible refine (rgint_calls HU60.out.rd).mono ?_); rintro e w61 ⟨v26, s26, rfl, HS26, hr, hc⟩)
  have HU61 := Lib.hid (HU60.out.read hr hc)
  have HO61 := Lib.hid (show OwnS w61 w20.heap.size (.slice A1 L1.length d1) L1 from own_g HO60.out hc (by omega))
  have HP61 := Lib.hid (show OwnR w61 wc2.heap.size (.slice A2 L2.length d2) L2 from own_gO HP60.out hc (by omega))
  clear hr hc HU60 HO60 HP60
  have hcl : w61.cell? ⟨wM.heap.size, 25, none⟩ = some (Value.int .i64 0) := HU61.out.cm_ 25
  have hfz := HU61.out.fm_ 25
  go_upto_region 27 with fail
  have HU62 : Hid (Us w (w61.setCell ⟨wM.heap.size, 25, none⟩ (.int .i64 v26)) w1.heap.size xs s26 wM.heap.size #[.int .i64 v1, .int .i64 v2, .int .i64 v3, .int .i64 v4, .int .i64 v5, .int .i64 v6, .int .i64 v7, .int .i64 v8, .int .i64 v9, .int .i64 v10, .int .i64 v11, .bool b12, .int .i64 v13, .int .i64 v14, .int .i64 v15, .int .i64 v16, .int .i64 v17, .slice A1 L1.length d1, .int .i64 v19, .slice A2 L2.length d2, .bool b21, .int .i64 v22, .int .i64 v23, .int .i64 v24, .int .i64 v25, .int .i64 v26, .slice none 0 0, .string ⟨#[]⟩] wC.heap.size #[.int .i64 v13, .int .i64 v14, .int .i64 v15, .int .i64 v16, .int .i64 v17, .slice A1 L1.length d1] wc2.heap.size) := Lib.hid (HU61.out.putm 25 (.int .i64 v26))
  have HO62 := Lib.hid (show OwnS (w61.setCell ⟨wM.heap.size, 25, none⟩ (.int .i64 v26)) w20.heap.size (.slice A1 L1.length d1) L1 from own_g HO61.out ((Chg.refl (fun k => k = wM.heap.size) w61).setCell (p := ⟨wM.heap.size, 25, none⟩) (.inl rfl) _) (by omega))
  have HP62 := Lib.hid (show OwnR (w61.setCell ⟨wM.heap.size, 25, none⟩ (.int .i64 v26)) wc2.heap.size (.slice A2 L2.length d2) L2 from own_gO HP61.out ((Chg.refl (fun k => k = wM.heap.size) w61).setCell (p := ⟨wM.heap.size, 25, none⟩) (.inl rfl) _) (by omega))
  clear hcl hfz HU61 HO61 HP61
  generalize w61.setCell ⟨wM.heap.size, 25, none⟩ (.int .i64 v26) = w62 at HU62 HO62 HP62 ⊢
  go_wp2_with fail
  ((with_reducible refine (rgcount_calls HU62.out.rd).mono ?_); rintro e wc3 ⟨n3, u3, rfl, hn3, HN3, hr, hc⟩)
  have HU63 := Lib.hid (HU62.out.read hr hc).up
  have HO63 : Hid (OwnS wc3 w20.heap.size (.slice A1 L1.length d1) L1) := Lib.hid (own_g HO62.out hc (by omega))
  have HP63 : Hid (OwnR wc3 wc2.heap.size (.slice A2 L2.length d2) L2) := Lib.hid (own_gO HP62.out hc (by omega))
  have HSB3 : Hid (∀ k, (Value.slice A1 L1.length d1).ownBlock = some k → k < wc3.heap.size) := Lib.hid (own_lt HO63.out)
  have HRB3 : Hid (∀ k, (Value.slice A2 L2.length d2).ownBlock = some k → k < wc3.heap.size) := Lib.hid (orow_lt HP63.out)
  have hB3 : wC.heap.size < wc3.heap.size ∧ wc2.heap.size ≤ wc3.heap.size := ⟨HU63.out.ord.2.2.2.1, Nat.le_trans HU62.out.ord.2.2.2.2 hc.size⟩
  clear hr hc HU62 HO62 HP62 HSB2
  go_wp2_with fail
  go_loopw [10] (fun vn wr => ∃ (m : Nat) (l : List S60) (u : Option Nat) (A3 : Option Addr) (d : Nat), vn = .int .i64 m ∧ l.length + m ≤ 4096 ∧ Hid (Lst (entR xs) (loopR (entR xs) n3 u3) l m u) ∧ Hid (Us w wr w1.heap.size xs u wM.heap.size #[.int .i64 v1, .int .i64 v2, .int .i64 v3, .int .i64 v4, .int .i64 v5, .int .i64 v6, .int .i64 v7, .int .i64 v8, .int .i64 v9, .int .i64 v10, .int .i64 v11, .bool b12, .int .i64 v13, .int .i64 v14, .int .i64 v15, .int .i64 v16, .int .i64 v17, .slice A1 L1.length d1, .int .i64 v19, .slice A2 L2.length d2, .bool b21, .int .i64 v22, .int .i64 v23, .int .i64 v24, .int .i64 v25, .int .i64 v26, .slice A3 l.length d, .string ⟨#[]⟩] wC.heap.size #[.int .i64 v13, .int .i64 v14, .int .i64 v15, .int .i64 v16, .int .i64 v17, .slice A1 L1.length d1] wc3.heap.size) ∧ Hid (OwnS wr w20.heap.size (.slice A1 L1.length d1) L1) ∧ Hid (OwnR wr wc2.heap.size (.slice A2 L2.length d2) L2) ∧ Hid (OwnE wr wc3.heap.size (.slice A3 l.length d) l)) (fun vn _ => (intOf vn).toNat)
  case atStart => exact ⟨n3, [], u3, none, 0, rfl, by simp; omega, Lib.hid (Lst.start _ _ _), HU63, HO63, HP63, Lib.hid (OwnRow.none_ _ _ _ _ _)⟩
  case round =>
  obtain ⟨m, l, u, A3, d, rfl, hl, HL, HU, HO, HP, HE⟩ := hrel
  have hbad := HU.out.rd.bad
  go_upto_region 28 with fail
  go_cut [144] from 136 to 161 (fun v wc => v = .bool (decide (0 < m ∧ u ≠ none)) ∧ wc = wr)
  case first =>
    by_cases hm : (0 : Int) < (m : Int)
    · cases u with
      | none =>
        rw [Option.isNone_none] at hbad
        go_wp2_with fail
        go_meet
        exact ⟨by simp, rfl⟩
      | some a =>
        rw [Option.isNone_some] at hbad
        go_wp2_with fail
        go_meet
        exact ⟨by rw [decide_eq_true ⟨by omega, by simp⟩], rfl⟩
    · go_wp2_with fail
      go_meet
      exact ⟨by rw [decide_eq_false (fun h => by have := h.1; omega)], rfl⟩
  case rest =>
  obtain ⟨rfl, rfl⟩ := hcut
  clear hbad
  by_cases hb : 0 < m ∧ u ≠ none
  · have hbd : decide (0 < m ∧ u ≠ none) = true := decide_eq_true hb
    obtain ⟨hm, hu⟩ := hb
    obtain ⟨a, rfl⟩ : ∃ a, u = some a := by cases u with
      | none => exact absurd rfl hu
      | some a => exact ⟨a, rfl⟩
    rw [hbd]
    clear hbd hu
    go_wp2_with fail
    ((with_reducible refine (rgint_calls HU.out.rd).mono ?_); rintro e w4b ⟨z1, t1, rfl, HT1, hr, hc⟩)
    have HU4 := Lib.hid (HU.out.read hr hc)
    have HO4 : Hid (OwnS w4b w20.heap.size (.slice A1 L1.length d1) L1) := Lib.hid (own_g HO.out hc (by omega))
    have HP4 : Hid (OwnR w4b wc2.heap.size (.slice A2 L2.length d2) L2) := Lib.hid (own_gO HP.out hc (by omega))
    have HE4 : Hid (OwnE w4b wc3.heap.size (.slice A3 l.length d) l) := Lib.hid (own_gO HE.out hc (by omega))
    have hbe : wc3.heap.size ≤ w4b.heap.size := HU4.out.ord.2.2.2.2
    have HNE : Hid (some w4b.heap.size ≠ (Value.slice A3 l.length d).ownBlock) := Lib.hid (fun hk => by have := orow_lt HE4.out _ hk.symm; omega)
    clear hr hc HU HO HP HE
    have HKz := Lib.hid (blk_new w4b (.cells #[.int .i64 0, .int .i64 0, .string ⟨#[]⟩] 60))
    have HK := Lib.hid (setRow_heap (w4b.alloc (.cells #[.int .i64 0, .int .i64 0, .string ⟨#[]⟩] 60)) w4b.heap.size #[.int .i64 0, .int .i64 0, .string ⟨#[]⟩] #[.int .i64 z1, .int .i64 0, .string ⟨#[]⟩] 60 (0, 0) HKz.out)
    have hbl : Below w4b.heap.size w4b ((w4b.alloc (.cells #[.int .i64 0, .int .i64 0, .string ⟨#[]⟩] 60)).setRow w4b.heap.size #[.int .i64 z1, .int .i64 0, .string ⟨#[]⟩]) := below_row ((Below.refl w4b.heap.size w4b).alloc (Nat.le_refl _) _) (Nat.le_refl _)
    have HU5 := Lib.hid (HU4.out.far (Chg.of_same hbl _))
    have HO5 : Hid (OwnS ((w4b.alloc (.cells #[.int .i64 0, .int .i64 0, .string ⟨#[]⟩] 60)).setRow w4b.heap.size #[.int .i64 z1, .int .i64 0, .string ⟨#[]⟩]) w20.heap.size (.slice A1 L1.length d1) L1) := Lib.hid (pw_own_below HO4.out hbl)
    have HP5 : Hid (OwnR ((w4b.alloc (.cells #[.int .i64 0, .int .i64 0, .string ⟨#[]⟩] 60)).setRow w4b.heap.size #[.int .i64 z1, .int .i64 0, .string ⟨#[]⟩]) wc2.heap.size (.slice A2 L2.length d2) L2) := Lib.hid (OwnRow.below HP4.out hbl)
    have HE5 : Hid (OwnE ((w4b.alloc (.cells #[.int .i64 0, .int .i64 0, .string ⟨#[]⟩] 60)).setRow w4b.heap.size #[.int .i64 z1, .int .i64 0, .string ⟨#[]⟩]) wc3.heap.size (.slice A3 l.length d) l) := Lib.hid (OwnRow.below HE4.out hbl)
    clear hbl HU4 HO4 HP4 HE4
    go_upto_region 31 with (refine wpList_store_row rfl 60 (.tmp 11) (.tmp 149) rfl w4b.heap.size #[.int .i64 z1, .int .i64 0, .string ⟨#[]⟩] rfl rfl 60 _ HKz.out inf60b rfl (by simp [Value.oneCell']) ?_)
    clear HKz
    generalize (w4b.alloc (.cells #[.int .i64 0, .int .i64 0, .string ⟨#[]⟩] 60)).setRow w4b.heap.size #[.int .i64 z1, .int .i64 0, .string ⟨#[]⟩] = w5b at HK HU5 HO5 HP5 HE5 ⊢
    go_wp2_with fail
    ((with_reducible refine (rgint_calls HU5.out.rd).mono ?_); rintro e w6b ⟨z2, t2, rfl, HT2, hr, hc⟩)
    have HU6 := Lib.hid (HU5.out.read hr hc)
    have HO6 : Hid (OwnS w6b w20.heap.size (.slice A1 L1.length d1) L1) := Lib.hid (own_g HO5.out hc (by omega))
    have HP6 : Hid (OwnR w6b wc2.heap.size (.slice A2 L2.length d2) L2) := Lib.hid (own_gO HP5.out hc (by omega))
    have HE6 : Hid (OwnE w6b wc3.heap.size (.slice A3 l.length d) l) := Lib.hid (own_gO HE5.out hc (by omega))
    have HK6 := Lib.hid (hc.get HK.out (show ¬ w4b.heap.size = w1.heap.size by omega))
    clear hr hc HU5 HO5 HP5 HE5 HK
    have hcl : w6b.cell? ⟨w4b.heap.size, 1, none⟩ = some (Value.int .i64 0) := by rw [blk_cell HK6.out]; rfl
    have hfz : w6b.frozen? ⟨w4b.heap.size, 1, none⟩ = false := blk_frozen HK6.out 1
    go_upto_region 32 with fail
    have hs0 : Chg (fun k => k = w4b.heap.size) w6b (w6b.setCell ⟨w4b.heap.size, 1, none⟩ (.int .i64 z2)) := (Chg.refl (fun k => k = w4b.heap.size) w6b).setCell (p := ⟨w4b.heap.size, 1, none⟩) (.inl rfl) _
    have hs : Chg (fun k => wc3.heap.size ≤ k) w6b (w6b.setCell ⟨w4b.heap.size, 1, none⟩ (.int .i64 z2)) := hs0.mono (fun k hk => by omega)
    have HU7 := Lib.hid (HU6.out.far hs)
    have HO7 : Hid (OwnS (w6b.setCell ⟨w4b.heap.size, 1, none⟩ (.int .i64 z2)) w20.heap.size (.slice A1 L1.length d1) L1) := Lib.hid (own_f HO6.out hs HSB3.out)
    have HP7 : Hid (OwnR (w6b.setCell ⟨w4b.heap.size, 1, none⟩ (.int .i64 z2)) wc2.heap.size (.slice A2 L2.length d2) L2) := Lib.hid (own_fO HP6.out hs HRB3.out)
    have HE7 : Hid (OwnE (w6b.setCell ⟨w4b.heap.size, 1, none⟩ (.int .i64 z2)) wc3.heap.size (.slice A3 l.length d) l) := Lib.hid (carryO HE6.out hs0 HNE.out)
    have HK7 : Hid ((w6b.setCell ⟨w4b.heap.size, 1, none⟩ (.int .i64 z2)).heap[w4b.heap.size]? = some (.cells #[.int .i64 z1, .int .i64 z2, .string ⟨#[]⟩] 60 (0, 0))) := Lib.hid (blk_set HK6.out 1 (.int .i64 z2))
    clear hcl hfz hs0 hs HU6 HO6 HP6 HE6 HK6
    generalize w6b.setCell ⟨w4b.heap.size, 1, none⟩ (.int .i64 z2) = w7b at HU7 HO7 HP7 HE7 HK7 ⊢
    go_wp2_with fail
    ((with_reducible refine (rgtext_calls HU7.out.rd).mono ?_); rintro e w8b ⟨z3, t3, rfl, HT3, hr, hc⟩)
    have HU8 := Lib.hid (HU7.out.read hr hc)
    have HO8 : Hid (OwnS w8b w20.heap.size (.slice A1 L1.length d1) L1) := Lib.hid (own_g HO7.out hc (by omega))
    have HP8 : Hid (OwnR w8b wc2.heap.size (.slice A2 L2.length d2) L2) := Lib.hid (own_gO HP7.out hc (by omega))
    have HE8 : Hid (OwnE w8b wc3.heap.size (.slice A3 l.length d) l) := Lib.hid (own_gO HE7.out hc (by omega))
    have HK8 := Lib.hid (hc.get HK7.out (show ¬ w4b.heap.size = w1.heap.size by omega))
    clear hr hc HU7 HO7 HP7 HE7 HK7
    have hcl : w8b.cell? ⟨w4b.heap.size, 2, none⟩ = some (Value.string ⟨#[]⟩) := by rw [blk_cell HK8.out]; rfl
    have hfz : w8b.frozen? ⟨w4b.heap.size, 2, none⟩ = false := blk_frozen HK8.out 2
    go_upto_region 33 with fail
    have hs0 : Chg (fun k => k = w4b.heap.size) w8b (w8b.setCell ⟨w4b.heap.size, 2, none⟩ (.string z3)) := (Chg.refl (fun k => k = w4b.heap.size) w8b).setCell (p := ⟨w4b.heap.size, 2, none⟩) (.inl rfl) _
    have hs : Chg (fun k => wc3.heap.size ≤ k) w8b (w8b.setCell ⟨w4b.heap.size, 2, none⟩ (.string z3)) := hs0.mono (fun k hk => by omega)
    have HU9 := Lib.hid (HU8.out.far hs)
    have HO9 : Hid (OwnS (w8b.setCell ⟨w4b.heap.size, 2, none⟩ (.string z3)) w20.heap.size (.slice A1 L1.length d1) L1) := Lib.hid (own_f HO8.out hs HSB3.out)
    have HP9 : Hid (OwnR (w8b.setCell ⟨w4b.heap.size, 2, none⟩ (.string z3)) wc2.heap.size (.slice A2 L2.length d2) L2) := Lib.hid (own_fO HP8.out hs HRB3.out)
    have HE9 : Hid (OwnE (w8b.setCell ⟨w4b.heap.size, 2, none⟩ (.string z3)) wc3.heap.size (.slice A3 l.length d) l) := Lib.hid (carryO HE8.out hs0 HNE.out)
    have HK9 : Hid ((w8b.setCell ⟨w4b.heap.size, 2, none⟩ (.string z3)).heap[w4b.heap.size]? = some (.cells #[.int .i64 z1, .int .i64 z2, .string z3] 60 (0, 0))) := Lib.hid (blk_set HK8.out 2 (.string z3))
    clear hcl hfz hs0 hs HU8 HO8 HP8 HE8 HK8
    generalize w8b.setCell ⟨w4b.heap.size, 2, none⟩ (.string z3) = w9b at HU9 HO9 HP9 HE9 HK9 ⊢
    have hcl : w9b.cell? ⟨wM.heap.size, 26, none⟩ = some (.slice A3 l.length d) := HU9.out.cm_ 26
    go_wp2_with (first | (refine wpList_load_row rfl 60 (.tmp 11) rfl w4b.heap.size rfl 60 #[.int .i64 z1, .int .i64 z2, .string z3] (0, 0) _ HK9.out Try.underlying60 rfl inf60b ?_) | ((with_reducible refine gate_builtin (b := .append) (xs := #[.tmp 157, .tmp 159]) rfl ?_); at_builtin; refine OwnRow.append (w0 := w9b) wc3.heap.size rfl (.tmp 157) (.tmp 159) 32 60 (.agg #[.int .i64 0, .int .i64 0, .string ⟨#[]⟩]) 3 32 rfl Try.underlying32 zinfo60 rfl (by decide) (by decide) (.slice A3 l.length d) l ⟨z1, z2, z3⟩ [.int .i64 z1, .int .i64 z2, .string z3] rfl rfl rfl rfl (by simp [Value.oneCell']) HE9.out (Below.refl _ _) HU9.out.ord.2.2.2.2 (by omega) ?_; intro v1 w10b hown hB hg hat; have HE10 : Hid (OwnE w10b wc3.heap.size v1 (l ++ [⟨z1, z2, z3⟩])) := Lib.hid hown; have hcg : Chg (fun k => wc3.heap.size ≤ k) w9b w10b := Chg.of_grown hg (fun k hk => orow_base HE9.out k hk); have HU10 := Lib.hid (HU9.out.far hcg); have HO10 : Hid (OwnS w10b w20.heap.size (.slice A1 L1.length d1) L1) := Lib.hid (own_f HO9.out hcg HSB3.out); have HP10 : Hid (OwnR w10b wc2.heap.size (.slice A2 L2.length d2) L2) := Lib.hid (own_fO HP9.out hcg HRB3.out); clear hown hB hg hat hcg; obtain ⟨A4, d4, rfl, _⟩ := OwnRow.slice_ HE10.out; have hc6 : w10b.cell? ⟨wM.heap.size, 26, none⟩ = some (.slice A3 l.length d) := HU10.out.cm_ 26; have hf6 := HU10.out.fm_ 26))
    go_roundw
    case measure => simp [intOf]; omega
    case rel =>
      obtain ⟨j, rfl⟩ : ∃ j, m = j + 1 := ⟨m - 1, by omega⟩
      have hcc : Chg (fun k => k = wM.heap.size) w10b (w10b.setCell ⟨wM.heap.size, 26, none⟩ (.slice A4 (l.length + 1) d4)) := (Chg.refl (fun k => k = wM.heap.size) w10b).setCell (p := ⟨wM.heap.size, 26, none⟩) (.inl rfl) _
      exact ⟨j, l ++ [(⟨z1, z2, z3⟩ : S60)], t3, A4, d4, by go_num, by simp; omega, Lib.hid (HL.out.step (stp_ent HT1.out HT2.out HT3.out)), Lib.hid (by rw [List.length_append]; exact HU10.out.putm 26 _), Lib.hid (own_g HO10.out hcc (by omega)), Lib.hid (own_gO HP10.out hcc (by omega)), Lib.hid (own_gO HE10.out hcc (by omega))⟩
  have hbd : decide (0 < m ∧ u ≠ none) = false := decide_eq_false hb
  rw [hbd]
  have HS27 := Lib.hid (stp_get HN3.out (HL.out.stop (by
    by_cases h0 : m = 0
    · exact .inl h0
    · exact .inr (by cases u with
        | none => rfl
        | some a => exact absurd ⟨by omega, by simp⟩ hb))))
  clear hbd hb HL HN3 hl
  obtain ⟨L3, hL3⟩ : ∃ L3, L3 = l := ⟨_, rfl⟩
  obtain ⟨d3, hd3⟩ : ∃ d3, d3 = d := ⟨_, rfl⟩
  obtain ⟨s27, hs27⟩ : ∃ s27, s27 = u := ⟨_, rfl⟩
  rw [← hL3, ← hd3, ← hs27] at HU
  rw [← hL3, ← hd3] at HE
  rw [← hL3, ← hs27] at HS27
  have HU80 := HU
  have HO80 := HO
  have HP80 := HP
  have HQ80 := HE
  clear HU HO HP HE hL3 hd3 hs27 hn3
  generalize wc = w80 at HU80 HO80 HP80 HQ80 ⊢
  go_wp2_with fail
  ((with_reducible refine (rgtext_calls HU80.out.rd).mono ?_); rintro e w81 ⟨t1, s28, rfl, HS28, hr, hc⟩)
  have HU81 := Lib.hid (HU80.out.read hr hc)
  have HO81 := Lib.hid (show OwnS w81 w20.heap.size (.slice A1 L1.length d1) L1 from own_g HO80.out hc (by omega))
  have HP81 := Lib.hid (show OwnR w81 wc2.heap.size (.slice A2 L2.length d2) L2 from own_gO HP80.out hc (by omega))
  have HQ81 := Lib.hid (show OwnE w81 wc3.heap.size (.slice A3 L3.length d3) L3 from own_gO HQ80.out hc (by omega))
  clear hr hc HU80 HO80 HP80 HQ80
  have hcl : w81.cell? ⟨wM.heap.size, 27, none⟩ = some (Value.string ⟨#[]⟩) := HU81.out.cm_ 27
  have hfz := HU81.out.fm_ 27
  go_upto_region 35 with fail
  have HU82 : Hid (Us w (w81.setCell ⟨wM.heap.size, 27, none⟩ (.string t1)) w1.heap.size xs s28 wM.heap.size #[.int .i64 v1, .int .i64 v2, .int .i64 v3, .int .i64 v4, .int .i64 v5, .int .i64 v6, .int .i64 v7, .int .i64 v8, .int .i64 v9, .int .i64 v10, .int .i64 v11, .bool b12, .int .i64 v13, .int .i64 v14, .int .i64 v15, .int .i64 v16, .int .i64 v17, .slice A1 L1.length d1, .int .i64 v19, .slice A2 L2.length d2, .bool b21, .int .i64 v22, .int .i64 v23, .int .i64 v24, .int .i64 v25, .int .i64 v26, .slice A3 L3.length d3, .string t1] wC.heap.size #[.int .i64 v13, .int .i64 v14, .int .i64 v15, .int .i64 v16, .int .i64 v17, .slice A1 L1.length d1] wc3.heap.size) := Lib.hid (HU81.out.putm 27 (.string t1))
  have HO82 := Lib.hid (show OwnS (w81.setCell ⟨wM.heap.size, 27, none⟩ (.string t1)) w20.heap.size (.slice A1 L1.length d1) L1 from own_g HO81.out ((Chg.refl (fun k => k = wM.heap.size) w81).setCell (p := ⟨wM.heap.size, 27, none⟩) (.inl rfl) _) (by omega))
  have HP82 := Lib.hid (show OwnR (w81.setCell ⟨wM.heap.size, 27, none⟩ (.string t1)) wc2.heap.size (.slice A2 L2.length d2) L2 from own_gO HP81.out ((Chg.refl (fun k => k = wM.heap.size) w81).setCell (p := ⟨wM.heap.size, 27, none⟩) (.inl rfl) _) (by omega))
  have HQ82 := Lib.hid (show OwnE (w81.setCell ⟨wM.heap.size, 27, none⟩ (.string t1)) wc3.heap.size (.slice A3 L3.length d3) L3 from own_gO HQ81.out ((Chg.refl (fun k => k = wM.heap.size) w81).setCell (p := ⟨wM.heap.size, 27, none⟩) (.inl rfl) _) (by omega))
  clear hcl hfz HU81 HO81 HP81 HQ81
  generalize w81.setCell ⟨wM.heap.size, 27, none⟩ (.string t1) = w82 at HU82 HO82 HP82 HQ82 ⊢
  have HST := Lib.hid (read_stp HS1.out HS2.out HS3.out HS4.out HS5.out HS6.out HS7.out HS8.out HS9.out HS10.out HS11.out HS12.out HS13.out HS14.out HS15.out HS16.out HS17.out HS18.out HS19.out HS20.out HS21.out HS22.out HS23.out HS24.out HS25.out HS26.out HS27.out HS28.out)
  clear HS1 HS2 HS3 HS4 HS5 HS6 HS7 HS8 HS9 HS10 HS11 HS12 HS13 HS14 HS15 HS16 HS17 HS18 HS19 HS20 HS21 HS22 HS23 HS24 HS25 HS26 HS27 HS28 HSB3 HRB3
  have hbad := HU82.out.rd.bad
  obtain ⟨A9, n9, c9, h09, hn9⟩ := HU82.out.rd.at0
  have HBW : Hid (Below w.heap.size w w82) := Lib.hid HU82.out.rd.bel
  have HT : Hid (∀ ok : Bool, ok = decide (s28 = some xs.length) → ReadPost w xs (.returned (.tuple #[.agg #[.int .i64 v1, .int .i64 v2, .int .i64 v3, .int .i64 v4, .int .i64 v5, .int .i64 v6, .int .i64 v7, .int .i64 v8, .int .i64 v9, .int .i64 v10, .int .i64 v11, .bool b12, .int .i64 v13, .int .i64 v14, .int .i64 v15, .int .i64 v16, .int .i64 v17, .slice A1 L1.length d1, .int .i64 v19, .slice A2 L2.length d2, .bool b21, .int .i64 v22, .int .i64 v23, .int .i64 v24, .int .i64 v25, .int .i64 v26, .slice A3 L3.length d3, .string t1], .bool ok])) (w82.drew.setRow w.heap.size #[.int .i64 v1, .int .i64 v2, .int .i64 v3, .int .i64 v4, .int .i64 v5, .int .i64 v6, .int .i64 v7, .int .i64 v8, .int .i64 v9, .int .i64 v10, .int .i64 v11, .bool b12, .int .i64 v13, .int .i64 v14, .int .i64 v15, .int .i64 v16, .int .i64 v17, .slice A1 L1.length d1, .int .i64 v19, .slice A2 L2.length d2, .bool b21, .int .i64 v22, .int .i64 v23, .int .i64 v24, .int .i64 v25, .int .i64 v26, .slice A3 L3.length d3, .string t1])) := Lib.hid (fun ok hok => read_post (⟨v1, v2, v3, v4, ⟨v5, v6, v7, v8, v9, v10, v11, b12, ⟨v13, v14, v15, v16, v17, L1⟩, v19, L2⟩, b21, v22, v23, v24, v25, v26, L3, t1⟩ : Mail) HST.out HO82.out HP82.out HQ82.out HBW.out (by omega) (by omega) (by omega) #[.int .i64 v1, .int .i64 v2, .int .i64 v3, .int .i64 v4, .int .i64 v5, .int .i64 v6, .int .i64 v7, .int .i64 v8, .int .i64 v9, .int .i64 v10, .int .i64 v11, .bool b12, .int .i64 v13, .int .i64 v14, .int .i64 v15, .int .i64 v16, .int .i64 v17, .slice A1 L1.length d1, .int .i64 v19, .slice A2 L2.length d2, .bool b21, .int .i64 v22, .int .i64 v23, .int .i64 v24, .int .i64 v25, .int .i64 v26, .slice A3 L3.length d3, .string t1] ok hok)
  have HOK : Hid ((!s28.isNone && ((n9 : Int) == 0)) = decide (s28 = some xs.length)) := Lib.hid (by
    cases s28 with
    | none => simp
    | some a =>
      obtain ⟨q1, q2⟩ := hn9 a rfl
      subst q1
      rw [Bool.eq_iff_iff]
      simp
      omega)
  have HBLK := HU82.out.blk
  have HRES := HU82.out.res
  have hord := HU82.out.ord
  have HPOST := Lib.hid (HT.out _ HOK.out)
  clear HT HST HO82 HP82 HQ82 HOK
  obtain ⟨ok, hok⟩ : ∃ ok : Bool, ok = (!s28.isNone && ((n9 : Int) == 0)) := ⟨_, rfl⟩
  rw [← hok] at HPOST
  refine read_last w.heap.size w1.heap.size wM.heap.size w82 _ #[.int .i64 v1, .int .i64 v2, .int .i64 v3, .int .i64 v4, .int .i64 v5, .int .i64 v6, .int .i64 v7, .int .i64 v8, .int .i64 v9, .int .i64 v10, .int .i64 v11, .bool b12, .int .i64 v13, .int .i64 v14, .int .i64 v15, .int .i64 v16, .int .i64 v17, .slice A1 L1.length d1, .int .i64 v19, .slice A2 L2.length d2, .bool b21, .int .i64 v22, .int .i64 v23, .int .i64 v24, .int .i64 v25, .int .i64 v26, .slice A3 L3.length d3, .string t1] #[.int .i64 0, .int .i64 0, .int .i64 0, .int .i64 0, .int .i64 0, .int .i64 0, .int .i64 0, .int .i64 0, .int .i64 0, .int .i64 0, .int .i64 0, .bool false, .int .i64 0, .int .i64 0, .int .i64 0, .int .i64 0, .int .i64 0, .slice none 0 0, .int .i64 0, .slice none 0 0, .bool false, .int .i64 0, .int .i64 0, .int .i64 0, .int .i64 0, .int .i64 0, .slice none 0 0, .string ⟨#[]⟩] s28.isNone A9 n9 c9 ok hok (fun _ _ _ _ _ h => h) hbad h09 HBLK HRES inf34b rfl (by simp [Value.oneCell']) (by omega) (by omega) ?_ _ _ _ _ _ _ _ _ _ _ _ _ _ _ _ _ _ _ _ _ _ _ _ _ _ _ _ _ _ _ _ _ _ _ _ _ _ _ _ _ _ _ _ _ _ _ _ _ _ _ _ _ _ _ _ _ _ _ _ _ _ _ _ _ _ _ _ _ _ _ _ _ _ _ _ _ _ _ _ _ _ _ _ _ _ _ _ _ _ _ _ _ _ _ _ _ _ _ _ _ _ _ _ _ _ _ _ _ _ _ _ _ _ _ _ _ _ _ _ _ _ _ _ _ _ _ _ _ _ _ _ _ _ _ _ _ _ _ _ _ _ _ _ _ _ _ _ _ _ _ _ _ _ _ _ _ _ _ _ _ _ _ _ _ _ _ _ _ _ _ _ _ _ _ _ _
  intro tmps h2 h3
  go_wp2_with fail
  refine bodyPost_ret (a := ⟨tmps, []⟩) (ret_cell2 rfl _ _ w.heap.size 34 #[.int .i64 v1, .int .i64 v2, .int .i64 v3, .int .i64 v4, .int .i64 v5, .int .i64 v6, .int .i64 v7, .int .i64 v8, .int .i64 v9, .int .i64 v10, .int .i64 v11, .bool b12, .int .i64 v13, .int .i64 v14, .int .i64 v15, .int .i64 v16, .int .i64 v17, .slice A1 L1.length d1, .int .i64 v19, .slice A2 L2.length d2, .bool b21, .int .i64 v22, .int .i64 v23, .int .i64 v24, .int .i64 v25, .int .i64 v26, .slice A3 L3.length d3, .string t1] h2 (setRow_heap _ w.heap.size #[.int .i64 0, .int .i64 0, .int .i64 0, .int .i64 0, .int .i64 0, .int .i64 0, .int .i64 0, .int .i64 0, .int .i64 0, .int .i64 0, .int .i64 0, .bool false, .int .i64 0, .int .i64 0, .int .i64 0, .int .i64 0, .int .i64 0, .slice none 0 0, .int .i64 0, .slice none 0 0, .bool false, .int .i64 0, .int .i64 0, .int .i64 0, .int .i64 0, .int .i64 0, .slice none 0 0, .string ⟨#[]⟩] #[.int .i64 v1, .int .i64 v2, .int .i64 v3, .int .i64 v4, .int .i64 v5, .int .i64 v6, .int .i64 v7, .int .i64 v8, .int .i64 v9, .int .i64 v10, .int .i64 v11, .bool b12, .int .i64 v13, .int .i64 v14, .int .i64 v15, .int .i64 v16, .int .i64 v17, .slice A1 L1.length d1, .int .i64 v19, .slice A2 L2.length d2, .bool b21, .int .i64 v22, .int .i64 v23, .int .i64 v24, .int .i64 v25, .int .i64 v26, .slice A3 L3.length d3, .string t1] 34 (0, 0) (show w82.drew.heap[w.heap.size]? = some (.cells #[.int .i64 0, .int .i64 0, .int .i64 0, .int .i64 0, .int .i64 0, .int .i64 0, .int .i64 0, .int .i64 0, .int .i64 0, .int .i64 0, .int .i64 0, .bool false, .int .i64 0, .int .i64 0, .int .i64 0, .int .i64 0, .int .i64 0, .slice none 0 0, .int .i64 0, .slice none 0 0, .bool false, .int .i64 0, .int .i64 0, .int .i64 0, .int .i64 0, .int .i64 0, .slice none 0 0, .string ⟨#[]⟩] 34 (0, 0)) from HRES)) inf34b) rfl ?_
  rw [h3]
  exact HPOST.out

end Go.Proofs.Ytneebjlpeekmbaa
