/- How an instance is laid. Conditions: the kinds' ranges, lists of at most 5000, fewer than 2^44 bytes. -/
import Derived.Test.YtneebjlpeekmbaaLayC
namespace Go.Proofs.Ytneebjlpeekmbaa
open Go.RowKit Go.Proofs.YtneebjlpeekmbaaW.PrintWords Go.Proofs.YtneebjlpeekmbaaW.PrintLast Go.Proofs.YtneebjlpeekmbaaW.PrintMore PRef
set_option linter.unusedVariables false
set_option linter.unusedSimpArgs false

def encInst (x : Inst) : List Int := encAll encInt [x.lead, x.index, x.bn, x.bnode, x.vn, x.vnode, x.status] ++ ((if x.same = true then 1 else 0) :: (encCmd x.cmd ++ (encInt x.iseq ++ (encNum x.deps.length ++ encAll encRef x.deps))))
structure InstOk (x : Inst) : Prop where
  lead : I64 x.lead
  index : I64 x.index
  bn : I64 x.bn
  bnode : I64 x.bnode
  vn : I64 x.vn
  vnode : I64 x.vnode
  status : I64 x.status
  cmd : CmdOk x.cmd
  iseq : I64 x.iseq
  deps : x.deps.length ≤ 5000 ∧ ∀ r ∈ x.deps, I64 r.f0 ∧ I64 r.f1
theorem encCmd_length (x : Cmd) (h : CmdOk x) : (encCmd x).length ≤ 60 + 2097162 * x.data.length := by
  have h1 := encAll_int_le [x.client, x.seq, x.cfrom, x.cto] (by simp only [List.mem_cons, List.not_mem_nil, or_false]; rintro z (rfl | rfl | rfl | rfl); exact h.client; exact h.seq; exact h.cfrom; exact h.cto) 4
  have h2 := encNum_length x.data.length (by have := h.data.1; omega)
  have h3 := encAll_le encText x.data 2097162 (fun s hs => Nat.le_trans (encText_length s (by have := h.data.2 s hs; omega)) (by have := h.data.2 s hs; omega))
  rw [show [x.client, x.seq, x.cfrom, x.cto].take 4 = [x.client, x.seq, x.cfrom, x.cto] from rfl] at h1
  unfold encCmd
  simp only [List.length_append, List.length_cons, List.length_nil] at h1 ⊢
  omega

set_option maxRecDepth 100000 in
set_option maxHeartbeats 4000000 in
theorem layinst_calls (w0 w : World) (g : Nat) (ok : Nat → Prop) (xs : List Int) (A1 A2 : Option Addr) (c1 c2 : Nat) (x : Inst) (hW : Wr w w0.heap.size g ok xs) (hok : ∀ k, ok k → w0.heap.size ≤ k) (hB : Below w0.heap.size w0 w) (hr1 : InC w0 A1 c1 x.cmd.data) (hr2 : InR w0 A2 c2 x.deps) (hl : xs.length ≤ 8796093022000) (hx : InstOk x) :
    Calls Try.prog 25 #[.pointer (some ⟨g, 0, none⟩), .agg #[.int .i64 x.lead, .int .i64 x.index, .int .i64 x.bn, .int .i64 x.bnode, .int .i64 x.vn, .int .i64 x.vnode, .int .i64 x.status, .bool x.same, .int .i64 x.cmd.op, .int .i64 x.cmd.client, .int .i64 x.cmd.seq, .int .i64 x.cmd.cfrom, .int .i64 x.cmd.cto, .slice A1 x.cmd.data.length c1, .int .i64 x.iseq, .slice A2 x.deps.length c2]] w fun e w' => e = .returned (.tuple #[]) ∧ Wr w' w0.heap.size g (more ok w) (xs ++ encInst x) ∧ Chg ok w w' := by
  obtain ⟨x0, x1, x2, x3, x4, x5, x6, x7, x8, x9, x10⟩ := x
  obtain ⟨h0, h1, h2, h3, h4, h5, h6, h8, h9, h10⟩ := hx
  have hcl := encCmd_length x8 h8
  have hdl := h8.data.1
  obtain ⟨q0, q1, q2, q3, q4, q5⟩ := x8
  dsimp only at h0 h1 h2 h3 h4 h5 h6 h8 h9 h10 hr1 hr2 hcl hdl ⊢
  have hb := (Below.refl w.heap.size w).alloc (Nat.le_refl _) (.cells #[.int .i64 x0, .int .i64 x1, .int .i64 x2, .int .i64 x3, .int .i64 x4, .int .i64 x5, .int .i64 x6, .bool x7, .int .i64 q0, .int .i64 q1, .int .i64 q2, .int .i64 q3, .int .i64 q4, .slice A1 q5.length c1, .int .i64 x9, .slice A2 x10.length c2] 31)
  have HBK := Lib.hid (blk_new w (.cells #[.int .i64 x0, .int .i64 x1, .int .i64 x2, .int .i64 x3, .int .i64 x4, .int .i64 x5, .int .i64 x6, .bool x7, .int .i64 q0, .int .i64 q1, .int .i64 q2, .int .i64 q3, .int .i64 q4, .slice A1 q5.length c1, .int .i64 x9, .slice A2 x10.length c2] 31))
  have HS := Lib.hid (St.begin hW hb)
  have HB := Lib.hid hb
  have HB0 := Lib.hid hB
  have HOK := Lib.hid hok
  have HR1 := Lib.hid hr1
  have HR2 := Lib.hid hr2
  have hbw := hB.size
  have HCO := Lib.hid h8
  have hu31 := Try.underlying31
  have hu23 := Try.underlying23
  have hu25 := Try.underlying25
  clear hW hb hB hok hr1 hr2 h8
  have HOK1 : Hid (∀ w1 : World, Below w.heap.size w w1 → ∀ k, okF ok w w1 k → w0.heap.size ≤ k) := Lib.hid (fun w1 hb k hk => by
    have := hb.size
    rcases hk with hk | hk
    · exact HOK.out k hk.1
    · omega)
  go_enter Try.func25, Try.ntmps25
  go_upto_region 1 with fail
  generalize w.alloc (.cells #[.int .i64 x0, .int .i64 x1, .int .i64 x2, .int .i64 x3, .int .i64 x4, .int .i64 x5, .int .i64 x6, .bool x7, .int .i64 q0, .int .i64 q1, .int .i64 q2, .int .i64 q3, .int .i64 q4, .slice A1 q5.length c1, .int .i64 x9, .slice A2 x10.length c2] 31) = w1 at HBK HS HB ⊢
  have c0x0 : w1.cell? ⟨w.heap.size, 0, none⟩ = some (.int .i64 x0) := by rw [blk_cell HBK.out]; rfl
  have c0x1 : w1.cell? ⟨w.heap.size, 1, none⟩ = some (.int .i64 x1) := by rw [blk_cell HBK.out]; rfl
  have c0x2 : w1.cell? ⟨w.heap.size, 2, none⟩ = some (.int .i64 x2) := by rw [blk_cell HBK.out]; rfl
  have c0x3 : w1.cell? ⟨w.heap.size, 3, none⟩ = some (.int .i64 x3) := by rw [blk_cell HBK.out]; rfl
  have c0x4 : w1.cell? ⟨w.heap.size, 4, none⟩ = some (.int .i64 x4) := by rw [blk_cell HBK.out]; rfl
  have c0x5 : w1.cell? ⟨w.heap.size, 5, none⟩ = some (.int .i64 x5) := by rw [blk_cell HBK.out]; rfl
  have c0x6 : w1.cell? ⟨w.heap.size, 6, none⟩ = some (.int .i64 x6) := by rw [blk_cell HBK.out]; rfl
  go_wp2_with fail
  have hb3 := (Below.refl w1.heap.size w1).alloc (Nat.le_refl _) (.cells #[.int .i64 x0, .int .i64 x1, .int .i64 x2, .int .i64 x3, .int .i64 x4, .int .i64 x5, .int .i64 x6] 3)
  have HK3 := Lib.hid (blk_new w1 (.cells #[.int .i64 x0, .int .i64 x1, .int .i64 x2, .int .i64 x3, .int .i64 x4, .int .i64 x5, .int .i64 x6] 3))
  have HT3 := Lib.hid (St.begin HS.out.1 hb3)
  have HB3 := Lib.hid hb3
  have HL3 : Hid (∀ z ∈ [x0, x1, x2, x3, x4, x5, x6], I64 z) := Lib.hid (by simp only [List.mem_cons, List.not_mem_nil, or_false]; rintro z (rfl | rfl | rfl | rfl | rfl | rfl | rfl) <;> assumption)
  have hle3 := encAll_int_le [x0, x1, x2, x3, x4, x5, x6] HL3.out
  have HLE3 := Lib.hid hle3
  clear hb3 hle3
  generalize w1.alloc (.cells #[.int .i64 x0, .int .i64 x1, .int .i64 x2, .int .i64 x3, .int .i64 x4, .int .i64 x5, .int .i64 x6] 3) = w3 at HK3 HT3 HB3 ⊢
  go_loopw [28] (fun vi wr => ∃ i : Nat, vi = .int .i64 i ∧ i ≤ 7 ∧ Hid (St w3 wr w0.heap.size g (okF (okF ok w w1) w1 w3) (xs ++ encAll encInt ([x0, x1, x2, x3, x4, x5, x6].take i)))) (fun vi _ => 7 - (intOf vi).toNat)
  case atStart => exact ⟨0, rfl, by omega, Lib.hid (by simpa [encAll] using HT3.out)⟩
  case round =>
  obtain ⟨i, rfl, hi, HT⟩ := hrel
  by_cases hlt : i < 7
  · have hrk := HT.out.keeps HK3.out (Nat.le_refl _)
    have hcell : wr.cell? ⟨w1.heap.size, i, none⟩ = some (.int .i64 ([x0, x1, x2, x3, x4, x5, x6].getD i 0)) := by rw [blk_cell hrk]; exact ints_get [x0, x1, x2, x3, x4, x5, x6] _ rfl i hlt
    have hz := HL3.out ([x0, x1, x2, x3, x4, x5, x6].getD i 0) (by rw [List.getD_eq_getElem?_getD, List.getElem?_eq_getElem (show i < [x0, x1, x2, x3, x4, x5, x6].length from hlt)]; exact List.getElem_mem _)
    have hle := HLE3.out i
    have hsn := encAll_snoc encInt [x0, x1, x2, x3, x4, x5, x6] i 0 hlt
    have HSN := Lib.hid hsn
    clear hrk hsn
    generalize hzz : [x0, x1, x2, x3, x4, x5, x6].getD i 0 = z at hcell hz HSN
    clear hzz
    go_wp2_with fail
    ((with_reducible refine (int_calls _ _ _ _ _ z HT.out.1 (by simp only [List.length_append, List.length_cons, List.length_nil] at hle ⊢; omega) hz.1 hz.2).mono ?_); rintro e wq ⟨rfl, hW, hC⟩)
    have HT2 := Lib.hid (HT.out.step hW hC)
    clear hW hC
    go_wp2_with fail
    go_roundw
    case measure => simp [intOf]; omega
    case rel => exact ⟨i + 1, by go_num, by omega, Lib.hid (by have := HT2.out; rw [HSN.out, ← List.append_assoc]; exact this)⟩
  obtain rfl : i = 7 := by omega
  have HS3 : Hid (St w1 wr w0.heap.size g (okF ok w w1) (xs ++ encAll encInt [x0, x1, x2, x3, x4, x5, x6])) := Lib.hid (HS.out.step (HT.out.final HB3.out).1 (HT.out.final HB3.out).2)
  have HLF3 := HLE3.out 7
  rw [show [x0, x1, x2, x3, x4, x5, x6].take 7 = [x0, x1, x2, x3, x4, x5, x6] from rfl] at HLF3
  clear HT hlt hi HK3 HT3 HB3 HLE3 HL3
  clear c0x0 c0x1 c0x2 c0x3 c0x4 c0x5 c0x6
  have hbk4 := HS3.out.keeps HBK.out (Nat.le_refl _)
  have cwrx7 : wr.cell? ⟨w.heap.size, 7, none⟩ = some (.bool x7) := by rw [blk_cell hbk4]; rfl
  clear hbk4
  go_wp2_with fail
  ((with_reducible refine (bool_calls _ _ _ _ _ x7 HS3.out.1 (by simp only [List.length_append, List.length_cons, List.length_nil] at HLF3 ⊢; omega)).mono ?_); rintro e w5 ⟨rfl, hW, hC⟩)
  have HS5 := Lib.hid (HS3.out.step hW hC)
  have hbk5 := HS5.out.keeps HBK.out (Nat.le_refl _)
  have cw5x8 : w5.cell? ⟨w.heap.size, 8, none⟩ = some (.int .i64 q0) := by rw [blk_cell hbk5]; rfl
  have cw5x9 : w5.cell? ⟨w.heap.size, 9, none⟩ = some (.int .i64 q1) := by rw [blk_cell hbk5]; rfl
  have cw5x10 : w5.cell? ⟨w.heap.size, 10, none⟩ = some (.int .i64 q2) := by rw [blk_cell hbk5]; rfl
  have cw5x11 : w5.cell? ⟨w.heap.size, 11, none⟩ = some (.int .i64 q3) := by rw [blk_cell hbk5]; rfl
  have cw5x12 : w5.cell? ⟨w.heap.size, 12, none⟩ = some (.int .i64 q4) := by rw [blk_cell hbk5]; rfl
  have cw5x13 : w5.cell? ⟨w.heap.size, 13, none⟩ = some (.slice A1 q5.length c1) := by rw [blk_cell hbk5]; rfl
  have HBR5 := Lib.hid ((HB0.out.trans (HB.out.mono hbw)).trans (HS5.out.belowB HB.out hbw HOK.out))
  clear hW hC hbk5 HS3
  go_wp2_with fail
  ((with_reducible refine (laycmd_calls w0 _ _ _ _ _ _ ⟨q0, q1, q2, q3, q4, q5⟩ HS5.out.1 (HOK1.out _ HB.out) HBR5.out HR1.out (by simp only [List.length_append, List.length_cons, List.length_nil] at HLF3 ⊢; omega) HCO.out).mono ?_); rintro e w6 ⟨rfl, hW, hC⟩)
  have HS6 := Lib.hid (HS5.out.step hW hC)
  have hbk6 := HS6.out.keeps HBK.out (Nat.le_refl _)
  have cw6x14 : w6.cell? ⟨w.heap.size, 14, none⟩ = some (.int .i64 x9) := by rw [blk_cell hbk6]; rfl
  clear hW hC hbk6 HS5 HBR5
  go_wp2_with fail
  ((with_reducible refine (int_calls _ _ _ _ _ x9 HS6.out.1 (by simp only [List.length_append, List.length_cons, List.length_nil] at HLF3 hcl ⊢; omega) h9.1 h9.2).mono ?_); rintro e w7 ⟨rfl, hW, hC⟩)
  have HS7 := Lib.hid (HS6.out.step hW hC)
  have hbk7 := HS7.out.keeps HBK.out (Nat.le_refl _)
  have cw7x15 : w7.cell? ⟨w.heap.size, 15, none⟩ = some (.slice A2 x10.length c2) := by rw [blk_cell hbk7]; rfl
  have HBR7 := Lib.hid ((HB0.out.trans (HB.out.mono hbw)).trans (HS7.out.belowB HB.out hbw HOK.out))
  have hil := encInt_length x9 h9.1 h9.2
  clear hW hC hbk7 HS6
  go_wp2_with fail
  ((with_reducible refine (putref_calls w0 _ _ _ _ _ _ x10 HS7.out.1 (HOK1.out _ HB.out) HBR7.out HR2.out h10.1 (by simp only [List.length_append, List.length_cons, List.length_nil] at HLF3 hcl ⊢; omega) h10.2).mono ?_); rintro e w8 ⟨rfl, hW, hC⟩)
  have HS8 := Lib.hid (HS7.out.step hW hC)
  clear hW hC HS7
  go_wp2_with fail
  go_end0
  have := HS8.out.final HB.out
  refine ⟨rfl, ?_⟩
  unfold encInst
  simp only [List.append_assoc, List.singleton_append, List.cons_append] at this ⊢
  exact this

end Go.Proofs.Ytneebjlpeekmbaa
