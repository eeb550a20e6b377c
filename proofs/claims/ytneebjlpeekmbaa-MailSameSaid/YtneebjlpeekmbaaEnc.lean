/- mail.Encode where the mail may be laid: its bytes in a frame, or ErrBig. Conditions: the kinds' ranges. -/
import Derived.Test.YtneebjlpeekmbaaMay
import Derived.Test.YtneebjlpeekmbaaFrameA
import Derived.Test.YtneebjlpeekmbaaRdA
namespace Go.Proofs.Ytneebjlpeekmbaa
open Go.RowKit Go.Proofs.YtneebjlpeekmbaaW.PrintWords Go.Proofs.YtneebjlpeekmbaaW.PrintLast Go.Proofs.YtneebjlpeekmbaaW.PrintMore PRef
set_option linter.unusedVariables false
set_option linter.unusedSimpArgs false

def encMail (x : Mail) : List Int := encAll encInt [x.kind, x.mfrom, x.mto, x.shard] ++ (encInst x.inst ++ ((if x.ok = true then 1 else 0) :: (encAll encInt [x.term, x.mindex, x.past, x.commit, x.epoch] ++ (encNum x.entries.length ++ (encAll encEnt x.entries ++ encText x.text)))))
/-- The kinds' ranges. -/
structure InstI (x : Inst) : Prop where
  lead : I64 x.lead
  index : I64 x.index
  bn : I64 x.bn
  bnode : I64 x.bnode
  vn : I64 x.vn
  vnode : I64 x.vnode
  status : I64 x.status
  client : I64 x.cmd.client
  seq : I64 x.cmd.seq
  cfrom : I64 x.cmd.cfrom
  cto : I64 x.cmd.cto
  iseq : I64 x.iseq
  deps : ∀ r ∈ x.deps, I64 r.f0 ∧ I64 r.f1
structure MailI (x : Mail) : Prop where
  kind : I64 x.kind
  mfrom : I64 x.mfrom
  mto : I64 x.mto
  shard : I64 x.shard
  inst : InstI x.inst
  term : I64 x.term
  mindex : I64 x.mindex
  past : I64 x.past
  commit : I64 x.commit
  epoch : I64 x.epoch
  entries : ∀ r ∈ x.entries, I64 r.f0 ∧ I64 r.f1
theorem instOk_of (x : Mail) (h : MailI x) (k : MayOk x) : InstOk x.inst :=
  ⟨h.inst.lead, h.inst.index, h.inst.bn, h.inst.bnode, h.inst.vn, h.inst.vnode, h.inst.status, ⟨k.op, h.inst.client, h.inst.seq, h.inst.cfrom, h.inst.cto, by have := k.data.1; omega, fun s hs => by have := k.data.2 s hs; omega⟩, h.inst.iseq, by have := k.deps; omega, h.inst.deps⟩
theorem encInst_length (x : Inst) (h : InstOk x) : (encInst x).length ≤ 600 + 2097162 * x.cmd.data.length + 22 * x.deps.length := by
  have h1 := encAll_int_le [x.lead, x.index, x.bn, x.bnode, x.vn, x.vnode, x.status] (by simp only [List.mem_cons, List.not_mem_nil, or_false]; rintro z (rfl | rfl | rfl | rfl | rfl | rfl | rfl); exact h.lead; exact h.index; exact h.bn; exact h.bnode; exact h.vn; exact h.vnode; exact h.status) 7
  have h2 := encCmd_length x.cmd h.cmd
  have h3 := encInt_length x.iseq h.iseq.1 h.iseq.2
  have h4 := encNum_length x.deps.length (by have := h.deps.1; omega)
  have h5 := encAll_le encRef x.deps 22 (fun r hr => encRef_length r (h.deps.2 r hr).1 (h.deps.2 r hr).2)
  rw [show [x.lead, x.index, x.bn, x.bnode, x.vn, x.vnode, x.status].take 7 = [x.lead, x.index, x.bn, x.bnode, x.vn, x.vnode, x.status] from rfl] at h1
  unfold encInst
  simp only [List.length_append, List.length_cons, List.length_nil] at h1 ⊢
  omega
theorem bytesAll {α : Type} (f : α → List Int) (l : List α) (h : ∀ x ∈ l, IsBytes (f x)) : IsBytes (encAll f l) := by
  unfold encAll
  intro z hz
  obtain ⟨s, hs, hz⟩ := List.mem_flatten.1 hz
  obtain ⟨x, hx, rfl⟩ := List.mem_map.1 hs
  exact h x hx z hz
theorem encInt_bytes (n : Int) : IsBytes (encInt n) := by
  unfold encInt
  split
  · intro x hx
    rcases List.mem_cons.1 hx with rfl | hx
    · exact ⟨by decide, by decide⟩
    · exact encNum_bytes _ x hx
  · intro x hx
    rcases List.mem_cons.1 hx with rfl | hx
    · exact ⟨by decide, by decide⟩
    · exact encNum_bytes _ x hx
theorem encText_bytes (s : ByteArray) : IsBytes (encText s) := by
  unfold encText
  exact (encNum_bytes _).append (isBytes_of s)
theorem IsBytes.cons {x : Int} {l : List Int} (hx : 0 ≤ x ∧ x < 256) (hl : IsBytes l) : IsBytes (x :: l) := fun z hz => by
  rcases List.mem_cons.1 hz with rfl | hz
  · exact hx
  · exact hl z hz
theorem encMail_bytes (x : Mail) (h : 0 ≤ x.inst.cmd.op ∧ x.inst.cmd.op ≤ 255) : IsBytes (encMail x) := by
  unfold encMail encInst encCmd
  refine (bytesAll _ _ fun z _ => encInt_bytes z).append (((bytesAll _ _ fun z _ => encInt_bytes z).append (IsBytes.cons (by split <;> omega) ((IsBytes.cons ⟨h.1, by omega⟩ ((bytesAll _ _ fun z _ => encInt_bytes z).append ((encNum_bytes _).append (bytesAll _ _ fun z _ => encText_bytes z)))).append ((encInt_bytes _).append ((encNum_bytes _).append (bytesAll _ _ fun z _ => (encInt_bytes _).append (encInt_bytes _))))))).append (IsBytes.cons (by split <;> omega) ((bytesAll _ _ fun z _ => encInt_bytes z).append ((encNum_bytes _).append ((bytesAll _ _ fun z _ => ((encInt_bytes _).append (encInt_bytes _)).append (encText_bytes _)).append (encText_bytes _))))))

/-- What Encode comes to. -/
def EncPost (w : World) (l : List Int) (e : Ending) (w' : World) : Prop :=
  (∃ v, e = .returned (.tuple #[v, .int .i64 (if l.length ≤ 1048576 then 0 else 2)]) ∧ (l.length ≤ 1048576 → OwnB w' w.heap.size v (frameL l)) ∧ (¬ l.length ≤ 1048576 → v = .slice none 0 0)) ∧ Below w.heap.size w w'

theorem own_base_le {w : World} {b0 b1 : Nat} {v : Value} {xs : List Int} (h : OwnB w b1 v xs) (hb : b0 ≤ b1) : OwnB w b0 v xs := by
  obtain ⟨h1, h2⟩ := h
  refine ⟨h1, ?_⟩
  rcases h2 with h | ⟨g, cap, cur, e, hg, r⟩
  · exact .inl h
  · exact .inr ⟨g, cap, cur, e, Nat.le_trans hb hg, r⟩

theorem inf34 : (Try.prog.info? 34).map (·.size) = some 28 := by kernel_rfl

set_option maxRecDepth 100000 in
set_option maxHeartbeats 8000000 in
theorem encode_calls (w : World) (A1 A2 A3 : Option Addr) (c1 c2 c3 : Nat) (x : Mail) (hr1 : InC w A1 c1 x.inst.cmd.data) (hr2 : InR w A2 c2 x.inst.deps) (hr3 : InE w A3 c3 x.entries) (hx : MayOk x) (hi : MailI x) :
    Calls Try.prog 12 #[.agg #[.int .i64 x.kind, .int .i64 x.mfrom, .int .i64 x.mto, .int .i64 x.shard, .int .i64 x.inst.lead, .int .i64 x.inst.index, .int .i64 x.inst.bn, .int .i64 x.inst.bnode, .int .i64 x.inst.vn, .int .i64 x.inst.vnode, .int .i64 x.inst.status, .bool x.inst.same, .int .i64 x.inst.cmd.op, .int .i64 x.inst.cmd.client, .int .i64 x.inst.cmd.seq, .int .i64 x.inst.cmd.cfrom, .int .i64 x.inst.cmd.cto, .slice A1 x.inst.cmd.data.length c1, .int .i64 x.inst.iseq, .slice A2 x.inst.deps.length c2, .bool x.ok, .int .i64 x.term, .int .i64 x.mindex, .int .i64 x.past, .int .i64 x.commit, .int .i64 x.epoch, .slice A3 x.entries.length c3, .string x.text]] w (EncPost w (encMail x)) := by
  have HMO := Lib.hid hx
  have HIO := Lib.hid (instOk_of x hi hx)
  have hel := encMail_bytes x hx.op
  have HEL := Lib.hid hel
  have hent : x.entries.length ≤ 5000 ∧ ∀ r ∈ x.entries, I64 r.f0 ∧ I64 r.f1 ∧ r.f2.size ≤ 2097152 := ⟨by have := hx.entries.1; omega, fun r hr => ⟨(hi.entries r hr).1, (hi.entries r hr).2, by have := hx.entries.2 r hr; omega⟩⟩
  have hil := encInst_length x.inst HIO.out
  have hdl := hx.data.1
  have hdp := hx.deps
  have htx := hx.text
  have hel2 := encAll_le encEnt x.entries 2097300 (fun r hr => encEnt_length r (hent.2 r hr).1 (hent.2 r hr).2.1 (hent.2 r hr).2.2)
  have hnl := encNum_length x.entries.length (by have := hent.1; omega)
  have htl := encText_length x.text (by omega)
  have HENT := Lib.hid hent
  have hen1 := hent.1
  obtain ⟨i0, i1, i2, i3, i4, i5, i6, i7, i8, i9, i10⟩ := hi
  clear hx hel hent i4 i10
  generalize hEM : encMail x = em at HEL ⊢
  have HEM := Lib.hid hEM
  clear hEM
  unfold encMail at HEM
  obtain ⟨m0, m1, m2, m3, m4, m5, m6, m7, m8, m9, m10, m11, m12⟩ := x
  obtain ⟨x0, x1, x2, x3, x4, x5, x6, x7, x8, x9, x10⟩ := m4
  obtain ⟨q0, q1, q2, q3, q4, q5⟩ := x8
  dsimp only at HMO HIO HENT HEM hil hdl hdp htx hel2 hnl htl hen1 hr1 hr2 hr3 i0 i1 i2 i3 i5 i6 i7 i8 i9 ⊢
  have HR1 := Lib.hid hr1
  have HR2 := Lib.hid hr2
  have HR3 := Lib.hid hr3
  have HBK := Lib.hid (blk_new w (.cells #[.int .i64 m0, .int .i64 m1, .int .i64 m2, .int .i64 m3, .int .i64 x0, .int .i64 x1, .int .i64 x2, .int .i64 x3, .int .i64 x4, .int .i64 x5, .int .i64 x6, .bool x7, .int .i64 q0, .int .i64 q1, .int .i64 q2, .int .i64 q3, .int .i64 q4, .slice A1 q5.length c1, .int .i64 x9, .slice A2 x10.length c2, .bool m5, .int .i64 m6, .int .i64 m7, .int .i64 m8, .int .i64 m9, .int .i64 m10, .slice A3 m11.length c3, .string m12] 34))
  have HBb := Lib.hid ((Below.refl w.heap.size w).alloc (Nat.le_refl _) (.cells #[.int .i64 m0, .int .i64 m1, .int .i64 m2, .int .i64 m3, .int .i64 x0, .int .i64 x1, .int .i64 x2, .int .i64 x3, .int .i64 x4, .int .i64 x5, .int .i64 x6, .bool x7, .int .i64 q0, .int .i64 q1, .int .i64 q2, .int .i64 q3, .int .i64 q4, .slice A1 q5.length c1, .int .i64 x9, .slice A2 x10.length c2, .bool m5, .int .i64 m6, .int .i64 m7, .int .i64 m8, .int .i64 m9, .int .i64 m10, .slice A3 m11.length c3, .string m12] 34))
  have hu31 := Try.underlying31
  have hu34 := Try.underlying34
  clear hr1 hr2 hr3
  go_enter Try.func12, Try.ntmps12
  go_upto_region 1 with fail
  generalize hwb : w.alloc (.cells #[.int .i64 m0, .int .i64 m1, .int .i64 m2, .int .i64 m3, .int .i64 x0, .int .i64 x1, .int .i64 x2, .int .i64 x3, .int .i64 x4, .int .i64 x5, .int .i64 x6, .bool x7, .int .i64 q0, .int .i64 q1, .int .i64 q2, .int .i64 q3, .int .i64 q4, .slice A1 q5.length c1, .int .i64 x9, .slice A2 x10.length c2, .bool m5, .int .i64 m6, .int .i64 m7, .int .i64 m8, .int .i64 m9, .int .i64 m10, .slice A3 m11.length c3, .string m12] 34) = wb at HBK HBb ⊢
  clear hwb
  go_wp2_with (refine wpList_load_row rfl 34 (.tmp 1) rfl w.heap.size rfl 34 #[.int .i64 m0, .int .i64 m1, .int .i64 m2, .int .i64 m3, .int .i64 x0, .int .i64 x1, .int .i64 x2, .int .i64 x3, .int .i64 x4, .int .i64 x5, .int .i64 x6, .bool x7, .int .i64 q0, .int .i64 q1, .int .i64 q2, .int .i64 q3, .int .i64 q4, .slice A1 q5.length c1, .int .i64 x9, .slice A2 x10.length c2, .bool m5, .int .i64 m6, .int .i64 m7, .int .i64 m8, .int .i64 m9, .int .i64 m10, .slice A3 m11.length c3, .string m12] (0, 0) _ HBK.out Try.underlying34 rfl inf34 ?_)
  ((with_reducible refine (may_true wb A1 A2 A3 c1 c2 c3 ⟨m0, m1, m2, m3, ⟨x0, x1, x2, x3, x4, x5, x6, x7, ⟨q0, q1, q2, q3, q4, q5⟩, x9, x10⟩, m5, m6, m7, m8, m9, m10, m11, m12⟩ ⟨Kd.C_below HR1.out.1 HBb.out, HR1.out.2⟩ ⟨Kd.C_below HR2.out.1 HBb.out, HR2.out.2⟩ ⟨Kd.C_below HR3.out.1 HBb.out, HR3.out.2⟩ HMO.out).mono ?_); rintro e w0 ⟨rfl, hb⟩)
  have hbk0 := blk_below HBK.out hb
  have HB0 := Lib.hid (HBb.out.trans (hb.mono HBb.out.size))
  have HBK0 := Lib.hid hbk0
  have hlt0 := blk_lt hbk0
  have HR1 : Hid (InC w0 A1 c1 q5) := Lib.hid ⟨Kd.C_below HR1.out.1 HB0.out, HR1.out.2⟩
  have HR2 : Hid (InR w0 A2 c2 x10) := Lib.hid ⟨Kd.C_below HR2.out.1 HB0.out, HR2.out.2⟩
  have HR3 : Hid (InE w0 A3 c3 m11) := Lib.hid ⟨Kd.C_below HR3.out.1 HB0.out, HR3.out.2⟩
  have HW0 := Lib.hid (wr_new w0)
  have HBA := Lib.hid ((Below.refl w0.heap.size w0).alloc (Nat.le_refl _) (.cells #[.slice none 0 0] 64))
  have HBK3 := Lib.hid (blk_alloc hbk0 (.cells #[.slice none 0 0] 64))
  have HLT3 : Hid (w0.heap.size ≤ (w0.alloc (.cells #[.slice none 0 0] 64)).heap.size) := Lib.hid (by simp)
  clear hb hbk0
  go_upto_region 4 with fail
  generalize w0.alloc (.cells #[.slice none 0 0] 64) = w3 at HW0 HBA HBK3 HLT3 ⊢
  have HS := Lib.hid (St.begin HW0.out (Below.refl w3.heap.size w3))
  have hnb : ¬ okF (fun k => w0.heap.size ≤ k) w3 w3 w.heap.size := okF_not2 (by omega) (Nat.lt_of_lt_of_le hlt0 HLT3.out)
  have HNB := Lib.hid hnb
  have HOK1 : Hid (∀ k, okF (fun k => w0.heap.size ≤ k) w3 w3 k → w0.heap.size ≤ k) := Lib.hid (fun k hk => by
    have := HLT3.out
    rcases hk with hk | hk
    · exact hk.1
    · omega)
  clear hnb hlt0
  have c3x0 : w3.cell? ⟨w.heap.size, 0, none⟩ = some (.int .i64 m0) := by rw [blk_cell HBK3.out]; rfl
  have c3x1 : w3.cell? ⟨w.heap.size, 1, none⟩ = some (.int .i64 m1) := by rw [blk_cell HBK3.out]; rfl
  have c3x2 : w3.cell? ⟨w.heap.size, 2, none⟩ = some (.int .i64 m2) := by rw [blk_cell HBK3.out]; rfl
  have c3x3 : w3.cell? ⟨w.heap.size, 3, none⟩ = some (.int .i64 m3) := by rw [blk_cell HBK3.out]; rfl
  go_wp2_with fail
  have hb4 := (Below.refl w3.heap.size w3).alloc (Nat.le_refl _) (.cells #[.int .i64 m0, .int .i64 m1, .int .i64 m2, .int .i64 m3] 3)
  have HK4 := Lib.hid (blk_new w3 (.cells #[.int .i64 m0, .int .i64 m1, .int .i64 m2, .int .i64 m3] 3))
  have HT4 := Lib.hid (St.begin HS.out.1 hb4)
  have HB4 := Lib.hid hb4
  have HL4 : Hid (∀ z ∈ [m0, m1, m2, m3], I64 z) := Lib.hid (by simp only [List.mem_cons, List.not_mem_nil, or_false]; rintro z (rfl | rfl | rfl | rfl) <;> assumption)
  have hle4 := encAll_int_le [m0, m1, m2, m3] HL4.out
  have HLE4 := Lib.hid hle4
  clear hb4 hle4
  generalize w3.alloc (.cells #[.int .i64 m0, .int .i64 m1, .int .i64 m2, .int .i64 m3] 3) = w4 at HK4 HT4 HB4 ⊢
  go_loopw [24] (fun vi wr => ∃ i : Nat, vi = .int .i64 i ∧ i ≤ 4 ∧ Hid (St w4 wr w0.heap.size w0.heap.size (okF (okF (fun k => w0.heap.size ≤ k) w3 w3) w3 w4) ([] ++ encAll encInt ([m0, m1, m2, m3].take i)))) (fun vi _ => 4 - (intOf vi).toNat)
  case atStart => exact ⟨0, rfl, by omega, Lib.hid (by simpa [encAll] using HT4.out)⟩
  case round =>
  obtain ⟨i, rfl, hi, HT⟩ := hrel
  by_cases hlt : i < 4
  · have hrk := HT.out.keeps HK4.out (Nat.le_refl _)
    have hcell : wr.cell? ⟨w3.heap.size, i, none⟩ = some (.int .i64 ([m0, m1, m2, m3].getD i 0)) := by rw [blk_cell hrk]; exact ints_get [m0, m1, m2, m3] _ rfl i hlt
    have hz := HL4.out ([m0, m1, m2, m3].getD i 0) (by rw [List.getD_eq_getElem?_getD, List.getElem?_eq_getElem (show i < [m0, m1, m2, m3].length from hlt)]; exact List.getElem_mem _)
    have hle := HLE4.out i
    have hsn := encAll_snoc encInt [m0, m1, m2, m3] i 0 hlt
    have HSN := Lib.hid hsn
    clear hrk hsn
    generalize hzz : [m0, m1, m2, m3].getD i 0 = z at hcell hz HSN
    clear hzz
    go_wp2_with fail
    ((with_reducible refine (int_calls _ _ _ _ _ z HT.out.1 (by simp only [List.length_append, List.length_cons, List.length_nil] at hle ⊢; omega) hz.1 hz.2).mono ?_); rintro e wq ⟨rfl, hW, hC⟩)
    have HT2 := Lib.hid (HT.out.step hW hC)
    clear hW hC
    go_wp2_with fail
    go_roundw
    case measure => simp [intOf]; omega
    case rel => exact ⟨i + 1, by go_num, by omega, Lib.hid (by have := HT2.out; rw [HSN.out, ← List.append_assoc]; exact this)⟩
  obtain rfl : i = 4 := by omega
  have HS4 : Hid (St w3 wr w0.heap.size w0.heap.size (okF (fun k => w0.heap.size ≤ k) w3 w3) ([] ++ encAll encInt [m0, m1, m2, m3])) := Lib.hid (HS.out.step (HT.out.final HB4.out).1 (HT.out.final HB4.out).2)
  have HLF4 := HLE4.out 4
  rw [show [m0, m1, m2, m3].take 4 = [m0, m1, m2, m3] from rfl] at HLF4
  clear HT hlt hi HK4 HT4 HB4 HLE4 HL4
  clear c3x0 c3x1 c3x2 c3x3
  have hbk := HS4.out.keeps_ne HBK3.out HNB.out
  have c4x4 : wr.cell? ⟨w.heap.size, 4, none⟩ = some (.int .i64 x0) := by rw [blk_cell hbk]; rfl
  have c4x5 : wr.cell? ⟨w.heap.size, 5, none⟩ = some (.int .i64 x1) := by rw [blk_cell hbk]; rfl
  have c4x6 : wr.cell? ⟨w.heap.size, 6, none⟩ = some (.int .i64 x2) := by rw [blk_cell hbk]; rfl
  have c4x7 : wr.cell? ⟨w.heap.size, 7, none⟩ = some (.int .i64 x3) := by rw [blk_cell hbk]; rfl
  have c4x8 : wr.cell? ⟨w.heap.size, 8, none⟩ = some (.int .i64 x4) := by rw [blk_cell hbk]; rfl
  have c4x9 : wr.cell? ⟨w.heap.size, 9, none⟩ = some (.int .i64 x5) := by rw [blk_cell hbk]; rfl
  have c4x10 : wr.cell? ⟨w.heap.size, 10, none⟩ = some (.int .i64 x6) := by rw [blk_cell hbk]; rfl
  have c4x11 : wr.cell? ⟨w.heap.size, 11, none⟩ = some (.bool x7) := by rw [blk_cell hbk]; rfl
  have c4x12 : wr.cell? ⟨w.heap.size, 12, none⟩ = some (.int .i64 q0) := by rw [blk_cell hbk]; rfl
  have c4x13 : wr.cell? ⟨w.heap.size, 13, none⟩ = some (.int .i64 q1) := by rw [blk_cell hbk]; rfl
  have c4x14 : wr.cell? ⟨w.heap.size, 14, none⟩ = some (.int .i64 q2) := by rw [blk_cell hbk]; rfl
  have c4x15 : wr.cell? ⟨w.heap.size, 15, none⟩ = some (.int .i64 q3) := by rw [blk_cell hbk]; rfl
  have c4x16 : wr.cell? ⟨w.heap.size, 16, none⟩ = some (.int .i64 q4) := by rw [blk_cell hbk]; rfl
  have c4x17 : wr.cell? ⟨w.heap.size, 17, none⟩ = some (.slice A1 q5.length c1) := by rw [blk_cell hbk]; rfl
  have c4x18 : wr.cell? ⟨w.heap.size, 18, none⟩ = some (.int .i64 x9) := by rw [blk_cell hbk]; rfl
  have c4x19 : wr.cell? ⟨w.heap.size, 19, none⟩ = some (.slice A2 x10.length c2) := by rw [blk_cell hbk]; rfl
  have HBR4 := Lib.hid (HBA.out.trans (HS4.out.belowB (Below.refl _ _) HLT3.out (fun k hk => hk)))
  clear hbk
  go_wp2_with fail
  ((with_reducible refine (layinst_calls w0 _ _ _ _ _ _ _ _ ⟨x0, x1, x2, x3, x4, x5, x6, x7, ⟨q0, q1, q2, q3, q4, q5⟩, x9, x10⟩ HS4.out.1 HOK1.out HBR4.out HR1.out HR2.out (by simp only [List.length_append, List.length_cons, List.length_nil] at HLF4 ⊢; omega) HIO.out).mono ?_); rintro e w5 ⟨rfl, hW, hC⟩)
  have HS5 := Lib.hid (HS4.out.step hW hC)
  have hbk := HS5.out.keeps_ne HBK3.out HNB.out
  have c5x20 : w5.cell? ⟨w.heap.size, 20, none⟩ = some (.bool m5) := by rw [blk_cell hbk]; rfl
  clear hbk hW hC HBR4 HS4 c4x4 c4x5 c4x6 c4x7 c4x8 c4x9 c4x10 c4x11 c4x12 c4x13 c4x14 c4x15 c4x16 c4x17 c4x18 c4x19
  go_wp2_with fail
  ((with_reducible refine (bool_calls _ _ _ _ _ m5 HS5.out.1 (by simp only [List.length_append, List.length_cons, List.length_nil] at HLF4 hil ⊢; omega)).mono ?_); rintro e w6 ⟨rfl, hW, hC⟩)
  have HS6 := Lib.hid (HS5.out.step hW hC)
  have hbk := HS6.out.keeps_ne HBK3.out HNB.out
  have c6x21 : w6.cell? ⟨w.heap.size, 21, none⟩ = some (.int .i64 m6) := by rw [blk_cell hbk]; rfl
  have c6x22 : w6.cell? ⟨w.heap.size, 22, none⟩ = some (.int .i64 m7) := by rw [blk_cell hbk]; rfl
  have c6x23 : w6.cell? ⟨w.heap.size, 23, none⟩ = some (.int .i64 m8) := by rw [blk_cell hbk]; rfl
  have c6x24 : w6.cell? ⟨w.heap.size, 24, none⟩ = some (.int .i64 m9) := by rw [blk_cell hbk]; rfl
  have c6x25 : w6.cell? ⟨w.heap.size, 25, none⟩ = some (.int .i64 m10) := by rw [blk_cell hbk]; rfl
  clear hbk hW hC HS5 c5x20
  go_wp2_with fail
  have hb7 := (Below.refl w6.heap.size w6).alloc (Nat.le_refl _) (.cells #[.int .i64 m6, .int .i64 m7, .int .i64 m8, .int .i64 m9, .int .i64 m10] 3)
  have HK7 := Lib.hid (blk_new w6 (.cells #[.int .i64 m6, .int .i64 m7, .int .i64 m8, .int .i64 m9, .int .i64 m10] 3))
  have HT7 := Lib.hid (St.begin HS6.out.1 hb7)
  have HB7 := Lib.hid hb7
  have HL7 : Hid (∀ z ∈ [m6, m7, m8, m9, m10], I64 z) := Lib.hid (by simp only [List.mem_cons, List.not_mem_nil, or_false]; rintro z (rfl | rfl | rfl | rfl | rfl) <;> assumption)
  have hle7 := encAll_int_le [m6, m7, m8, m9, m10] HL7.out
  have HLE7 := Lib.hid hle7
  clear hb7 hle7
  generalize w6.alloc (.cells #[.int .i64 m6, .int .i64 m7, .int .i64 m8, .int .i64 m9, .int .i64 m10] 3) = w7 at HK7 HT7 HB7 ⊢
  go_loopw [52] (fun vi wr => ∃ i : Nat, vi = .int .i64 i ∧ i ≤ 5 ∧ Hid (St w7 wr w0.heap.size w0.heap.size (okF (okF (fun k => w0.heap.size ≤ k) w3 w3) w6 w7) ((([] ++ encAll encInt [m0, m1, m2, m3]) ++ encInst ⟨x0, x1, x2, x3, x4, x5, x6, x7, ⟨q0, q1, q2, q3, q4, q5⟩, x9, x10⟩ ++ [if m5 = true then 1 else 0]) ++ encAll encInt ([m6, m7, m8, m9, m10].take i)))) (fun vi _ => 5 - (intOf vi).toNat)
  case atStart => exact ⟨0, rfl, by omega, Lib.hid (by simpa [encAll] using HT7.out)⟩
  case round =>
  obtain ⟨i, rfl, hi, HT⟩ := hrel
  by_cases hlt : i < 5
  · have hrk := HT.out.keeps HK7.out (Nat.le_refl _)
    have hcell : wr.cell? ⟨w6.heap.size, i, none⟩ = some (.int .i64 ([m6, m7, m8, m9, m10].getD i 0)) := by rw [blk_cell hrk]; exact ints_get [m6, m7, m8, m9, m10] _ rfl i hlt
    have hz := HL7.out ([m6, m7, m8, m9, m10].getD i 0) (by rw [List.getD_eq_getElem?_getD, List.getElem?_eq_getElem (show i < [m6, m7, m8, m9, m10].length from hlt)]; exact List.getElem_mem _)
    have hle := HLE7.out i
    have hsn := encAll_snoc encInt [m6, m7, m8, m9, m10] i 0 hlt
    have HSN := Lib.hid hsn
    clear hrk hsn
    generalize hzz : [m6, m7, m8, m9, m10].getD i 0 = z at hcell hz HSN
    clear hzz
    go_wp2_with fail
    ((with_reducible refine (int_calls _ _ _ _ _ z HT.out.1 (by simp only [List.length_append, List.length_cons, List.length_nil] at hle HLF4 hil ⊢; omega) hz.1 hz.2).mono ?_); rintro e wq ⟨rfl, hW, hC⟩)
    have HT2 := Lib.hid (HT.out.step hW hC)
    clear hW hC
    go_wp2_with fail
    go_roundw
    case measure => simp [intOf]; omega
    case rel => exact ⟨i + 1, by go_num, by omega, Lib.hid (by have := HT2.out; rw [HSN.out, ← List.append_assoc]; exact this)⟩
  obtain rfl : i = 5 := by omega
  have HS7 : Hid (St w3 wr w0.heap.size w0.heap.size (okF (fun k => w0.heap.size ≤ k) w3 w3) ((([] ++ encAll encInt [m0, m1, m2, m3]) ++ encInst ⟨x0, x1, x2, x3, x4, x5, x6, x7, ⟨q0, q1, q2, q3, q4, q5⟩, x9, x10⟩ ++ [if m5 = true then 1 else 0]) ++ encAll encInt [m6, m7, m8, m9, m10])) := Lib.hid (HS6.out.step (HT.out.final HB7.out).1 (HT.out.final HB7.out).2)
  have HLF7 := HLE7.out 5
  rw [show [m6, m7, m8, m9, m10].take 5 = [m6, m7, m8, m9, m10] from rfl] at HLF7
  clear HT hlt hi HK7 HT7 HB7 HLE7 HL7
  have hbk := HS7.out.keeps_ne HBK3.out HNB.out
  have c7x26 : wr.cell? ⟨w.heap.size, 26, none⟩ = some (.slice A3 m11.length c3) := by rw [blk_cell hbk]; rfl
  have HBR7 := Lib.hid (HBA.out.trans (HS7.out.belowB (Below.refl _ _) HLT3.out (fun k hk => hk)))
  clear hbk c6x21 c6x22 c6x23 c6x24 c6x25
  go_wp2_with fail
  ((with_reducible refine (putent_calls w0 _ _ _ _ _ _ m11 HS7.out.1 HOK1.out HBR7.out HR3.out HENT.out.1 (by simp only [List.length_append, List.length_cons, List.length_nil] at HLF4 HLF7 hil ⊢; omega) HENT.out.2).mono ?_); rintro e w8 ⟨rfl, hW, hC⟩)
  have HS8 := Lib.hid (HS7.out.step hW hC)
  have hbk := HS8.out.keeps_ne HBK3.out HNB.out
  have c8x27 : w8.cell? ⟨w.heap.size, 27, none⟩ = some (.string m12) := by rw [blk_cell hbk]; rfl
  clear hbk hW hC HBR7 HS7 c7x26
  go_wp2_with fail
  ((with_reducible refine (text_calls _ _ _ _ _ m12 HS8.out.1 (by simp only [List.length_append, List.length_cons, List.length_nil] at HLF4 HLF7 hil ⊢; omega) (by omega)).mono ?_); rintro e w9 ⟨rfl, hW, hC⟩)
  have HS9 := Lib.hid (HS8.out.step hW hC)
  have hlen := (show em.length ≤ 140737488355328 by rw [← HEM.out]; simp only [List.length_append, List.length_cons, List.length_nil] at HLF4 HLF7 hil ⊢; omega)
  have HB9 := Lib.hid (HB0.out.trans ((HBA.out.trans (HS9.out.belowB (Below.refl _ _) HLT3.out (fun k hk => hk))).mono HB0.out.size))
  have hw9 : Wr w9 w0.heap.size w0.heap.size (okF (fun k => w0.heap.size ≤ k) w3 w3) em := by
    have := HS9.out.1
    rw [← HEM.out]
    simp only [List.append_assoc, List.nil_append, List.singleton_append, List.cons_append] at this ⊢
    exact this
  have HW9 := Lib.hid hw9
  clear hW hC HS8 HS9 hw9 c8x27 HLF4 HLF7 hil hel2 hnl htl hdl hdp htx hen1
  go_wp2_with fail
  ((with_reducible refine (bytes_str_calls _ _ _ _ em HW9.out hlen).mono ?_); rintro e w10 ⟨B, d, rfl, hd, HRB, hb⟩)
  have HB10 := Lib.hid (HB9.out.trans (hb.mono HB9.out.size))
  clear hb
  go_wp2_with fail
  by_cases hfit : em.length ≤ 1048576
  · ((with_reducible refine (frame_calls _ _ em _ HRB.out hd HEL.out hfit).mono ?_); rintro e w11 ⟨v, rfl, ho, hb⟩)
    have HB11 := Lib.hid (HB10.out.trans (hb.mono HB10.out.size))
    have HO := Lib.hid ho
    have HFIT := Lib.hid hfit
    clear hb ho hfit
    go_wp2_with fail
    go_ret2
    refine ⟨⟨v, ?_, fun _ => ?_, fun h => absurd HFIT.out h⟩, HB11.out⟩
    · rw [if_pos HFIT.out]; rfl
    · exact own_base_le HO.out HB10.out.size
  · ((with_reducible refine (frame_big _ em.length _ _ (by omega)).mono ?_); rintro e w11 ⟨rfl, rfl⟩)
    have HFIT := Lib.hid hfit
    clear hfit
    go_wp2_with fail
    go_ret2
    refine ⟨⟨.slice none 0 0, ?_, fun h => absurd h HFIT.out, fun _ => rfl⟩, HB10.out⟩
    rw [if_neg HFIT.out]; rfl

end Go.Proofs.Ytneebjlpeekmbaa
