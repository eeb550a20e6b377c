/- How a command and an instance are laid. Conditions: the kinds' ranges, lists of at most 5000, fewer than 2^44 bytes. -/
import Derived.Test.YtneebjlpeekmbaaPuts
namespace Go.Proofs.Ytneebjlpeekmbaa
open Go.RowKit Go.Proofs.YtneebjlpeekmbaaW.PrintWords Go.Proofs.YtneebjlpeekmbaaW.PrintLast Go.Proofs.YtneebjlpeekmbaaW.PrintMore PRef
set_option linter.unusedVariables false
set_option linter.unusedSimpArgs false

theorem St.keeps_ne {w1 wr : World} {base g b : Nat} {ok : Nat → Prop} {xs : List Int} {o : Obj} (h : St w1 wr base g ok xs) (ho : w1.heap[b]? = some o) (hn : ¬ ok b) : wr.heap[b]? = some o := h.2.get ho hn
theorem okF_not {ok : Nat → Prop} {w w1 : World} {b : Nat} (h0 : w.heap.size ≤ b) (h1 : b < w1.heap.size) : ¬ okF ok w w1 b := by
  intro hk
  rcases hk with hk | hk <;> omega
theorem okF_not2 {ok : Nat → Prop} {w w1 : World} {b : Nat} (h0 : ¬ ok b) (h1 : b < w1.heap.size) : ¬ okF ok w w1 b := by
  intro hk
  rcases hk with hk | hk
  · exact h0 hk.1
  · omega
/-- Whole numbers, laid. -/
theorem encAll_int_le (l : List Int) (h : ∀ x ∈ l, I64 x) (i : Nat) : (encAll encInt (l.take i)).length ≤ 11 * l.length := by
  refine Nat.le_trans (encAll_le _ _ 11 (fun x hx => ?_)) (by rw [List.length_take]; exact Nat.mul_le_mul_left _ (by omega))
  have hx := h x (List.mem_of_mem_take hx)
  exact encInt_length _ hx.1 hx.2
theorem ints_get (L : List Int) (cs : Array Value) (hc : cs.toList = L.map (Value.int .i64)) (i : Nat) (h : i < L.length) : cs[i]? = some (.int .i64 (L.getD i 0)) := by
  rw [← Array.getElem?_toList, hc, List.getElem?_map, List.getElem?_eq_getElem h, List.getD_eq_getElem?_getD, List.getElem?_eq_getElem h]
  rfl
def encCmd (c : Cmd) : List Int := c.op :: (encAll encInt [c.client, c.seq, c.cfrom, c.cto] ++ (encNum c.data.length ++ encAll encText c.data))
structure CmdOk (c : Cmd) : Prop where
  op : 0 ≤ c.op ∧ c.op ≤ 255
  client : I64 c.client
  seq : I64 c.seq
  cfrom : I64 c.cfrom
  cto : I64 c.cto
  data : c.data.length ≤ 5000 ∧ ∀ x ∈ c.data, x.size ≤ 2097152

set_option maxRecDepth 100000 in
set_option maxHeartbeats 2000000 in
theorem laycmd_calls (w0 w : World) (g : Nat) (ok : Nat → Prop) (xs : List Int) (A : Option Addr) (c : Nat) (x : Cmd) (hW : Wr w w0.heap.size g ok xs) (hok : ∀ k, ok k → w0.heap.size ≤ k) (hB : Below w0.heap.size w0 w) (hr : InC w0 A c x.data) (hl : xs.length ≤ 17592186040000) (hx : CmdOk x) :
    Calls Try.prog 60 #[.pointer (some ⟨g, 0, none⟩), .agg #[.int .i64 x.op, .int .i64 x.client, .int .i64 x.seq, .int .i64 x.cfrom, .int .i64 x.cto, .slice A x.data.length c]] w fun e w' => e = .returned (.tuple #[]) ∧ Wr w' w0.heap.size g (more ok w) (xs ++ encCmd x) ∧ Chg ok w w' := by
  obtain ⟨x0, x1, x2, x3, x4, x5⟩ := x
  obtain ⟨h0, h1, h2, h3, h4, h5⟩ := hx
  dsimp only at h0 h1 h2 h3 h4 h5 hr ⊢
  have hb := (Below.refl w.heap.size w).alloc (Nat.le_refl _) (.cells #[.int .i64 x0, .int .i64 x1, .int .i64 x2, .int .i64 x3, .int .i64 x4, .slice A x5.length c] 28)
  have HBK := Lib.hid (blk_new w (.cells #[.int .i64 x0, .int .i64 x1, .int .i64 x2, .int .i64 x3, .int .i64 x4, .slice A x5.length c] 28))
  have HS := Lib.hid (St.begin hW hb)
  have HB := Lib.hid hb
  have HB0 := Lib.hid hB
  have HOK := Lib.hid hok
  have HR := Lib.hid hr
  have hbw := hB.size
  have hwr : IntKind.u8.wrap x0 = x0 := by show x0 % 256 = x0; omega
  clear hW hb hB hok hr
  go_enter Try.func60, Try.ntmps60
  go_wp2_with fail
  generalize w.alloc (.cells #[.int .i64 x0, .int .i64 x1, .int .i64 x2, .int .i64 x3, .int .i64 x4, .slice A x5.length c] 28) = w1 at HBK HS HB ⊢
  ((with_reducible refine (byte_calls _ _ _ _ _ x0 HS.out.1 (by omega)).mono ?_); rintro e w2 ⟨rfl, hW, hC⟩)
  have HS2 := Lib.hid (HS.out.step hW hC)
  have hbk2 := HS2.out.keeps HBK.out (Nat.le_refl _)
  have hc1 : w2.cell? ⟨w.heap.size, 1, none⟩ = some (.int .i64 x1) := by rw [blk_cell hbk2]; rfl
  have hc2 : w2.cell? ⟨w.heap.size, 2, none⟩ = some (.int .i64 x2) := by rw [blk_cell hbk2]; rfl
  have hc3 : w2.cell? ⟨w.heap.size, 3, none⟩ = some (.int .i64 x3) := by rw [blk_cell hbk2]; rfl
  have hc4 : w2.cell? ⟨w.heap.size, 4, none⟩ = some (.int .i64 x4) := by rw [blk_cell hbk2]; rfl
  clear hW hC HS hbk2
  go_wp2_with fail
  have hb3 := (Below.refl w2.heap.size w2).alloc (Nat.le_refl _) (.cells #[.int .i64 x1, .int .i64 x2, .int .i64 x3, .int .i64 x4] 3)
  have HK3 := Lib.hid (blk_new w2 (.cells #[.int .i64 x1, .int .i64 x2, .int .i64 x3, .int .i64 x4] 3))
  have HT3 := Lib.hid (St.begin HS2.out.1 hb3)
  have HB3 := Lib.hid hb3
  have HL3 : Hid (∀ z ∈ [x1, x2, x3, x4], I64 z) := Lib.hid (by simp only [List.mem_cons, List.not_mem_nil, or_false]; rintro z (rfl | rfl | rfl | rfl) <;> assumption)
  have hle3 := encAll_int_le [x1, x2, x3, x4] HL3.out
  have HLE3 := Lib.hid hle3
  clear hb3 hle3
  generalize w2.alloc (.cells #[.int .i64 x1, .int .i64 x2, .int .i64 x3, .int .i64 x4] 3) = w3 at HK3 HT3 HB3 ⊢
  go_loopw [21] (fun vi wr => ∃ i : Nat, vi = .int .i64 i ∧ i ≤ 4 ∧ Hid (St w3 wr w0.heap.size g (okF (okF ok w w1) w2 w3) ((xs ++ [x0]) ++ encAll encInt ([x1, x2, x3, x4].take i)))) (fun vi _ => 4 - (intOf vi).toNat)
  case atStart => exact ⟨0, rfl, by omega, Lib.hid (by simpa [encAll] using HT3.out)⟩
  case round =>
  obtain ⟨i, rfl, hi, HT⟩ := hrel
  by_cases hlt : i < 4
  · have hrk := HT.out.keeps HK3.out (Nat.le_refl _)
    have hcell : wr.cell? ⟨w2.heap.size, i, none⟩ = some (.int .i64 ([x1, x2, x3, x4].getD i 0)) := by rw [blk_cell hrk]; exact ints_get [x1, x2, x3, x4] _ rfl i hlt
    have hz := HL3.out ([x1, x2, x3, x4].getD i 0) (by rw [List.getD_eq_getElem?_getD, List.getElem?_eq_getElem (show i < [x1, x2, x3, x4].length from hlt)]; exact List.getElem_mem _)
    have hle := HLE3.out i
    have hsn := encAll_snoc encInt [x1, x2, x3, x4] i 0 hlt
    have HSN := Lib.hid hsn
    clear hrk hsn
    generalize hzz : [x1, x2, x3, x4].getD i 0 = z at hcell hz HSN
    clear hzz
    go_wp2_with fail
    ((with_reducible refine (int_calls _ _ _ _ _ z HT.out.1 (by simp only [List.length_append, List.length_cons, List.length_nil] at hle ⊢; omega) hz.1 hz.2).mono ?_); rintro e wq ⟨rfl, hW, hC⟩)
    have HT2 := Lib.hid (HT.out.step hW hC)
    clear hW hC
    go_wp2_with fail
    go_roundw
    case measure => simp [intOf]; omega
    case rel => exact ⟨i + 1, by go_num, by omega, Lib.hid (by have := HT2.out; rw [HSN.out, ← List.append_assoc]; exact this)⟩
  obtain rfl : i = 4 := by omega
  have HS3 : Hid (St w1 wr w0.heap.size g (okF ok w w1) ((xs ++ [x0]) ++ encAll encInt [x1, x2, x3, x4])) := Lib.hid (HS2.out.step (HT.out.final HB3.out).1 (HT.out.final HB3.out).2)
  have HLF3 := HLE3.out 4
  rw [show [x1, x2, x3, x4].take 4 = [x1, x2, x3, x4] from rfl] at HLF3
  clear HT hlt hi HK3 HT3 HB3 HLE3 HL3
  have hbk4 := HS3.out.keeps HBK.out (Nat.le_refl _)
  have hc5 : wr.cell? ⟨w.heap.size, 5, none⟩ = some (.slice A x5.length c) := by rw [blk_cell hbk4]; rfl
  clear hc1 hc2 hc3 hc4 hbk4
  have HBR := Lib.hid ((HB0.out.trans (HB.out.mono hbw)).trans (HS3.out.belowB HB.out hbw HOK.out))
  have HOK1 : Hid (∀ k, okF ok w w1 k → w0.heap.size ≤ k) := Lib.hid (fun k hk => by
    have := HB.out.size
    rcases hk with hk | hk
    · exact HOK.out k hk.1
    · omega)
  go_wp2_with fail
  ((with_reducible refine (puttexts_calls w0 _ _ _ _ _ _ x5 HS3.out.1 HOK1.out HBR.out HR.out h5.1 (by simp only [List.length_append, List.length_cons, List.length_nil] at HLF3 ⊢; omega) h5.2).mono ?_); rintro e w5 ⟨rfl, hW, hC⟩)
  have HS5 := Lib.hid (HS3.out.step hW hC)
  clear hW hC HS3
  go_wp2_with fail
  go_end0
  have := HS5.out.final HB.out
  refine ⟨rfl, ?_⟩
  unfold encCmd
  simp only [List.append_assoc, List.singleton_append] at this ⊢
  exact this

end Go.Proofs.Ytneebjlpeekmbaa
