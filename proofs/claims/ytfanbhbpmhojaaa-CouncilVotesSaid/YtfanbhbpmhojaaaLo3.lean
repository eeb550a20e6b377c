/- A council's state laid as bytes: Encode. Conditions: as told of a council's block; its numbers are in their kind's range. -/
import Derived.Test.YtfanbhbpmhojaaaLo2
namespace Go.Proofs.Ytfanbhbpmhojaaa
open Go.RowKit Go.Proofs.YtfanbhbpmhojaaaW.PrintWords Go.Proofs.YtfanbhbpmhojaaaW.PrintLast Go.Proofs.YtfanbhbpmhojaaaW.PrintMore PRef
attribute [local go_sem] max2_int min2_int max_two min_two
set_option linter.unusedVariables false
set_option linter.unusedSimpArgs false

/-- The bytes of a state. -/
def encSta (x : Sta) : List Int := encAll encInt [x.term, x.vote, x.idx, x.past] ++ encText x.vot ++ encText x.text ++ encNum x.log.length ++ encAll encEnt x.log
def St.sta (S : St) : Sta := ⟨S.term, S.vote, S.bidx, S.bterm, S.bvot, S.btext, S.log⟩
structure StaI (x : Sta) : Prop where
  t : I64 x.term
  v : I64 x.vote
  i : I64 x.idx
  p : I64 x.past
  vot : x.vot.size ≤ 2097152
  text : x.text.size ≤ 2097152
  log : x.log.length ≤ 4096
  ent : ∀ y ∈ x.log, I64 y.f0 ∧ I64 y.f1 ∧ y.f2.size ≤ 2097152
theorem ints4 (l : List Int) (h : ∀ x ∈ l, I64 x) (hl : l.length ≤ 4) (i : Nat) : (encAll encInt (l.take i)).length ≤ 44 := by
  have := encAll_int_le l h i
  omega

set_option maxRecDepth 100000 in
set_option maxHeartbeats 4000000 in
theorem encode_calls {w : World} {g : Nat} {S : St} (h : Co w g S) (hx : StaI S.sta) :
    Calls Try.prog 23 #[.pointer (some ⟨g, 0, none⟩)] w fun e w' => ∃ A c, e = .returned (.slice A (encSta S.sta).length c) ∧ (encSta S.sta).length ≤ c ∧ Hid (ReadsInt w' .u8 A (encSta S.sta).length (encSta S.sta)) ∧ Below w.heap.size w w' := by
  have hgl := h.lt
  have H := Lib.hid h
  have HX := Lib.hid hx
  have hcap := h.cap
  clear h hx
  have hi4 : Hid (∀ x ∈ [S.term, S.vote, S.bidx, S.bterm], I64 x) := Lib.hid (by
    intro x hx
    simp only [List.mem_cons, List.not_mem_nil, or_false] at hx
    rcases hx with rfl | rfl | rfl | rfl
    · exact HX.out.t
    · exact HX.out.v
    · exact HX.out.i
    · exact HX.out.p)
  have hl4 : Hid (∀ i, (encAll encInt ([S.term, S.vote, S.bidx, S.bterm].take i)).length ≤ 44) := Lib.hid (fun i => ints4 _ hi4.out (Nat.le_refl 4) i)
  have hvs : S.bvot.size ≤ 2097152 := HX.out.vot
  have hts : S.btext.size ≤ 2097152 := HX.out.text
  have hv := encText_length S.bvot (by omega)
  have ht := encText_length S.btext (by omega)
  have hent : ∀ y ∈ S.log, I64 y.f0 ∧ I64 y.f1 ∧ y.f2.size ≤ 2097152 := HX.out.ent
  have HENT := Lib.hid hent
  clear hent
  have hll : S.log.length ≤ 4096 := HX.out.log
  go_enter Try.func23, Try.ntmps23
  go_upto_region 4 with fail
  have hb1 := (Below.refl w.heap.size w).alloc (Nat.le_refl _) (.cells #[.slice none 0 0] 118)
  have HB1 := Lib.hid hb1
  have hk1 := blk_new w (.cells #[.slice none 0 0] 118)
  have HK1 := Lib.hid hk1
  have hs1 : (w.alloc (.cells #[.slice none 0 0] 118)).heap.size = w.heap.size + 1 := by simp
  clear hb1 hk1
  generalize w.alloc (.cells #[.slice none 0 0] 118) = w1 at HB1 HK1 hs1 ⊢
  have c1 := (H.out.below HB1.out).c1
  have c2 := (H.out.below HB1.out).c2
  have c3 := (H.out.below HB1.out).c3
  have c4 := (H.out.below HB1.out).c4
  have hgl1 := (H.out.below HB1.out).lt
  go_region
  clear c1 c2 c3 c4
  have hb2 := ((Below.refl w1.heap.size w1).alloc (Nat.le_refl _) (.cells #[.int .i64 S.term, .int .i64 S.vote, .int .i64 S.bidx, .int .i64 S.bterm] 3)).trans ((below_drew (Below.refl _ _)).mono ((Below.refl w1.heap.size w1).alloc (Nat.le_refl _) (.cells #[.int .i64 S.term, .int .i64 S.vote, .int .i64 S.bidx, .int .i64 S.bterm] 3)).size)
  have HK2 : Hid ((w1.alloc (.cells #[.int .i64 S.term, .int .i64 S.vote, .int .i64 S.bidx, .int .i64 S.bterm] 3)).drew.heap[w1.heap.size]? = some (.cells #[.int .i64 S.term, .int .i64 S.vote, .int .i64 S.bidx, .int .i64 S.bterm] 3 (0, 0))) := Lib.hid (blk_below (blk_new w1 (.cells #[.int .i64 S.term, .int .i64 S.vote, .int .i64 S.bidx, .int .i64 S.bterm] 3)) (below_drew (Below.refl _ _)))
  have HB2 := Lib.hid (HB1.out.trans (hb2.mono HB1.out.size))
  have HG2 := Lib.hid (blk_below HK1.out hb2)
  have hs2 : (w1.alloc (.cells #[.int .i64 S.term, .int .i64 S.vote, .int .i64 S.bidx, .int .i64 S.bterm] 3)).drew.heap.size = w.heap.size + 2 := by show (w1.alloc (.cells #[.int .i64 S.term, .int .i64 S.vote, .int .i64 S.bidx, .int .i64 S.bterm] 3)).heap.size = _; simp [hs1]
  clear hb2
  generalize (w1.alloc (.cells #[.int .i64 S.term, .int .i64 S.vote, .int .i64 S.bidx, .int .i64 S.bterm] 3)).drew = w2 at HB2 HK2 HG2 hs2 ⊢
  have HW2 : Hid (Wr w2 w.heap.size w.heap.size (fun k => k = w.heap.size ∨ w2.heap.size ≤ k) []) := Lib.hid ⟨Nat.le_refl _, .inl rfl, .slice none 0 0, HG2.out, own_nil _ _ _ _, fun k hk => by simp [Value.ownBlock] at hk⟩
  have hmor : Hid (∀ wr k, w2.heap.size ≤ wr.heap.size → more (fun k => k = w.heap.size ∨ w2.heap.size ≤ k) wr k → (k = w.heap.size ∨ w2.heap.size ≤ k)) := Lib.hid (fun wr k h1 h2 => by rcases h2 with h2 | h2; exact h2; exact .inr (by omega))
  have hbel : Hid (∀ wr, Chg (fun k => k = w.heap.size ∨ w2.heap.size ≤ k) w2 wr → Below w.heap.size w wr) := Lib.hid (fun wr hc => HB2.out.trans (hc.below HB2.out.size (fun i hi hk => by rcases hk with hk | hk <;> omega)))
  go_wp2_with fail
  go_loopw [30] (fun vi wr => ∃ i : Nat, vi = .int .i64 i ∧ i ≤ 4 ∧ Hid (Wr wr w.heap.size w.heap.size (fun k => k = w.heap.size ∨ w2.heap.size ≤ k) (encAll encInt ([S.term, S.vote, S.bidx, S.bterm].take i))) ∧ Hid (Chg (fun k => k = w.heap.size ∨ w2.heap.size ≤ k) w2 wr)) (fun vi _ => 4 - (intOf vi).toNat)
  case atStart => exact ⟨0, rfl, by omega, HW2, Lib.hid (Chg.refl _ _)⟩
  case round =>
  obtain ⟨i, rfl, hi, HW, HC⟩ := hrel
  by_cases hlt : i < 4
  · have HKr := Lib.hid (HC.out.get HK2.out (by omega))
    have hcell : wr.cell? ⟨w.heap.size + 1, i, none⟩ = some (.int .i64 ([S.term, S.vote, S.bidx, S.bterm].getD i 0)) := by
      rw [← hs1, blk_cell HKr.out]
      have : i = 0 ∨ i = 1 ∨ i = 2 ∨ i = 3 := by omega
      rcases this with rfl | rfl | rfl | rfl <;> rfl
    have hz : I64 ([S.term, S.vote, S.bidx, S.bterm].getD i 0) := hi4.out _ (by rw [List.getD_eq_getElem?_getD, List.getElem?_eq_getElem hlt]; exact List.getElem_mem _)
    have HEN : Hid (encAll encInt ([S.term, S.vote, S.bidx, S.bterm].take (i + 1)) = encAll encInt ([S.term, S.vote, S.bidx, S.bterm].take i) ++ encInt ([S.term, S.vote, S.bidx, S.bterm].getD i 0)) := Lib.hid (encAll_snoc encInt _ i 0 hlt)
    have hle := hl4.out i
    generalize encAll encInt ([S.term, S.vote, S.bidx, S.bterm].take i) = ys at HW HEN hle
    generalize [S.term, S.vote, S.bidx, S.bterm].getD i 0 = z at hcell hz HEN
    have hz0 := hz.1
    have hz1 := hz.2
    clear hz
    go_wp2_with fail
    ((with_reducible refine (int_calls wr w.heap.size w.heap.size _ ys z HW.out (by omega) hz0 hz1).mono ?_); rintro e wq ⟨rfl, hW, hC⟩; have HWq := Lib.hid (hW.mono (hmor.out wr · HC.out.size)); have HCq := Lib.hid (HC.out.trans hC (fun _ _ h => h)); clear hW hC)
    go_wp2_with fail
    go_roundw
    case measure => simp [intOf]; omega
    case rel => exact ⟨i + 1, by go_num, by omega, by rw [HEN.out]; exact HWq, HCq⟩
  obtain rfl : i = 4 := by omega
  have HW4 : Hid (Wr wr w.heap.size w.heap.size (fun k => k = w.heap.size ∨ w2.heap.size ≤ k) (encAll encInt [S.term, S.vote, S.bidx, S.bterm])) := HW
  have hle := hl4.out 4
  rw [show [S.term, S.vote, S.bidx, S.bterm].take 4 = [S.term, S.vote, S.bidx, S.bterm] from rfl] at hle
  obtain ⟨Y, hY⟩ : ∃ Y, Y = encAll encInt [S.term, S.vote, S.bidx, S.bterm] := ⟨_, rfl⟩
  rw [← hY] at HW4 hle
  have HY := Lib.hid hY
  clear hY hlt hi HW
  have HBr := Lib.hid (hbel.out wr HC.out)
  have c5 := (H.out.below HBr.out).c5
  have hglr := (H.out.below HBr.out).lt
  go_wp2_with fail
  ((with_reducible refine (text_calls wr w.heap.size w.heap.size _ Y S.bvot HW4.out (by omega) (by omega)).mono ?_); rintro e w5 ⟨rfl, hW, hC⟩; have HW5 := Lib.hid (hW.mono (hmor.out wr · HC.out.size)); have HC5 := Lib.hid (HC.out.trans hC (fun _ _ h => h)); clear hW hC HW4)
  have HB5 := Lib.hid (hbel.out w5 HC5.out)
  have c6 := (H.out.below HB5.out).c6
  have hgl5 := (H.out.below HB5.out).lt
  clear c5 hglr
  have hle5 : (Y ++ encText S.bvot).length ≤ 2097300 := by rw [List.length_append]; omega
  go_wp2_with fail
  ((with_reducible refine (text_calls w5 w.heap.size w.heap.size _ (Y ++ encText S.bvot) S.btext HW5.out (by omega) (by omega)).mono ?_); rintro e w6 ⟨rfl, hW, hC⟩; have HW6 := Lib.hid (hW.mono (hmor.out w5 · HC5.out.size)); have HC6 := Lib.hid (HC5.out.trans hC (fun _ _ h => h)); clear hW hC HW5)
  have HB6 := Lib.hid (hbel.out w6 HC6.out)
  have c7 := (H.out.below HB6.out).c7
  have hgl6 := (H.out.below HB6.out).lt
  clear c6 hgl5
  have hle6 : (Y ++ encText S.bvot ++ encText S.btext).length ≤ 5097300 := by rw [List.length_append]; omega
  go_wp2_with fail
  ((with_reducible refine (putent_calls w w6 w.heap.size (fun k => k = w.heap.size ∨ w2.heap.size ≤ k) (Y ++ encText S.bvot ++ encText S.btext) S.A S.cap S.log HW6.out (fun k hk => by rcases hk with hk | hk <;> omega) HB6.out ⟨H.out.row, H.out.cap⟩ (by omega) (by omega) HENT.out).mono ?_); rintro e w7 ⟨rfl, hW, hC⟩; have HW7 := Lib.hid (hW.mono (hmor.out w6 · HC6.out.size)); have HC7 := Lib.hid (HC6.out.trans hC (fun _ _ h => h)); clear hW hC HW6)
  have HB7 := Lib.hid (hbel.out w7 HC7.out)
  clear c7 hgl6
  have hln := encNum_length S.log.length (by omega)
  have hle7 : (encAll encEnt S.log).length ≤ 2097300 * S.log.length := encAll_le _ _ 2097300 (fun x hx => by have hz := HX.out.ent x hx; exact encEnt_length x hz.1 hz.2.1 hz.2.2)
  have HEQ : Hid (Y ++ encText S.bvot ++ encText S.btext ++ encNum S.log.length ++ encAll encEnt S.log = encSta S.sta) := Lib.hid (by rw [HY.out]; rfl)
  have hle8 : (encSta S.sta).length ≤ 140737488355328 := by rw [← HEQ.out, List.length_append, List.length_append]; omega
  rw [HEQ.out] at HW7
  clear hle7 hln
  go_wp2_with ((with_reducible refine (bytes_str_calls w7 w.heap.size w.heap.size _ (encSta S.sta) HW7.out (by omega)).mono ?_); rintro e w8 ⟨A8, c8, rfl, hl8, HR8, hb⟩; have HB8 := Lib.hid (HB7.out.trans (hb.mono HB7.out.size)); have HL8 := Lib.hid hl8; clear hb hl8)
  go_ret
  exact ⟨A8, c8, rfl, HL8.out, HR8, HB8.out⟩

end Go.Proofs.Ytfanbhbpmhojaaa
