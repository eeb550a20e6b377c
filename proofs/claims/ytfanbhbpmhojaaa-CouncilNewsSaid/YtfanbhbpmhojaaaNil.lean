/- No council at all: what the nil receiver's methods answer. No conditions. -/
import Derived.Test.YtfanbhbpmhojaaaCoG
namespace Go.Proofs.Ytfanbhbpmhojaaa
open Go.RowKit Go.Proofs.YtfanbhbpmhojaaaW.PrintWords Go.Proofs.YtfanbhbpmhojaaaW.PrintLast Go.Proofs.YtfanbhbpmhojaaaW.PrintMore PRef
attribute [local go_sem] max2_int min2_int max_two min_two
set_option linter.unusedVariables false
set_option linter.unusedSimpArgs false

theorem nil_leader (w : World) : Calls Try.prog 28 #[.pointer none] w fun e w' => e = .returned (.int .i64 (-1)) ∧ w = w' := by
  go_enter Try.func28, Try.ntmps28
  go_wp2_with fail
  go_ret
  exact ⟨rfl, rfl⟩
theorem nil_leads (w : World) : Calls Try.prog 13 #[.pointer none] w fun e w' => e = .returned (.bool false) ∧ w = w' := by
  go_enter Try.func13, Try.ntmps13
  go_wp2_with fail
  go_ret
  exact ⟨rfl, rfl⟩
theorem nil_last (w : World) : Calls Try.prog 17 #[.pointer none] w fun e w' => e = .returned (.int .i64 0) ∧ w = w' := by
  go_enter Try.func17, Try.ntmps17
  go_wp2_with fail
  go_ret
  exact ⟨rfl, rfl⟩
theorem nil_told (w : World) : Calls Try.prog 14 #[.pointer none] w fun e w' => e = .returned (.int .i64 0) ∧ w = w' := by
  go_enter Try.func14, Try.ntmps14
  go_wp2_with fail
  go_ret
  exact ⟨rfl, rfl⟩
theorem nil_term (w : World) : Calls Try.prog 24 #[.pointer none] w fun e w' => e = .returned (.int .i64 0) ∧ w = w' := by
  go_enter Try.func24, Try.ntmps24
  go_wp2_with fail
  go_ret
  exact ⟨rfl, rfl⟩
theorem nil_voters (w : World) : Calls Try.prog 26 #[.pointer none] w fun e w' => e = .returned (.slice none 0 0) ∧ w = w' := by
  go_enter Try.func26, Try.ntmps26
  go_wp2_with fail
  go_ret
  exact ⟨rfl, rfl⟩
theorem nil_encode (w : World) : Calls Try.prog 23 #[.pointer none] w fun e w' => e = .returned (.slice none 0 0) ∧ w = w' := by
  go_enter Try.func23, Try.ntmps23
  go_wp2_with fail
  go_ret
  exact ⟨rfl, rfl⟩

set_option maxRecDepth 100000 in
theorem nil_tick (w : World) : Calls Try.prog 12 #[.pointer none] w fun e w' => e = .returned noWord ∧ Below w.heap.size w w' := by
  have hbk := blk_new w (.cells #[.bool false, .slice none 0 0, .slice none 0 0] 32)
  have HB1 := Lib.hid ((Below.refl w.heap.size w).alloc (Nat.le_refl _) (.cells #[.bool false, .slice none 0 0, .slice none 0 0] 32))
  have HBK := Lib.hid hbk
  clear hbk
  go_enter Try.func12, Try.ntmps12
  go_wp2_with (refine wpList_store_row rfl 32 (.tmp 2) (.tmp 5) rfl w.heap.size #[.bool false, .slice none 0 0, .slice none 0 0] rfl rfl 32 _ HBK.out inf32 rfl (by simp [Value.oneCell']) ?_)
  (try simp only [Exit.inBlock, Exit.then])
  refine bodyPost_ret (results_cell_row rfl _ _ w.heap.size 32 _ (0, 0) _ rfl (setRow_heap _ _ _ _ _ _ HBK.out) Try.underlying32 rfl inf32) rfl ?_
  exact ⟨rfl, below_row HB1.out (Nat.le_refl _)⟩

set_option maxRecDepth 100000 in
theorem nil_offer (w : World) (k : Int) (s : ByteArray) : Calls Try.prog 11 #[.pointer none, .int .i64 k, .string s] w fun e w' => e = .returned (.tuple #[noWord, .int .i64 8]) ∧ Below w.heap.size w w' := by
  have HBK := Lib.hid (blk_new w (.cells #[.bool false, .slice none 0 0, .slice none 0 0] 32))
  have HB1 := Lib.hid ((Below.refl w.heap.size w).alloc (Nat.le_refl _) (.cells #[.bool false, .slice none 0 0, .slice none 0 0] 32))
  go_enter Try.func11, Try.ntmps11
  go_wp2_with fail
  (try simp only [Exit.inBlock, Exit.then])
  refine bodyPost_ret (ret_word rfl _ _ w.heap.size 32 _ rfl HBK.out inf32) rfl ?_
  exact ⟨rfl, HB1.out⟩

set_option maxRecDepth 100000 in
theorem nil_compact (w : World) (k : Int) (s : ByteArray) : Calls Try.prog 16 #[.pointer none, .int .i64 k, .string s] w fun e w' => e = .returned (.tuple #[noWord, .int .i64 8]) ∧ Below w.heap.size w w' := by
  have HBK := Lib.hid (blk_new w (.cells #[.bool false, .slice none 0 0, .slice none 0 0] 32))
  have HB1 := Lib.hid ((Below.refl w.heap.size w).alloc (Nat.le_refl _) (.cells #[.bool false, .slice none 0 0, .slice none 0 0] 32))
  go_enter Try.func16, Try.ntmps16
  go_wp2_with fail
  (try simp only [Exit.inBlock, Exit.then])
  refine bodyPost_ret (ret_word rfl _ _ w.heap.size 32 _ rfl HBK.out inf32) rfl ?_
  exact ⟨rfl, HB1.out⟩

set_option maxRecDepth 100000 in
theorem new_bad {w : World} {A : Option Addr} {c : Nat} {l : List Int} (self : Int) (n : Nat) (text : ByteArray) (hr : Kd.C (Kd.int .i64) w A l.length l) (hc : l.length ≤ c) (hf : council_textOf.f n l = some text) (hv : ¬ 0 < (votV text).length) (hs : text.size ≤ 9223372036854775807) :
    Calls Try.prog 10 #[.int .i64 self, .slice A l.length c] w fun e w' => e = .returned (.tuple #[.pointer none, .int .i64 1]) ∧ Below w.heap.size w w' := by
  have HTX := Lib.hid (council_textOf.calls n A c l text w hr hc hf)
  have hvd : decide (0 < (votV text).length) = false := decide_eq_false hv
  have HV := fun W => Lib.hid (voters_calls text W hs)
  rw [hvd] at HV
  clear hr hc hf hv hvd hs
  go_enter Try.func10, Try.ntmps10
  go_wp2_with (first | ((with_reducible refine HTX.out.mono ?_); rintro e w1 ⟨rfl, hb⟩; have HB1 := Lib.hid hb; clear hb) | ((with_reducible refine (HV _).out.mono ?_); rintro e w2 ⟨v, rfl, ho, hb⟩; have HB2 := Lib.hid (HB1.out.trans (hb.mono HB1.out.size)); clear ho hb))
  go_ret2
  exact ⟨rfl, HB2.out⟩

set_option maxRecDepth 100000 in
theorem new_self {w : World} {A : Option Addr} {c : Nat} {l : List Int} (self : Int) (n : Nat) (text : ByteArray) (hr : Kd.C (Kd.int .i64) w A l.length l) (hc : l.length ≤ c) (hf : council_textOf.f n l = some text) (hv : 0 < (votV text).length) (hs : text.size ≤ 9223372036854775807) (h0 : council_isNode.f self = some false) :
    Calls Try.prog 10 #[.int .i64 self, .slice A l.length c] w fun e w' => e = .returned (.tuple #[.pointer none, .int .i64 1]) ∧ Below w.heap.size w w' := by
  have HTX := Lib.hid (council_textOf.calls n A c l text w hr hc hf)
  have hvd : decide (0 < (votV text).length) = true := decide_eq_true hv
  have HV := fun W => Lib.hid (voters_calls text W hs)
  have HN := fun W => Lib.hid (council_isNode.calls self false W h0)
  rw [hvd] at HV
  clear hr hc hf hv hvd hs
  go_enter Try.func10, Try.ntmps10
  go_wp2_with (first | ((with_reducible refine HTX.out.mono ?_); rintro e w1 ⟨rfl, hb⟩; have HB1 := Lib.hid hb; clear hb) | ((with_reducible refine (HV _).out.mono ?_); rintro e w2 ⟨v, rfl, ho, hb⟩; have HB2 := Lib.hid (HB1.out.trans (hb.mono HB1.out.size)); clear ho hb) | ((with_reducible refine (HN _).out.mono ?_); rintro e w3 ⟨rfl, hb⟩; have HB3 := Lib.hid (HB2.out.trans (hb.below.mono HB2.out.size)); clear hb))
  go_ret2
  exact ⟨rfl, HB3.out⟩

end Go.Proofs.Ytfanbhbpmhojaaa
