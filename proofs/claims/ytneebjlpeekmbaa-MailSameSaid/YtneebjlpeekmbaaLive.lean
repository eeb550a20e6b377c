/- The document's examples hold (lives). No conditions. -/
import Derived.Test.YtneebjlpeekmbaaBack
import Derived.Test.YtneebjlpeekmbaaSameM
import Derived.Test.YtneebjlpeekmbaaKind
namespace Go.Proofs.Ytneebjlpeekmbaa
open Go.RowKit Go.Proofs.YtneebjlpeekmbaaW.PrintWords Go.Proofs.YtneebjlpeekmbaaW.PrintLast Go.Proofs.YtneebjlpeekmbaaW.PrintMore PRef
set_option linter.unusedVariables false
set_option linter.unusedSimpArgs false

theorem may0 : MayOk mail0 := ⟨⟨by decide, by decide⟩, by decide, ⟨by decide, fun s hs => by cases hs⟩, by decide, ⟨by decide, fun s hs => by cases hs⟩⟩
theorem mailI0 : MailI mail0 := by
  have z : I64 0 := ⟨by decide, by decide⟩
  exact ⟨z, z, z, z, ⟨z, z, z, z, z, z, z, z, z, z, z, z, fun r hr => by cases hr⟩, z, z, z, z, z, fun r hr => by cases hr⟩
theorem enc0_len : (encMail mail0).length ≤ 1048576 ∧ 0 < (encMail mail0).length := by decide +kernel
theorem enc0_calls (w : World) : Calls Try.prog 12 #[.agg #[.int .i64 0, .int .i64 0, .int .i64 0, .int .i64 0, .int .i64 0, .int .i64 0, .int .i64 0, .int .i64 0, .int .i64 0, .int .i64 0, .int .i64 0, .bool false, .int .i64 0, .int .i64 0, .int .i64 0, .int .i64 0, .int .i64 0, .slice none 0 0, .int .i64 0, .slice none 0 0, .bool false, .int .i64 0, .int .i64 0, .int .i64 0, .int .i64 0, .int .i64 0, .slice none 0 0, .string ⟨#[]⟩]] w fun e w' => ∃ A c, e = .returned (.tuple #[.slice A (frameL (encMail mail0)).length c, .int .i64 0]) ∧ (frameL (encMail mail0)).length ≤ c ∧ Hid (ReadsInt w' .u8 A (frameL (encMail mail0)).length (frameL (encMail mail0))) ∧ Below w.heap.size w w' := by
  have h := encode_calls w none none none 0 0 0 mail0 (inC_nil w) (inR_nil w) (inE_nil w) may0 mailI0
  refine (show Calls Try.prog 12 #[.agg #[.int .i64 0, .int .i64 0, .int .i64 0, .int .i64 0, .int .i64 0, .int .i64 0, .int .i64 0, .int .i64 0, .int .i64 0, .int .i64 0, .int .i64 0, .bool false, .int .i64 0, .int .i64 0, .int .i64 0, .int .i64 0, .int .i64 0, .slice none 0 0, .int .i64 0, .slice none 0 0, .bool false, .int .i64 0, .int .i64 0, .int .i64 0, .int .i64 0, .int .i64 0, .slice none 0 0, .string ⟨#[]⟩]] w (EncPost w (encMail mail0)) from h).mono ?_
  rintro e w' ⟨⟨v, rfl, ho, _⟩, hb⟩
  obtain ⟨A, c, rfl, hc, hr⟩ := (ho enc0_len.1).reads
  exact ⟨A, c, by rw [if_pos enc0_len.1], hc, Lib.hid hr, hb⟩
theorem dec0_calls (A : Option Addr) (c : Nat) (w : World) (hr : ReadsInt w .u8 A (frameL (encMail mail0)).length (frameL (encMail mail0))) (hc : (frameL (encMail mail0)).length ≤ c) :
    Calls Try.prog 14 #[.slice A (frameL (encMail mail0)).length c] w fun e w' => ∃ A1 c1 A2 c2 A3 c3, e = .returned (.tuple #[.agg #[.int .i64 0, .int .i64 0, .int .i64 0, .int .i64 0, .int .i64 0, .int .i64 0, .int .i64 0, .int .i64 0, .int .i64 0, .int .i64 0, .int .i64 0, .bool false, .int .i64 0, .int .i64 0, .int .i64 0, .int .i64 0, .int .i64 0, .slice A1 0 c1, .int .i64 0, .slice A2 0 c2, .bool false, .int .i64 0, .int .i64 0, .int .i64 0, .int .i64 0, .int .i64 0, .slice A3 0 c3, .string ⟨#[]⟩], .int .i64 0]) ∧ Hid (InC w' A1 c1 [] ∧ InR w' A2 c2 [] ∧ InE w' A3 c3 []) ∧ Below w.heap.size w w' := by
  obtain ⟨h0, hm⟩ := dec_enc mail0 mailI0 may0 enc0_len.1
  refine (decode_calls A _ c (frameL (encMail mail0)) w hr hc (frameL_bytes _ (encMail_bytes mail0 may0.op))).mono ?_
  rintro e w' ⟨A1, c1, A2, c2, A3, c3, rfl, r1, r2, r3, hb⟩
  rw [hm] at r1 r2 r3
  refine ⟨A1, c1, A2, c2, A3, c3, ?_, Lib.hid ⟨r1, r2, r3⟩, hb⟩
  rw [hm, h0]
  rfl
theorem same0_calls (A1 A2 A3 : Option Addr) (c1 c2 c3 : Nat) (w : World) (h1 : InC w A1 c1 []) (h2 : InR w A2 c2 []) (h3 : InE w A3 c3 []) :
    Calls Try.prog 20 #[.agg #[.int .i64 0, .int .i64 0, .int .i64 0, .int .i64 0, .int .i64 0, .int .i64 0, .int .i64 0, .int .i64 0, .int .i64 0, .int .i64 0, .int .i64 0, .bool false, .int .i64 0, .int .i64 0, .int .i64 0, .int .i64 0, .int .i64 0, .slice A1 0 c1, .int .i64 0, .slice A2 0 c2, .bool false, .int .i64 0, .int .i64 0, .int .i64 0, .int .i64 0, .int .i64 0, .slice A3 0 c3, .string ⟨#[]⟩], .agg #[.int .i64 0, .int .i64 0, .int .i64 0, .int .i64 0, .int .i64 0, .int .i64 0, .int .i64 0, .int .i64 0, .int .i64 0, .int .i64 0, .int .i64 0, .bool false, .int .i64 0, .int .i64 0, .int .i64 0, .int .i64 0, .int .i64 0, .slice none 0 0, .int .i64 0, .slice none 0 0, .bool false, .int .i64 0, .int .i64 0, .int .i64 0, .int .i64 0, .int .i64 0, .slice none 0 0, .string ⟨#[]⟩]] w fun e w' => e = .returned (.bool true) ∧ Below w.heap.size w w' :=
  mailsame_true mail0 h1 h2 h3 (inC_nil w) (inR_nil w) (inE_nil w)
theorem inC_any (w : World) (A : Option Addr) (c : Nat) : InC w A c [] := ⟨⟨rfl, by simp, fun h => absurd h (by simp)⟩, Nat.zero_le _⟩
theorem inR_any (w : World) (A : Option Addr) (c : Nat) : InR w A c [] := ⟨⟨rfl, by simp, fun h => absurd h (by simp)⟩, Nat.zero_le _⟩
theorem inE_any (w : World) (A : Option Addr) (c : Nat) : InE w A c [] := ⟨⟨rfl, by simp, fun h => absurd h (by simp)⟩, Nat.zero_le _⟩
theorem kw1 : kindWord 1 = ⟨#[112, 114, 101]⟩ := by decide +kernel
theorem kw10 : kindWord 10 = ⟨#[]⟩ := by decide +kernel

set_option maxRecDepth 100000 in
set_option maxHeartbeats 4000000 in
theorem lives_calls (w : World) : Calls Try.prog 11 #[] w fun e w' => e = .returned (.bool true) ∧ Below w.heap.size w w' := by
  have hlen : (frameL (encMail mail0)).length = (encMail mail0).length + 8 := frameL_length _
  have hpos := enc0_len
  generalize hF : frameL (encMail mail0) = F at hlen
  have HF := Lib.hid hF
  have hF8 : decide (8 < (F.length : Int)) = true := by rw [decide_eq_true_iff]; omega
  clear hF hlen hpos
  go_enter Try.func11, Try.ntmps11
  go_wp2_with fail
  ((with_reducible refine (enc0_calls w).mono ?_); rw [HF.out]; rintro e w1 ⟨A, c, rfl, hc, HR, hb⟩)
  have HB1 := Lib.hid hb
  clear hb
  go_wp2_with fail
  ((with_reducible refine (show Calls Try.prog 14 #[.slice A F.length c] w1 _ from by rw [← HF.out]; exact dec0_calls A c w1 (by rw [HF.out]; exact HR.out) (by rw [HF.out]; exact hc)).mono ?_); rintro e w2 ⟨A1, c1, A2, c2, A3, c3, rfl, HI, hb⟩)
  have HB2 := Lib.hid (HB1.out.trans (hb.mono HB1.out.size))
  have HBz := Lib.hid (blk_new w2 (.cells #[.int .i64 0, .int .i64 0, .int .i64 0, .int .i64 0, .int .i64 0, .int .i64 0, .int .i64 0, .int .i64 0, .int .i64 0, .int .i64 0, .int .i64 0, .bool false, .int .i64 0, .int .i64 0, .int .i64 0, .int .i64 0, .int .i64 0, .slice none 0 0, .int .i64 0, .slice none 0 0, .bool false, .int .i64 0, .int .i64 0, .int .i64 0, .int .i64 0, .int .i64 0, .slice none 0 0, .string ⟨#[]⟩] 34))
  have HB3 := Lib.hid (below_row (cs := #[.int .i64 0, .int .i64 0, .int .i64 0, .int .i64 0, .int .i64 0, .int .i64 0, .int .i64 0, .int .i64 0, .int .i64 0, .int .i64 0, .int .i64 0, .bool false, .int .i64 0, .int .i64 0, .int .i64 0, .int .i64 0, .int .i64 0, .slice A1 0 c1, .int .i64 0, .slice A2 0 c2, .bool false, .int .i64 0, .int .i64 0, .int .i64 0, .int .i64 0, .int .i64 0, .slice A3 0 c3, .string ⟨#[]⟩]) (HB2.out.alloc HB2.out.size (.cells #[.int .i64 0, .int .i64 0, .int .i64 0, .int .i64 0, .int .i64 0, .int .i64 0, .int .i64 0, .int .i64 0, .int .i64 0, .int .i64 0, .int .i64 0, .bool false, .int .i64 0, .int .i64 0, .int .i64 0, .int .i64 0, .int .i64 0, .slice none 0 0, .int .i64 0, .slice none 0 0, .bool false, .int .i64 0, .int .i64 0, .int .i64 0, .int .i64 0, .int .i64 0, .slice none 0 0, .string ⟨#[]⟩] 34)) HB2.out.size)
  have HBK := Lib.hid (setRow_heap (w2.alloc (.cells #[.int .i64 0, .int .i64 0, .int .i64 0, .int .i64 0, .int .i64 0, .int .i64 0, .int .i64 0, .int .i64 0, .int .i64 0, .int .i64 0, .int .i64 0, .bool false, .int .i64 0, .int .i64 0, .int .i64 0, .int .i64 0, .int .i64 0, .slice none 0 0, .int .i64 0, .slice none 0 0, .bool false, .int .i64 0, .int .i64 0, .int .i64 0, .int .i64 0, .int .i64 0, .slice none 0 0, .string ⟨#[]⟩] 34)) w2.heap.size #[.int .i64 0, .int .i64 0, .int .i64 0, .int .i64 0, .int .i64 0, .int .i64 0, .int .i64 0, .int .i64 0, .int .i64 0, .int .i64 0, .int .i64 0, .bool false, .int .i64 0, .int .i64 0, .int .i64 0, .int .i64 0, .int .i64 0, .slice none 0 0, .int .i64 0, .slice none 0 0, .bool false, .int .i64 0, .int .i64 0, .int .i64 0, .int .i64 0, .int .i64 0, .slice none 0 0, .string ⟨#[]⟩] #[.int .i64 0, .int .i64 0, .int .i64 0, .int .i64 0, .int .i64 0, .int .i64 0, .int .i64 0, .int .i64 0, .int .i64 0, .int .i64 0, .int .i64 0, .bool false, .int .i64 0, .int .i64 0, .int .i64 0, .int .i64 0, .int .i64 0, .slice A1 0 c1, .int .i64 0, .slice A2 0 c2, .bool false, .int .i64 0, .int .i64 0, .int .i64 0, .int .i64 0, .int .i64 0, .slice A3 0 c3, .string ⟨#[]⟩] 34 (0, 0) HBz.out)
  clear hb HI HB2
  go_upto_region 3 with (refine wpList_store_row rfl 34 (.tmp 3) (.tmp 13) rfl w2.heap.size #[.int .i64 0, .int .i64 0, .int .i64 0, .int .i64 0, .int .i64 0, .int .i64 0, .int .i64 0, .int .i64 0, .int .i64 0, .int .i64 0, .int .i64 0, .bool false, .int .i64 0, .int .i64 0, .int .i64 0, .int .i64 0, .int .i64 0, .slice A1 0 c1, .int .i64 0, .slice A2 0 c2, .bool false, .int .i64 0, .int .i64 0, .int .i64 0, .int .i64 0, .int .i64 0, .slice A3 0 c3, .string ⟨#[]⟩] rfl rfl 34 _ HBz.out inf34b rfl (by simp [Value.oneCell']) ?_)
  generalize (w2.alloc (.cells #[.int .i64 0, .int .i64 0, .int .i64 0, .int .i64 0, .int .i64 0, .int .i64 0, .int .i64 0, .int .i64 0, .int .i64 0, .int .i64 0, .int .i64 0, .bool false, .int .i64 0, .int .i64 0, .int .i64 0, .int .i64 0, .int .i64 0, .slice none 0 0, .int .i64 0, .slice none 0 0, .bool false, .int .i64 0, .int .i64 0, .int .i64 0, .int .i64 0, .int .i64 0, .slice none 0 0, .string ⟨#[]⟩] 34)).setRow w2.heap.size #[.int .i64 0, .int .i64 0, .int .i64 0, .int .i64 0, .int .i64 0, .int .i64 0, .int .i64 0, .int .i64 0, .int .i64 0, .int .i64 0, .int .i64 0, .bool false, .int .i64 0, .int .i64 0, .int .i64 0, .int .i64 0, .int .i64 0, .slice A1 0 c1, .int .i64 0, .slice A2 0 c2, .bool false, .int .i64 0, .int .i64 0, .int .i64 0, .int .i64 0, .int .i64 0, .slice A3 0 c3, .string ⟨#[]⟩] = w3 at HB3 HBK ⊢
  go_wp2_with (first | (refine gate_guard (by rfl) ?_; dsimp only; refine wpList_load_row rfl 34 (.tmp 3) rfl w2.heap.size rfl 34 #[.int .i64 0, .int .i64 0, .int .i64 0, .int .i64 0, .int .i64 0, .int .i64 0, .int .i64 0, .int .i64 0, .int .i64 0, .int .i64 0, .int .i64 0, .bool false, .int .i64 0, .int .i64 0, .int .i64 0, .int .i64 0, .int .i64 0, .slice A1 0 c1, .int .i64 0, .slice A2 0 c2, .bool false, .int .i64 0, .int .i64 0, .int .i64 0, .int .i64 0, .int .i64 0, .slice A3 0 c3, .string ⟨#[]⟩] (0, 0) _ HBK.out Try.underlying34 rfl inf34b ?_) | ((with_reducible refine (same0_calls A1 A2 A3 c1 c2 c3 _ (inC_any _ _ _) (inR_any _ _ _) (inE_any _ _ _)).mono ?_); rintro e w4 ⟨rfl, hb⟩; have HB4 := Lib.hid (HB3.out.trans (hb.mono HB3.out.size)); clear hb) | ((with_reducible refine (kind_calls 1 _).mono ?_); rw [kw1]; rintro e w5 ⟨rfl, hb⟩; have HB5 := Lib.hid (HB4.out.trans (hb.mono HB4.out.size)); clear hb) | ((with_reducible refine (kind_calls 10 _).mono ?_); rw [kw10]; rintro e w6 ⟨rfl, hb⟩; have HB6 := Lib.hid (HB5.out.trans (hb.mono HB5.out.size)); clear hb))
  go_ret
  exact ⟨rfl, HB6.out⟩

end Go.Proofs.Ytneebjlpeekmbaa
