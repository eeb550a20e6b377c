/- The walk of the law OctetCuts: it returns true, and writes nothing that was there. Conditions: the kinds' ranges. -/
import Derived.Test.YthobpcbiaimccaaBack
import Derived.Test.YthobpcbiaimccaaLawOnlyW
namespace Go.Proofs.Ythobpcbiaimccaa
open Go.RowKit Go.Proofs.YthobpcbiaimccaaW.PrintWords Go.Proofs.YthobpcbiaimccaaW.PrintLast Go.Proofs.YthobpcbiaimccaaW.PrintMore PRef
set_option linter.unusedVariables false
set_option linter.unusedSimpArgs false

theorem encText_bytes (s : ByteArray) : IsBytes (encText s) := (encNum_bytes _).append (isBytes_of s)
theorem encAll_bytes {α : Type} (f : α → List Int) (l : List α) (h : ∀ x ∈ l, IsBytes (f x)) : IsBytes (encAll f l) := by
  intro y hy
  unfold encAll at hy
  rw [List.mem_flatten] at hy
  obtain ⟨z, hz, hy⟩ := hy
  rw [List.mem_map] at hz
  obtain ⟨x, hx, rfl⟩ := hz
  exact h x hx y hy

set_option maxRecDepth 100000 in
set_option maxHeartbeats 4000000 in
theorem cuts_law (A : Option Addr) (n c : Nat) (ss : List ByteArray) (at_ : Nat) (w : World) (hr : ReadsOf Value.string ByteArray.empty w A n ss) (hs : ∀ s ∈ ss, s.size ≤ 9223372036854775807) (hat : at_ < 18446744073709551616) :
    Calls Try.prog 14 #[.slice A n c, .int .u64 at_] w fun e w' => e = .returned (.bool true) ∧ Below w.heap.size w w' := by
  have hln := hr.1
  have hl63 := hr.2.1
  subst hln
  have HR := Lib.hid hr
  have HS := Lib.hid hs
  clear hr hs
  by_cases hbig : 200 < ss.length
  · go_enter Try.func14, Try.ntmps14
    go_wp2_with ((with_reducible refine (lives_calls _).mono ?_); rintro e w6 ⟨rfl, hb6⟩)
    go_ret
    exact ⟨rfl, hb6⟩
  · go_enter Try.func14, Try.ntmps14
    go_wp2_with fail
    go_loopw [18] (fun vi wr => ∃ i : Nat, vi = .int .i64 i ∧ i ≤ ss.length ∧ w = wr ∧ Hid (∀ j, j < i → (ss.getD j ByteArray.empty).size ≤ 1000)) (fun vi _ => ss.length - (intOf vi).toNat)
    case atStart => exact ⟨0, rfl, by omega, rfl, Lib.hid (fun j hj => by omega)⟩
    case round =>
      obtain ⟨i, rfl, hi, rfl, HI⟩ := hrel
      by_cases hlt : i < ss.length
      · obtain ⟨ad, rfl, hcell⟩ := HR.out.at_ (i : Int) (by omega) (by omega)
        rw [Int.toNat_natCast] at hcell
        have hrd : rdOf ByteArray.empty ss (i : Int) = ss.getD i ByteArray.empty := by unfold rdOf; rw [Int.toNat_natCast]
        rw [hrd] at hcell
        have hsz := HS.out (ss.getD i ByteArray.empty) (by rw [List.getD_eq_getElem?_getD, List.getElem?_eq_getElem hlt]; exact List.getElem_mem hlt)
        obtain ⟨q, hq⟩ : ∃ q, q = ss.getD i ByteArray.empty := ⟨_, rfl⟩
        rw [← hq] at hcell hsz
        have HQ := Lib.hid hq
        clear hq hrd
        by_cases hq1 : 1000 < q.size
        · go_wp2_with ((with_reducible refine (lives_calls _).mono ?_); rintro e w6 ⟨rfl, hb6⟩)
          go_ret
          exact ⟨rfl, hb6⟩
        · go_wp2_with fail
          go_roundw
          case measure => simp [intOf]; omega
          case rel =>
            refine ⟨i + 1, by go_num, by omega, by trivial, Lib.hid (fun j hj => ?_)⟩
            by_cases hji : j = i
            · rw [hji, ← HQ.out]; omega
            · exact HI.out j (by omega)
      · obtain rfl : i = ss.length := by omega
        have HS1 : Hid (∀ s ∈ ss, s.size ≤ 1000) := Lib.hid (fun s hs => by
          obtain ⟨j, hj, rfl⟩ := List.getElem_of_mem hs
          have := HI.out j hj
          rw [List.getD_eq_getElem?_getD, List.getElem?_eq_getElem hj] at this
          exact this)
        have HW0 := Lib.hid (wr_new w)
        have HBA := Lib.hid ((Below.refl w.heap.size w).alloc (Nat.le_refl _) (.cells #[.slice none 0 0] 41))
        clear hlt hi HI
        go_wp2_with fail
        generalize w.alloc (.cells #[.slice none 0 0] 41) = wA at HW0 HBA ⊢
        ((with_reducible refine (puttext_calls w _ _ _ _ _ ss HW0.out HR.out (by omega) (by simp) HS1.out HBA.out).mono ?_); rintro e w1 ⟨rfl, hW, hB⟩)
        rw [List.nil_append] at hW
        have HW1 := Lib.hid hW
        have HB1 := Lib.hid hB
        have hxl : (encNum ss.length ++ encAll encText ss).length ≤ 210010 := by
          have h1 := encNum_length ss.length (by omega)
          have h2 := encAll_le encText ss 1010 (fun x hx => by have := encText_length x (by have := HS1.out x hx; omega); have := HS1.out x hx; omega)
          rw [List.length_append]
          omega
        have HX : Hid (IsBytes (encNum ss.length ++ encAll encText ss)) := Lib.hid ((encNum_bytes _).append (encAll_bytes _ _ (fun x _ => encText_bytes x)))
        have HP : Hid (∀ k, k < (encNum ss.length ++ encAll encText ss).length → getR ((encNum ss.length ++ encAll encText ss).take k) (textS ((encNum ss.length ++ encAll encText ss).take k)) (some 0) = ([], none)) := Lib.hid (fun k hk => cuts_plain ss k (by omega) HS1.out hk)
        clear hW hB HW0 HBA
        generalize encNum ss.length ++ encAll encText ss = us at HW1 hxl HX HP
        go_wp2_with fail
        ((with_reducible refine (bytes_str_calls _ _ _ _ us HW1.out (by omega)).mono ?_); rintro e w2 ⟨B, d, rfl, hd, HU, hb⟩)
        have HB2 := Lib.hid (HB1.out.trans (hb.mono HB1.out.size))
        clear hb
        obtain ⟨k, hkk⟩ : ∃ k : Nat, k = at_ % (us.length + 1) := ⟨_, rfl⟩
        have hklt : k < us.length + 1 := by rw [hkk]; exact Nat.mod_lt _ (by omega)
        have hke : ((at_ : Int) % ((us.length : Int) + 1)) = (k : Int) := by rw [hkk]; simp
        clear hkk
        by_cases hkl : k = us.length
        · have hkb : ((k : Int) == (us.length : Int)) = true := by rw [hkl]; simp
          go_wp2_with ((with_reducible refine (lives_calls _).mono ?_); rintro e w6 ⟨rfl, hb6⟩)
          go_ret
          exact ⟨rfl, HB2.out.trans (hb6.mono HB2.out.size)⟩
        · have hkb : ((k : Int) == (us.length : Int)) = false := by rw [beq_eq_false_iff_ne]; omega
          obtain ⟨i0, hi, hzz⟩ := Option.map_eq_some_iff.1 info5
          have hcut := cut_to (P := Try.prog) 31 5 .i64 Try.underlying31 hi B us.length d (k : Int) (by omega) (by omega) hd
          rw [Int.toNat_natCast] at hcut
          have hkl2 : (us.take k).length = k := by rw [List.length_take]; omega
          have HUk : Hid (ReadsInt w2 .u8 B (us.take k).length (us.take k)) := Lib.hid (by rw [hkl2]; exact HU.out.take_ k (by omega))
          rw [← hkl2] at hcut
          have HG := Lib.hid (HP.out k (by omega))
          have HXk := Lib.hid (HX.out.take k)
          clear hi hzz
          go_wp2_with fail
          have hnew := reader_new B d (us.take k) w2 HUk.out (by omega) HXk.out (by omega)
          rw [hkl2] at hnew
          ((with_reducible refine hnew.mono ?_); rintro e w3 ⟨g, A1, d1, rfl, hg, HRd, HBr⟩)
          have HB3 := Lib.hid (HB2.out.trans (HBr.out.mono HB2.out.size))
          have hgw : w.heap.size ≤ g := Nat.le_trans HB2.out.size hg
          clear HBr hnew hkl2 hcut HUk HXk
          generalize us.take k = ys at HRd HG
          go_wp2_with fail
          ((with_reducible refine (gettext_calls HRd.out).mono ?_); rintro e w4 ⟨v, rfl, ho, hr, hc⟩)
          rw [HG.out] at ho hr
          obtain ⟨B2, d2, rfl, hd2, _⟩ := ho.reads
          have HB4 := Lib.hid (hc.reader HB3.out hgw)
          have HR4 := Lib.hid hr
          have hlf : ((leftR ys none : Nat) : Int) = 0 := by simp [leftR]
          have HLF := Lib.hid hlf
          clear ho hr hc hlf
          rw [List.length_nil]
          go_wp2_with fail
          ((with_reducible refine (bad_calls HR4.out).mono ?_); rintro e w' ⟨rfl, rfl⟩)
          go_wp2_with fail
          ((with_reducible refine (end_calls HR4.out).mono ?_); rintro e w5 ⟨rfl, hb⟩)
          have HR5 := Lib.hid (HR4.out.below hb)
          have HB5 := Lib.hid (HB4.out.trans (hb.mono HB4.out.size))
          clear hb
          go_wp2_with fail
          ((with_reducible refine (left_calls HR5.out).mono ?_); rw [HLF.out]; rintro e w6 ⟨rfl, hb⟩)
          have HR6 := Lib.hid (HR5.out.below hb)
          have HB6 := Lib.hid (HB5.out.trans (hb.mono HB5.out.size))
          clear hb
          go_wp2_with fail
          ((with_reducible refine (rdnum_calls HR6.out).mono ?_); rintro e w7 ⟨rfl, hr, hc⟩)
          have HR7 := Lib.hid (show Rd w7 _ g A1 d1 ys none from hr)
          have HB7 := Lib.hid (hc.reader HB6.out hgw)
          clear hr hc
          rw [show (numR ys none).1 = 0 from rfl]
          go_wp2_with fail
          ((with_reducible refine (rdint_calls HR7.out).mono ?_); rintro e w8 ⟨rfl, hr, hc⟩)
          have HR8 := Lib.hid (show Rd w8 _ g A1 d1 ys none from hr)
          have HB8 := Lib.hid (hc.reader HB7.out hgw)
          clear hr hc
          rw [show (intR ys none).1 = 0 from rfl]
          go_wp2_with fail
          ((with_reducible refine (rdtext_calls HR8.out).mono ?_); rintro e w9 ⟨rfl, hr, hc⟩)
          have HR9 := Lib.hid (show Rd w9 _ g A1 d1 ys none from hr)
          have HB9 := Lib.hid (hc.reader HB8.out hgw)
          clear hr hc
          rw [show strOfNums (textR ys none).1 = ⟨#[]⟩ from rfl]
          go_wp2_with fail
          ((with_reducible refine (rdbool_calls HR9.out).mono ?_); rintro e wA ⟨rfl, hr, hc⟩)
          have HRA := Lib.hid (show Rd wA _ g A1 d1 ys none from hr)
          have HBA := Lib.hid (hc.reader HB9.out hgw)
          clear hr hc
          rw [show (boolR ys none).1 = false from rfl]
          go_wp2_with fail
          ((with_reducible refine (rdbyte_calls HRA.out).mono ?_); rintro e wB ⟨rfl, hr, hc⟩)
          have HBB := Lib.hid (hc.reader HBA.out hgw)
          clear hr hc
          rw [show (byteR ys none).1 = 0 from rfl]
          go_wp2_with ((with_reducible refine (lives_calls _).mono ?_); rintro e wC ⟨rfl, hb6⟩)
          go_ret
          exact ⟨rfl, HBB.out.trans (hb6.mono HBB.out.size)⟩

end Go.Proofs.Ythobpcbiaimccaa
