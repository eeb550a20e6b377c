/- The walk of the law OctetRows: it returns true, and writes nothing that was there. Conditions: the kinds' ranges. -/
import Derived.Test.YthobpcbiaimccaaLawCutsW
namespace Go.Proofs.Ythobpcbiaimccaa
open Go.RowKit Go.Proofs.YthobpcbiaimccaaW.PrintWords Go.Proofs.YthobpcbiaimccaaW.PrintLast Go.Proofs.YthobpcbiaimccaaW.PrintMore PRef
set_option linter.unusedVariables false
set_option linter.unusedSimpArgs false

theorem OwnU.chg {w w1 : World} {base g : Nat} {v : Value} {xs : List Int} (h : OwnU w base v xs) (hc : Chg (fun k => k = g) w w1) (hg : g < base) : OwnU w1 base v xs := own_move h (fun k hk => hc.block k (own_lt h k hk) (by have := own_base h k hk; omega))
theorem OwnI.chg {w w1 : World} {base g : Nat} {v : Value} {xs : List Int} (h : OwnI w base v xs) (hc : Chg (fun k => k = g) w w1) (hg : g < base) : OwnI w1 base v xs := own_move h (fun k hk => hc.block k (own_lt h k hk) (by have := own_base h k hk; omega))

/-- The bytes of three rows. -/
def rowsL (ns is : List Int) (ss : List ByteArray) : List Int := (encNum ns.length ++ encAll (fun n : Int => encNum n.toNat) ns) ++ encNum is.length ++ encAll encInt is ++ encNum ss.length ++ encAll encText ss
theorem encNum_pos (n : Nat) : 0 < (encNum n).length := by unfold encNum; simp
theorem rows_plain (ns is : List Int) (ss : List ByteArray) (h1 : ns.length ≤ 200) (h2 : is.length ≤ 200) (h3 : ss.length ≤ 200) (hn : ∀ x ∈ ns, 0 ≤ x ∧ x < 18446744073709551616) (hi : ∀ x ∈ is, -9223372036854775808 ≤ x ∧ x ≤ 9223372036854775807) (hs : ∀ s ∈ ss, s.size ≤ 1000) :
    ∃ a b, getR (rowsL ns is ss) (numI (rowsL ns is ss)) (some 0) = (ns, some a) ∧ getR (rowsL ns is ss) (intR (rowsL ns is ss)) (some a) = (is, some b) ∧ getR (rowsL ns is ss) (textS (rowsL ns is ss)) (some b) = (ss, some (rowsL ns is ss).length) := by
  obtain ⟨us, hu⟩ : ∃ us, us = rowsL ns is ss := ⟨_, rfl⟩
  rw [← hu]
  have d1 : us.drop 0 = encNum ns.length ++ encAll (fun n : Int => encNum n.toNat) ns ++ (encNum is.length ++ encAll encInt is ++ (encNum ss.length ++ encAll encText ss)) := by
    rw [List.drop_zero, hu]; unfold rowsL; simp only [List.append_assoc]
  have g1 := getR_at (xs := us) (numI us) (fun n : Int => encNum n.toNat) ns 0 _ h1 d1 (fun x hx a r h => by
    have := hn x hx
    have e := numR_at (xs := us) (m := x.toNat) (by omega) h
    unfold numI
    rw [e]
    dsimp only
    rw [Int.toNat_of_nonneg this.1]) (fun x hx => encNum_pos _)
  have d2 := drop_more d1
  have g2 := getR_at (xs := us) (intR us) encInt is _ _ h2 d2 (fun x hx a r h => intR_at (hi x hx).1 (hi x hx).2 h) (fun x hx => by unfold encInt; split <;> simp)
  have d3 := drop_more d2
  rw [← List.append_nil (encNum ss.length ++ encAll encText ss)] at d3
  have g3 := getR_at (xs := us) (textS us) encText ss _ _ h3 d3 (fun x hx a r h => textS_at (hs x hx) h) (fun x hx => by unfold encText; rw [List.length_append]; have := encNum_pos x.size; omega)
  refine ⟨_, _, g1, g2, ?_⟩
  rw [g3]
  congr 2
  rw [hu]
  unfold rowsL
  simp only [List.length_append]
  omega

set_option maxRecDepth 100000 in
set_option maxHeartbeats 8000000 in
theorem rows_law (A B C : Option Addr) (n1 c1 n2 c2 n3 c3 : Nat) (ns is : List Int) (ss : List ByteArray) (w : World) (hr1 : ReadsInt w .u64 A n1 ns) (hr2 : ReadsInt w .i64 B n2 is) (hr3 : ReadsOf Value.string ByteArray.empty w C n3 ss) (hn : ∀ x ∈ ns, 0 ≤ x ∧ x < 18446744073709551616) (hi : ∀ x ∈ is, -9223372036854775808 ≤ x ∧ x ≤ 9223372036854775807) (hs : ∀ s ∈ ss, s.size ≤ 9223372036854775807) :
    Calls Try.prog 13 #[.slice A n1 c1, .slice B n2 c2, .slice C n3 c3] w fun e w' => e = .returned (.bool true) ∧ Below w.heap.size w w' := by
  have hl1 := hr1.1
  have hl2 := hr2.1
  have hl3 := hr3.1
  have hm1 := hr1.2.1
  have hm2 := hr2.2.1
  have hm3 := hr3.2.1
  subst hl1 hl2 hl3
  have HR1 := Lib.hid hr1
  have HR2 := Lib.hid hr2
  have HR3 := Lib.hid hr3
  have HN := Lib.hid hn
  have HI := Lib.hid hi
  have HS := Lib.hid hs
  clear hr1 hr2 hr3 hn hi hs
  by_cases hb1 : 200 < ns.length
  · go_enter Try.func13, Try.ntmps13
    go_wp2_with ((with_reducible refine (lives_calls _).mono ?_); rintro e w6 ⟨rfl, hb6⟩)
    go_ret
    exact ⟨rfl, hb6⟩
  by_cases hb2 : 200 < is.length
  · go_enter Try.func13, Try.ntmps13
    go_wp2_with ((with_reducible refine (lives_calls _).mono ?_); rintro e w6 ⟨rfl, hb6⟩)
    go_ret
    exact ⟨rfl, hb6⟩
  by_cases hb3 : 200 < ss.length
  · go_enter Try.func13, Try.ntmps13
    go_wp2_with ((with_reducible refine (lives_calls _).mono ?_); rintro e w6 ⟨rfl, hb6⟩)
    go_ret
    exact ⟨rfl, hb6⟩
  go_enter Try.func13, Try.ntmps13
  go_wp2_with fail
  go_loopw [33] (fun vi wr => ∃ i : Nat, vi = .int .i64 i ∧ i ≤ ss.length ∧ w = wr ∧ Hid (∀ j, j < i → (ss.getD j ByteArray.empty).size ≤ 1000)) (fun vi _ => ss.length - (intOf vi).toNat)
  case atStart => exact ⟨0, rfl, by omega, rfl, Lib.hid (fun j hj => by omega)⟩
  case round =>
    obtain ⟨i, rfl, hi, rfl, HJ⟩ := hrel
    by_cases hlt : i < ss.length
    · obtain ⟨ad, rfl, hcell⟩ := HR3.out.at_ (i : Int) (by omega) (by omega)
      rw [Int.toNat_natCast] at hcell
      have hrd : rdOf ByteArray.empty ss (i : Int) = ss.getD i ByteArray.empty := by unfold rdOf; rw [Int.toNat_natCast]
      rw [hrd] at hcell
      have hsz := HS.out (ss.getD i ByteArray.empty) (by rw [List.getD_eq_getElem?_getD, List.getElem?_eq_getElem hlt]; exact List.getElem_mem hlt)
      obtain ⟨q, hq⟩ : ∃ q, q = ss.getD i ByteArray.empty := ⟨_, rfl⟩
      rw [← hq] at hcell hsz
      have HQ := Lib.hid hq
      clear hq hrd
      by_cases hq1 : 1000 < q.size
      · go_wp2_with ((with_reducible refine (lives_calls _).mono ?_); rintro e w6 ⟨rfl, hb6⟩)
        go_ret
        exact ⟨rfl, hb6⟩
      · go_wp2_with fail
        go_roundw
        case measure => simp [intOf]; omega
        case rel =>
          refine ⟨i + 1, by go_num, by omega, by trivial, Lib.hid (fun j hj => ?_)⟩
          by_cases hji : j = i
          · rw [hji, ← HQ.out]; omega
          · exact HJ.out j (by omega)
    · obtain rfl : i = ss.length := by omega
      have HS1 : Hid (∀ s ∈ ss, s.size ≤ 1000) := Lib.hid (fun s hs => by
        obtain ⟨j, hj, rfl⟩ := List.getElem_of_mem hs
        have := HJ.out j hj
        rw [List.getD_eq_getElem?_getD, List.getElem?_eq_getElem hj] at this
        exact this)
      have HW0 := Lib.hid (wr_new w)
      have HBA := Lib.hid ((Below.refl w.heap.size w).alloc (Nat.le_refl _) (.cells #[.slice none 0 0] 41))
      clear hlt hi HJ
      have k1 : (encNum ns.length ++ encAll (fun n : Int => encNum n.toNat) ns).length ≤ 2010 := by
        have h1 := encNum_length ns.length (by omega)
        have h2 := encAll_le (fun n : Int => encNum n.toNat) ns 10 (fun x hx => encNum_length _ (by have := HN.out x hx; omega))
        rw [List.length_append]; omega
      have k2 : (encNum is.length).length + (encAll encInt is).length ≤ 2210 := by
        have h1 := encNum_length is.length (by omega)
        have h2 := encAll_le encInt is 11 (fun x hx => encInt_length _ (HI.out x hx).1 (HI.out x hx).2)
        omega
      have k3 : (encNum ss.length).length + (encAll encText ss).length ≤ 210010 := by
        have h1 := encNum_length ss.length (by omega)
        have h2 := encAll_le encText ss 1010 (fun x hx => by have := encText_length x (by have := HS1.out x hx; omega); have := HS1.out x hx; omega)
        omega
      go_wp2_with fail
      generalize w.alloc (.cells #[.slice none 0 0] 41) = wA at HW0 HBA ⊢
      ((with_reducible refine (putnum_calls w _ _ _ _ _ ns HW0.out HR1.out (by omega) (by simp) HN.out HBA.out).mono ?_); rintro e w1 ⟨rfl, hW, hB⟩)
      rw [List.nil_append] at hW
      have HW1 := Lib.hid hW
      have HB1 := Lib.hid hB
      clear hW hB HW0 HBA
      go_wp2_with fail
      ((with_reducible refine (putint_calls w _ _ _ _ _ is HW1.out HR2.out (by omega) (by omega) HI.out HB1.out).mono ?_); rintro e w2 ⟨rfl, hW, hB⟩)
      have HW2 := Lib.hid hW
      have HB2 := Lib.hid hB
      clear hW hB HW1 HB1
      go_wp2_with fail
      ((with_reducible refine (puttext_calls w _ _ _ _ _ ss HW2.out HR3.out (by omega) (by simp only [List.length_append] at k1 ⊢; omega) HS1.out HB2.out).mono ?_); rintro e w3 ⟨rfl, hW, hB⟩)
      have HW3 : Hid (Wr w3 w.heap.size w.heap.size (fun k => w.heap.size ≤ k) (rowsL ns is ss)) := Lib.hid hW
      have HB3 := Lib.hid hB
      clear hW hB HW2 HB2
      have hxl : (rowsL ns is ss).length ≤ 300000 := by unfold rowsL; simp only [List.length_append] at k1 ⊢; omega
      have HX : Hid (IsBytes (rowsL ns is ss)) := Lib.hid (by
        unfold rowsL
        exact ((((((encNum_bytes _).append (encAll_bytes _ _ (fun x _ => encNum_bytes _))).append (encNum_bytes _)).append (encAll_bytes _ _ (fun x _ => by unfold encInt; split <;> (intro y hy; rcases List.mem_cons.1 hy with rfl | hy <;> first | decide | exact encNum_bytes _ y hy)))).append (encNum_bytes _)).append (encAll_bytes _ _ (fun x _ => encText_bytes x))))
      obtain ⟨p1, p2, hg1, hg2, hg3⟩ := rows_plain ns is ss (by omega) (by omega) (by omega) HN.out HI.out HS1.out
      have HG1 := Lib.hid hg1
      have HG2 := Lib.hid hg2
      have HG3 := Lib.hid hg3
      clear hg1 hg2 hg3 k1 k2 k3
      generalize rowsL ns is ss = us at HW3 hxl HX HG1 HG2 HG3
      go_wp2_with fail
      ((with_reducible refine (bytes_str_calls _ _ _ _ us HW3.out (by omega)).mono ?_); rintro e w4 ⟨D, d, rfl, hd, HU, hb⟩)
      have HB4 := Lib.hid (HB3.out.trans (hb.mono HB3.out.size))
      clear hb
      go_wp2_with fail
      ((with_reducible refine (reader_new _ _ _ _ HU.out hd HX.out (by omega)).mono ?_); rintro e w5 ⟨g, A1, d1, rfl, hg, HRd, HBr⟩)
      have HB5 := Lib.hid (HB4.out.trans (HBr.out.mono HB4.out.size))
      have hgw : w.heap.size ≤ g := Nat.le_trans HB4.out.size hg
      have hg5 : Hid (g < w5.heap.size) := Lib.hid HRd.out.lt
      clear HBr
      go_wp2_with fail
      ((with_reducible refine (getnum_calls HRd.out).mono ?_); rintro e w6 ⟨v1, rfl, ho, hr, hc⟩)
      rw [HG1.out] at ho hr
      have HO1 := Lib.hid ho
      have HRd6 := Lib.hid hr
      have HB6 := Lib.hid (hc.reader HB5.out hgw)
      have hg6 : Hid (g < w6.heap.size) := Lib.hid hr.lt
      clear ho hr hc
      go_wp2_with fail
      ((with_reducible refine (getint_calls HRd6.out).mono ?_); rintro e w7 ⟨v2, rfl, ho, hr, hc⟩)
      rw [HG2.out] at ho hr
      have HO2 := Lib.hid ho
      have HO1b := Lib.hid (HO1.out.chg hc hg5.out)
      have HRd7 := Lib.hid hr
      have HB7 := Lib.hid (hc.reader HB6.out hgw)
      clear ho hr hc HO1
      go_wp2_with fail
      ((with_reducible refine (gettext_calls HRd7.out).mono ?_); rintro e w8 ⟨v3, rfl, ho, hr, hc⟩)
      rw [HG3.out] at ho hr
      obtain ⟨E1, e1, rfl, he1, hq1⟩ := (HO1b.out.chg hc hg5.out).reads
      obtain ⟨E2, e2, rfl, he2, hq2⟩ := (HO2.out.chg hc hg6.out).reads
      obtain ⟨E3, e3, rfl, he3, hq3⟩ := ho.reads
      have HRd8 := Lib.hid hr
      have HB8 := Lib.hid (hc.reader HB7.out hgw)
      clear ho hr hc HO1b HO2
      have HQ1 := Lib.hid hq1
      have HQ2 := Lib.hid hq2
      have HQ3 := Lib.hid hq3
      clear hq1 hq2 hq3
      go_wp2_with fail
      ((with_reducible refine (end_calls HRd8.out).mono ?_); rw [show decide (some us.length = some us.length) = true from by simp]; rintro e w9 ⟨rfl, hb⟩)
      have HB9 := Lib.hid (HB8.out.trans (hb.mono HB8.out.size))
      have HT1 := Lib.hid (HQ1.out.below hb)
      have HT2 := Lib.hid (HQ2.out.below hb)
      have HT3 := Lib.hid (HQ3.out.below hb)
      have HA1 := Lib.hid (HR1.out.below HB9.out)
      have HA2 := Lib.hid (HR2.out.below HB9.out)
      have HA3 := Lib.hid (HR3.out.below HB9.out)
      clear hb HQ1 HQ2 HQ3
      go_wp2_with fail
      go_loopw [82] (fun vi wr => ∃ i : Nat, vi = .int .i64 i ∧ i ≤ ns.length ∧ Hid (Below w9.heap.size w9 wr)) (fun vi _ => ns.length - (intOf vi).toNat)
      case atStart => exact ⟨0, rfl, by omega, Lib.hid (Below.refl _ _)⟩
      case round =>
        obtain ⟨ia, rfl, hia, HWa⟩ := hrel
        by_cases hlta : ia < ns.length
        · obtain ⟨ad1, rfl, hcell1⟩ := (HT1.out.below HWa.out).at_ (ia : Int) (by omega) (by omega)
          obtain ⟨ad2, rfl, hcell2⟩ := (HA1.out.below HWa.out).at_ (ia : Int) (by omega) (by omega)
          rw [Int.toNat_natCast] at hcell1 hcell2
          generalize rd ns (ia : Int) = z at hcell1 hcell2
          go_wp2_with fail
          go_quiet (fail)
          go_wp2_with fail
          go_roundw
          case measure => simp [intOf]; omega
          case rel => exact ⟨ia + 1, by go_num, by omega, Lib.hid (pw_below_drewN HWa.out _)⟩
        · obtain rfl : ia = ns.length := by omega
          clear hlta hia
          go_wp2_with fail
          go_loopw [97] (fun vi wr => ∃ i : Nat, vi = .int .i64 i ∧ i ≤ is.length ∧ Hid (Below w9.heap.size w9 wr)) (fun vi _ => is.length - (intOf vi).toNat)
          case atStart => exact ⟨0, rfl, by omega, HWa⟩
          case round =>
            obtain ⟨ib, rfl, hib, HWb⟩ := hrel
            by_cases hltb : ib < is.length
            · obtain ⟨ad1, rfl, hcell1⟩ := (HT2.out.below HWb.out).at_ (ib : Int) (by omega) (by omega)
              obtain ⟨ad2, rfl, hcell2⟩ := (HA2.out.below HWb.out).at_ (ib : Int) (by omega) (by omega)
              rw [Int.toNat_natCast] at hcell1 hcell2
              generalize rd is (ib : Int) = z at hcell1 hcell2
              go_wp2_with fail
              go_quiet (fail)
              go_wp2_with fail
              go_roundw
              case measure => simp [intOf]; omega
              case rel => exact ⟨ib + 1, by go_num, by omega, Lib.hid (pw_below_drewN HWb.out _)⟩
            · obtain rfl : ib = is.length := by omega
              clear hltb hib
              go_wp2_with fail
              go_loopw [112] (fun vi wr => ∃ i : Nat, vi = .int .i64 i ∧ i ≤ ss.length ∧ Hid (Below w9.heap.size w9 wr)) (fun vi _ => ss.length - (intOf vi).toNat)
              case atStart => exact ⟨0, rfl, by omega, HWb⟩
              case round =>
                obtain ⟨ic, rfl, hic, HWc⟩ := hrel
                by_cases hltc : ic < ss.length
                · obtain ⟨ad1, rfl, hcell1⟩ := (HT3.out.below HWc.out).at_ (ic : Int) (by omega) (by omega)
                  obtain ⟨ad2, rfl, hcell2⟩ := (HA3.out.below HWc.out).at_ (ic : Int) (by omega) (by omega)
                  rw [Int.toNat_natCast] at hcell1 hcell2
                  generalize rdOf ByteArray.empty ss (ic : Int) = z at hcell1 hcell2
                  go_wp2_with fail
                  go_quiet (fail)
                  go_wp2_with fail
                  go_roundw
                  case measure => simp [intOf]; omega
                  case rel => exact ⟨ic + 1, by go_num, by omega, Lib.hid (pw_below_drewN HWc.out _)⟩
                · obtain rfl : ic = ss.length := by omega
                  clear hltc hic
                  go_wp2_with fail
                  ((with_reducible refine (lives_calls _).mono ?_); rintro e w6 ⟨rfl, hb6⟩)
                  go_wp2_with fail
                  go_ret
                  have HBE := HB9.out.trans (HWc.out.mono HB9.out.size)
                  exact ⟨rfl, HBE.trans (hb6.mono HBE.size)⟩

end Go.Proofs.Ythobpcbiaimccaa
