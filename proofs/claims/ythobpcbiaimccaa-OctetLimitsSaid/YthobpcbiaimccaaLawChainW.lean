/- The walk of the law OctetChain: it returns true, and writes nothing that was there. Conditions: bytes are bytes. -/
import Derived.Test.YthobpcbiaimccaaFrame
import Derived.Test.YthobpcbiaimccaaStr
namespace Go.Proofs.Ythobpcbiaimccaa
open Go.RowKit Go.Proofs.YthobpcbiaimccaaW.PrintWords Go.Proofs.YthobpcbiaimccaaW.PrintLast Go.Proofs.YthobpcbiaimccaaW.PrintMore PRef
set_option linter.unusedVariables false
set_option linter.unusedSimpArgs false

theorem fourL_num' (n : Nat) (h : n < 4294967296) : Crc.num (fourL n) = n := by
  simp only [fourL, Crc.num, Int.toNat_natCast]
  omega
/-- A frame, whatever stands behind it, is one, with its own data. -/
theorem frame_unf (x rest : List Int) (hx : IsBytes x) (hl : x.length ≤ 1048576) : unf (frameL x ++ rest) = 0 ∧ dataL (frameL x ++ rest) = x ∧ Crc.num ((frameL x ++ rest).take 4) = x.length := by
  have e1 : (frameL x ++ rest).take 4 = fourL x.length := by
    unfold frameL
    rw [List.append_assoc, List.append_assoc, List.take_append_of_le_length (by rw [fourL_length]; omega), List.take_of_length_le (by rw [fourL_length]; omega)]
  have e2 : Crc.num ((frameL x ++ rest).take 4) = x.length := by rw [e1, fourL_num' _ (by omega)]
  have e3 : (frameL x ++ rest).take (4 + x.length) = fourL x.length ++ x := by
    unfold frameL
    rw [List.append_assoc, List.take_append_of_le_length (by rw [List.length_append, fourL_length]; omega), List.take_of_length_le (by rw [List.length_append, fourL_length]; omega)]
  have e4 : (frameL x ++ rest).drop (4 + x.length) = fourL (Crc.more 0 (fourL x.length ++ x)) ++ rest := by
    unfold frameL
    rw [List.append_assoc, List.drop_append_of_le_length (by rw [List.length_append, fourL_length]; omega), List.drop_of_length_le (by rw [List.length_append, fourL_length]; omega)]
    rfl
  have e5 : ((frameL x ++ rest).drop (4 + x.length)).take 4 = fourL (Crc.more 0 (fourL x.length ++ x)) := by
    rw [e4, List.take_append_of_le_length (by rw [fourL_length]; omega), List.take_of_length_le (by rw [fourL_length]; omega)]
  have hlen : (frameL x ++ rest).length = x.length + 8 + rest.length := by rw [List.length_append, frameL_length]
  refine ⟨?_, ?_, e2⟩
  · unfold unf
    rw [e2, e3, e5, fourL_num' _ (Crc.more_lt _ _), if_neg (by omega), if_neg (by omega), if_neg (by omega), if_neg (by simp)]
  · unfold dataL
    rw [e2, e3, List.drop_append_of_le_length (by rw [fourL_length]; omega), List.drop_of_length_le (by rw [fourL_length]; omega)]
    rfl

/-- Frames one behind another. -/
def framesL (ls : List (List Int)) : List Int := (ls.map frameL).flatten
theorem framesL_snoc (ls : List (List Int)) (k : Nat) (h : k < ls.length) : framesL (ls.take (k + 1)) = framesL (ls.take k) ++ frameL (ls.getD k []) := by
  unfold framesL
  rw [List.take_succ_eq_append_getElem h, List.map_append, List.flatten_append, List.getD_eq_getElem?_getD, List.getElem?_eq_getElem h]
  simp
theorem framesL_cons (ls : List (List Int)) (k : Nat) (h : k < ls.length) : framesL (ls.drop k) = frameL (ls.getD k []) ++ framesL (ls.drop (k + 1)) := by
  unfold framesL
  rw [List.drop_eq_getElem_cons h, List.getD_eq_getElem?_getD, List.getElem?_eq_getElem h, List.map_cons, List.flatten_cons, Option.getD_some]
theorem framesL_split (ls : List (List Int)) (k : Nat) : framesL ls = framesL (ls.take k) ++ framesL (ls.drop k) := by
  unfold framesL
  rw [← List.flatten_append, ← List.map_append, List.take_append_drop]
theorem frameL_bytes (x : List Int) (h : IsBytes x) : IsBytes (frameL x) := ((fourL_bytes _).append h).append (fourL_bytes _)
theorem framesL_bytes (ls : List (List Int)) (h : ∀ x ∈ ls, IsBytes x) : IsBytes (framesL ls) := by
  intro c hc
  unfold framesL at hc
  rw [List.mem_flatten] at hc
  obtain ⟨y, hy, hcy⟩ := hc
  rw [List.mem_map] at hy
  obtain ⟨x, hx, rfl⟩ := hy
  exact frameL_bytes x (h x hx) c hcy

theorem ReadsLs.below {w w1 : World} {A : Option Addr} {n : Nat} {ls : List (List Int)} (h : ReadsLs w A n ls) (hb : Below w.heap.size w w1) : ReadsLs w1 A n ls :=
  ⟨h.1, h.2.1, fun j hj => by
    obtain ⟨ad, B, c, e, hc, hr⟩ := h.2.2 j hj
    exact ⟨ad, B, c, e, pw_cell_below hb hc, hr.below hb⟩⟩

theorem frame_ok (A : Option Addr) (c : Nat) (l : List Int) (w : World) (hr : ReadsInt w .u8 A l.length l) (hc : l.length ≤ c) (hb : IsBytes l) (hl : l.length ≤ 1048576) :
    Calls Try.prog 36 #[.slice A l.length c] w fun e w' => ∃ B d, e = .returned (.tuple #[.slice B (frameL l).length d, .int .i64 0]) ∧ Hid (ReadsInt w' .u8 B (frameL l).length (frameL l)) ∧ Below w.heap.size w w' :=
  (frame_calls A c l w hr hc hb hl).mono fun e w' ⟨v, h1, h2, h3⟩ => by
    obtain ⟨B, d, rfl, _, h4⟩ := h2.reads
    exact ⟨B, d, h1, Lib.hid h4, h3⟩

/-- What the law is told of its list: each element lies within its capacity too. -/
def ReadsLc (w : World) (A : Option Addr) (n : Nat) (ls : List (List Int)) : Prop :=
  ls.length = n ∧ n ≤ 9223372036854775807 ∧ ∀ j, j < n → ∃ ad B c, A = some ad ∧ w.cell? (ad.add j) = some (.slice B (ls.getD j []).length c) ∧ (ls.getD j []).length ≤ c ∧ ReadsInt w .u8 B (ls.getD j []).length (ls.getD j []) ∧ IsBytes (ls.getD j [])
theorem ReadsLc.below {w w1 : World} {A : Option Addr} {n : Nat} {ls : List (List Int)} (h : ReadsLc w A n ls) (hb : Below w.heap.size w w1) : ReadsLc w1 A n ls :=
  ⟨h.1, h.2.1, fun j hj => by
    obtain ⟨ad, B, c, e, hc, hl, hr, hbb⟩ := h.2.2 j hj
    exact ⟨ad, B, c, e, pw_cell_below hb hc, hl, hr.below hb, hbb⟩⟩

set_option maxRecDepth 100000 in
set_option maxHeartbeats 2000000 in
theorem chain_law (A B : Option Addr) (n c n2 c2 : Nat) (ls : List (List Int)) (ys : List Int) (w : World) (hr1 : ReadsLc w A n ls) (hr2 : ReadsInt w .u8 B n2 ys) (hc2 : n2 ≤ c2) (hy : IsBytes ys) :
    Calls Try.prog 8 #[.slice A n c, .slice B n2 c2] w fun e w' => e = .returned (.bool true) ∧ Below w.heap.size w w' := by
  have HR1 := Lib.hid hr1
  have HR2 := Lib.hid hr2
  have hn := hr1.2.1
  have hn2 := hr2.2.1
  clear hr1 hr2
  by_cases hbig : n > 50 ∨ n2 > 1000
  · by_cases hb50 : n > 50
    · have hd : decide ((50 : Int) < (n : Int)) = true := by simp; omega
      clear hbig hb50
      go_enter Try.func8, Try.ntmps8
      go_wp2_with fail
      ((with_reducible refine (lives_calls _).mono ?_); rintro e w1 ⟨rfl, hb1⟩)
      go_wp2_with fail
      go_ret
      exact ⟨rfl, hb1⟩
    · have hd : decide ((50 : Int) < (n : Int)) = false := by simp; omega
      have hd2 : decide ((1000 : Int) < (n2 : Int)) = true := by simp; omega
      clear hbig hb50
      go_enter Try.func8, Try.ntmps8
      go_wp2_with fail
      ((with_reducible refine (lives_calls _).mono ?_); rintro e w1 ⟨rfl, hb1⟩)
      go_wp2_with fail
      go_ret
      exact ⟨rfl, hb1⟩
  · have hd : decide ((50 : Int) < (n : Int)) = false := by simp; omega
    have hd2 : decide ((1000 : Int) < (n2 : Int)) = false := by simp; omega
    have hn50 : n ≤ 50 := by omega
    have hn1000 : n2 ≤ 1000 := by omega
    have HLn : Hid (ls.length = n) := Lib.hid HR1.out.1
    have HLy : Hid (ys.length = n2) := Lib.hid HR2.out.1
    clear hbig
    have HB0 := Lib.hid ((Below.refl w.heap.size w).alloc (Nat.le_refl _) (.cells #[] 5))
    go_enter Try.func8, Try.ntmps8
    go_wp2_with (first | ((with_reducible refine gate_builtin (b := .append) (xs := #[.tmp 28, .tmp 29]) rfl ?_); at_builtin; refine print_append_row (w0 := w) w.heap.size rfl (.tmp 28) (.tmp 29) 31 5 .u8 1 rfl Try.underlying31 info5 (by decide) _ [] ys B n2 c2 rfl rfl (own_empty w _ (Nat.le_refl _)) (HR2.out.below HB0.out) HB0.out (by simp) ?hl ?_; (case hl => simp; omega); intro v1 w1 hown hB hg hat; rw [List.nil_append] at hown; have HO1 := Lib.hid (show OwnB w1 w.heap.size v1 ys from hown); have HB1 := Lib.hid hB; clear hown hB hg hat))
    go_loopw [5, 33] (fun vb vi wr => ∃ (i : Nat), i ≤ n ∧ vi = .int .i64 i ∧ Hid (∀ j, j < i → (ls.getD j []).length ≤ 1000) ∧ (framesL (ls.take i)).length ≤ 1008 * i ∧ Hid (OwnB wr w.heap.size vb (ys ++ framesL (ls.take i))) ∧ Hid (Below w.heap.size w wr)) (fun _ vi _ => n - (intOf vi).toNat)
    case atStart => exact ⟨0, by omega, rfl, Lib.hid (fun j hj => by omega), by simp [framesL], Lib.hid (by simpa [framesL] using HO1.out), HB1⟩
    case round =>
      obtain ⟨i, hi, rfl, HS, hfl, HO, HB⟩ := hrel
      by_cases hlt : i < n
      · obtain ⟨ad, Bx, cx, hAe, hcell, hlx, hrx, hbx⟩ := (HR1.out.below HB.out).2.2 i hlt
        subst hAe
        have hfs := Lib.hid (framesL_snoc ls i (by rw [HLn.out]; exact hlt))
        have HSx : Hid (∀ j, j < i + 1 → j ≠ i → (ls.getD j []).length ≤ 1000) := Lib.hid (fun j hj hne => HS.out j (by omega))
        have HX : Hid (ls.getD i [] = ls.getD i []) := Lib.hid rfl
        obtain ⟨x, hx⟩ : ∃ x, x = ls.getD i [] := ⟨_, rfl⟩
        rw [← hx] at hcell hlx hrx hbx hfs
        have HXe := Lib.hid hx
        have HRx := Lib.hid hrx
        have HBx := Lib.hid hbx
        clear hx hrx hbx HX
        by_cases hx1 : 1000 < x.length
        · have hxd : decide ((1000 : Int) < (x.length : Int)) = true := by simp; omega
          clear hx1
          go_wp2_with fail
          ((with_reducible refine (lives_calls _).mono ?_); rintro e w5 ⟨rfl, hb5⟩)
          go_wp2_with fail
          go_ret
          exact ⟨rfl, HB.out.trans (hb5.mono HB.out.size)⟩
        · have hxd : decide ((1000 : Int) < (x.length : Int)) = false := by simp; omega
          go_wp2_with fail
          ((with_reducible refine (frame_ok _ _ x _ HRx.out hlx HBx.out (by omega)).mono ?_); rintro e w5 ⟨D, d, rfl, HF, hb5⟩)
          have hfx := frameL_length x
          have HB5 := Lib.hid (HB.out.trans (hb5.mono HB.out.size))
          have HZ : Hid (ys ++ framesL (ls.take (i + 1)) = (ys ++ framesL (ls.take i)) ++ frameL x) := Lib.hid (by rw [hfs.out, List.append_assoc])
          have HO5 := Lib.hid (HO.out.below hb5)
          have hzl : (ys ++ framesL (ls.take i)).length ≤ 1000 + 1008 * i := by rw [List.length_append, HLy.out]; omega
          have hfl2 : (framesL (ls.take (i + 1))).length ≤ 1008 * (i + 1) := by rw [hfs.out, List.length_append]; omega
          have HFL2 := Lib.hid hfl2
          clear hb5 HO hfs hfl hfl2
          generalize ys ++ framesL (ls.take i) = zs at HZ HO5 hzl
          have hfx8 : (frameL x).length ≤ 1008 := by omega
          clear hfx
          generalize frameL x = fx at HF hfx8 HZ ⊢
          go_wp2_with (first | ((with_reducible refine gate_builtin (b := .append) (xs := #[.tmp 48, .tmp 49]) rfl ?_); at_builtin; refine print_append_row (w0 := w) w.heap.size rfl (.tmp 48) (.tmp 49) 31 5 .u8 1 rfl Try.underlying31 info5 (by decide) _ zs fx D fx.length d rfl rfl HO5.out HF.out HB5.out HB5.out.size ?hl5 ?_; (case hl5 => omega); intro v6 w6 hown hB hg hat; have HO6 := Lib.hid (show OwnB w6 w.heap.size v6 (zs ++ fx) from hown); have HB6 := Lib.hid hB; clear hown hB hg hat))
          go_roundw
          case measure => simp [intOf]; omega
          case rel =>
            refine ⟨i + 1, by omega, by go_num, Lib.hid (fun j hj => ?_), HFL2.out, Lib.hid (by rw [HZ.out]; exact HO6.out), HB6⟩
            by_cases hji : j = i
            · rw [hji, ← HXe.out]; omega
            · exact HSx.out j hj hji
      · obtain rfl : i = n := by omega
        obtain ⟨wo, rfl⟩ : ∃ wo : World, wo = wr := ⟨_, rfl⟩
        have hO := HO.out
        rw [List.take_of_length_le (by rw [HLn.out]; omega)] at hO hfl
        obtain ⟨C, c5, rfl, hc5, hrz⟩ := hO.reads
        have HZR := Lib.hid hrz
        have hbz : IsBytes (ys ++ framesL ls) := hy.append (framesL_bytes ls (fun x hx => by
          obtain ⟨j, hj, rfl⟩ := List.getElem_of_mem hx
          have hjn : j < i := by rw [← HLn.out]; exact hj
          have hbj := (HR1.out.2.2 j hjn).choose_spec.choose_spec.choose_spec.2.2.2.2
          rw [List.getD_eq_getElem?_getD, List.getElem?_eq_getElem hj] at hbj
          exact hbj))
        have HBz := Lib.hid hbz
        have hzl : (ys ++ framesL ls).length ≤ 60000 := by rw [List.length_append, HLy.out]; omega
        obtain ⟨zs, hz⟩ : ∃ zs, zs = ys ++ framesL ls := ⟨_, rfl⟩
        rw [← hz] at HZR HBz hzl hc5
        have HZ := Lib.hid hz
        clear hO hrz hbz hfl HO
        rw [← hz]
        clear hz
        go_wp2_with fail
        go_loopw [10, 56] (fun va vi wr => ∃ (i2 a : Nat), i2 ≤ i ∧ vi = .int .i64 i2 ∧ va = .int .i64 a ∧ a ≤ zs.length ∧ Hid (a = ys.length + (framesL (ls.take i2)).length) ∧ Hid (Below wo.heap.size wo wr)) (fun _ vi _ => i - (intOf vi).toNat)
        case atStart => exact ⟨0, n2, by omega, rfl, rfl, by rw [HZ.out, List.length_append, HLy.out]; omega, Lib.hid (by rw [HLy.out]; simp [framesL]), Lib.hid (Below.refl _ _)⟩
        case round =>
          obtain ⟨i2, a, hi2, rfl, rfl, ha, HA, HC⟩ := hrel
          have HBr := Lib.hid (HB.out.trans (HC.out.mono HB.out.size))
          have hdrop : zs.drop a = framesL (ls.drop i2) := by
            rw [HZ.out, framesL_split ls i2, ← List.append_assoc, HA.out, List.drop_append_of_le_length (by rw [List.length_append]; omega), List.drop_of_length_le (by rw [List.length_append]; omega)]
            rfl
          by_cases hlt2 : i2 < i
          · have hfc := framesL_cons ls i2 (by rw [HLn.out]; exact hlt2)
            have hfs := framesL_snoc ls i2 (by rw [HLn.out]; exact hlt2)
            have hx1000 := HS.out i2 hlt2
            obtain ⟨ad, Bx, cx, hAe, hcell, hlx, hrx, hbx⟩ := (HR1.out.below HBr.out).2.2 i2 hlt2
            subst hAe
            obtain ⟨x, hx⟩ : ∃ x, x = ls.getD i2 [] := ⟨_, rfl⟩
            rw [← hx] at hcell hlx hrx hbx hfs hfc hx1000
            obtain ⟨hu0, hud, hun⟩ := frame_unf x (framesL (ls.drop (i2 + 1))) hbx (by omega)
            rw [← hfc, ← hdrop] at hu0 hud hun
            have hlen : zs.length = a + (x.length + 8) + (framesL (ls.drop (i2 + 1))).length := by
              have h1 : (zs.drop a).length = (x.length + 8) + (framesL (ls.drop (i2 + 1))).length := by rw [hdrop, hfc, List.length_append, frameL_length]
              rw [List.length_drop] at h1
              omega
            have ha2 : a + x.length + 8 ≤ zs.length := by omega
            have HA2 : Hid (a + x.length + 8 = ys.length + (framesL (ls.take (i2 + 1))).length) := Lib.hid (by rw [hfs, List.length_append, frameL_length, HA.out]; omega)
            have HU0 := Lib.hid hu0
            have HUD := Lib.hid hud
            have HUN := Lib.hid hun
            have HRx := Lib.hid hrx
            clear hx hfc hfs hrx hbx hu0 hud hun hlen hdrop
            go_wp2_with fail
            ((with_reducible refine (unframe_calls _ _ _ a zs _ (HZR.out.below HC.out) hc5 HBz.out ha).mono ?_); rintro e w5 ⟨v, kk, rfl, _, hU2, hb5⟩)
            obtain ⟨hk5, ho5⟩ := hU2 HU0.out
            rw [HUN.out] at hk5
            rw [HUD.out] at ho5
            rw [HU0.out, hk5]
            have cva := own_string (P := Try.prog) (src := 31) (dst := 9) Try.underlying31 Try.underlying5 Try.underlying9 ho5
            have cvb := string_of_reads (P := Try.prog) (src := 31) (dst := 9) (c := cx) Try.underlying31 Try.underlying5 Try.underlying9 (HRx.out.below hb5)
            have HC5 := Lib.hid (HC.out.trans (hb5.mono HC.out.size))
            clear hU2 ho5 hk5 hb5
            go_wp2_with fail
            go_roundw
            case measure => simp [intOf]; omega
            case rel => exact ⟨i2 + 1, a + x.length + 8, by omega, by go_num, by go_num, ha2, HA2, HC5⟩
          · obtain rfl : i2 = i := by omega
            have hd0 : zs.drop a = [] := by
              rw [hdrop, List.drop_of_length_le (by rw [HLn.out]; omega)]
              rfl
            have haz : a = zs.length := by
              have : (zs.drop a).length = 0 := by rw [hd0]; rfl
              rw [List.length_drop] at this
              omega
            have HD0 := Lib.hid hd0
            have HHA := HA
            clear hdrop hd0 HA
            subst haz
            go_wp2_with fail
            ((with_reducible refine (unframe_calls _ _ _ zs.length zs _ (HZR.out.below HC.out) hc5 HBz.out (Nat.le_refl _)).mono ?_); rintro e w5 ⟨v, kk, rfl, hU1, _, hb5⟩)
            rw [HD0.out] at hU1 ⊢
            obtain ⟨rfl, rfl⟩ := hU1 (by decide)
            rw [show unf [] = 8 from by decide]
            have HB5 := Lib.hid (HBr.out.trans (hb5.mono HBr.out.size))
            clear hU1 hb5
            go_wp2_with fail
            ((with_reducible refine (lives_calls _).mono ?_); rintro e w6 ⟨rfl, hb6⟩)
            go_wp2_with fail
            go_ret
            exact ⟨rfl, HB5.out.trans (hb6.mono HB5.out.size)⟩

end Go.Proofs.Ythobpcbiaimccaa
