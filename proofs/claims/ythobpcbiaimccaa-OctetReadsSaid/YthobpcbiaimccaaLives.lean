/- The document's examples hold ('lives' of law 1), the laws' cut, and the references' contracts in the walks' words. Conditions: bytes are bytes, lengths below 2^46. -/
import Derived.Test.YthobpcbiaimccaaRefs
import Derived.Lib.SlBytesConst
import Derived.Lib.SmallJoins
namespace Go.Proofs.Ythobpcbiaimccaa
open Go.RowKit Go.Proofs.YthobpcbiaimccaaW.PrintWords Go.Proofs.YthobpcbiaimccaaW.PrintLast Go.Proofs.YthobpcbiaimccaaW.PrintMore PRef
set_option linter.unusedVariables false
set_option linter.unusedSimpArgs false

/-! ### memory -/
theorem reads_block {W : World} {b : Nat} {cs : Array Value} {t : TypeId} {fr : Nat × Nat} {xs : List Int} (h : W.heap[b]? = some (.cells cs t fr)) (hc : cs.toList = nums .u8 xs) (hl : xs.length ≤ 9223372036854775807) : ReadsInt W .u8 (some ⟨b, 0, none⟩) xs.length xs := by
  refine ⟨rfl, hl, fun _ => ⟨_, rfl, fun j hj => ?_⟩⟩
  rw [add_plain, cell_of_row W b j cs t fr h, ← Array.getElem?_toList, hc, nums, List.getElem?_map, List.getElem?_eq_getElem hj]
  simp [List.getD_eq_getElem?_getD, List.getElem?_eq_getElem hj]
theorem readsLs_block {W : World} {b : Nat} {vs : Array Value} {t : TypeId} {fr : Nat × Nat} {ls : List (List Int)} (h : W.heap[b]? = some (.cells vs t fr)) (hl : ls.length ≤ 9223372036854775807)
    (hv : ∀ j, j < ls.length → ∃ B c, vs[j]? = some (.slice B (ls.getD j []).length c) ∧ ReadsInt W .u8 B (ls.getD j []).length (ls.getD j [])) : ReadsLs W (some ⟨b, 0, none⟩) ls.length ls := by
  refine ⟨rfl, hl, fun j hj => ?_⟩
  obtain ⟨B, c, h1, h2⟩ := hv j hj
  exact ⟨_, B, c, rfl, by rw [add_plain, cell_of_row W b j vs t fr h]; exact h1, h2⟩
theorem readsLs_two {W : World} {b : Nat} {A1 A2 : Option Addr} {c1 c2 : Nat} {t : TypeId} {fr : Nat × Nat} {xs ys : List Int} (h : W.heap[b]? = some (.cells #[.slice A1 xs.length c1, .slice A2 ys.length c2] t fr)) (h1 : ReadsInt W .u8 A1 xs.length xs) (h2 : ReadsInt W .u8 A2 ys.length ys) :
    ReadsLs W (some ⟨b, 0, none⟩) 2 [xs, ys] := readsLs_block (ls := [xs, ys]) h (by simp) fun j hj => by
  match j, hj with
  | 0, _ => exact ⟨A1, c1, rfl, h1⟩
  | 1, _ => exact ⟨A2, c2, rfl, h2⟩
theorem readsLs_one {W : World} {b : Nat} {A1 : Option Addr} {c1 : Nat} {t : TypeId} {fr : Nat × Nat} {xs : List Int} (h : W.heap[b]? = some (.cells #[.slice A1 xs.length c1] t fr)) (h1 : ReadsInt W .u8 A1 xs.length xs) :
    ReadsLs W (some ⟨b, 0, none⟩) 1 [xs] := readsLs_block (ls := [xs]) h (by simp) fun j hj => by
  match j, hj with
  | 0, _ => exact ⟨A1, c1, rfl, h1⟩
theorem readsLs_nil (W : World) : ReadsLs W none 0 [] := ⟨rfl, by omega, fun j hj => by omega⟩

theorem wr_new (w : World) : Wr (w.alloc (.cells #[.slice none 0 0] 41)) w.heap.size w.heap.size (fun k => w.heap.size ≤ k) [] :=
  ⟨Nat.le_refl _, Nat.le_refl _, .slice none 0 0, blk_new w _, own_nil _ _ _ _, fun k hk => by simp [Value.ownBlock] at hk⟩
/-- All blocks from B on are the Writer's to turn. -/
theorem Wr.from_ {w w1 : World} {base g B : Nat} {xs : List Int} (h : Wr w1 base g (more (fun k => B ≤ k) w) xs) (hB : B ≤ w.heap.size) : Wr w1 base g (fun k => B ≤ k) xs :=
  h.mono fun k hk => by
    rcases hk with hk | hk
    · exact hk
    · exact Nat.le_trans hB hk
theorem Chg.below_ {w w1 : World} {B : Nat} (h : Chg (fun k => B ≤ k) w w1) (hB : B ≤ w.heap.size) : Below B w w1 := h.below hB fun i hi hk => by omega

/-! ### the references -/
theorem rcrc_calls (A : Option Addr) (c : Nat) (l : List Int) (w : World) (hr : ReadsInt w .u8 A l.length l) (hc : l.length ≤ c) (hb : IsBytes l) (hl : l.length < 4611686018427387904) :
    Calls Try.prog 23 #[.slice A l.length c] w fun e w' => e = .returned (.int .u32 (Crc.more 0 l)) ∧ Below w.heap.size w w' := by
  obtain ⟨k, hk⟩ := (crc_f l hb hl).rounds
  exact (lamellaref01_CRC.calls k A c l _ w (Kd.C_of_reads (d := (0 : Int)) hr) hc hk).mono fun e w' ⟨h1, h2⟩ => ⟨h1, h2.below⟩
theorem rsum_calls (a : Nat) (A : Option Addr) (c : Nat) (l : List Int) (w : World) (ha : a < 4294967296) (hr : ReadsInt w .u8 A l.length l) (hc : l.length ≤ c) (hb : IsBytes l) (hl : l.length < 4611686018427387904) :
    Calls Try.prog 25 #[.int .u32 a, .slice A l.length c] w fun e w' => e = .returned (.int .u32 (Crc.run a l)) ∧ Below w.heap.size w w' := by
  obtain ⟨k, hk⟩ := (sum_l0 l hb hl l.length 0 a (by omega) ha).rounds
  exact (lamellaref01_Sum.calls k a A c l _ w (Kd.C_of_reads (d := (0 : Int)) hr) hc hk).mono fun e w' ⟨h1, h2⟩ => ⟨h1, h2.below⟩
/-- A row of bytes of the call's own. -/
def OwnB (w : World) (base : Nat) (v : Value) (xs : List Int) : Prop := w.ownsRow base 5 1 v xs.length (nums .u8 xs)
theorem OwnB.of_R {w : World} {base : Nat} {ok : Nat → Prop} {v : Value} {xs : List Int} (h : Kd.R (Kd.int .u8) 5 w base ok v xs) : OwnB w base v xs := Kd.own_of_R h
theorem OwnB.below {w w1 : World} {base : Nat} {v : Value} {xs : List Int} (h : OwnB w base v xs) (hb : Below w.heap.size w w1) : OwnB w1 base v xs := pw_own_below h hb
theorem OwnB.reads {w : World} {base : Nat} {v : Value} {xs : List Int} (h : OwnB w base v xs) : ∃ A c, v = .slice A xs.length c ∧ xs.length ≤ c ∧ ReadsInt w .u8 A xs.length xs := by
  obtain ⟨A, c, rfl, hr⟩ := own_reads h
  exact ⟨A, c, rfl, own_le h, hr⟩
theorem rframe_calls (A : Option Addr) (c : Nat) (l : List Int) (w : World) (hr : ReadsInt w .u8 A l.length l) (hc : l.length ≤ c) (hb : IsBytes l) (hl : l.length < 4294967296) :
    Calls Try.prog 37 #[.slice A l.length c] w fun e w' => ∃ v, e = .returned v ∧ OwnB w' w.heap.size v (frameL l) ∧ Below w.heap.size w w' := by
  obtain ⟨k, hk⟩ := (frame_f l hb hl).rounds
  exact (lamellaref01_Frame.calls k A c l _ w (Kd.C_of_reads (d := (0 : Int)) hr) hc hk).mono fun e w' ⟨v, h1, h2, h3⟩ => ⟨v, h1, .of_R h2, h3⟩
theorem rnum_calls (n : Nat) (w : World) (h64 : n < 18446744073709551616) :
    Calls Try.prog 32 #[.int .u64 n] w fun e w' => ∃ v, e = .returned v ∧ OwnB w' w.heap.size v (encNum n) ∧ Below w.heap.size w w' := by
  obtain ⟨k, hk⟩ := (num_f n h64).rounds
  exact (lamellaref01_Num.calls k n _ w hk).mono fun e w' ⟨v, h1, h2, h3⟩ => ⟨v, h1, .of_R h2, h3⟩
theorem rint_calls (n : Int) (w : World) (h0 : -9223372036854775808 ≤ n) (h1 : n ≤ 9223372036854775807) :
    Calls Try.prog 33 #[.int .i64 n] w fun e w' => ∃ v, e = .returned v ∧ OwnB w' w.heap.size v (encInt n) ∧ Below w.heap.size w w' := by
  obtain ⟨k, hk⟩ := (int_f n h0 h1).rounds
  exact (lamellaref01_Int.calls k n _ w hk).mono fun e w' ⟨v, h1, h2, h3⟩ => ⟨v, h1, .of_R h2, h3⟩

/-! ### cut -/
set_option maxHeartbeats 400000 in
theorem cut_calls (A : Option Addr) (n c : Nat) (xs : List Int) (w : World) (hr : ReadsInt w .u8 A n xs) (hc : n ≤ c) :
    Calls Try.prog 21 #[.slice A n c] w fun e w' => (e = .returned (.slice A (xs.take 3000).length c) ∧ (xs.take 3000).length ≤ c ∧ ReadsInt w .u8 A (xs.take 3000).length (xs.take 3000)) ∧ w = w' := by
  have hn := hr.2.1
  have hln := hr.1
  by_cases hlt : 3000 < n
  · have hl : (xs.take 3000).length = 3000 := by rw [List.length_take]; omega
    have hrt : ReadsInt w .u8 A (xs.take 3000).length (xs.take 3000) := by rw [hl]; exact hr.take_ 3000 (by omega)
    obtain ⟨i0, hi, hzz⟩ := Option.map_eq_some_iff.1 info5
    have hcut := cut_to (P := Try.prog) 31 5 .i64 Try.underlying31 hi A n c 3000 (by omega) (by omega) hc
    have HF := Lib.hid (And.intro hl (And.intro (show (xs.take 3000).length ≤ c by omega) hrt))
    clear hi hzz hl hrt hr hln
    go_enter Try.func21, Try.ntmps21
    go_wp2
    go_ret
    obtain ⟨f1, f2, f3⟩ := HF.out
    exact ⟨⟨by rw [f1]; rfl, f2, f3⟩, rfl⟩
  · have hl : xs.take 3000 = xs := List.take_of_length_le (by omega)
    have HF := Lib.hid (And.intro hl (And.intro hln hr))
    clear hl hln hr
    go_enter Try.func21, Try.ntmps21
    go_wp2
    go_ret
    obtain ⟨f1, f2, f3⟩ := HF.out
    exact ⟨⟨by rw [f1, f2]; rfl, by rw [f1, f2]; exact hc, by rw [f1, f2]; exact f3⟩, rfl⟩

theorem cut_new (A : Option Addr) (n c : Nat) (xs : List Int) (w : World) (hr : ReadsInt w .u8 A n xs) (hc : n ≤ c) (hb : IsBytes xs) :
    Calls Try.prog 21 #[.slice A n c] w fun e w' => (∃ us : List Int, e = .returned (.slice A us.length c) ∧ us.length ≤ 3000 ∧ us.length ≤ c ∧ Hid (ReadsInt w .u8 A us.length us) ∧ Hid (IsBytes us) ∧ Hid (us = xs.take 3000)) ∧ w = w' :=
  (cut_calls A n c xs w hr hc).mono fun e w' ⟨⟨h1, h2, h3⟩, h4⟩ => ⟨⟨xs.take 3000, h1, by rw [List.length_take]; omega, h2, Lib.hid h3, Lib.hid (hb.take _), Lib.hid rfl⟩, h4⟩

/-! ### lives -/
theorem num_calls_int (w : World) (base g : Nat) (ok : Nat → Prop) (xs : List Int) (n : Int) (hW : Wr w base g ok xs) (hl : xs.length < 35184372088832) (h0 : 0 ≤ n) (hn : n < 18446744073709551616) :
    Calls Try.prog 27 #[.pointer (some ⟨g, 0, none⟩), .int .u64 n] w fun e w' => e = .returned (.tuple #[]) ∧ Wr w' base g (more ok w) (xs ++ encNum n.toNat) ∧ Chg ok w w' := by
  obtain ⟨m, rfl⟩ := Int.eq_ofNat_of_zero_le h0
  rw [Int.toNat_natCast]
  exact num_calls w base g ok xs m hW hl (by omega)
theorem lives_sum : Crc.more 0 [[49, 50, 51, 52], [53, 54, 55, 56, 57]].flatten = 3421780262 := by decide +kernel
theorem lives_bytes : (([] : List Int) ++ encNum (300 : Int).toNat ++ encInt (-1) ++ encText ⟨#[97, 98]⟩) = [130, 44, 1, 0, 2, 97, 98] := by decide +kernel
theorem lives_str : ((strOfNums [130, 44, 1, 0, 2, 97, 98]).toList == [130, 44, 1, 0, 2, 97, 98]) = true := by decide +kernel

theorem three_blocks (w : World) (o1 o2 o3 : Obj) : (((w.alloc o1).alloc o2).alloc o3).heap[w.heap.size]? = some o1 ∧ (((w.alloc o1).alloc o2).alloc o3).heap[w.heap.size + 1]? = some o2 ∧ (((w.alloc o1).alloc o2).alloc o3).heap[w.heap.size + 1 + 1]? = some o3 := by
  have h1 := blk_new w o1
  have h2 := blk_new (w.alloc o1) o2
  have h3 := blk_new ((w.alloc o1).alloc o2) o3
  rw [show (w.alloc o1).heap.size = w.heap.size + 1 from by simp] at h2
  rw [show ((w.alloc o1).alloc o2).heap.size = w.heap.size + 1 + 1 from by simp] at h3
  exact ⟨blk_alloc (blk_alloc h1 o2) o3, blk_alloc h2 o3, h3⟩

set_option maxRecDepth 100000 in
set_option maxHeartbeats 400000 in
theorem lives_calls (w : World) :
    Calls Try.prog 26 #[] w fun e w' => e = .returned (.bool true) ∧ Below w.heap.size w w' := by
  have HW0 := Lib.hid (wr_new w)
  go_enter Try.func26, Try.ntmps26
  go_wp2_with fail
  ((with_reducible refine (num_calls_int _ _ _ _ _ 300 HW0.out (by simp) (by omega) (by omega)).mono ?_); rintro e w1 ⟨rfl, hW1, hC1⟩)
  have HW1 := Lib.hid (hW1.from_ (by simp))
  have HC1 := Lib.hid ((((Below.refl w.heap.size w).alloc (Nat.le_refl _) _)).trans (hC1.below_ (by simp)))
  clear hW1 hC1
  go_wp2_with fail
  ((with_reducible refine (int_calls _ _ _ _ _ (-1) HW1.out (by decide +kernel) (by omega) (by omega)).mono ?_); rintro e w2 ⟨rfl, hW2, hC2⟩)
  have HW2 := Lib.hid (hW2.from_ HC1.out.size)
  have HC2 := Lib.hid (HC1.out.trans (hC2.below_ HC1.out.size))
  clear hW2 hC2
  go_wp2_with fail
  ((with_reducible refine (text_calls _ _ _ _ _ ⟨#[97, 98]⟩ HW2.out (by decide +kernel) (by decide +kernel)).mono ?_); rintro e w3 ⟨rfl, hW3, hC3⟩)
  have HW3 := Lib.hid (hW3.from_ HC2.out.size)
  have HC3 := Lib.hid (HC2.out.trans (hC3.below_ HC2.out.size))
  clear hW3 hC3
  have kc1 := fun C n c => Lib.run_convert_bytes_const (P := Try.prog) w3 31 5 C n c Try.underlying31 Try.underlying5
  have kc2 := fun o C n c => Joins.run_convert_bytes_const_at (P := Try.prog) (w3.alloc o) 31 5 C n c (w3.heap.size + 1) (by simp) Try.underlying31 Try.underlying5
  go_wp2_with fail
  clear kc1 kc2
  have h3 := three_blocks w3 (.cells #[.int .u8 49, .int .u8 50, .int .u8 51, .int .u8 52] 5 (4, 5)) (.cells #[.int .u8 53, .int .u8 54, .int .u8 55, .int .u8 56, .int .u8 57] 5 (5, 6)) (.cells #[.slice (some ⟨w3.heap.size, 0, none⟩) 4 4, .slice (some ⟨w3.heap.size + 1, 0, none⟩) 5 5] 31)
  have HB3 := Lib.hid (((Below.refl w3.heap.size w3).alloc (Nat.le_refl _) (.cells #[.int .u8 49, .int .u8 50, .int .u8 51, .int .u8 52] 5 (4, 5))).alloc (by simp) (.cells #[.int .u8 53, .int .u8 54, .int .u8 55, .int .u8 56, .int .u8 57] 5 (5, 6)) |>.alloc (by simp; omega) (.cells #[.slice (some ⟨w3.heap.size, 0, none⟩) 4 4, .slice (some ⟨w3.heap.size + 1, 0, none⟩) 5 5] 31))
  generalize (((w3.alloc (.cells #[.int .u8 49, .int .u8 50, .int .u8 51, .int .u8 52] 5 (4, 5))).alloc (.cells #[.int .u8 53, .int .u8 54, .int .u8 55, .int .u8 56, .int .u8 57] 5 (5, 6))).alloc (.cells #[.slice (some ⟨w3.heap.size, 0, none⟩) 4 4, .slice (some ⟨w3.heap.size + 1, 0, none⟩) 5 5] 31)) = w4 at h3 HB3 ⊢
  have HL : Hid (ReadsLs w4 (some ⟨w3.heap.size + 1 + 1, 0, none⟩) 2 [[49, 50, 51, 52], [53, 54, 55, 56, 57]]) := Lib.hid (readsLs_two h3.2.2 (reads_block h3.1 rfl (by simp)) (reads_block h3.2.1 rfl (by simp)))
  clear h3
  ((with_reducible refine (sum_calls _ _ _ _ _ HL.out (by unfold IsBytes; decide)).mono ?_); rintro e w' ⟨rfl, rfl⟩)
  rw [lives_sum]
  go_wp2_with fail
  ((with_reducible refine (bytes_calls _ _ _ _ _ (HW3.out.below HB3.out) (by decide +kernel)).mono ?_); rintro e w5 ⟨v, rfl, hown, hb5⟩)
  rw [lives_bytes] at hown
  have hcv := own_string (src := 31) (dst := 9) Try.underlying31 Try.underlying5 Try.underlying9 hown
  clear hown
  have HB5 := Lib.hid (HC3.out.trans ((HB3.out.trans (hb5.mono HB3.out.size)).mono HC3.out.size))
  clear hb5
  have hq := lives_str
  generalize strOfNums [130, 44, 1, 0, 2, 97, 98] = q at hcv hq
  go_wp2_with fail
  go_ret
  exact ⟨rfl, HB5.out⟩

end Go.Proofs.Ythobpcbiaimccaa
