/- The references' contracts in the walks' words, and texts as bytes. Conditions: bytes are bytes, lengths below 2^46. Frame and Unframe of package octet and of the reference, by plain lists. Conditions: bytes are bytes. -/
import Derived.Test.YtneebjlpeekmbaaRefs
import Derived.Lib.SlBytesConst
import Derived.Lib.SmallJoins
import Derived.Deep.RegionWith
namespace Go.Proofs.Ytneebjlpeekmbaa
open Go.RowKit Go.Proofs.YtneebjlpeekmbaaW.PrintWords Go.Proofs.YtneebjlpeekmbaaW.PrintLast Go.Proofs.YtneebjlpeekmbaaW.PrintMore PRef
set_option linter.unusedVariables false
set_option linter.unusedSimpArgs false
/-! ### memory -/
theorem reads_block {W : World} {b : Nat} {cs : Array Value} {t : TypeId} {fr : Nat × Nat} {xs : List Int} (h : W.heap[b]? = some (.cells cs t fr)) (hc : cs.toList = nums .u8 xs) (hl : xs.length ≤ 9223372036854775807) : ReadsInt W .u8 (some ⟨b, 0, none⟩) xs.length xs := by
  refine ⟨rfl, hl, fun _ => ⟨_, rfl, fun j hj => ?_⟩⟩
  rw [add_plain, cell_of_row W b j cs t fr h, ← Array.getElem?_toList, hc, nums, List.getElem?_map, List.getElem?_eq_getElem hj]
  simp [List.getD_eq_getElem?_getD, List.getElem?_eq_getElem hj]
theorem readsLs_block {W : World} {b : Nat} {vs : Array Value} {t : TypeId} {fr : Nat × Nat} {ls : List (List Int)} (h : W.heap[b]? = some (.cells vs t fr)) (hl : ls.length ≤ 9223372036854775807)
    (hv : ∀ j, j < ls.length → ∃ B c, vs[j]? = some (.slice B (ls.getD j []).length c) ∧ ReadsInt W .u8 B (ls.getD j []).length (ls.getD j [])) : ReadsLs W (some ⟨b, 0, none⟩) ls.length ls := by
  refine ⟨rfl, hl, fun j hj => ?_⟩
  obtain ⟨B, c, h1, h2⟩ := hv j hj
  exact ⟨_, B, c, rfl, by rw [add_plain, cell_of_row W b j vs t fr h]; exact h1, h2⟩
theorem readsLs_two {W : World} {b : Nat} {A1 A2 : Option Addr} {c1 c2 : Nat} {t : TypeId} {fr : Nat × Nat} {xs ys : List Int} (h : W.heap[b]? = some (.cells #[.slice A1 xs.length c1, .slice A2 ys.length c2] t fr)) (h1 : ReadsInt W .u8 A1 xs.length xs) (h2 : ReadsInt W .u8 A2 ys.length ys) :
    ReadsLs W (some ⟨b, 0, none⟩) 2 [xs, ys] := readsLs_block (ls := [xs, ys]) h (by simp) fun j hj => by
  match j, hj with
  | 0, _ => exact ⟨A1, c1, rfl, h1⟩
  | 1, _ => exact ⟨A2, c2, rfl, h2⟩
theorem readsLs_one {W : World} {b : Nat} {A1 : Option Addr} {c1 : Nat} {t : TypeId} {fr : Nat × Nat} {xs : List Int} (h : W.heap[b]? = some (.cells #[.slice A1 xs.length c1] t fr)) (h1 : ReadsInt W .u8 A1 xs.length xs) :
    ReadsLs W (some ⟨b, 0, none⟩) 1 [xs] := readsLs_block (ls := [xs]) h (by simp) fun j hj => by
  match j, hj with
  | 0, _ => exact ⟨A1, c1, rfl, h1⟩
theorem readsLs_nil (W : World) : ReadsLs W none 0 [] := ⟨rfl, by omega, fun j hj => by omega⟩

theorem wr_new (w : World) : Wr (w.alloc (.cells #[.slice none 0 0] 64)) w.heap.size w.heap.size (fun k => w.heap.size ≤ k) [] :=
  ⟨Nat.le_refl _, Nat.le_refl _, .slice none 0 0, blk_new w _, own_nil _ _ _ _, fun k hk => by simp [Value.ownBlock] at hk⟩
/-- All blocks from B on are the Writer's to turn. -/
theorem Wr.from_ {w w1 : World} {base g B : Nat} {xs : List Int} (h : Wr w1 base g (more (fun k => B ≤ k) w) xs) (hB : B ≤ w.heap.size) : Wr w1 base g (fun k => B ≤ k) xs :=
  h.mono fun k hk => by
    rcases hk with hk | hk
    · exact hk
    · exact Nat.le_trans hB hk
theorem Chg.below_ {w w1 : World} {B : Nat} (h : Chg (fun k => B ≤ k) w w1) (hB : B ≤ w.heap.size) : Below B w w1 := h.below hB fun i hi hk => by omega

/-! ### the references -/
theorem rcrc_calls (A : Option Addr) (c : Nat) (l : List Int) (w : World) (hr : ReadsInt w .u8 A l.length l) (hc : l.length ≤ c) (hb : IsBytes l) (hl : l.length < 4611686018427387904) :
    Calls Try.prog 42 #[.slice A l.length c] w fun e w' => e = .returned (.int .u32 (Crc.more 0 l)) ∧ Below w.heap.size w w' := by
  obtain ⟨k, hk⟩ := (crc_f l hb hl).rounds
  exact (lamellaref01_CRC.calls k A c l _ w (Kd.C_of_reads (d := (0 : Int)) hr) hc hk).mono fun e w' ⟨h1, h2⟩ => ⟨h1, h2.below⟩
theorem rsum_calls (a : Nat) (A : Option Addr) (c : Nat) (l : List Int) (w : World) (ha : a < 4294967296) (hr : ReadsInt w .u8 A l.length l) (hc : l.length ≤ c) (hb : IsBytes l) (hl : l.length < 4611686018427387904) :
    Calls Try.prog 74 #[.int .u32 a, .slice A l.length c] w fun e w' => e = .returned (.int .u32 (Crc.run a l)) ∧ Below w.heap.size w w' := by
  obtain ⟨k, hk⟩ := (sum_l0 l hb hl l.length 0 a (by omega) ha).rounds
  exact (lamellaref01_Sum.calls k a A c l _ w (Kd.C_of_reads (d := (0 : Int)) hr) hc hk).mono fun e w' ⟨h1, h2⟩ => ⟨h1, h2.below⟩
/-- A row of bytes of the call's own. -/
def OwnB (w : World) (base : Nat) (v : Value) (xs : List Int) : Prop := w.ownsRow base 5 1 v xs.length (nums .u8 xs)
theorem OwnB.of_R {w : World} {base : Nat} {ok : Nat → Prop} {v : Value} {xs : List Int} (h : Kd.R (Kd.int .u8) 5 w base ok v xs) : OwnB w base v xs := Kd.own_of_R h
theorem OwnB.below {w w1 : World} {base : Nat} {v : Value} {xs : List Int} (h : OwnB w base v xs) (hb : Below w.heap.size w w1) : OwnB w1 base v xs := pw_own_below h hb
theorem OwnB.reads {w : World} {base : Nat} {v : Value} {xs : List Int} (h : OwnB w base v xs) : ∃ A c, v = .slice A xs.length c ∧ xs.length ≤ c ∧ ReadsInt w .u8 A xs.length xs := by
  obtain ⟨A, c, rfl, hr⟩ := own_reads h
  exact ⟨A, c, rfl, own_le h, hr⟩
theorem rframe_calls (A : Option Addr) (c : Nat) (l : List Int) (w : World) (hr : ReadsInt w .u8 A l.length l) (hc : l.length ≤ c) (hb : IsBytes l) (hl : l.length < 4294967296) :
    Calls Try.prog 15 #[.slice A l.length c] w fun e w' => ∃ v, e = .returned v ∧ OwnB w' w.heap.size v (frameL l) ∧ Below w.heap.size w w' := by
  obtain ⟨k, hk⟩ := (frame_f l hb hl).rounds
  exact (lamellaref01_Frame.calls k A c l _ w (Kd.C_of_reads (d := (0 : Int)) hr) hc hk).mono fun e w' ⟨v, h1, h2, h3⟩ => ⟨v, h1, .of_R h2, h3⟩
theorem rnum_calls (n : Nat) (w : World) (h64 : n < 18446744073709551616) :
    Calls Try.prog 45 #[.int .u64 n] w fun e w' => ∃ v, e = .returned v ∧ OwnB w' w.heap.size v (encNum n) ∧ Below w.heap.size w w' := by
  obtain ⟨k, hk⟩ := (num_f n h64).rounds
  exact (lamellaref01_Num.calls k n _ w hk).mono fun e w' ⟨v, h1, h2, h3⟩ => ⟨v, h1, .of_R h2, h3⟩
theorem rint_calls (n : Int) (w : World) (h0 : -9223372036854775808 ≤ n) (h1 : n ≤ 9223372036854775807) :
    Calls Try.prog 43 #[.int .i64 n] w fun e w' => ∃ v, e = .returned v ∧ OwnB w' w.heap.size v (encInt n) ∧ Below w.heap.size w w' := by
  obtain ⟨k, hk⟩ := (int_f n h0 h1).rounds
  exact (lamellaref01_Int.calls k n _ w hk).mono fun e w' ⟨v, h1, h2, h3⟩ => ⟨v, h1, .of_R h2, h3⟩

/-! ### cut -/
/-! ### lives -/
theorem reads_len {w : World} {k : IntKind} {A : Option Addr} {n : Nat} {xs : List Int} (h : ReadsInt w k A n xs) : ReadsInt w k A xs.length xs := by rw [h.1]; exact h
theorem own_empty (W : World) (base : Nat) (hb : base ≤ W.heap.size) : (W.alloc (.cells #[] 5)).ownsRow base 5 1 (.slice (some ⟨W.heap.size, 0, none⟩) 0 0) ([] : List Int).length (nums .u8 []) := own_lit W base 5 .u8 [] hb (by simp)

theorem strOfNums_bytes (s : ByteArray) : strOfNums (bytesOf s) = s := by
  unfold strOfNums bytesOf
  rw [List.map_map]
  have : ((fun n : Int => UInt8.ofNat n.toNat) ∘ fun b : UInt8 => (b.toNat : Int)) = id := by
    funext b
    simp
  rw [this, List.map_id]
theorem bytesOf_str (xs : List Int) (h : IsBytes xs) : bytesOf (strOfNums xs) = xs := by
  unfold bytesOf strOfNums
  simp only [List.map_map]
  have : ∀ x ∈ xs, ((fun b : UInt8 => (b.toNat : Int)) ∘ fun n : Int => UInt8.ofNat n.toNat) x = x := by
    intro x hx
    have := h x hx
    simp only [Function.comp]
    rw [UInt8.toNat_ofNat']
    omega
  rw [List.map_congr_left this]
  simp

theorem str_eq (xs ys : List Int) (hx : IsBytes xs) (hy : IsBytes ys) : ((strOfNums xs).toList == (strOfNums ys).toList) = decide (xs = ys) := by
  rw [Bool.eq_iff_iff, beq_iff_eq, decide_eq_true_iff, ByteArray.toList_eq, ByteArray.toList_eq]
  constructor
  · intro h
    have h2 : strOfNums xs = strOfNums ys := by
      have : (strOfNums xs).data = (strOfNums ys).data := Array.toList_inj.1 h
      cases hx2 : strOfNums xs
      cases hy2 : strOfNums ys
      rw [hx2, hy2] at this
      exact congrArg ByteArray.mk this
    rw [← bytesOf_str xs hx, ← bytesOf_str ys hy, h2]
  · rintro rfl
    rfl


-- The reference: a text is its length as a Num, and its bytes.
set_option maxRecDepth 100000 in
set_option maxHeartbeats 400000 in
theorem rtext_calls (s : ByteArray) (w : World) (hs : s.size ≤ 70368744177664) :
    Calls Try.prog 46 #[.string s] w fun e w' => ∃ v, e = .returned v ∧ OwnB w' w.heap.size v (encText s) ∧ Below w.heap.size w w' := by
  have kb := fun W => print_bytes (P := Try.prog) 9 37 5 Try.underlying9 Try.underlying37 Try.underlying5 s W
  have hel := encNum_length s.size (by omega)
  have HE : Hid (encNum s.size ++ bytesOf s = encText s) := Lib.hid rfl
  go_enter Try.func46, Try.ntmps46
  go_wp2_with fail
  ((with_reducible refine (rnum_calls s.size _ (by omega)).mono ?_); rintro e w1 ⟨v, rfl, hown, hb⟩)
  have HO := Lib.hid hown
  have HB := Lib.hid hb
  clear hown hb
  generalize encNum s.size = ns at HO HE hel
  go_wp2_with (at_builtin; refine print_append_row (w0 := w) w.heap.size rfl (.tmp 6) (.tmp 8) 37 5 .u8 1 rfl Try.underlying37 info5 (by decide) v ns (bytesOf s) _ _ _ rfl rfl (HO.out.below (bytes_below (Below.refl _ _) (Nat.le_refl _) 5 s)) (bytes_reads w1 5 s (by omega)) (bytes_below HB.out HB.out.size 5 s) (by rw [Lib.bytesWorld_size]; have := HB.out.size; omega) ?hl ?_; (case hl => omega); intro v1 w2 hown hB hg hat; clear hg hat; have G := Lib.hid hown; have GB := Lib.hid hB; clear hown hB)
  go_ret
  exact ⟨_, rfl, by rw [← HE.out]; exact G.out, GB.out⟩

theorem encInt_length (n : Int) (h0 : -9223372036854775808 ≤ n) (h1 : n ≤ 9223372036854775807) : (encInt n).length ≤ 11 := by
  unfold encInt
  split
  · have := encNum_length (-n - 1).toNat (by omega)
    rw [List.length_cons]; omega
  · have := encNum_length n.toNat (by omega)
    rw [List.length_cons]; omega
theorem encText_length (s : ByteArray) (h : s.size < 18446744073709551616) : (encText s).length ≤ s.size + 10 := by
  have := encNum_length s.size h
  unfold encText
  rw [List.length_append, bytesOf_length]; omega
theorem bytes_str_calls (w : World) (base g : Nat) (ok : Nat → Prop) (xs : List Int) (hW : Wr w base g ok xs) (hl : xs.length ≤ 140737488355328) :
    Calls Try.prog 31 #[.pointer (some ⟨g, 0, none⟩)] w fun e w' => ∃ A c, e = .returned (.slice A xs.length c) ∧ xs.length ≤ c ∧ Hid (ReadsInt w' .u8 A xs.length xs) ∧ Below w.heap.size w w' :=
  (bytes_calls w base g ok xs hW hl).mono fun e w' ⟨v, h1, h2, h3⟩ => by
    obtain ⟨A, c, rfl, hc, hr⟩ := OwnB.reads (v := v) h2
    exact ⟨A, c, h1, hc, Lib.hid hr, h3⟩

end Go.Proofs.Ytneebjlpeekmbaa

namespace Go.Proofs.Ytneebjlpeekmbaa
open Go.RowKit Go.Proofs.YtneebjlpeekmbaaW.PrintWords Go.Proofs.YtneebjlpeekmbaaW.PrintLast Go.Proofs.YtneebjlpeekmbaaW.PrintMore PRef
set_option linter.unusedVariables false
set_option linter.unusedSimpArgs false
theorem ownB_nil (w : World) (base : Nat) : OwnB w base (.slice none 0 0) [] := own_nil _ _ _ _

theorem four_calls (w0 w : World) (v : Value) (l : List Int) (n : Nat) (hB : Below w0.heap.size w0 w) (ho : OwnB w w0.heap.size v l) (hl : l.length < 70368744177664) (hn : n < 4294967296) :
    Calls Try.prog 63 #[v, .int .u32 n] w fun e w' => ∃ v', e = .returned v' ∧ OwnB w' w0.heap.size v' (l ++ fourL n) ∧ Below w0.heap.size w0 w' := by
  have hf : octet_four.f l n = some (l ++ fourL n) := by
    have e4 : ([(n : Int) % 256, ((n : Int) / 256) % 256, ((n : Int) / 65536) % 256, ((n : Int) / 16777216) % 256] : List Int) = fourL n := by
      unfold fourL
      simp
    unfold octet_four.f
    rw [e4]
    simp only [Option.bind_some]
    rw [if_pos (by rw [fourL_length]; omega)]
  exact (octet_four.calls (fun _ => True) v l n _ w0 w hB (Kd.R_of_own (enc := Value.int .u8) (h1 := fun _ => rfl) ho (fun _ _ => trivial)) hf).mono fun e w' ⟨v', h1, h2, h3, _⟩ => ⟨v', h1, .of_R h2, h3⟩

theorem or_join (a b k : Nat) (ha : a < 2 ^ k) (hb : 2 ^ k * b < 4294967296) (ha2 : a < 4294967296) : bits .or .u32 (a : Int) ((2 ^ k * b : Nat) : Int) = ((a + 2 ^ k * b : Nat) : Int) := by
  rw [u32_or_nat a _ ha2 hb, Nat.or_comm, ← Nat.two_pow_add_eq_or_of_lt ha, Nat.add_comm]

theorem number_f (l : List Int) (hb : IsBytes l) (hl : 4 ≤ l.length) : octet_number.f l = some ((Crc.num (l.take 4) : Nat) : Int) := by
  match l, hl with
  | a :: b :: c :: d :: t, _ =>
    have h0 := hb a (by simp)
    have h1 := hb b (by simp)
    have h2 := hb c (by simp)
    have h3 := hb d (by simp)
    obtain ⟨a, rfl⟩ := Int.eq_ofNat_of_zero_le h0.1
    obtain ⟨b, rfl⟩ := Int.eq_ofNat_of_zero_le h1.1
    obtain ⟨c, rfl⟩ := Int.eq_ofNat_of_zero_le h2.1
    obtain ⟨d, rfl⟩ := Int.eq_ofNat_of_zero_le h3.1
    unfold octet_number.f
    simp only [List.length_cons]
    rw [if_pos (by omega), if_pos (by omega), if_pos (by omega), if_pos (by omega)]
    have r0 : rd (((a : Nat) : Int) :: b :: c :: d :: t) 0 % 4294967296 = (a : Int) := by show (a : Int) % 4294967296 = a; omega
    have r1 : rd (((a : Nat) : Int) :: b :: c :: d :: t) 1 % 4294967296 * 256 % 4294967296 = ((2 ^ 8 * b : Nat) : Int) := by show (b : Int) % 4294967296 * 256 % 4294967296 = _; omega
    have r2 : rd (((a : Nat) : Int) :: b :: c :: d :: t) 2 % 4294967296 * 65536 % 4294967296 = ((2 ^ 16 * c : Nat) : Int) := by show (c : Int) % 4294967296 * 65536 % 4294967296 = _; omega
    have r3 : rd (((a : Nat) : Int) :: b :: c :: d :: t) 3 % 4294967296 * 16777216 % 4294967296 = ((2 ^ 24 * d : Nat) : Int) := by show (d : Int) % 4294967296 * 16777216 % 4294967296 = _; omega
    rw [r0, r1, r2, r3, or_join a b 8 (by omega) (by omega) (by omega), or_join _ c 16 (by omega) (by omega) (by omega), or_join _ d 24 (by omega) (by omega) (by omega)]
    simp only [List.take_succ_cons, List.take_zero, Crc.num, Int.toNat_natCast]
    congr 2
    omega

theorem number_calls (A : Option Addr) (c : Nat) (l : List Int) (w : World) (hr : ReadsInt w .u8 A l.length l) (hc : l.length ≤ c) (hb : IsBytes l) (hl : 4 ≤ l.length) :
    Calls Try.prog 65 #[.slice A l.length c] w fun e w' => e = .returned (.int .u32 (Crc.num (l.take 4))) ∧ Below w.heap.size w w' :=
  (octet_number.calls A c l _ w (Kd.C_of_reads (d := (0 : Int)) hr) hc (number_f l hb hl)).mono fun e w' ⟨h1, h2⟩ => ⟨h1, h2.below⟩

set_option maxRecDepth 100000 in
set_option maxHeartbeats 400000 in
theorem frame_calls (A : Option Addr) (c : Nat) (l : List Int) (w : World) (hr : ReadsInt w .u8 A l.length l) (hc : l.length ≤ c) (hb : IsBytes l) (hl : l.length ≤ 1048576) :
    Calls Try.prog 30 #[.slice A l.length c] w fun e w' => ∃ v, e = .returned (.tuple #[v, .int .i64 0]) ∧ OwnB w' w.heap.size v (frameL l) ∧ Below w.heap.size w w' := by
  have HR := Lib.hid hr
  have HB := Lib.hid hb
  have hgt : decide (1048576 < (l.length : Int)) = false := by simp; omega
  have HF : Hid (frameL l = (fourL l.length ++ l) ++ fourL (Crc.more 0 (fourL l.length ++ l))) := Lib.hid rfl
  clear hr hb
  go_enter Try.func30, Try.ntmps30
  go_wp2_with fail
  ((with_reducible refine (four_calls w w _ [] l.length (Below.refl _ _) (ownB_nil _ _) (by simp) (by omega)).mono ?_); rintro e w1 ⟨v1, rfl, ho, hb1⟩)
  rw [List.nil_append] at ho
  have HO := Lib.hid ho
  have HB1 := Lib.hid hb1
  have h4 := fourL_length l.length
  have HB4 := Lib.hid (fourL_bytes l.length)
  clear ho hb1
  generalize fourL l.length = l4 at HO h4 HB4 HF
  go_wp2_with (at_builtin; refine print_append_row (w0 := w) w.heap.size rfl (.tmp 11) (.tmp 12) 37 5 .u8 1 rfl Try.underlying37 info5 (by decide) v1 l4 l A l.length c rfl rfl HO.out (HR.out.below HB1.out) HB1.out HB1.out.size ?hl ?_; (case hl => omega); intro v2 w2 hown hB hg hat; clear hg hat; have HO2 := Lib.hid (show OwnB w2 w.heap.size v2 (l4 ++ l) from hown); have HB2 := Lib.hid hB; clear hown hB; have HZ := Lib.hid (HB4.out.append HB.out); have hz : (l4 ++ l).length ≤ 1048580 := (by rw [List.length_append]; omega); generalize l4 ++ l = zs at HO2 HZ hz HF; obtain ⟨C, c2, rfl, hc2, hrz⟩ := HO2.out.reads; have HZR := Lib.hid hrz; clear hrz)
  have hk := blk_new w2 (.cells #[.slice C zs.length c2] 37)
  have HB3 := Lib.hid (HB2.out.alloc HB2.out.size (.cells #[.slice C zs.length c2] 37))
  have HC3 := Lib.hid ((Below.refl w2.heap.size w2).alloc (Nat.le_refl _) (.cells #[.slice C zs.length c2] 37))
  generalize w2.alloc (.cells #[.slice C zs.length c2] 37) = w3 at hk HB3 HC3 ⊢
  have HL := Lib.hid (readsLs_one hk (HZR.out.below HC3.out))
  clear hk
  ((with_reducible refine (sum_calls _ _ _ _ _ HL.out (by simpa using HZ.out)).mono ?_); rintro e w' ⟨rfl, rfl⟩)
  rw [show [zs].flatten = zs from by simp]
  clear HL
  have hml := Crc.more_lt 0 zs
  generalize Crc.more 0 zs = m at hml HF ⊢
  go_wp2_with fail
  ((with_reducible refine (four_calls w _ _ zs m HB3.out (HO2.out.below HC3.out) (by omega) hml).mono ?_); rintro e w4 ⟨v4, rfl, ho, hb4⟩)
  have G := Lib.hid ho
  have GB := Lib.hid hb4
  clear ho hb4
  go_wp2_with fail
  go_ret2
  exact ⟨_, rfl, by rw [HF.out]; exact G.out, GB.out⟩

set_option maxRecDepth 100000 in
set_option maxHeartbeats 400000 in
theorem frame_big (A : Option Addr) (n c : Nat) (w : World) (hl : 1048576 < n) :
    Calls Try.prog 30 #[.slice A n c] w fun e w' => e = .returned (.tuple #[.slice none 0 0, .int .i64 2]) ∧ w = w' := by
  have hgt : decide (1048576 < (n : Int)) = true := by simp; omega
  go_enter Try.func30, Try.ntmps30
  go_wp2_with fail
  go_ret2
  exact ⟨rfl, rfl⟩

/-- What Unframe tells of the bytes from a place on: 0 a frame, 8 nothing, 4 none, 5 its sum isn't its own. -/
def unf (l : List Int) : Nat :=
  if l.length = 0 then 8 else if l.length < 4 then 4 else if Crc.num (l.take 4) > 1048576 ∨ l.length < Crc.num (l.take 4) + 8 then 4
  else if Crc.num ((l.drop (4 + Crc.num (l.take 4))).take 4) ≠ Crc.more 0 (l.take (4 + Crc.num (l.take 4))) then 5 else 0
/-- The data of a frame. -/
def dataL (l : List Int) : List Int := (l.take (4 + Crc.num (l.take 4))).drop 4

def UnfPost (w : World) (l : List Int) (at_ : Int) (e : Ending) (w' : World) : Prop :=
  ∃ v k, e = .returned (.tuple #[v, .int .i64 k, .int .i64 (unf l)]) ∧ (unf l ≠ 0 → v = .slice none 0 0 ∧ k = 0) ∧ (unf l = 0 → k = at_ + Crc.num (l.take 4) + 8 ∧ OwnB w' w.heap.size v (dataL l)) ∧ Below w.heap.size w w'

theorem unf_bad {w w' : World} {l : List Int} {at_ : Int} (c : Int) (hc : ((unf l : Nat) : Int) = c) (h0 : unf l ≠ 0) (hb : Below w.heap.size w w') : UnfPost w l at_ (.returned (.tuple #[.slice none 0 0, .int .i64 0, .int .i64 c])) w' :=
  ⟨_, _, by rw [hc], fun _ => ⟨rfl, rfl⟩, fun h => absurd h h0, hb⟩

set_option maxRecDepth 100000 in
set_option maxHeartbeats 400000 in
theorem unframe_arg (A : Option Addr) (n c : Nat) (at_ : Int) (w : World) (h : at_ < 0 ∨ n < at_) :
    Calls Try.prog 32 #[.slice A n c, .int .i64 at_] w fun e w' => e = .returned (.tuple #[.slice none 0 0, .int .i64 0, .int .i64 1]) ∧ w = w' := by
  by_cases h0 : at_ < 0
  · have hd : decide (at_ < 0) = true := by simpa using h0
    clear h h0
    go_enter Try.func32, Try.ntmps32
    go_wp2_with fail
    go_ret3
    exact ⟨rfl, rfl⟩
  · have hd : decide (at_ < 0) = false := by simpa using h0
    have hd2 : decide ((n : Int) < at_) = true := by simp; omega
    clear h h0
    go_enter Try.func32, Try.ntmps32
    go_wp2_with fail
    go_ret3
    exact ⟨rfl, rfl⟩

set_option maxRecDepth 100000 in
set_option maxHeartbeats 1000000 in
theorem unframe_calls (A : Option Addr) (n c k : Nat) (xs : List Int) (w : World) (hr : ReadsInt w .u8 A n xs) (hc : n ≤ c) (hb : IsBytes xs) (hk : k ≤ n) :
    Calls Try.prog 32 #[.slice A n c, .int .i64 k] w (UnfPost w (xs.drop k) k) := by
  have hn := hr.2.1
  have hln := hr.1
  obtain ⟨i0, hi, hzz⟩ := Option.map_eq_some_iff.1 info5
  have hsz : i0.size = 1 := by simp only [Prod.mk.injEq] at hzz; exact hzz.2.1
  obtain ⟨A1, hcut, hrd⟩ := print_cut (P := Try.prog) 37 5 .i64 Try.underlying37 hi hsz A n c k hk
  have hr1 := hrd w .u8 xs hc hr
  have hb1 := hb.drop k
  have hl1 : (xs.drop k).length = n - k := hr1.1
  have hd0 : decide ((k : Int) < 0) = false := by simp
  have hd1 : decide ((n : Int) < (k : Int)) = false := by simp; omega
  have hc1 : (xs.drop k).length ≤ c - k := by omega
  generalize xs.drop k = l at hr1 hb1 hl1 hc1 ⊢
  rw [← hl1] at hr1 hcut
  have HR := Lib.hid hr1
  have HB := Lib.hid hb1
  have hll : l.length ≤ 9223372036854775807 := by omega
  have hkn : k + l.length ≤ n := by omega
  clear hr hb hrd hr1 hb1 hl1 hln hzz
  by_cases h0 : l.length = 0
  · have hu : unf l = 8 := by unfold unf; rw [if_pos h0]
    have HU := Lib.hid hu
    have h0b : ((l.length : Int) == 0) = true := by rw [h0]; rfl
    clear hu h0 hi hsz
    go_enter Try.func32, Try.ntmps32
    go_wp2_with fail
    go_ret3
    exact unf_bad 8 (by rw [HU.out]; rfl) (by rw [HU.out]; omega) (Below.refl _ _)
  · have h0b : ((l.length : Int) == 0) = false := by rw [beq_eq_false_iff_ne]; omega
    by_cases h4 : l.length < 4
    · have hu : unf l = 4 := by unfold unf; rw [if_neg h0, if_pos h4]
      have HU := Lib.hid hu
      have h4b : decide ((l.length : Int) < 4) = true := by simp; omega
      clear hu h0 h4 hi hsz
      go_enter Try.func32, Try.ntmps32
      go_wp2_with fail
      go_ret3
      exact unf_bad 4 (by rw [HU.out]; rfl) (by rw [HU.out]; omega) (Below.refl _ _)
    · have h4b : decide ((l.length : Int) < 4) = false := by simp; omega
      have hN := Crc.num_lt (l.take 4) (HB.out.take 4).lt
      have h4l : (l.take 4).length = 4 := by rw [List.length_take]; omega
      rw [h4l] at hN
      obtain ⟨N, hNe⟩ : ∃ N, N = Crc.num (l.take 4) := ⟨_, rfl⟩
      rw [← hNe] at hN
      have HN := Lib.hid hNe
      clear hNe h4l
      by_cases hbad : N > 1048576 ∨ l.length < N + 8
      · have hu : unf l = 4 := by unfold unf; rw [if_neg h0, if_neg h4, ← HN.out, if_pos hbad]
        have HU := Lib.hid hu
        clear hu h0 hsz
        by_cases hbig : N > 1048576
        · have hbb : decide (1048576 < (N : Int)) = true := by simp; omega
          clear hbad
          go_enter Try.func32, Try.ntmps32
          go_wp2_with fail
          ((with_reducible refine (number_calls _ _ l _ HR.out hc1 HB.out (by omega)).mono ?_); rintro e w1 ⟨rfl, hb1⟩)
          rw [← HN.out]
          go_wp2_with fail
          go_ret3
          exact unf_bad 4 (by rw [HU.out]; rfl) (by rw [HU.out]; omega) hb1
        · have hbb : decide (1048576 < (N : Int)) = false := by simp; omega
          have hbc : decide ((l.length : Int) - 8 < (N : Int)) = true := by simp; omega
          clear hbad
          go_enter Try.func32, Try.ntmps32
          go_wp2_with fail
          ((with_reducible refine (number_calls _ _ l _ HR.out hc1 HB.out (by omega)).mono ?_); rintro e w1 ⟨rfl, hb1⟩)
          rw [← HN.out]
          go_wp2_with fail
          go_ret3
          exact unf_bad 4 (by rw [HU.out]; rfl) (by rw [HU.out]; omega) hb1
      · have hbb : decide (1048576 < (N : Int)) = false := by simp; omega
        have hbc : decide ((l.length : Int) - 8 < (N : Int)) = false := by simp; omega
        have hN1 : N ≤ 1048576 := by omega
        have hN2 : N + 8 ≤ l.length := by omega
        have hwl : (l.take (4 + N)).length = 4 + N := by rw [List.length_take]; omega
        have hcut2 := cut_to (P := Try.prog) 37 5 .u32 Try.underlying37 hi A1 l.length (c - k) ((4 + N : Nat) : Int) (by omega) (by omega) hc1
        rw [Int.toNat_natCast] at hcut2
        obtain ⟨A2, hcut3, hrd3⟩ := print_cut (P := Try.prog) 37 5 .u32 Try.underlying37 hi hsz A1 l.length (c - k) (4 + N) (by omega)
        obtain ⟨A3, hcut4, hrd4⟩ := print_cut (P := Try.prog) 37 5 .i64 Try.underlying37 hi hsz A1 (4 + N) (c - k) 4 (by omega)
        have e4 : ((4 + N : Nat) : Int) = 4 + (N : Int) := by omega
        rw [e4] at hcut2 hcut3
        have HRW : Hid (ReadsInt w .u8 A1 (l.take (4 + N)).length (l.take (4 + N))) := Lib.hid (by rw [hwl]; exact HR.out.take_ (4 + N) (by omega))
        have HRT : Hid (ReadsInt w .u8 A2 (l.drop (4 + N)).length (l.drop (4 + N))) := Lib.hid (by have := hrd3 w .u8 l hc1 HR.out; rw [← List.length_drop] at this; exact this)
        have HRD : Hid (ReadsInt w .u8 A3 N (dataL l)) := Lib.hid (by
          have := hrd4 w .u8 (l.take (4 + N)) (by omega) (by have h := HRW.out; rw [hwl] at h; exact h)
          rw [show 4 + N - 4 = N from by omega] at this
          unfold dataL
          rw [← HN.out]
          exact this)
        have hdl : (l.drop (4 + N)).length = l.length - (4 + N) := List.length_drop ..
        have HBW := Lib.hid (HB.out.take (4 + N))
        have HBT := Lib.hid (HB.out.drop (4 + N))
        have HQ : Hid (unf l = if Crc.num ((l.drop (4 + N)).take 4) ≠ Crc.more 0 (l.take (4 + N)) then 5 else 0) := Lib.hid (by unfold unf; rw [if_neg h0, if_neg h4, ← HN.out, if_neg hbad])
        have HDL : Hid ((dataL l).length = N) := Lib.hid HRD.out.1
        have htl : 4 ≤ (l.drop (4 + N)).length := by omega
        have htc : (l.drop (4 + N)).length ≤ c - k - (4 + N) := by omega
        have hwc : (l.take (4 + N)).length ≤ c - k := by omega
        have hk2 : k ≤ 9223372036854775807 := by omega
        rw [← hdl] at hcut3
        rw [show 4 + N - 4 = N from by omega, show ((4 : Nat) : Int) = 4 from rfl] at hcut4
        clear h0 hbad hrd3 hrd4 hi hsz hdl
        generalize l.take (4 + N) = wl at hcut2 hcut4 HRW HBW HQ hwl hwc
        generalize l.drop (4 + N) = tl at hcut3 HRT HBT HQ htl htc
        have HWL := Lib.hid hwl
        rw [hwl] at hwc
        clear hwl
        obtain ⟨m1, hm1⟩ : ∃ m, m = Crc.num (tl.take 4) := ⟨_, rfl⟩
        obtain ⟨m2, hm2⟩ : ∃ m, m = Crc.more 0 wl := ⟨_, rfl⟩
        have HQ2 := HQ.out
        rw [← hm1, ← hm2] at HQ2
        have HM1 := Lib.hid hm1
        have HM2 := Lib.hid hm2
        clear hm1 hm2 HQ
        have HQ := Lib.hid HQ2
        clear HQ2
        have hcom : ∀ P : Ending → World → Prop, True := fun _ => trivial
        clear hcom
        by_cases hs : m1 = m2
        · have hu : unf l = 0 := by rw [HQ.out, if_neg (by simpa using hs)]
          have HU := Lib.hid hu
          clear hu HQ
          subst hs
          go_enter Try.func32, Try.ntmps32
          go_wp2_with fail
          ((with_reducible refine (number_calls _ _ l _ HR.out hc1 HB.out (by omega)).mono ?_); rintro e w1 ⟨rfl, hb1⟩)
          rw [← HN.out]
          have HB1 := Lib.hid hb1
          clear hb1
          go_wp2_with fail
          ((with_reducible refine (number_calls _ _ tl _ (HRT.out.below HB1.out) htc HBT.out htl).mono ?_); rintro e w2 ⟨rfl, hb2⟩)
          rw [← HM1.out]
          have HB2 := Lib.hid (HB1.out.trans (hb2.mono HB1.out.size))
          clear hb2
          go_wp2_with fail
          have hk := blk_new w2 (.cells #[.slice A1 (4 + N) (c - k)] 37)
          have HB3 := Lib.hid (HB2.out.alloc HB2.out.size (.cells #[.slice A1 (4 + N) (c - k)] 37))
          generalize w2.alloc (.cells #[.slice A1 (4 + N) (c - k)] 37) = w3 at hk HB3 ⊢
          rw [← HWL.out] at hk
          have HL := Lib.hid (readsLs_one hk (HRW.out.below HB3.out))
          clear hk
          ((with_reducible refine (sum_calls _ _ _ _ _ HL.out (by simpa using HBW.out)).mono ?_); rintro e w' ⟨rfl, rfl⟩)
          rw [show [wl].flatten = wl from by simp, ← HM2.out]
          clear HL
          go_wp2_with (at_builtin; refine print_append_row (w0 := w) w.heap.size rfl (.const (.slice none 0 0)) (.tmp 52) 37 5 .u8 1 rfl Try.underlying37 info5 (by decide) (.slice none 0 0) [] (dataL l) A3 N (c - k - 4) rfl rfl (own_nil _ _ _ _) (HRD.out.below HB3.out) HB3.out HB3.out.size ?hl ?_; (case hl => simp; omega); intro v4 w4 hown hB hg hat; clear hg hat; rw [List.nil_append] at hown; have G := Lib.hid (show OwnB w4 w.heap.size v4 (dataL l) from hown); have GB := Lib.hid hB; clear hown hB)
          go_ret3
          exact ⟨_, _, by rw [HU.out]; rfl, fun h => absurd HU.out h, fun _ => ⟨by rw [← HN.out], G.out⟩, GB.out⟩
        · have hsb : ((m1 : Int) == (m2 : Int)) = false := by rw [beq_eq_false_iff_ne]; omega
          have hu : unf l = 5 := by rw [HQ.out, if_pos hs]
          have HU := Lib.hid hu
          clear hu HQ hs
          go_enter Try.func32, Try.ntmps32
          go_wp2_with fail
          ((with_reducible refine (number_calls _ _ l _ HR.out hc1 HB.out (by omega)).mono ?_); rintro e w1 ⟨rfl, hb1⟩)
          rw [← HN.out]
          have HB1 := Lib.hid hb1
          clear hb1
          go_wp2_with fail
          ((with_reducible refine (number_calls _ _ tl _ (HRT.out.below HB1.out) htc HBT.out htl).mono ?_); rintro e w2 ⟨rfl, hb2⟩)
          rw [← HM1.out]
          have HB2 := Lib.hid (HB1.out.trans (hb2.mono HB1.out.size))
          clear hb2
          go_wp2_with fail
          have hk := blk_new w2 (.cells #[.slice A1 (4 + N) (c - k)] 37)
          have HB3 := Lib.hid (HB2.out.alloc HB2.out.size (.cells #[.slice A1 (4 + N) (c - k)] 37))
          generalize w2.alloc (.cells #[.slice A1 (4 + N) (c - k)] 37) = w3 at hk HB3 ⊢
          rw [← HWL.out] at hk
          have HL := Lib.hid (readsLs_one hk (HRW.out.below HB3.out))
          clear hk
          ((with_reducible refine (sum_calls _ _ _ _ _ HL.out (by simpa using HBW.out)).mono ?_); rintro e w' ⟨rfl, rfl⟩)
          rw [show [wl].flatten = wl from by simp, ← HM2.out]
          clear HL
          go_wp2_with fail
          go_ret3
          exact unf_bad 5 (by rw [HU.out]; rfl) (by rw [HU.out]; omega) HB3.out


/-- The reference's word for what Unframe tells. -/
def whyOf (e : Nat) : Nat := if e = 0 then 0 else if e = 8 then 1 else if e = 4 then 2 else 3
def RUnfPost (w : World) (l : List Int) (e : Ending) (w' : World) : Prop :=
  ∃ v k, e = .returned (.tuple #[v, .int .i64 k, .int .i64 (whyOf (unf l))]) ∧ (unf l = 0 → k = Crc.num (l.take 4) + 8 ∧ OwnB w' w.heap.size v (dataL l)) ∧ Below w.heap.size w w'
theorem runf_bad {w w' : World} {l : List Int} (c : Int) (hc : ((whyOf (unf l) : Nat) : Int) = c) (h0 : unf l ≠ 0) (hb : Below w.heap.size w w') : RUnfPost w l (.returned (.tuple #[.slice none 0 0, .int .i64 0, .int .i64 c])) w' :=
  ⟨_, _, by rw [hc], fun h => absurd h h0, hb⟩

theorem num4 (l : List Int) (hb : IsBytes l) (hl : 4 ≤ l.length) : ((Crc.num (l.take 4) : Nat) : Int) = rd l 0 + 256 * rd l 1 + 65536 * rd l 2 + 16777216 * rd l 3 := by
  match l, hl with
  | a :: b :: c :: d :: t, _ =>
    have h0 := hb a (by simp)
    have h1 := hb b (by simp)
    have h2 := hb c (by simp)
    have h3 := hb d (by simp)
    show _ = a + 256 * b + 65536 * c + 16777216 * d
    simp only [List.take_succ_cons, List.take_zero, Crc.num]
    omega

theorem rfour_calls (n : Nat) (w : World) (hn : n < 4294967296) :
    Calls Try.prog 41 #[.int .u32 n] w fun e w' => ∃ A c, e = .returned (.slice A 4 c) ∧ Hid (ReadsInt w' .u8 A 4 (fourL n)) ∧ Below w.heap.size w w' :=
  (lamellaref01_four.calls n _ w (four_f n hn)).mono fun e w' ⟨v, h1, h2, h3⟩ => by
    obtain ⟨A, c, rfl, hc, hr⟩ := (OwnB.of_R h2).reads
    exact ⟨A, c, h1, Lib.hid hr, h3⟩
theorem fourL_num (n : Nat) (h : n < 4294967296) : Crc.num (fourL n) = n := by
  simp only [fourL, Crc.num, Int.toNat_natCast]
  omega
theorem num_fourL (l : List Int) (hb : IsBytes l) (hl : l.length = 4) : fourL (Crc.num l) = l := by
  match l, hl with
  | [a, b, c, d], _ =>
    have h0 := hb a (by simp)
    have h1 := hb b (by simp)
    have h2 := hb c (by simp)
    have h3 := hb d (by simp)
    obtain ⟨a, rfl⟩ := Int.eq_ofNat_of_zero_le h0.1
    obtain ⟨b, rfl⟩ := Int.eq_ofNat_of_zero_le h1.1
    obtain ⟨c, rfl⟩ := Int.eq_ofNat_of_zero_le h2.1
    obtain ⟨d, rfl⟩ := Int.eq_ofNat_of_zero_le h3.1
    simp only [fourL, Crc.num, Int.toNat_natCast]
    congr 1
    · omega
    · congr 1
      · omega
      · congr 1
        · omega
        · congr 1
          omega

set_option maxRecDepth 100000 in
set_option maxHeartbeats 4000000 in
theorem runframe_calls (A : Option Addr) (c : Nat) (l : List Int) (w : World) (hr : ReadsInt w .u8 A l.length l) (hc : l.length ≤ c) (hb : IsBytes l) :
    Calls Try.prog 18 #[.slice A l.length c] w (RUnfPost w l) := by
  have hll := hr.2.1
  have HR := Lib.hid hr
  have HB := Lib.hid hb
  clear hr hb
  by_cases h0 : l.length = 0
  · have hu : unf l = 8 := by unfold unf; rw [if_pos h0]
    have HU := Lib.hid hu
    have h0b : ((l.length : Int) == 0) = true := by rw [h0]; rfl
    clear hu h0
    go_enter Try.func18, Try.ntmps18
    go_wp2_with fail
    go_ret3
    exact runf_bad 1 (by rw [HU.out]; rfl) (by rw [HU.out]; omega) (Below.refl _ _)
  · have h0b : ((l.length : Int) == 0) = false := by rw [beq_eq_false_iff_ne]; omega
    by_cases h4 : l.length < 4
    · have hu : unf l = 4 := by unfold unf; rw [if_neg h0, if_pos h4]
      have HU := Lib.hid hu
      have h4b : decide ((l.length : Int) < 4) = true := by simp; omega
      clear hu h0 h4
      go_enter Try.func18, Try.ntmps18
      go_wp2_with fail
      go_ret3
      exact runf_bad 2 (by rw [HU.out]; rfl) (by rw [HU.out]; omega) (Below.refl _ _)
    · have h4b : decide ((l.length : Int) < 4) = false := by simp; omega
      have hN := Crc.num_lt (l.take 4) (HB.out.take 4).lt
      have h4l : (l.take 4).length = 4 := by rw [List.length_take]; omega
      rw [h4l] at hN
      have hn4 := num4 l HB.out (by omega)
      obtain ⟨N, hNe⟩ : ∃ N, N = Crc.num (l.take 4) := ⟨_, rfl⟩
      rw [← hNe] at hN hn4
      have HN := Lib.hid hNe
      clear hNe h4l
      obtain ⟨ad, rfl, hc0⟩ := HR.out.at_ 0 (by omega) (by omega)
      obtain ⟨_, e1, hc1⟩ := HR.out.at_ 1 (by omega) (by omega)
      obtain rfl := Option.some.inj e1
      obtain ⟨_, e2, hc2⟩ := HR.out.at_ 2 (by omega) (by omega)
      obtain rfl := Option.some.inj e2
      obtain ⟨_, e3, hc3⟩ := HR.out.at_ 3 (by omega) (by omega)
      obtain rfl := Option.some.inj e3
      have ea : ad.add (0 : Int).toNat = ad := by simp [Addr.add]
      rw [ea] at hc0
      clear ea
      obtain ⟨ab, ao, asp⟩ := ad
      have hsp : asp = none := by simpa using World.cell?_spot hc0
      subst hsp
      change w.cell? ⟨ab, ao + 1, none⟩ = _ at hc1
      change w.cell? ⟨ab, ao + 2, none⟩ = _ at hc2
      change w.cell? ⟨ab, ao + 3, none⟩ = _ at hc3
      have hb0 := HB.out.getD 0
      have hb1 := HB.out.getD 1
      have hb2 := HB.out.getD 2
      have hb3 := HB.out.getD 3
      change 0 ≤ rd l 0 ∧ rd l 0 < 256 at hb0
      change 0 ≤ rd l 1 ∧ rd l 1 < 256 at hb1
      change 0 ≤ rd l 2 ∧ rd l 2 < 256 at hb2
      change 0 ≤ rd l 3 ∧ rd l 3 < 256 at hb3
      generalize rd l 0 = z0 at hc0 hn4 hb0
      generalize rd l 1 = z1 at hc1 hn4 hb1
      generalize rd l 2 = z2 at hc2 hn4 hb2
      generalize rd l 3 = z3 at hc3 hn4 hb3
      have s0 : IntKind.i64.wrap z0 = z0 := IntWalk.i64_in _ (by omega)
      have s1 : IntKind.i64.wrap z1 = z1 := IntWalk.i64_in _ (by omega)
      have s2 : IntKind.i64.wrap z2 = z2 := IntWalk.i64_in _ (by omega)
      have s3 : IntKind.i64.wrap z3 = z3 := IntWalk.i64_in _ (by omega)
      have t1 : IntKind.i64.wrap (256 * z1) = 256 * z1 := IntWalk.i64_in _ (by omega)
      have t2 : IntKind.i64.wrap (65536 * z2) = 65536 * z2 := IntWalk.i64_in _ (by omega)
      have t3 : IntKind.i64.wrap (16777216 * z3) = 16777216 * z3 := IntWalk.i64_in _ (by omega)
      have u1 : IntKind.i64.wrap (z0 + 256 * z1) = z0 + 256 * z1 := IntWalk.i64_in _ (by omega)
      have u2 : IntKind.i64.wrap (z0 + 256 * z1 + 65536 * z2) = z0 + 256 * z1 + 65536 * z2 := IntWalk.i64_in _ (by omega)
      have u3 : IntKind.i64.wrap (z0 + 256 * z1 + 65536 * z2 + 16777216 * z3) = (N : Int) := by rw [hn4]; exact IntWalk.i64_in _ (by omega)
      clear hb0 hb1 hb2 hb3 hn4
      have hlt0 : 0 < l.length := by omega
      have hlt1 : (1 : Int) < (l.length : Int) := by omega
      have hlt2 : (2 : Int) < (l.length : Int) := by omega
      have hlt3 : (3 : Int) < (l.length : Int) := by omega
      have hkap : (N : Int) < 4294967296 := by omega
      by_cases hbad : N > 1048576 ∨ l.length < N + 8
      · have hu : unf l = 4 := by unfold unf; rw [if_neg h0, if_neg h4, ← HN.out, if_pos hbad]
        have HU := Lib.hid hu
        clear hu h0 h4
        by_cases hbig : N > 1048576
        · have hbb : decide (1048576 < (N : Int)) = true := by simp; omega
          clear hbad hbig
          go_enter Try.func18, Try.ntmps18
          go_wp2_with fail
          go_quiet (fail)
          clear s0 s1 s2 s3 t1 t2 t3 u1 u2 u3
          go_wp2_with fail
          go_ret3
          exact runf_bad 2 (by rw [HU.out]; rfl) (by rw [HU.out]; omega) (pw_below_drewN (Below.refl _ _) _)
        · have hbb : decide (1048576 < (N : Int)) = false := by simp; omega
          have hbc : decide ((l.length : Int) < (N : Int) + 8) = true := by simp; omega
          clear hbad hbig
          go_enter Try.func18, Try.ntmps18
          go_wp2_with fail
          go_quiet (fail)
          clear s0 s1 s2 s3 t1 t2 t3 u1 u2 u3
          go_wp2_with fail
          go_ret3
          exact runf_bad 2 (by rw [HU.out]; rfl) (by rw [HU.out]; omega) (pw_below_drewN (Below.refl _ _) _)
      · have hbb : decide (1048576 < (N : Int)) = false := by simp; omega
        have hbc : decide ((l.length : Int) < (N : Int) + 8) = false := by simp; omega
        obtain ⟨i0, hi, hzz⟩ := Option.map_eq_some_iff.1 info5
        have hsz : i0.size = 1 := by simp only [Prod.mk.injEq] at hzz; exact hzz.2.1
        have hN2 : N + 8 ≤ l.length := by omega
        have hN1 : N ≤ 1048576 := by omega
        have v4 : IntKind.i64.wrap ((N : Int) + 4) = (N : Int) + 4 := IntWalk.i64_in _ (by omega)
        have v8 : IntKind.i64.wrap ((N : Int) + 8) = (N : Int) + 8 := IntWalk.i64_in _ (by omega)
        have hwl : (l.take (4 + N)).length = 4 + N := by rw [List.length_take]; omega
        have htl : ((l.drop (4 + N)).take 4).length = 4 := by rw [List.length_take, List.length_drop]; omega
        have hcut2 := cut_to (P := Try.prog) 37 5 .i64 Try.underlying37 hi (some ⟨ab, ao, none⟩) l.length c ((N : Int) + 4) (by omega) (by omega) hc
        rw [show ((N : Int) + 4).toNat = (l.take (4 + N)).length from by omega] at hcut2
        obtain ⟨A2, hcut3, hrd3, _⟩ := print_mid_int (P := Try.prog) (k := .u8) 37 5 Try.underlying37 hi hsz (some ⟨ab, ao, none⟩) c l ((N : Int) + 4) ((N : Int) + 8) (by omega) (by omega) (by omega) hc
        obtain ⟨A3, hcut4, hrd4, _⟩ := print_mid_int (P := Try.prog) (k := .u8) 37 5 Try.underlying37 hi hsz (some ⟨ab, ao, none⟩) c l 4 ((N : Int) + 4) (by omega) (by omega) (by omega) hc
        have em : (l.take ((N : Int) + 8).toNat).drop ((N : Int) + 4).toNat = (l.drop (4 + N)).take 4 := by
          rw [show ((N : Int) + 8).toNat = 4 + N + 4 from by omega, show ((N : Int) + 4).toNat = 4 + N from by omega, List.take_drop]
        have em2 : (l.take ((N : Int) + 4).toNat).drop (4 : Int).toNat = dataL l := by
          rw [show ((N : Int) + 4).toNat = 4 + N from by omega]
          unfold dataL
          rw [← HN.out]
          rfl
        rw [em] at hcut3 hrd3
        rw [em2] at hcut4 hrd4
        have HRW : Hid (ReadsInt w .u8 (some ⟨ab, ao, none⟩) (l.take (4 + N)).length (l.take (4 + N))) := Lib.hid (by rw [hwl]; exact HR.out.take_ (4 + N) (by omega))
        have HRT := Lib.hid (hrd3 w HR.out)
        have HRD := Lib.hid (hrd4 w HR.out)
        have HBW := Lib.hid (HB.out.take (4 + N))
        have HBT := Lib.hid ((HB.out.drop (4 + N)).take 4)
        have HQ : Hid (unf l = if Crc.num ((l.drop (4 + N)).take 4) ≠ Crc.more 0 (l.take (4 + N)) then 5 else 0) := Lib.hid (by unfold unf; rw [if_neg h0, if_neg h4, ← HN.out, if_neg hbad])
        have hdl : (dataL l).length = N := by unfold dataL; rw [← HN.out, List.length_drop, hwl]; omega
        have hwc : (l.take (4 + N)).length ≤ c := by omega
        have hw4 : (l.take (4 + N)).length < 4611686018427387904 := by omega
        clear h0 h4 hbad hi hsz em em2 hrd3 hrd4 hzz
        generalize l.take (4 + N) = wl at hcut2 HRW HBW HQ hwl hwc hw4
        generalize (l.drop (4 + N)).take 4 = t4 at hcut3 HRT HBT HQ htl
        have HTL := Lib.hid htl
        have HDL := Lib.hid hdl
        have HW4 := Lib.hid hw4
        clear hwl htl hdl hw4
        obtain ⟨m, hm⟩ : ∃ m, m = Crc.more 0 wl := ⟨_, rfl⟩
        have hml := Crc.more_lt 0 wl
        rw [← hm] at hml
        have HQ2 := HQ.out
        rw [← hm] at HQ2
        have HM := Lib.hid hm
        clear hm HQ
        have HQ := Lib.hid HQ2
        clear HQ2
        by_cases hs : Crc.num t4 = m
        · have hqs : ((strOfNums (fourL m)).toList == (strOfNums t4).toList) = true := by
            rw [str_eq _ _ (fourL_bytes m) HBT.out, decide_eq_true_iff, ← hs]
            exact num_fourL t4 HBT.out HTL.out
          have hu : unf l = 0 := by rw [HQ.out, if_neg (by simpa using hs)]
          have HU := Lib.hid hu
          clear hu HQ hs
          go_enter Try.func18, Try.ntmps18
          go_wp2_with fail
          go_quiet (fail)
          clear s0 s1 s2 s3 t1 t2 t3 u1 u2 u3
          go_wp2_with fail
          have HB1 : Hid (Below w.heap.size w (w.drewN nq)) := Lib.hid (pw_below_drewN (Below.refl _ _) _)
          have HBc : Hid (Below w.heap.size w (w.drewN nq).drew) := Lib.hid (below_drew HB1.out)
          generalize w.drewN nq = w1 at HB1 HBc ⊢
          have cvt := string_of_reads (P := Try.prog) (src := 37) (dst := 9) (c := c - ((N : Int) + 4).toNat) Try.underlying37 Try.underlying5 Try.underlying9 (HRT.out.below HBc.out)
          go_region_with (first | (go_at_call 42; refine (rcrc_calls _ _ wl _ (HRW.out.below HBc.out) hwc HBW.out HW4.out).mono ?_; rintro e wx ⟨rfl, hbx⟩; rw [← HM.out]; have HBn := Lib.hid (HBc.out.trans (hbx.mono HBc.out.size)); clear hbx HBc; have HBc := HBn; clear HBn; have cvt2 := string_of_reads (P := Try.prog) (src := 37) (dst := 9) (c := c - ((N : Int) + 4).toNat) Try.underlying37 Try.underlying5 Try.underlying9 (HRT.out.below HBc.out)) | (go_at_call 41; refine (rfour_calls m _ hml).mono ?_; rintro e wx ⟨Ax, cx, rfl, HRx, hbx⟩; have HBn := Lib.hid (HBc.out.trans (hbx.mono HBc.out.size)); clear hbx HBc; have HBc := HBn; clear HBn; have cvx := string_of_reads (P := Try.prog) (src := 37) (dst := 9) (c := cx) Try.underlying37 Try.underlying5 Try.underlying9 HRx.out; have cvt3 := string_of_reads (P := Try.prog) (src := 37) (dst := 9) (c := c - ((N : Int) + 4).toNat) Try.underlying37 Try.underlying5 Try.underlying9 (HRT.out.below HBc.out)))
          all_goals
            (try clear cvt); (try clear cvt2); (try clear cvt3); (try clear cvx); clear v4 v8 hcut2 hcut3 hc0 hc1 hc2 hc3 hlt0 hlt1 hlt2 hlt3 e1 e2 e3 hbb hbc hkap hN hN2 hwc hml hqs hll hc h0b h4b
            simp only [Exit.then]
            go_wp2_with (at_builtin; refine print_append_row (w0 := w) w.heap.size rfl (.tmp 58) (.tmp 62) 37 5 .u8 1 rfl Try.underlying37 info5 (by decide) _ [] (dataL l) A3 (dataL l).length _ rfl rfl (own_empty _ w.heap.size HBc.out.size) (HRD.out.below (HBc.out.alloc HBc.out.size _)) (HBc.out.alloc HBc.out.size _) (by have := HBc.out.size; simp; omega) (by have := HDL.out; simp; omega) ?_; intro v4 w4 hown hB hg hat; clear hg hat; rw [List.nil_append] at hown; have G := Lib.hid (show OwnB w4 w.heap.size v4 (dataL l) from hown); have GB := Lib.hid hB; clear hown hB)
            go_ret3
            exact ⟨_, _, by rw [HU.out]; rfl, fun _ => ⟨by rw [← HN.out], G.out⟩, GB.out⟩
        · have hqs : ((strOfNums (fourL m)).toList == (strOfNums t4).toList) = false := by
            rw [str_eq _ _ (fourL_bytes m) HBT.out, decide_eq_false_iff_not]
            intro h
            exact hs (by rw [← h, fourL_num m hml])
          have hu : unf l = 5 := by rw [HQ.out, if_pos hs]
          have HU := Lib.hid hu
          clear hu HQ hs
          go_enter Try.func18, Try.ntmps18
          go_wp2_with fail
          go_quiet (fail)
          clear s0 s1 s2 s3 t1 t2 t3 u1 u2 u3
          go_wp2_with fail
          have HB1 : Hid (Below w.heap.size w (w.drewN nq)) := Lib.hid (pw_below_drewN (Below.refl _ _) _)
          have HBc : Hid (Below w.heap.size w (w.drewN nq).drew) := Lib.hid (below_drew HB1.out)
          generalize w.drewN nq = w1 at HB1 HBc ⊢
          have cvt := string_of_reads (P := Try.prog) (src := 37) (dst := 9) (c := c - ((N : Int) + 4).toNat) Try.underlying37 Try.underlying5 Try.underlying9 (HRT.out.below HBc.out)
          go_region_with (first | (go_at_call 42; refine (rcrc_calls _ _ wl _ (HRW.out.below HBc.out) hwc HBW.out HW4.out).mono ?_; rintro e wx ⟨rfl, hbx⟩; rw [← HM.out]; have HBn := Lib.hid (HBc.out.trans (hbx.mono HBc.out.size)); clear hbx HBc; have HBc := HBn; clear HBn; have cvt2 := string_of_reads (P := Try.prog) (src := 37) (dst := 9) (c := c - ((N : Int) + 4).toNat) Try.underlying37 Try.underlying5 Try.underlying9 (HRT.out.below HBc.out)) | (go_at_call 41; refine (rfour_calls m _ hml).mono ?_; rintro e wx ⟨Ax, cx, rfl, HRx, hbx⟩; have HBn := Lib.hid (HBc.out.trans (hbx.mono HBc.out.size)); clear hbx HBc; have HBc := HBn; clear HBn; have cvx := string_of_reads (P := Try.prog) (src := 37) (dst := 9) (c := cx) Try.underlying37 Try.underlying5 Try.underlying9 HRx.out; have cvt3 := string_of_reads (P := Try.prog) (src := 37) (dst := 9) (c := c - ((N : Int) + 4).toNat) Try.underlying37 Try.underlying5 Try.underlying9 (HRT.out.below HBc.out)))
          all_goals
            (try clear cvt); (try clear cvt2); (try clear cvt3); (try clear cvx); clear v4 v8 hcut2 hcut3 hcut4 hc0 hc1 hc2 hc3 hlt0 hlt1 hlt2 hlt3 e1 e2 e3 hbb hbc hkap hN hN2 hwc hml hqs hll hc h0b h4b
            simp only [Exit.then]
            go_wp2_with fail
            go_ret3
            exact runf_bad 3 (by rw [HU.out]; rfl) (by rw [HU.out]; omega) HBc.out


end Go.Proofs.Ytneebjlpeekmbaa
