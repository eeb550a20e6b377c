/- The references' contracts in the walks' words, and texts as bytes. Conditions: bytes are bytes, lengths below 2^46. -/
import Derived.Test.YtneebjlpeekmbaaRefs
import Derived.Lib.SlBytesConst
import Derived.Lib.SmallJoins
namespace Go.Proofs.Ytneebjlpeekmbaa
open Go.RowKit Go.Proofs.YtneebjlpeekmbaaW.PrintWords Go.Proofs.YtneebjlpeekmbaaW.PrintLast Go.Proofs.YtneebjlpeekmbaaW.PrintMore PRef
set_option linter.unusedVariables false
set_option linter.unusedSimpArgs false
/-! ### memory -/
theorem reads_block {W : World} {b : Nat} {cs : Array Value} {t : TypeId} {fr : Nat × Nat} {xs : List Int} (h : W.heap[b]? = some (.cells cs t fr)) (hc : cs.toList = nums .u8 xs) (hl : xs.length ≤ 9223372036854775807) : ReadsInt W .u8 (some ⟨b, 0, none⟩) xs.length xs := by
  refine ⟨rfl, hl, fun _ => ⟨_, rfl, fun j hj => ?_⟩⟩
  rw [add_plain, cell_of_row W b j cs t fr h, ← Array.getElem?_toList, hc, nums, List.getElem?_map, List.getElem?_eq_getElem hj]
  simp [List.getD_eq_getElem?_getD, List.getElem?_eq_getElem hj]
theorem readsLs_block {W : World} {b : Nat} {vs : Array Value} {t : TypeId} {fr : Nat × Nat} {ls : List (List Int)} (h : W.heap[b]? = some (.cells vs t fr)) (hl : ls.length ≤ 9223372036854775807)
    (hv : ∀ j, j < ls.length → ∃ B c, vs[j]? = some (.slice B (ls.getD j []).length c) ∧ ReadsInt W .u8 B (ls.getD j []).length (ls.getD j [])) : ReadsLs W (some ⟨b, 0, none⟩) ls.length ls := by
  refine ⟨rfl, hl, fun j hj => ?_⟩
  obtain ⟨B, c, h1, h2⟩ := hv j hj
  exact ⟨_, B, c, rfl, by rw [add_plain, cell_of_row W b j vs t fr h]; exact h1, h2⟩
theorem readsLs_two {W : World} {b : Nat} {A1 A2 : Option Addr} {c1 c2 : Nat} {t : TypeId} {fr : Nat × Nat} {xs ys : List Int} (h : W.heap[b]? = some (.cells #[.slice A1 xs.length c1, .slice A2 ys.length c2] t fr)) (h1 : ReadsInt W .u8 A1 xs.length xs) (h2 : ReadsInt W .u8 A2 ys.length ys) :
    ReadsLs W (some ⟨b, 0, none⟩) 2 [xs, ys] := readsLs_block (ls := [xs, ys]) h (by simp) fun j hj => by
  match j, hj with
  | 0, _ => exact ⟨A1, c1, rfl, h1⟩
  | 1, _ => exact ⟨A2, c2, rfl, h2⟩
theorem readsLs_one {W : World} {b : Nat} {A1 : Option Addr} {c1 : Nat} {t : TypeId} {fr : Nat × Nat} {xs : List Int} (h : W.heap[b]? = some (.cells #[.slice A1 xs.length c1] t fr)) (h1 : ReadsInt W .u8 A1 xs.length xs) :
    ReadsLs W (some ⟨b, 0, none⟩) 1 [xs] := readsLs_block (ls := [xs]) h (by simp) fun j hj => by
  match j, hj with
  | 0, _ => exact ⟨A1, c1, rfl, h1⟩
theorem readsLs_nil (W : World) : ReadsLs W none 0 [] := ⟨rfl, by omega, fun j hj => by omega⟩

theorem wr_new (w : World) : Wr (w.alloc (.cells #[.slice none 0 0] 64)) w.heap.size w.heap.size (fun k => w.heap.size ≤ k) [] :=
  ⟨Nat.le_refl _, Nat.le_refl _, .slice none 0 0, blk_new w _, own_nil _ _ _ _, fun k hk => by simp [Value.ownBlock] at hk⟩
/-- All blocks from B on are the Writer's to turn. -/
theorem Wr.from_ {w w1 : World} {base g B : Nat} {xs : List Int} (h : Wr w1 base g (more (fun k => B ≤ k) w) xs) (hB : B ≤ w.heap.size) : Wr w1 base g (fun k => B ≤ k) xs :=
  h.mono fun k hk => by
    rcases hk with hk | hk
    · exact hk
    · exact Nat.le_trans hB hk
theorem Chg.below_ {w w1 : World} {B : Nat} (h : Chg (fun k => B ≤ k) w w1) (hB : B ≤ w.heap.size) : Below B w w1 := h.below hB fun i hi hk => by omega

/-! ### the references -/
theorem rcrc_calls (A : Option Addr) (c : Nat) (l : List Int) (w : World) (hr : ReadsInt w .u8 A l.length l) (hc : l.length ≤ c) (hb : IsBytes l) (hl : l.length < 4611686018427387904) :
    Calls Try.prog 42 #[.slice A l.length c] w fun e w' => e = .returned (.int .u32 (Crc.more 0 l)) ∧ Below w.heap.size w w' := by
  obtain ⟨k, hk⟩ := (crc_f l hb hl).rounds
  exact (lamellaref01_CRC.calls k A c l _ w (Kd.C_of_reads (d := (0 : Int)) hr) hc hk).mono fun e w' ⟨h1, h2⟩ => ⟨h1, h2.below⟩
theorem rsum_calls (a : Nat) (A : Option Addr) (c : Nat) (l : List Int) (w : World) (ha : a < 4294967296) (hr : ReadsInt w .u8 A l.length l) (hc : l.length ≤ c) (hb : IsBytes l) (hl : l.length < 4611686018427387904) :
    Calls Try.prog 74 #[.int .u32 a, .slice A l.length c] w fun e w' => e = .returned (.int .u32 (Crc.run a l)) ∧ Below w.heap.size w w' := by
  obtain ⟨k, hk⟩ := (sum_l0 l hb hl l.length 0 a (by omega) ha).rounds
  exact (lamellaref01_Sum.calls k a A c l _ w (Kd.C_of_reads (d := (0 : Int)) hr) hc hk).mono fun e w' ⟨h1, h2⟩ => ⟨h1, h2.below⟩
/-- A row of bytes of the call's own. -/
def OwnB (w : World) (base : Nat) (v : Value) (xs : List Int) : Prop := w.ownsRow base 5 1 v xs.length (nums .u8 xs)
theorem OwnB.of_R {w : World} {base : Nat} {ok : Nat → Prop} {v : Value} {xs : List Int} (h : Kd.R (Kd.int .u8) 5 w base ok v xs) : OwnB w base v xs := Kd.own_of_R h
theorem OwnB.below {w w1 : World} {base : Nat} {v : Value} {xs : List Int} (h : OwnB w base v xs) (hb : Below w.heap.size w w1) : OwnB w1 base v xs := pw_own_below h hb
theorem OwnB.reads {w : World} {base : Nat} {v : Value} {xs : List Int} (h : OwnB w base v xs) : ∃ A c, v = .slice A xs.length c ∧ xs.length ≤ c ∧ ReadsInt w .u8 A xs.length xs := by
  obtain ⟨A, c, rfl, hr⟩ := own_reads h
  exact ⟨A, c, rfl, own_le h, hr⟩
theorem rframe_calls (A : Option Addr) (c : Nat) (l : List Int) (w : World) (hr : ReadsInt w .u8 A l.length l) (hc : l.length ≤ c) (hb : IsBytes l) (hl : l.length < 4294967296) :
    Calls Try.prog 15 #[.slice A l.length c] w fun e w' => ∃ v, e = .returned v ∧ OwnB w' w.heap.size v (frameL l) ∧ Below w.heap.size w w' := by
  obtain ⟨k, hk⟩ := (frame_f l hb hl).rounds
  exact (lamellaref01_Frame.calls k A c l _ w (Kd.C_of_reads (d := (0 : Int)) hr) hc hk).mono fun e w' ⟨v, h1, h2, h3⟩ => ⟨v, h1, .of_R h2, h3⟩
theorem rnum_calls (n : Nat) (w : World) (h64 : n < 18446744073709551616) :
    Calls Try.prog 45 #[.int .u64 n] w fun e w' => ∃ v, e = .returned v ∧ OwnB w' w.heap.size v (encNum n) ∧ Below w.heap.size w w' := by
  obtain ⟨k, hk⟩ := (num_f n h64).rounds
  exact (lamellaref01_Num.calls k n _ w hk).mono fun e w' ⟨v, h1, h2, h3⟩ => ⟨v, h1, .of_R h2, h3⟩
theorem rint_calls (n : Int) (w : World) (h0 : -9223372036854775808 ≤ n) (h1 : n ≤ 9223372036854775807) :
    Calls Try.prog 43 #[.int .i64 n] w fun e w' => ∃ v, e = .returned v ∧ OwnB w' w.heap.size v (encInt n) ∧ Below w.heap.size w w' := by
  obtain ⟨k, hk⟩ := (int_f n h0 h1).rounds
  exact (lamellaref01_Int.calls k n _ w hk).mono fun e w' ⟨v, h1, h2, h3⟩ => ⟨v, h1, .of_R h2, h3⟩

/-! ### cut -/
/-! ### lives -/
theorem reads_len {w : World} {k : IntKind} {A : Option Addr} {n : Nat} {xs : List Int} (h : ReadsInt w k A n xs) : ReadsInt w k A xs.length xs := by rw [h.1]; exact h
theorem own_empty (W : World) (base : Nat) (hb : base ≤ W.heap.size) : (W.alloc (.cells #[] 5)).ownsRow base 5 1 (.slice (some ⟨W.heap.size, 0, none⟩) 0 0) ([] : List Int).length (nums .u8 []) := own_lit W base 5 .u8 [] hb (by simp)

theorem strOfNums_bytes (s : ByteArray) : strOfNums (bytesOf s) = s := by
  unfold strOfNums bytesOf
  rw [List.map_map]
  have : ((fun n : Int => UInt8.ofNat n.toNat) ∘ fun b : UInt8 => (b.toNat : Int)) = id := by
    funext b
    simp
  rw [this, List.map_id]
theorem bytesOf_str (xs : List Int) (h : IsBytes xs) : bytesOf (strOfNums xs) = xs := by
  unfold bytesOf strOfNums
  simp only [List.map_map]
  have : ∀ x ∈ xs, ((fun b : UInt8 => (b.toNat : Int)) ∘ fun n : Int => UInt8.ofNat n.toNat) x = x := by
    intro x hx
    have := h x hx
    simp only [Function.comp]
    rw [UInt8.toNat_ofNat']
    omega
  rw [List.map_congr_left this]
  simp

theorem str_eq (xs ys : List Int) (hx : IsBytes xs) (hy : IsBytes ys) : ((strOfNums xs).toList == (strOfNums ys).toList) = decide (xs = ys) := by
  rw [Bool.eq_iff_iff, beq_iff_eq, decide_eq_true_iff, ByteArray.toList_eq, ByteArray.toList_eq]
  constructor
  · intro h
    have h2 : strOfNums xs = strOfNums ys := by
      have : (strOfNums xs).data = (strOfNums ys).data := Array.toList_inj.1 h
      cases hx2 : strOfNums xs
      cases hy2 : strOfNums ys
      rw [hx2, hy2] at this
      exact congrArg ByteArray.mk this
    rw [← bytesOf_str xs hx, ← bytesOf_str ys hy, h2]
  · rintro rfl
    rfl


-- The reference: a text is its length as a Num, and its bytes.
set_option maxRecDepth 100000 in
set_option maxHeartbeats 400000 in
theorem rtext_calls (s : ByteArray) (w : World) (hs : s.size ≤ 70368744177664) :
    Calls Try.prog 46 #[.string s] w fun e w' => ∃ v, e = .returned v ∧ OwnB w' w.heap.size v (encText s) ∧ Below w.heap.size w w' := by
  have kb := fun W => print_bytes (P := Try.prog) 9 37 5 Try.underlying9 Try.underlying37 Try.underlying5 s W
  have hel := encNum_length s.size (by omega)
  have HE : Hid (encNum s.size ++ bytesOf s = encText s) := Lib.hid rfl
  go_enter Try.func46, Try.ntmps46
  go_wp2_with fail
  ((with_reducible refine (rnum_calls s.size _ (by omega)).mono ?_); rintro e w1 ⟨v, rfl, hown, hb⟩)
  have HO := Lib.hid hown
  have HB := Lib.hid hb
  clear hown hb
  generalize encNum s.size = ns at HO HE hel
  go_wp2_with (at_builtin; refine print_append_row (w0 := w) w.heap.size rfl (.tmp 6) (.tmp 8) 37 5 .u8 1 rfl Try.underlying37 info5 (by decide) v ns (bytesOf s) _ _ _ rfl rfl (HO.out.below (bytes_below (Below.refl _ _) (Nat.le_refl _) 5 s)) (bytes_reads w1 5 s (by omega)) (bytes_below HB.out HB.out.size 5 s) (by rw [Lib.bytesWorld_size]; have := HB.out.size; omega) ?hl ?_; (case hl => omega); intro v1 w2 hown hB hg hat; clear hg hat; have G := Lib.hid hown; have GB := Lib.hid hB; clear hown hB)
  go_ret
  exact ⟨_, rfl, by rw [← HE.out]; exact G.out, GB.out⟩

theorem encInt_length (n : Int) (h0 : -9223372036854775808 ≤ n) (h1 : n ≤ 9223372036854775807) : (encInt n).length ≤ 11 := by
  unfold encInt
  split
  · have := encNum_length (-n - 1).toNat (by omega)
    rw [List.length_cons]; omega
  · have := encNum_length n.toNat (by omega)
    rw [List.length_cons]; omega
theorem encText_length (s : ByteArray) (h : s.size < 18446744073709551616) : (encText s).length ≤ s.size + 10 := by
  have := encNum_length s.size h
  unfold encText
  rw [List.length_append, bytesOf_length]; omega
theorem bytes_str_calls (w : World) (base g : Nat) (ok : Nat → Prop) (xs : List Int) (hW : Wr w base g ok xs) (hl : xs.length ≤ 140737488355328) :
    Calls Try.prog 31 #[.pointer (some ⟨g, 0, none⟩)] w fun e w' => ∃ A c, e = .returned (.slice A xs.length c) ∧ xs.length ≤ c ∧ Hid (ReadsInt w' .u8 A xs.length xs) ∧ Below w.heap.size w w' :=
  (bytes_calls w base g ok xs hW hl).mono fun e w' ⟨v, h1, h2, h3⟩ => by
    obtain ⟨A, c, rfl, hc, hr⟩ := OwnB.reads (v := v) h2
    exact ⟨A, c, h1, hc, Lib.hid hr, h3⟩

end Go.Proofs.Ytneebjlpeekmbaa
