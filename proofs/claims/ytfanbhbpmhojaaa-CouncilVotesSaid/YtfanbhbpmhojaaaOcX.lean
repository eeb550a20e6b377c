/- Bytes and texts of octets: plain lists, the Writer's bytes. Conditions: as told. -/
import Derived.Test.YtfanbhbpmhojaaaOcW
import Derived.Test.YtfanbhbpmhojaaaRefC
import Derived.Lib.SlBytesConst
import Derived.Lib.SmallJoins
import Derived.Deep.RegionWith
namespace Go.Proofs.Ytfanbhbpmhojaaa
open Go.RowKit Go.Proofs.YtfanbhbpmhojaaaW.PrintWords Go.Proofs.YtfanbhbpmhojaaaW.PrintLast Go.Proofs.YtfanbhbpmhojaaaW.PrintMore PRef
set_option linter.unusedVariables false
set_option linter.unusedSimpArgs false
def IsBytes (xs : List Int) : Prop := ∀ x ∈ xs, 0 ≤ x ∧ x < 256

theorem IsBytes.getD {xs : List Int} (h : IsBytes xs) (i : Nat) : 0 ≤ xs.getD i 0 ∧ xs.getD i 0 < 256 := by
  rw [List.getD_eq_getElem?_getD]
  by_cases hi : i < xs.length
  · rw [List.getElem?_eq_getElem hi]; exact h _ (List.getElem_mem hi)
  · rw [List.getElem?_eq_none (by omega)]; simp
theorem IsBytes.nil : IsBytes [] := fun x h => by simp at h
theorem IsBytes.append {xs ys : List Int} (h : IsBytes xs) (k : IsBytes ys) : IsBytes (xs ++ ys) := fun x hx => by
  rcases List.mem_append.1 hx with hx | hx
  · exact h x hx
  · exact k x hx
theorem IsBytes.take {xs : List Int} (h : IsBytes xs) (n : Nat) : IsBytes (xs.take n) := fun x hx => h x (List.mem_of_mem_take hx)
theorem IsBytes.drop {xs : List Int} (h : IsBytes xs) (n : Nat) : IsBytes (xs.drop n) := fun x hx => h x (List.mem_of_mem_drop hx)
theorem IsBytes.lt {xs : List Int} (h : IsBytes xs) : ∀ c ∈ xs, c < 256 := fun c hc => (h c hc).2
theorem isBytes_of (s : ByteArray) : IsBytes (bytesOf s) := by
  intro x hx
  simp only [bytesOf, List.mem_map] at hx
  obtain ⟨b, _, rfl⟩ := hx
  have := b.toNat_lt
  omega

theorem isBytes_wf {xs : List Int} (h : ∀ n ∈ xs, (Lit.int .u8 n).wf = true) : IsBytes xs := fun x hx => by
  have := bounds_u8 (h x hx)
  omega

theorem wrap64_nat (i : Nat) (h : i + 1 < 9223372036854775808) : wrap64 ((i : Int) + 1) = ((i + 1 : Nat) : Int) := by
  unfold wrap64; omega

/-! ### Num -/
theorem hi_zero (n k : Nat) : hi n (k + 1) = hi (n / 128) k ++ [((n / 128 % 128 + 128 : Nat) : Int)] := by
  induction k with
  | zero => simp [hi]
  | succ k ih =>
    rw [hi, ih, hi]
    rw [Nat.div_div_eq_div_mul, Nat.pow_succ 128 (k + 1), Nat.mul_comm 128]
    rfl
theorem numLen_small (n : Nat) (h : n < 128) : numLen n = 1 := by
  have : Lib.bitLen n ≤ 7 := Lib.bitLen_le n 7 (by omega) (by omega)
  unfold numLen; omega
theorem numLen_big (n : Nat) (h : 128 ≤ n) (h64 : n < 18446744073709551616) : numLen n = numLen (n / 128) + 1 := by
  have h1 : Lib.bitLen n = 7 + Lib.bitLen (n / 2 ^ 7) := Lib.bitLen_shift 7 n (by omega) (by omega)
  have h2 : n / 2 ^ 7 = n / 128 := rfl
  rw [h2] at h1
  have h3 : Lib.bitLen (n / 128) = 1 + Lib.bitLen (n / 128 / 2) := Lib.bitLen_half _ (by omega) (by omega)
  unfold numLen; omega
theorem encNum_small (n : Nat) (h : n < 128) : encNum n = [(n : Int)] := by
  unfold encNum
  rw [numLen_small n h]
  simp [hi]
  omega
/-- What the digits above the lowest are. -/
theorem encNum_big (n : Nat) (h : 128 ≤ n) (h64 : n < 18446744073709551616) : encNum n = hi n (numLen (n / 128)) ++ [((n % 128 : Nat) : Int)] := by
  unfold encNum
  rw [numLen_big n h h64]
  rfl

/-- The reference's loop: what is still to be laid ahead of t. -/
theorem num_l0 : ∀ (d n : Nat) (t : List Int), n < 128 ^ (d + 1) → n < 18446744073709551616 → t.length + d < 1000 → Ev (fun k => lamellaref01_Num.l0 k (n : Int) t) (hi n (numLen n - 1) ++ t) := by
  intro d
  induction d with
  | zero =>
    intro n t hn h64 ht
    refine Ev.step (f := fun _ => some t) (fun k => ?_) ?_
    · simp only [lamellaref01_Num.l0]
      rw [if_neg (by omega)]
    · rw [numLen_small n (by simpa using hn)]
      exact Ev.now _
  | succ d ih =>
    intro n t hn h64 ht
    by_cases hs : n < 128
    · refine Ev.step (f := fun _ => some t) (fun k => ?_) ?_
      · simp only [lamellaref01_Num.l0]
        rw [if_neg (by omega)]
      · rw [numLen_small n hs]
        exact Ev.now _
    · have e1 : IntKind.u64.wrap (Int.tdiv (n : Int) 128) = ((n / 128 : Nat) : Int) := by rw [Int.tdiv_eq_ediv_of_nonneg (by omega), IntKind.wrap_u64]; omega
      have e2 : (((Int.tmod ((n / 128 : Nat) : Int) 128) % 256) + 128) % 256 = ((n / 128 % 128 + 128 : Nat) : Int) := by rw [Int.tmod_eq_emod_of_nonneg (by omega)]; omega
      have hlt : n / 128 < 128 ^ (d + 1) := by
        rw [Nat.pow_succ] at hn
        exact Nat.div_lt_of_lt_mul (by rw [Nat.mul_comm]; exact hn)
      have key := ih (n / 128) (((n / 128 % 128 + 128 : Nat) : Int) :: t) hlt (by omega) (by simp; omega)
      refine Ev.step (f := fun k => lamellaref01_Num.l0 k ((n / 128 : Nat) : Int) (((n / 128 % 128 + 128 : Nat) : Int) :: t)) (fun k => ?_) ?_
      · simp only [lamellaref01_Num.l0]
        rw [if_pos (by omega), e1, e2]
        simp only [Option.bind_some, List.length_singleton, List.singleton_append]
        rw [if_pos (by omega)]
      · rw [numLen_big n (by omega) h64]
        obtain ⟨m, hm⟩ : ∃ m, numLen (n / 128) = m + 1 := ⟨numLen (n / 128) - 1, by have := (numLen_le (n / 128) (by omega)).1; omega⟩
        rw [hm] at key ⊢
        simp only [Nat.add_sub_cancel] at key ⊢
        rw [hi_zero, List.append_assoc]
        exact key
theorem num_f (n : Nat) (h64 : n < 18446744073709551616) : Ev (fun k => lamellaref01_Num.f k (n : Int)) (encNum n) := by
  unfold lamellaref01_Num.f
  have e : (Int.tmod (n : Int) 128) % 256 = ((n % 128 : Nat) : Int) := by rw [Int.tmod_eq_emod_of_nonneg (by omega)]; omega
  rw [e]
  exact num_l0 9 n _ (by omega) h64 (by simp)
theorem int_f (n : Int) (h0 : -9223372036854775808 ≤ n) (h1 : n ≤ 9223372036854775807) : Ev (fun k => lamellaref01_Int.f k n) (encInt n) := by
  unfold lamellaref01_Int.f encInt
  by_cases hn : n < 0
  · have e : IntKind.u64.wrap (wrap64 (-(wrap64 (n + 1)))) = (((-n - 1).toNat : Nat) : Int) := by rw [IntKind.wrap_u64]; unfold wrap64; omega
    have hl := encNum_length (-n - 1).toNat (by omega)
    rw [if_pos hn]
    refine Ev.congr (f := fun k => (lamellaref01_Num.f k (((-n - 1).toNat : Nat) : Int)).bind fun t119 => if ([1] : List Int).length + t119.length < 140737488355328 then some ([1] ++ t119) else none) (fun k => ?_) ?_
    · rw [if_pos hn, e]; rfl
    · refine Ev.bind (num_f _ (by omega)) ?_
      refine Ev.congr (f := fun _ => some (1 :: encNum (-n - 1).toNat)) (fun k => ?_) (Ev.now _)
      rw [if_pos (by rw [List.length_singleton]; omega)]
      rfl
  · have e : IntKind.u64.wrap n = ((n.toNat : Nat) : Int) := by rw [IntKind.wrap_u64]; omega
    have hl := encNum_length n.toNat (by omega)
    rw [if_neg hn]
    refine Ev.congr (f := fun k => (lamellaref01_Num.f k ((n.toNat : Nat) : Int)).bind fun t119 => if ([0] : List Int).length + t119.length < 140737488355328 then some ([0] ++ t119) else none) (fun k => ?_) ?_
    · rw [if_neg hn, e]; rfl
    · refine Ev.bind (num_f _ (by omega)) ?_
      refine Ev.congr (f := fun _ => some (0 :: encNum n.toNat)) (fun k => ?_) (Ev.now _)
      rw [if_pos (by rw [List.length_singleton]; omega)]
      rfl



/-! ### memory -/
theorem reads_block {W : World} {b : Nat} {cs : Array Value} {t : TypeId} {fr : Nat × Nat} {xs : List Int} (h : W.heap[b]? = some (.cells cs t fr)) (hc : cs.toList = nums .u8 xs) (hl : xs.length ≤ 9223372036854775807) : ReadsInt W .u8 (some ⟨b, 0, none⟩) xs.length xs := by
  refine ⟨rfl, hl, fun _ => ⟨_, rfl, fun j hj => ?_⟩⟩
  rw [add_plain, cell_of_row W b j cs t fr h, ← Array.getElem?_toList, hc, nums, List.getElem?_map, List.getElem?_eq_getElem hj]
  simp [List.getD_eq_getElem?_getD, List.getElem?_eq_getElem hj]
theorem wr_new (w : World) : Wr (w.alloc (.cells #[.slice none 0 0] 118)) w.heap.size w.heap.size (fun k => w.heap.size ≤ k) [] :=
  ⟨Nat.le_refl _, Nat.le_refl _, .slice none 0 0, blk_new w _, own_nil _ _ _ _, fun k hk => by simp [Value.ownBlock] at hk⟩
/-- All blocks from B on are the Writer's to turn. -/
theorem Wr.from_ {w w1 : World} {base g B : Nat} {xs : List Int} (h : Wr w1 base g (more (fun k => B ≤ k) w) xs) (hB : B ≤ w.heap.size) : Wr w1 base g (fun k => B ≤ k) xs :=
  h.mono fun k hk => by
    rcases hk with hk | hk
    · exact hk
    · exact Nat.le_trans hB hk
theorem Chg.below_ {w w1 : World} {B : Nat} (h : Chg (fun k => B ≤ k) w w1) (hB : B ≤ w.heap.size) : Below B w w1 := h.below hB fun i hi hk => by omega

/-! ### the references -/
/-- A row of bytes of the call's own. -/
def OwnB (w : World) (base : Nat) (v : Value) (xs : List Int) : Prop := w.ownsRow base 5 1 v xs.length (nums .u8 xs)
theorem OwnB.of_R {w : World} {base : Nat} {ok : Nat → Prop} {v : Value} {xs : List Int} (h : Kd.R (Kd.int .u8) 5 w base ok v xs) : OwnB w base v xs := Kd.own_of_R h
theorem OwnB.below {w w1 : World} {base : Nat} {v : Value} {xs : List Int} (h : OwnB w base v xs) (hb : Below w.heap.size w w1) : OwnB w1 base v xs := pw_own_below h hb
theorem OwnB.reads {w : World} {base : Nat} {v : Value} {xs : List Int} (h : OwnB w base v xs) : ∃ A c, v = .slice A xs.length c ∧ xs.length ≤ c ∧ ReadsInt w .u8 A xs.length xs := by
  obtain ⟨A, c, rfl, hr⟩ := own_reads h
  exact ⟨A, c, rfl, own_le h, hr⟩
theorem rnum_calls (n : Nat) (w : World) (h64 : n < 18446744073709551616) :
    Calls Try.prog 76 #[.int .u64 n] w fun e w' => ∃ v, e = .returned v ∧ OwnB w' w.heap.size v (encNum n) ∧ Below w.heap.size w w' := by
  obtain ⟨k, hk⟩ := (num_f n h64).rounds
  exact (lamellaref01_Num.calls k n _ w hk).mono fun e w' ⟨v, h1, h2, h3⟩ => ⟨v, h1, .of_R h2, h3⟩
theorem rint_calls (n : Int) (w : World) (h0 : -9223372036854775808 ≤ n) (h1 : n ≤ 9223372036854775807) :
    Calls Try.prog 74 #[.int .i64 n] w fun e w' => ∃ v, e = .returned v ∧ OwnB w' w.heap.size v (encInt n) ∧ Below w.heap.size w w' := by
  obtain ⟨k, hk⟩ := (int_f n h0 h1).rounds
  exact (lamellaref01_Int.calls k n _ w hk).mono fun e w' ⟨v, h1, h2, h3⟩ => ⟨v, h1, .of_R h2, h3⟩

/-! ### cut -/
/-! ### lives -/
theorem reads_len {w : World} {k : IntKind} {A : Option Addr} {n : Nat} {xs : List Int} (h : ReadsInt w k A n xs) : ReadsInt w k A xs.length xs := by rw [h.1]; exact h
theorem own_empty (W : World) (base : Nat) (hb : base ≤ W.heap.size) : (W.alloc (.cells #[] 5)).ownsRow base 5 1 (.slice (some ⟨W.heap.size, 0, none⟩) 0 0) ([] : List Int).length (nums .u8 []) := own_lit W base 5 .u8 [] hb (by simp)

theorem strOfNums_bytes (s : ByteArray) : strOfNums (bytesOf s) = s := by
  unfold strOfNums bytesOf
  rw [List.map_map]
  have : ((fun n : Int => UInt8.ofNat n.toNat) ∘ fun b : UInt8 => (b.toNat : Int)) = id := by
    funext b
    simp
  rw [this, List.map_id]
theorem bytesOf_str (xs : List Int) (h : IsBytes xs) : bytesOf (strOfNums xs) = xs := by
  unfold bytesOf strOfNums
  simp only [List.map_map]
  have : ∀ x ∈ xs, ((fun b : UInt8 => (b.toNat : Int)) ∘ fun n : Int => UInt8.ofNat n.toNat) x = x := by
    intro x hx
    have := h x hx
    simp only [Function.comp]
    rw [UInt8.toNat_ofNat']
    omega
  rw [List.map_congr_left this]
  simp

theorem str_eq (xs ys : List Int) (hx : IsBytes xs) (hy : IsBytes ys) : ((strOfNums xs).toList == (strOfNums ys).toList) = decide (xs = ys) := by
  rw [Bool.eq_iff_iff, beq_iff_eq, decide_eq_true_iff, ByteArray.toList_eq, ByteArray.toList_eq]
  constructor
  · intro h
    have h2 : strOfNums xs = strOfNums ys := by
      have : (strOfNums xs).data = (strOfNums ys).data := Array.toList_inj.1 h
      cases hx2 : strOfNums xs
      cases hy2 : strOfNums ys
      rw [hx2, hy2] at this
      exact congrArg ByteArray.mk this
    rw [← bytesOf_str xs hx, ← bytesOf_str ys hy, h2]
  · rintro rfl
    rfl


-- The reference: a text is its length as a Num, and its bytes.
set_option maxRecDepth 100000 in
set_option maxHeartbeats 400000 in
theorem rtext_calls (s : ByteArray) (w : World) (hs : s.size ≤ 70368744177664) :
    Calls Try.prog 75 #[.string s] w fun e w' => ∃ v, e = .returned v ∧ OwnB w' w.heap.size v (encText s) ∧ Below w.heap.size w w' := by
  have kb := fun W => print_bytes (P := Try.prog) 9 43 5 Try.underlying9 Try.underlying43 Try.underlying5 s W
  have hel := encNum_length s.size (by omega)
  have HE : Hid (encNum s.size ++ bytesOf s = encText s) := Lib.hid rfl
  go_enter Try.func75, Try.ntmps75
  go_wp2_with fail
  ((with_reducible refine (rnum_calls s.size _ (by omega)).mono ?_); rintro e w1 ⟨v, rfl, hown, hb⟩)
  have HO := Lib.hid hown
  have HB := Lib.hid hb
  clear hown hb
  generalize encNum s.size = ns at HO HE hel
  go_wp2_with (at_builtin; refine print_append_row (w0 := w) w.heap.size rfl (.tmp 6) (.tmp 8) 43 5 .u8 1 rfl Try.underlying43 info5 (by decide) v ns (bytesOf s) _ _ _ rfl rfl (HO.out.below (bytes_below (Below.refl _ _) (Nat.le_refl _) 5 s)) (bytes_reads w1 5 s (by omega)) (bytes_below HB.out HB.out.size 5 s) (by rw [Lib.bytesWorld_size]; have := HB.out.size; omega) ?hl ?_; (case hl => omega); intro v1 w2 hown hB hg hat; clear hg hat; have G := Lib.hid hown; have GB := Lib.hid hB; clear hown hB)
  go_ret
  exact ⟨_, rfl, by rw [← HE.out]; exact G.out, GB.out⟩

theorem encInt_length (n : Int) (h0 : -9223372036854775808 ≤ n) (h1 : n ≤ 9223372036854775807) : (encInt n).length ≤ 11 := by
  unfold encInt
  split
  · have := encNum_length (-n - 1).toNat (by omega)
    rw [List.length_cons]; omega
  · have := encNum_length n.toNat (by omega)
    rw [List.length_cons]; omega
theorem encText_length (s : ByteArray) (h : s.size < 18446744073709551616) : (encText s).length ≤ s.size + 10 := by
  have := encNum_length s.size h
  unfold encText
  rw [List.length_append, bytesOf_length]; omega
theorem bytes_str_calls (w : World) (base g : Nat) (ok : Nat → Prop) (xs : List Int) (hW : Wr w base g ok xs) (hl : xs.length ≤ 140737488355328) :
    Calls Try.prog 64 #[.pointer (some ⟨g, 0, none⟩)] w fun e w' => ∃ A c, e = .returned (.slice A xs.length c) ∧ xs.length ≤ c ∧ Hid (ReadsInt w' .u8 A xs.length xs) ∧ Below w.heap.size w w' :=
  (bytes_calls w base g ok xs hW hl).mono fun e w' ⟨v, h1, h2, h3⟩ => by
    obtain ⟨A, c, rfl, hc, hr⟩ := OwnB.reads (v := v) h2
    exact ⟨A, c, h1, hc, Lib.hid hr, h3⟩

end Go.Proofs.Ytfanbhbpmhojaaa

namespace Go.Proofs.Ytfanbhbpmhojaaa
open Go.RowKit Go.Proofs.YtfanbhbpmhojaaaW.PrintWords Go.Proofs.YtfanbhbpmhojaaaW.PrintLast Go.Proofs.YtfanbhbpmhojaaaW.PrintMore PRef
set_option linter.unusedVariables false
set_option linter.unusedSimpArgs false
theorem ownB_nil (w : World) (base : Nat) : OwnB w base (.slice none 0 0) [] := own_nil _ _ _ _

end Go.Proofs.Ytfanbhbpmhojaaa
