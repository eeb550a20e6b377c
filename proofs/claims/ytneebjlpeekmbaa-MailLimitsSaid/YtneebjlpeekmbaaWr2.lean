/- The Writer of package octet: Int, Bool, Text and Bytes. Conditions: the ranges of the kinds, and that fewer than 2^45 bytes lie there. -/
import Derived.Test.YtneebjlpeekmbaaWr
namespace Go.Proofs.Ytneebjlpeekmbaa
open Go.RowKit Go.Proofs.YtneebjlpeekmbaaW.PrintWords
set_option linter.unusedVariables false
set_option linter.unusedSimpArgs false
def encInt (n : Int) : List Int := if n < 0 then 1 :: encNum (-n - 1).toNat else 0 :: encNum n.toNat
def encText (s : ByteArray) : List Int := encNum s.size ++ bytesOf s

theorem encNum_length (n : Nat) (h : n < 18446744073709551616) : (encNum n).length ≤ 10 := by
  have := numLen_le n h
  unfold encNum
  rw [List.length_append, hi_length]
  simp
  omega

/-- Two calls one behind the other. -/
theorem more_more {ok : Nat → Prop} {w w1 : World} (h : w.heap.size ≤ w1.heap.size) : ∀ k, more (more ok w) w1 k → more ok w k := by
  intro k hk
  rcases hk with hk | hk
  · exact hk
  · exact .inr (Nat.le_trans h hk)
theorem Chg.then_more {ok : Nat → Prop} {w w1 w2 : World} (h : Chg ok w w1) (k : Chg (more ok w) w1 w2) : Chg ok w w2 :=
  h.trans k fun i hi hm => by
    rcases hm with hm | hm
    · exact hm
    · omega

set_option maxHeartbeats 400000 in
theorem int_calls (w : World) (base g : Nat) (ok : Nat → Prop) (xs : List Int) (n : Int) (hW : Wr w base g ok xs) (hl : xs.length < 35184372088831) (h0 : -9223372036854775808 ≤ n) (h1 : n ≤ 9223372036854775807) :
    Calls Try.prog 24 #[.pointer (some ⟨g, 0, none⟩), .int .i64 n] w fun e w' => e = .returned (.tuple #[]) ∧ Wr w' base g (more ok w) (xs ++ encInt n) ∧ Chg ok w w' := by
  have HW := Lib.hid hW
  clear hW
  by_cases hn : n < 0
  · obtain ⟨m, hm⟩ : ∃ m : Nat, m = (-n - 1).toNat := ⟨_, rfl⟩
    have HX : Hid (IntKind.u64.wrap (bits BinOp.xor IntKind.i64 (-1) n) = (m : Int)) := Lib.hid (by rw [not_i64 n h0 h1, IntKind.wrap_u64]; omega)
    have HE : Hid (encInt n = 1 :: encNum m) := Lib.hid (by rw [encInt, if_pos hn, hm])
    have hm2 : m < 18446744073709551616 := by omega
    clear hm
    go_enter Try.func24, Try.ntmps24
    go_wp2_with fail
    ((with_reducible refine (byte_calls _ base g ok xs 1 HW.out (by omega)).mono ?_); rintro e w1 ⟨rfl, hW1, hC1⟩)
    have HW1 := Lib.hid hW1
    have HC1 := Lib.hid hC1
    clear hW1 hC1
    go_wp2_with fail
    rw [HX.out]
    ((with_reducible refine (num_calls _ base g _ _ m HW1.out (by simp; omega) hm2).mono ?_); rintro e w2 ⟨rfl, hW2, hC2⟩)
    have HW2 := Lib.hid hW2
    have HC2 := Lib.hid hC2
    clear hW2 hC2
    go_wp2_with fail
    refine bodyPost_ret (results_none rfl _ _ _) rfl ?_
    refine ⟨rfl, ?_, HC1.out.then_more HC2.out⟩
    have := HW2.out.mono (more_more HC1.out.size)
    rw [HE.out]
    simpa using this
  · obtain ⟨m, rfl⟩ : ∃ m : Nat, n = m := ⟨n.toNat, by omega⟩
    have HE : Hid (encInt m = 0 :: encNum m) := Lib.hid (by rw [encInt, if_neg hn]; rfl)
    go_enter Try.func24, Try.ntmps24
    go_wp2_with fail
    ((with_reducible refine (byte_calls _ base g ok xs 0 HW.out (by omega)).mono ?_); rintro e w1 ⟨rfl, hW1, hC1⟩)
    have HW1 := Lib.hid hW1
    have HC1 := Lib.hid hC1
    clear hW1 hC1
    go_wp2_with fail
    ((with_reducible refine (num_calls _ base g _ _ m HW1.out (by simp; omega) (by omega)).mono ?_); rintro e w2 ⟨rfl, hW2, hC2⟩)
    have HW2 := Lib.hid hW2
    have HC2 := Lib.hid hC2
    clear hW2 hC2
    go_wp2_with fail
    go_end0
    refine ⟨rfl, ?_, HC1.out.then_more HC2.out⟩
    have := HW2.out.mono (more_more HC1.out.size)
    rw [HE.out]
    simpa using this

set_option maxHeartbeats 400000 in
theorem bool_calls (w : World) (base g : Nat) (ok : Nat → Prop) (xs : List Int) (b : Bool) (hW : Wr w base g ok xs) (hl : xs.length < 35184372088831) :
    Calls Try.prog 26 #[.pointer (some ⟨g, 0, none⟩), .bool b] w fun e w' => e = .returned (.tuple #[]) ∧ Wr w' base g (more ok w) (xs ++ [if b = true then 1 else 0]) ∧ Chg ok w w' := by
  have HW := Lib.hid hW
  clear hW
  cases b with
  | true =>
    go_enter Try.func26, Try.ntmps26
    go_wp2_with fail
    ((with_reducible refine (byte_calls _ base g ok xs 1 HW.out (by omega)).mono ?_); rintro e w1 ⟨rfl, hW1, hC1⟩)
    have HW1 := Lib.hid hW1
    have HC1 := Lib.hid hC1
    clear hW1 hC1
    go_wp2_with fail
    refine bodyPost_ret (results_none rfl _ _ _) rfl ?_
    exact ⟨rfl, HW1.out, HC1.out⟩
  | false =>
    go_enter Try.func26, Try.ntmps26
    go_wp2_with fail
    ((with_reducible refine (byte_calls _ base g ok xs 0 HW.out (by omega)).mono ?_); rintro e w1 ⟨rfl, hW1, hC1⟩)
    have HW1 := Lib.hid hW1
    have HC1 := Lib.hid hC1
    clear hW1 hC1
    go_wp2_with fail
    go_end0
    exact ⟨rfl, HW1.out, HC1.out⟩

/-- append(b, s...), b a row of the call's own, s a string: where the new row lies. -/
theorem append_str_at {P : Program} {w : World} (base : Nat) (t u ty e : TypeId) (i : TypeInfo) (ht : P.underlying t = some (.slice e)) (hu : P.underlying u = some .string) (hi : P.info? e = some i) (hz : i.zero = some (.int .u8 0))
    (hsize : i.size = 1) (hby : i.bytes = 1)
    (v : Value) (n : Nat) (xs : List Value) (hown : w.ownsRow base e 1 v n xs) (s : ByteArray)
    (h63 : n + s.size ≤ maxLen) (hbytes : n + s.size ≤ 140737488355328) (hbase : base ≤ w.heap.size) :
    ∃ v' w', (Builtin.append_ #[t, u] ty #[v, .string s]).run P w = .ok v' w' ∧ w'.ownsRow base e 1 v' (n + s.size) (xs ++ Lib.strCells s) ∧ w.grownBy w' v.ownBlock ∧
      (v'.ownBlock = v.ownBlock ∨ ∃ b, v'.ownBlock = some b ∧ w.heap.size ≤ b) := by
  obtain ⟨v', w', hr, h2, h3, h4⟩ := Lib.run_append_own_string (P := P) w base t u ty e i ht hu hi hz hsize hby v n xs hown s h63 hbytes hbase
  refine ⟨v', w', hr, h2, h3, ?_⟩
  have hsmall : n + s.size ≤ 9223372036854775807 := by simp only [maxLen] at h63; omega
  rcases hown.2 with ⟨rfl, rfl⟩ | ⟨g, cap, cur, rfl, hbg, hg, hnc, hcm, hcs, htake⟩
  · by_cases hm : s.size = 0
    · rw [h4.2 ⟨rfl, hm⟩]; exact .inl rfl
    · have hr2 := run_append_nil_string (P := P) w t u ty e i (.int .u8 0) ht hu hi hz s (by omega) (by omega) (by rw [hby]; omega)
      rw [hr] at hr2
      injection hr2 with hv hw
      subst hv
      exact .inr ⟨_, rfl, Nat.le_refl _⟩
  · by_cases hroom : n + s.size ≤ cap
    · have hcs' : cur.size = cap := by simpa using hcs
      have hr2 := Lib.run_append_room_string (P := P) w t u ty e i ht hu hi hsize g n cap cur hg s hroom (by omega)
      rw [hr] at hr2
      injection hr2 with hv hw
      subst hv
      exact .inl rfl
    · have hxl : xs.length = n := by simpa using hown.1
      have hr2 := Lib.run_append_grow_string (P := P) w t u ty e i (.int .u8 0) ht hu hi hz ⟨g, 0, none⟩ n cap xs (by rw [hsize]; simpa using hxl) (hown.cells (g := g) rfl) s (by omega) (by omega) (by rw [hby]; exact growslice_fits (by omega) (by omega))
      rw [hr] at hr2
      injection hr2 with hv hw
      subst hv
      exact .inr ⟨_, rfl, Nat.le_refl _⟩

theorem append_str {P : Program} {ops : Array Oper} {rest : List Oper} {o : Oper} {a : Act} {Q : Exit → Act → World → Prop} {W : World} (base : Nat) (hgd : o.guard = none) (s x : Operand) (t u e : TypeId)
    (ho : o.op = .call { callee := .builtin .append, args := #[s, x], argTypes := #[t, u] })
    (ht : P.underlying t = some (.slice e)) (hu : P.underlying u = some .string) (hinfo : (P.info? e).map (fun i => (i.zero, i.size, i.bytes)) = some (some (.int .u8 0), 1, 1))
    (v : Value) (xs : List Int) (y : ByteArray) (hs : a.eval s = v) (hx : a.eval x = .string y)
    (HO : W.ownsRow base e 1 v xs.length (nums .u8 xs)) (hbase : base ≤ W.heap.size) (hl : xs.length + y.size ≤ 140737488355328)
    (h : ∀ v1 w1, w1.ownsRow base e 1 v1 (xs ++ bytesOf y).length (nums .u8 (xs ++ bytesOf y)) → W.grownBy w1 v.ownBlock → (v1.ownBlock = v.ownBlock ∨ ∃ b, v1.ownBlock = some b ∧ W.heap.size ≤ b) → wpList P ops Q rest (a.put o.dst v1) w1) :
    wpList P ops Q (o :: rest) a W := by
  obtain ⟨i0, hi, hzz⟩ := Option.map_eq_some_iff.1 hinfo
  simp only [Prod.mk.injEq] at hzz
  obtain ⟨hz0, hz1, hz2⟩ := hzz
  refine wpList_plain hgd fun K hK => ?_
  obtain ⟨v', w', hr, h2, h3, h4⟩ := append_str_at (P := P) (w := W) base t u o.type e i0 ht hu hi hz0 hz1 hz2 v xs.length (nums .u8 xs) HO y (by simp only [maxLen]; omega) hl hbase
  have hl2 : (xs ++ bytesOf y).length = xs.length + y.size := by rw [List.length_append, bytesOf_length]
  have hc : nums .u8 (xs ++ bytesOf y) = nums .u8 xs ++ Lib.strCells y := by
    rw [nums_append]
    congr 1
    simp [nums, bytesOf, Lib.strCells]
  unfold Oper.wp execOp
  simp only [ho, resolve, invoke, builtin, Sem.run_bind, Sem.run_pure, Result.andThen_ok, List.map_toArray, List.map_cons, List.map_nil, hs, hx, hr]
  exact hK _ _ (h v' w' (by rw [hl2, hc]; exact h2) h3 h4)

set_option maxHeartbeats 400000 in
theorem text_calls (w : World) (base g : Nat) (ok : Nat → Prop) (xs : List Int) (s : ByteArray) (hW : Wr w base g ok xs) (hl : xs.length < 35184372088831) (hs : s.size ≤ 70368744177664) :
    Calls Try.prog 29 #[.pointer (some ⟨g, 0, none⟩), .string s] w fun e w' => e = .returned (.tuple #[]) ∧ Wr w' base g (more ok w) (xs ++ encText s) ∧ Chg ok w w' := by
  have HW := Lib.hid hW
  clear hW
  have hel := encNum_length s.size (by omega)
  go_enter Try.func29, Try.ntmps29
  go_wp2_with fail
  ((with_reducible refine (num_calls _ base g ok xs s.size HW.out (by omega) (by omega)).mono ?_); rintro e w1 ⟨rfl, hW1, hC1⟩)
  have HC1 := Lib.hid hC1
  have hbase := hW1.base_le
  obtain ⟨zs, hz⟩ : ∃ zs, zs = xs ++ encNum s.size := ⟨_, rfl⟩
  rw [← hz] at hW1
  have hzl : zs.length ≤ xs.length + 10 := by rw [hz, List.length_append]; omega
  obtain ⟨h0, h1, v, h2, h3, h4⟩ := hW1
  obtain ⟨A, c, rfl⟩ := own_slice h3
  have hc : w1.cell? ⟨g, 0, none⟩ = some (.slice A zs.length c) := by rw [blk_cell h2]; rfl
  have hf : w1.frozen? ⟨g, 0, none⟩ = false := blk_frozen h2 0
  have H2 := Lib.hid h2
  have H3 := Lib.hid h3
  have H4 := Lib.hid h4
  have HZ := Lib.hid hz
  clear h2 h3 h4 hC1 hz
  go_wp2_with (at_builtin; refine append_str base rfl (.tmp 13) (.tmp 14) 37 9 5 rfl Try.underlying37 Try.underlying9 info5 _ zs s rfl rfl H3.out hbase ?hl ?_; (case hl => omega); intro v1 w2 hown hg hat; obtain ⟨A1, c1, rfl⟩ := own_slice hown; have hg1 := blk_grown H2.out hg (wr_ne H2.out H3.out); have hc1 : w2.cell? ⟨g, 0, none⟩ = some (.slice A zs.length c) := (by rw [blk_cell hg1]; rfl); have hf1 : w2.frozen? ⟨g, 0, none⟩ = false := blk_frozen hg1 0; have G := Lib.hid (wr_stored h0 h1 H2.out H3.out H4.out hown hg hat); clear hown hg hat hg1)
  go_end0
  have h := G.out
  rw [List.length_append] at h
  have hz := HZ.out
  refine ⟨rfl, ?_, HC1.out.then_more h.2⟩
  have := h.1.mono (more_more HC1.out.size)
  rw [encText, ← List.append_assoc, ← hz]
  exact this

set_option maxHeartbeats 400000 in
theorem bytes_calls (w : World) (base g : Nat) (ok : Nat → Prop) (xs : List Int) (hW : Wr w base g ok xs) (hl : xs.length ≤ 140737488355328) :
    Calls Try.prog 31 #[.pointer (some ⟨g, 0, none⟩)] w fun e w' => ∃ v, e = .returned v ∧ w'.ownsRow w.heap.size 5 1 v xs.length (nums .u8 xs) ∧ Below w.heap.size w w' := by
  obtain ⟨h0, h1, v, h2, h3, h4⟩ := hW
  obtain ⟨A, c, rfl, hr⟩ := own_reads h3
  have hc : w.cell? ⟨g, 0, none⟩ = some (.slice A xs.length c) := by rw [blk_cell h2]; rfl
  have HR := Lib.hid hr
  clear h2 h3 h4 hr
  go_enter Try.func31, Try.ntmps31
  go_wp2_with (at_builtin; refine print_append_row (w0 := w) w.heap.size rfl (.const (.slice none 0 0)) (.tmp 6) 37 5 .u8 1 rfl Try.underlying37 info5 (by decide) (.slice none 0 0) [] xs A xs.length c rfl rfl (own_nil _ _ _ _) HR.out (Below.refl _ _) (Nat.le_refl _) ?hl ?_; (case hl => simp; omega); intro v1 w1 hown hB hg hat; clear hg hat; rw [List.nil_append] at hown; have G := Lib.hid hown; clear hown; have GB := Lib.hid hB; clear hB)
  go_ret
  exact ⟨_, rfl, G.out, GB.out⟩


end Go.Proofs.Ytneebjlpeekmbaa
