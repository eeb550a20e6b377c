/- The Writer of octets: what each method lays. Conditions: the worlds hold what is told of them. -/
import Derived.Test.YtfanbhbpmhojaaaBase
import Derived.Outline
import Derived.Test.YtfanbhbpmhojaaaLen
import Derived.Deep.DrawnRows
import Derived.Deep.RegionLaw
import Derived.StillTailTactics
namespace Go.Proofs.Ytfanbhbpmhojaaa
open Go.RowKit Go.Proofs.YtfanbhbpmhojaaaW.PrintWords
set_option linter.unusedVariables false
set_option linter.unusedSimpArgs false
theorem wr_ne {w : World} {base g : Nat} {n : Nat} {v u : Value} {xs : List Value} (hg : w.heap[g]? = some (.cells #[u] 118 (0, 0))) (h : w.ownsRow base 5 1 v n xs) : some g ≠ v.ownBlock := own_ne h hg (by decide)

/-- Behind an append onto the Writer's row and the store of what it gave. -/
theorem wr_stored {w w1 : World} {base g : Nat} {ok : Nat → Prop} {xs ys : List Int} {v v1 : Value} (h0 : base ≤ g) (h1 : ok g) (h2 : w.heap[g]? = some (.cells #[v] 118 (0, 0))) (h3 : w.ownsRow base 5 1 v xs.length (nums .u8 xs)) (h4 : ∀ k, v.ownBlock = some k → ok k)
    (hown : w1.ownsRow base 5 1 v1 (xs ++ ys).length (nums .u8 (xs ++ ys))) (hg : w.grownBy w1 v.ownBlock) (hat : v1.ownBlock = v.ownBlock ∨ ∃ b, v1.ownBlock = some b ∧ w.heap.size ≤ b) :
    Wr (w1.setCell ⟨g, 0, none⟩ v1) base g (more ok w) (xs ++ ys) ∧ Chg ok w (w1.setCell ⟨g, 0, none⟩ v1) := by
  have hne := wr_ne h2 h3
  have hg1 : w1.heap[g]? = some (.cells #[v] 118 (0, 0)) := blk_grown h2 hg hne
  have hne1 : some g ≠ v1.ownBlock := own_ne hown hg1 (by decide)
  refine ⟨⟨h0, .inl h1, v1, ?_, own_setCell hown (by exact hne1) _, ?_⟩, (Chg.of_grown hg h4).setCell (.inl h1) _⟩
  · have := blk_set hg1 0 v1
    simpa using this
  · intro k hk
    rcases hat with hat | ⟨b, hb, hlt⟩
    · exact .inl (h4 k (hat ▸ hk))
    · rw [hb] at hk
      injection hk with hk
      exact .inr (hk ▸ hlt)

theorem wr_stored' {w w1 : World} {base g : Nat} {ok : Nat → Prop} {xs ys : List Int} {n : Nat} {v v1 : Value} (h0 : base ≤ g) (h1 : ok g) (h2 : w.heap[g]? = some (.cells #[v] 118 (0, 0))) (h3 : w.ownsRow base 5 1 v xs.length (nums .u8 xs)) (h4 : ∀ k, v.ownBlock = some k → ok k)
    (hown : w1.ownsRow base 5 1 v1 n (nums .u8 xs ++ nums .u8 ys)) (hg : w.grownBy w1 v.ownBlock) (hat : v1.ownBlock = v.ownBlock ∨ ∃ b, v1.ownBlock = some b ∧ w.heap.size ≤ b) :
    Wr (w1.setCell ⟨g, 0, none⟩ v1) base g (more ok w) (xs ++ ys) ∧ Chg ok w (w1.setCell ⟨g, 0, none⟩ v1) := by
  have hn : n = (xs ++ ys).length := by have := hown.1; simp [nums] at this; simp [this]
  subst hn
  exact wr_stored h0 h1 h2 h3 h4 (by rw [nums_append]; exact hown) hg hat

set_option maxHeartbeats 400000 in
theorem byte_calls (w : World) (base g : Nat) (ok : Nat → Prop) (xs : List Int) (b : Int) (hW : Wr w base g ok xs) (hl : xs.length < 70368744177664) :
    Calls Try.prog 91 #[.pointer (some ⟨g, 0, none⟩), .int .u8 b] w fun e w' => e = .returned (.tuple #[]) ∧ Wr w' base g (more ok w) (xs ++ [b]) ∧ Chg ok w w' := by
  have hbase := hW.base_le
  obtain ⟨h0, h1, v, h2, h3, h4⟩ := hW
  obtain ⟨A, c, rfl⟩ := own_slice h3
  have hc : w.cell? ⟨g, 0, none⟩ = some (.slice A xs.length c) := by rw [blk_cell h2]; rfl
  have hf : w.frozen? ⟨g, 0, none⟩ = false := blk_frozen h2 0
  have H2 := Lib.hid h2
  have H3 := Lib.hid h3
  have H4 := Lib.hid h4
  clear h2 h3 h4
  go_enter Try.func91, Try.ntmps91
  go_wp2_with (at_builtin; refine print_append_num (w0 := w) base rfl (.tmp 8) (.tmp 10) 43 5 .u8 1 rfl Try.underlying43 info5 (by decide) _ xs b rfl rfl H3.out (Below.refl _ _) hbase ?hl ?_; (case hl => omega); intro v1 w1 hown hB hg hat; clear hB; obtain ⟨A1, c1, rfl⟩ := own_slice hown; have hg1 := blk_grown H2.out hg (wr_ne H2.out H3.out); have hc1 : w1.cell? ⟨g, 0, none⟩ = some (.slice A xs.length c) := (by rw [blk_cell hg1]; rfl); have hf1 : w1.frozen? ⟨g, 0, none⟩ = false := blk_frozen hg1 0; have G := Lib.hid (wr_stored h0 h1 H2.out H3.out H4.out hown hg hat); clear hown hg hat hg1)
  go_end0
  have h := G.out
  rw [List.length_append] at h
  exact ⟨rfl, h⟩


/-- The digits above the lowest, the highest first, each with the mark 128. -/
def hi (n : Nat) : Nat → List Int
  | 0 => []
  | k + 1 => ((n / 128 ^ (k + 1) % 128 + 128 : Nat) : Int) :: hi n k
/-- How many digits a number has. -/
def numLen (n : Nat) : Nat := max (Lib.bitLen n + 6) 7 / 7
def encNum (n : Nat) : List Int := hi n (numLen n - 1) ++ [((n % 128 : Nat) : Int)]

theorem hi_length (n k : Nat) : (hi n k).length = k := by
  induction k with
  | zero => rfl
  | succ k ih => simp [hi, ih]
theorem bitLen_64 (n : Nat) (h : n < 18446744073709551616) : Lib.bitLen n ≤ 64 := Lib.bitLen_le n 64 (by omega) h
theorem numLen_le (n : Nat) (h : n < 18446744073709551616) : 1 ≤ numLen n ∧ numLen n ≤ 10 := by
  have := bitLen_64 n h
  unfold numLen
  omega

theorem and_127 : ∀ b : Fin 256, b.val &&& 127 = b.val % 128 := by decide +kernel
theorem or_128 : ∀ b : Fin 256, b.val ||| 128 = b.val % 128 + 128 := by decide +kernel
theorem and_digit (n : Nat) : bits BinOp.and IntKind.u8 ((n : Int) % 256) 127 = ((n % 128 : Nat) : Int) := by
  have h := (bits_nat .u8 8 (by decide) wraps_u8 (n % 256) 127 (by omega) (by omega)).1
  rw [and_127 ⟨n % 256, by omega⟩] at h
  simp only [Int.natCast_emod] at h
  have h' : bits BinOp.and IntKind.u8 ((n : Int) % 256) 127 = ((n % 256 % 128 : Nat) : Int) := h
  rw [h']
  omega
theorem or_digit (n k : Nat) (s : Int) (hk : 1 ≤ k) (hs : s = 7 * ((k : Int) - 1)) : bits BinOp.or IntKind.u8 (IntKind.u8.wrap ((n : Int) / 2 ^ s.toNat)) 128 = ((n / 128 ^ (k - 1) % 128 + 128 : Nat) : Int) := by
  have hst : s.toNat = 7 * (k - 1) := by omega
  have hp : (2 : Int) ^ s.toNat = ((128 ^ (k - 1) : Nat) : Int) := by
    rw [hst, show (128 : Nat) = 2 ^ 7 from rfl, ← Nat.pow_mul]
    simp
  rw [hp, IntKind.wrap_u8]
  generalize 128 ^ (k - 1) = m
  have h := (bits_nat .u8 8 (by decide) wraps_u8 (n / m % 256) 128 (by omega) (by omega)).2
  rw [or_128 ⟨n / m % 256, by omega⟩] at h
  have h' : bits BinOp.or IntKind.u8 ((n / m % 256 : Nat) : Int) 128 = ((n / m % 256 % 128 + 128 : Nat) : Int) := h
  have e : ((n : Int) / (m : Int)) % 256 = ((n / m % 256 : Nat) : Int) := by simp
  rw [e, h']
  omega

attribute [local go_sem ↓] Go.wp_at_zero Go.wp_at_succ

set_option maxRecDepth 100000 in
set_option maxHeartbeats 400000 in
theorem num_calls (w : World) (base g : Nat) (ok : Nat → Prop) (xs : List Int) (n : Nat) (hW : Wr w base g ok xs) (hl : xs.length < 35184372088832) (hn : n < 18446744073709551616) :
    Calls Try.prog 92 #[.pointer (some ⟨g, 0, none⟩), .int .u64 n] w fun e w' => e = .returned (.tuple #[]) ∧ Wr w' base g (more ok w) (xs ++ encNum n) ∧ Chg ok w w' := by
  have hbl := bitLen_64 n hn
  have HW := Lib.hid hW
  clear hW
  have e1 : ((n : Int)).toNat = n := Int.toNat_natCast n
  go_enter Try.func92, Try.ntmps92
  go_wp2_with (go_at_call 105; refine (len64_calls _ _ (by omega) (by omega)).mono ?_; rintro e w' ⟨rfl, rfl⟩; rw [e1])
  have HK : Lib.bitLen n ≤ 64 := hbl
  go_loopw [4] (fun vk wr => ∃ (k : Nat) (zs : List Int), vk = .int .i64 k ∧ 1 ≤ k ∧ k ≤ 10 ∧ zs.length + k ≤ xs.length + 10 ∧ Hid (zs ++ hi n (k - 1) = xs ++ hi n (numLen n - 1)) ∧ Hid (Wr wr base g (more ok w) zs) ∧ Hid (Chg ok w wr)) (fun vk _ => (intOf vk).toNat)
  case atStart =>
    have hk := numLen_le n hn
    refine ⟨numLen n, xs, ?_, hk.1, hk.2, by omega, Lib.hid rfl, Lib.hid ?_, Lib.hid (Chg.refl _ _)⟩
    · unfold numLen; congr 1; omega
    · exact HW.out.mono fun k hk => .inl hk
  case round =>
    obtain ⟨k, zs, rfl, hk1, hk2, hyl, HY, HWr, HC⟩ := hrel
    have hbase := HWr.out.base_le
    obtain ⟨h0, h1, v, h2, h3, h4⟩ := HWr.out
    obtain ⟨A, c, rfl⟩ := own_slice h3
    have hc : wr.cell? ⟨g, 0, none⟩ = some (.slice A zs.length c) := by rw [blk_cell h2]; rfl
    have hf : wr.frozen? ⟨g, 0, none⟩ = false := blk_frozen h2 0
    have H2 := Lib.hid h2
    have H3 := Lib.hid h3
    have H4 := Lib.hid h4
    clear h2 h3 h4
    by_cases hk : 1 < k
    · have hs1 : IntKind.i64.wrap ((k : Int) - 1) = (k : Int) - 1 := IntWalk.i64_in _ (by omega)
      obtain ⟨s, hs⟩ : ∃ s : Int, s = 7 * ((k : Int) - 1) := ⟨_, rfl⟩
      have hs2 : IntKind.i64.wrap (7 * ((k : Int) - 1)) = s := by rw [hs]; exact IntWalk.i64_in _ (by omega)
      have hs3 : 0 ≤ s := by omega
      have hs4 : s ≤ 63 := by omega
      have HS := Lib.hid hs
      clear hs
      go_wp2_with fail
      have hc2 : wr.drew.cell? ⟨g, 0, none⟩ = some (.slice A zs.length c) := hc
      have hf2 : wr.drew.frozen? ⟨g, 0, none⟩ = false := hf
      have H2d : Hid (wr.drew.heap[g]? = some (.cells #[.slice A zs.length c] 118 (0, 0))) := Lib.hid H2.out
      have H3d := Lib.hid (H3.out.drew)
      have HCd := Lib.hid (HC.out.drew)
      have hbd : base ≤ wr.drew.heap.size := hbase
      have hc3 : ∀ o, (wr.alloc o).cell? ⟨g, 0, none⟩ = some (.slice A zs.length c) := fun o => (((Below.refl wr.heap.size wr).alloc (Nat.le_refl _) o).cell (p := ⟨g, 0, none⟩) (blk_lt H2.out)).trans hc
      clear H2 H3 HC hbase HWr
      go_region_law ((refine step_append_cells (w0 := wr.drew) base (by rfl) (.tmp 18) (.tmp 26) 43 5 (.int .u8 0) 1 1 (by rfl) Try.underlying43 info5 rfl (by decide) (by decide) (.slice A zs.length c) zs.length (nums .u8 zs) [.int .u8 (bits .or .u8 (IntKind.u8.wrap (n / 2 ^ s.toNat)) 128)] (by rfl) (by rfl) rfl (by simp [Value.oneCell']) H3d.out (Below.refl _ _) hbd (by omega) ?_; intro v1 w1 hown hB hg hat; clear hB; obtain ⟨A1, c1, rfl⟩ := own_slice hown; have hg1 := blk_grown H2d.out hg (wr_ne H2d.out H3d.out); have hc1 : w1.cell? ⟨g, 0, none⟩ = some (.slice A zs.length c) := (by rw [blk_cell hg1]; rfl); have hf1 : w1.frozen? ⟨g, 0, none⟩ = false := blk_frozen hg1 0; have G := Lib.hid (wr_stored' (ys := [bits .or .u8 (IntKind.u8.wrap (n / 2 ^ s.toNat)) 128]) h0 h1 H2d.out H3d.out H4.out hown hg hat); clear hown hg hat hg1))
      all_goals
        go_wp2_with fail
        go_roundw
        case measure => simp [intOf]; omega
        case rel =>
          have hG := G.out
          refine ⟨k - 1, zs ++ [bits .or .u8 (IntKind.u8.wrap (n / 2 ^ s.toNat)) 128], by go_num, by omega, by omega, by rw [List.length_append]; simp; omega, Lib.hid ?_, Lib.hid (hG.1.mono ?_), Lib.hid (HCd.out.trans hG.2 ?_)⟩
          · have h8 : bits .or .u8 (IntKind.u8.wrap (n / 2 ^ s.toNat)) 128 = ((n / 128 ^ (k - 1) % 128 + 128 : Nat) : Int) := or_digit n k s (by omega) HS.out
            rw [← HY.out, List.append_assoc, h8]
            obtain ⟨j, rfl⟩ : ∃ j, k = j + 2 := ⟨k - 2, by omega⟩
            rfl
          · intro i hi
            rcases hi with hi | hi
            · exact hi
            · exact .inr (Nat.le_trans HCd.out.size hi)
          · intro i hi hk
            rcases hk with hk | hk
            · exact hk
            · omega
    · go_wp2_with (at_builtin; refine print_append_num (w0 := wr) base rfl (.tmp 34) (.tmp 38) 43 5 .u8 1 rfl Try.underlying43 info5 (by decide) _ zs (bits .and .u8 (n % 256) 127) rfl rfl H3.out (Below.refl _ _) hbase ?hl ?_; (case hl => omega); intro v1 w1 hown hB hg hat; clear hB; obtain ⟨A1, c1, rfl⟩ := own_slice hown; have hg1 := blk_grown H2.out hg (wr_ne H2.out H3.out); have hc1 : w1.cell? ⟨g, 0, none⟩ = some (.slice A zs.length c) := (by rw [blk_cell hg1]; rfl); have hf1 : w1.frozen? ⟨g, 0, none⟩ = false := blk_frozen hg1 0; have G := Lib.hid (wr_stored h0 h1 H2.out H3.out H4.out hown hg hat); clear hown hg hat hg1)
      go_end0
      obtain rfl : k = 1 := by omega
      have hG := G.out
      rw [List.length_append] at hG
      have hz : zs ++ [bits .and .u8 (n % 256) 127] = xs ++ encNum n := by
        have := HY.out
        simp only [Nat.sub_self, hi, List.append_nil] at this
        rw [this, encNum, List.append_assoc, and_digit]
      refine ⟨rfl, ?_, HC.out.trans hG.2 ?_⟩
      · rw [← hz]
        refine hG.1.mono fun i hi => ?_
        rcases hi with hi | hi
        · exact hi
        · exact .inr (Nat.le_trans HC.out.size hi)
      · intro i hi hk
        rcases hk with hk | hk
        · exact hk
        · omega


end Go.Proofs.Ytfanbhbpmhojaaa

namespace Go.Proofs.Ytfanbhbpmhojaaa
open Go.RowKit Go.Proofs.YtfanbhbpmhojaaaW.PrintWords
set_option linter.unusedVariables false
set_option linter.unusedSimpArgs false
def encInt (n : Int) : List Int := if n < 0 then 1 :: encNum (-n - 1).toNat else 0 :: encNum n.toNat
def encText (s : ByteArray) : List Int := encNum s.size ++ bytesOf s

theorem encNum_length (n : Nat) (h : n < 18446744073709551616) : (encNum n).length ≤ 10 := by
  have := numLen_le n h
  unfold encNum
  rw [List.length_append, hi_length]
  simp
  omega

/-- Two calls one behind the other. -/
theorem more_more {ok : Nat → Prop} {w w1 : World} (h : w.heap.size ≤ w1.heap.size) : ∀ k, more (more ok w) w1 k → more ok w k := by
  intro k hk
  rcases hk with hk | hk
  · exact hk
  · exact .inr (Nat.le_trans h hk)
theorem Chg.then_more {ok : Nat → Prop} {w w1 w2 : World} (h : Chg ok w w1) (k : Chg (more ok w) w1 w2) : Chg ok w w2 :=
  h.trans k fun i hi hm => by
    rcases hm with hm | hm
    · exact hm
    · omega

set_option maxHeartbeats 400000 in
theorem int_calls (w : World) (base g : Nat) (ok : Nat → Prop) (xs : List Int) (n : Int) (hW : Wr w base g ok xs) (hl : xs.length < 35184372088831) (h0 : -9223372036854775808 ≤ n) (h1 : n ≤ 9223372036854775807) :
    Calls Try.prog 60 #[.pointer (some ⟨g, 0, none⟩), .int .i64 n] w fun e w' => e = .returned (.tuple #[]) ∧ Wr w' base g (more ok w) (xs ++ encInt n) ∧ Chg ok w w' := by
  have HW := Lib.hid hW
  clear hW
  by_cases hn : n < 0
  · obtain ⟨m, hm⟩ : ∃ m : Nat, m = (-n - 1).toNat := ⟨_, rfl⟩
    have HX : Hid (IntKind.u64.wrap (bits BinOp.xor IntKind.i64 (-1) n) = (m : Int)) := Lib.hid (by rw [not_i64 n h0 h1, IntKind.wrap_u64]; omega)
    have HE : Hid (encInt n = 1 :: encNum m) := Lib.hid (by rw [encInt, if_pos hn, hm])
    have hm2 : m < 18446744073709551616 := by omega
    clear hm
    go_enter Try.func60, Try.ntmps60
    go_wp2_with fail
    ((with_reducible refine (byte_calls _ base g ok xs 1 HW.out (by omega)).mono ?_); rintro e w1 ⟨rfl, hW1, hC1⟩)
    have HW1 := Lib.hid hW1
    have HC1 := Lib.hid hC1
    clear hW1 hC1
    go_wp2_with fail
    rw [HX.out]
    ((with_reducible refine (num_calls _ base g _ _ m HW1.out (by simp; omega) hm2).mono ?_); rintro e w2 ⟨rfl, hW2, hC2⟩)
    have HW2 := Lib.hid hW2
    have HC2 := Lib.hid hC2
    clear hW2 hC2
    go_wp2_with fail
    refine bodyPost_ret (results_none rfl _ _ _) rfl ?_
    refine ⟨rfl, ?_, HC1.out.then_more HC2.out⟩
    have := HW2.out.mono (more_more HC1.out.size)
    rw [HE.out]
    simpa using this
  · obtain ⟨m, rfl⟩ : ∃ m : Nat, n = m := ⟨n.toNat, by omega⟩
    have HE : Hid (encInt m = 0 :: encNum m) := Lib.hid (by rw [encInt, if_neg hn]; rfl)
    go_enter Try.func60, Try.ntmps60
    go_wp2_with fail
    ((with_reducible refine (byte_calls _ base g ok xs 0 HW.out (by omega)).mono ?_); rintro e w1 ⟨rfl, hW1, hC1⟩)
    have HW1 := Lib.hid hW1
    have HC1 := Lib.hid hC1
    clear hW1 hC1
    go_wp2_with fail
    ((with_reducible refine (num_calls _ base g _ _ m HW1.out (by simp; omega) (by omega)).mono ?_); rintro e w2 ⟨rfl, hW2, hC2⟩)
    have HW2 := Lib.hid hW2
    have HC2 := Lib.hid hC2
    clear hW2 hC2
    go_wp2_with fail
    go_end0
    refine ⟨rfl, ?_, HC1.out.then_more HC2.out⟩
    have := HW2.out.mono (more_more HC1.out.size)
    rw [HE.out]
    simpa using this

/-- append(b, s...), b a row of the call's own, s a string: where the new row lies. -/
theorem append_str_at {P : Program} {w : World} (base : Nat) (t u ty e : TypeId) (i : TypeInfo) (ht : P.underlying t = some (.slice e)) (hu : P.underlying u = some .string) (hi : P.info? e = some i) (hz : i.zero = some (.int .u8 0))
    (hsize : i.size = 1) (hby : i.bytes = 1)
    (v : Value) (n : Nat) (xs : List Value) (hown : w.ownsRow base e 1 v n xs) (s : ByteArray)
    (h63 : n + s.size ≤ maxLen) (hbytes : n + s.size ≤ 140737488355328) (hbase : base ≤ w.heap.size) :
    ∃ v' w', (Builtin.append_ #[t, u] ty #[v, .string s]).run P w = .ok v' w' ∧ w'.ownsRow base e 1 v' (n + s.size) (xs ++ Lib.strCells s) ∧ w.grownBy w' v.ownBlock ∧
      (v'.ownBlock = v.ownBlock ∨ ∃ b, v'.ownBlock = some b ∧ w.heap.size ≤ b) := by
  obtain ⟨v', w', hr, h2, h3, h4⟩ := Lib.run_append_own_string (P := P) w base t u ty e i ht hu hi hz hsize hby v n xs hown s h63 hbytes hbase
  refine ⟨v', w', hr, h2, h3, ?_⟩
  have hsmall : n + s.size ≤ 9223372036854775807 := by simp only [maxLen] at h63; omega
  rcases hown.2 with ⟨rfl, rfl⟩ | ⟨g, cap, cur, rfl, hbg, hg, hnc, hcm, hcs, htake⟩
  · by_cases hm : s.size = 0
    · rw [h4.2 ⟨rfl, hm⟩]; exact .inl rfl
    · have hr2 := run_append_nil_string (P := P) w t u ty e i (.int .u8 0) ht hu hi hz s (by omega) (by omega) (by rw [hby]; omega)
      rw [hr] at hr2
      injection hr2 with hv hw
      subst hv
      exact .inr ⟨_, rfl, Nat.le_refl _⟩
  · by_cases hroom : n + s.size ≤ cap
    · have hcs' : cur.size = cap := by simpa using hcs
      have hr2 := Lib.run_append_room_string (P := P) w t u ty e i ht hu hi hsize g n cap cur hg s hroom (by omega)
      rw [hr] at hr2
      injection hr2 with hv hw
      subst hv
      exact .inl rfl
    · have hxl : xs.length = n := by simpa using hown.1
      have hr2 := Lib.run_append_grow_string (P := P) w t u ty e i (.int .u8 0) ht hu hi hz ⟨g, 0, none⟩ n cap xs (by rw [hsize]; simpa using hxl) (hown.cells (g := g) rfl) s (by omega) (by omega) (by rw [hby]; exact growslice_fits (by omega) (by omega))
      rw [hr] at hr2
      injection hr2 with hv hw
      subst hv
      exact .inr ⟨_, rfl, Nat.le_refl _⟩

theorem append_str {P : Program} {ops : Array Oper} {rest : List Oper} {o : Oper} {a : Act} {Q : Exit → Act → World → Prop} {W : World} (base : Nat) (hgd : o.guard = none) (s x : Operand) (t u e : TypeId)
    (ho : o.op = .call { callee := .builtin .append, args := #[s, x], argTypes := #[t, u] })
    (ht : P.underlying t = some (.slice e)) (hu : P.underlying u = some .string) (hinfo : (P.info? e).map (fun i => (i.zero, i.size, i.bytes)) = some (some (.int .u8 0), 1, 1))
    (v : Value) (xs : List Int) (y : ByteArray) (hs : a.eval s = v) (hx : a.eval x = .string y)
    (HO : W.ownsRow base e 1 v xs.length (nums .u8 xs)) (hbase : base ≤ W.heap.size) (hl : xs.length + y.size ≤ 140737488355328)
    (h : ∀ v1 w1, w1.ownsRow base e 1 v1 (xs ++ bytesOf y).length (nums .u8 (xs ++ bytesOf y)) → W.grownBy w1 v.ownBlock → (v1.ownBlock = v.ownBlock ∨ ∃ b, v1.ownBlock = some b ∧ W.heap.size ≤ b) → wpList P ops Q rest (a.put o.dst v1) w1) :
    wpList P ops Q (o :: rest) a W := by
  obtain ⟨i0, hi, hzz⟩ := Option.map_eq_some_iff.1 hinfo
  simp only [Prod.mk.injEq] at hzz
  obtain ⟨hz0, hz1, hz2⟩ := hzz
  refine wpList_plain hgd fun K hK => ?_
  obtain ⟨v', w', hr, h2, h3, h4⟩ := append_str_at (P := P) (w := W) base t u o.type e i0 ht hu hi hz0 hz1 hz2 v xs.length (nums .u8 xs) HO y (by simp only [maxLen]; omega) hl hbase
  have hl2 : (xs ++ bytesOf y).length = xs.length + y.size := by rw [List.length_append, bytesOf_length]
  have hc : nums .u8 (xs ++ bytesOf y) = nums .u8 xs ++ Lib.strCells y := by
    rw [nums_append]
    congr 1
    simp [nums, bytesOf, Lib.strCells]
  unfold Oper.wp execOp
  simp only [ho, resolve, invoke, builtin, Sem.run_bind, Sem.run_pure, Result.andThen_ok, List.map_toArray, List.map_cons, List.map_nil, hs, hx, hr]
  exact hK _ _ (h v' w' (by rw [hl2, hc]; exact h2) h3 h4)

set_option maxHeartbeats 400000 in
theorem text_calls (w : World) (base g : Nat) (ok : Nat → Prop) (xs : List Int) (s : ByteArray) (hW : Wr w base g ok xs) (hl : xs.length < 35184372088831) (hs : s.size ≤ 70368744177664) :
    Calls Try.prog 61 #[.pointer (some ⟨g, 0, none⟩), .string s] w fun e w' => e = .returned (.tuple #[]) ∧ Wr w' base g (more ok w) (xs ++ encText s) ∧ Chg ok w w' := by
  have HW := Lib.hid hW
  clear hW
  have hel := encNum_length s.size (by omega)
  go_enter Try.func61, Try.ntmps61
  go_wp2_with fail
  ((with_reducible refine (num_calls _ base g ok xs s.size HW.out (by omega) (by omega)).mono ?_); rintro e w1 ⟨rfl, hW1, hC1⟩)
  have HC1 := Lib.hid hC1
  have hbase := hW1.base_le
  obtain ⟨zs, hz⟩ : ∃ zs, zs = xs ++ encNum s.size := ⟨_, rfl⟩
  rw [← hz] at hW1
  have hzl : zs.length ≤ xs.length + 10 := by rw [hz, List.length_append]; omega
  obtain ⟨h0, h1, v, h2, h3, h4⟩ := hW1
  obtain ⟨A, c, rfl⟩ := own_slice h3
  have hc : w1.cell? ⟨g, 0, none⟩ = some (.slice A zs.length c) := by rw [blk_cell h2]; rfl
  have hf : w1.frozen? ⟨g, 0, none⟩ = false := blk_frozen h2 0
  have H2 := Lib.hid h2
  have H3 := Lib.hid h3
  have H4 := Lib.hid h4
  have HZ := Lib.hid hz
  clear h2 h3 h4 hC1 hz
  go_wp2_with (at_builtin; refine append_str base rfl (.tmp 13) (.tmp 14) 43 9 5 rfl Try.underlying43 Try.underlying9 info5 _ zs s rfl rfl H3.out hbase ?hl ?_; (case hl => omega); intro v1 w2 hown hg hat; obtain ⟨A1, c1, rfl⟩ := own_slice hown; have hg1 := blk_grown H2.out hg (wr_ne H2.out H3.out); have hc1 : w2.cell? ⟨g, 0, none⟩ = some (.slice A zs.length c) := (by rw [blk_cell hg1]; rfl); have hf1 : w2.frozen? ⟨g, 0, none⟩ = false := blk_frozen hg1 0; have G := Lib.hid (wr_stored h0 h1 H2.out H3.out H4.out hown hg hat); clear hown hg hat hg1)
  go_end0
  have h := G.out
  rw [List.length_append] at h
  have hz := HZ.out
  refine ⟨rfl, ?_, HC1.out.then_more h.2⟩
  have := h.1.mono (more_more HC1.out.size)
  rw [encText, ← List.append_assoc, ← hz]
  exact this

set_option maxHeartbeats 400000 in
theorem bytes_calls (w : World) (base g : Nat) (ok : Nat → Prop) (xs : List Int) (hW : Wr w base g ok xs) (hl : xs.length ≤ 140737488355328) :
    Calls Try.prog 64 #[.pointer (some ⟨g, 0, none⟩)] w fun e w' => ∃ v, e = .returned v ∧ w'.ownsRow w.heap.size 5 1 v xs.length (nums .u8 xs) ∧ Below w.heap.size w w' := by
  obtain ⟨h0, h1, v, h2, h3, h4⟩ := hW
  obtain ⟨A, c, rfl, hr⟩ := own_reads h3
  have hc : w.cell? ⟨g, 0, none⟩ = some (.slice A xs.length c) := by rw [blk_cell h2]; rfl
  have HR := Lib.hid hr
  clear h2 h3 h4 hr
  go_enter Try.func64, Try.ntmps64
  go_wp2_with (at_builtin; refine print_append_row (w0 := w) w.heap.size rfl (.const (.slice none 0 0)) (.tmp 6) 43 5 .u8 1 rfl Try.underlying43 info5 (by decide) (.slice none 0 0) [] xs A xs.length c rfl rfl (own_nil _ _ _ _) HR.out (Below.refl _ _) (Nat.le_refl _) ?hl ?_; (case hl => simp; omega); intro v1 w1 hown hB hg hat; clear hg hat; rw [List.nil_append] at hown; have G := Lib.hid hown; clear hown; have GB := Lib.hid hB; clear hB)
  go_ret
  exact ⟨_, rfl, G.out, GB.out⟩



end Go.Proofs.Ytfanbhbpmhojaaa
