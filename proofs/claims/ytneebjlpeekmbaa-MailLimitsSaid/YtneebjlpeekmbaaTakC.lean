/- How a command is taken from a Reader. Conditions: bytes are bytes. -/
import Derived.Test.YtneebjlpeekmbaaGets
namespace Go.Proofs.Ytneebjlpeekmbaa
open Go.RowKit Go.Proofs.YtneebjlpeekmbaaW.PrintWords Go.Proofs.YtneebjlpeekmbaaW.PrintLast Go.Proofs.YtneebjlpeekmbaaW.PrintMore PRef
set_option linter.unusedVariables false
set_option linter.unusedSimpArgs false

/-- Whole numbers, one behind the other. -/
def intsR (xs : List Int) : Nat → Option Nat → List Int × Option Nat
  | 0, s => ([], s)
  | n + 1, s => ((intsR xs n s).1 ++ [(intR xs (intsR xs n s).2).1], (intR xs (intsR xs n s).2).2)
theorem intsR_succ (xs : List Int) (n : Nat) (s : Option Nat) : intsR xs (n + 1) s = ((intsR xs n s).1 ++ [(intR xs (intsR xs n s).2).1], (intR xs (intsR xs n s).2).2) := rfl
theorem intsR_len (xs : List Int) (s : Option Nat) : ∀ n, (intsR xs n s).1.length = n
  | 0 => rfl
  | n + 1 => by rw [intsR_succ, List.length_append, intsR_len xs s n]; rfl
/-- Cells from off on, filled. -/
def fill (cs : Array Value) (off : Nat) : List Int → Array Value
  | [] => cs
  | v :: vs => fill (cs.setIfInBounds off (.int .i64 v)) (off + 1) vs
theorem fill_snoc : ∀ (l : List Int) (cs : Array Value) (off : Nat) (v : Int), fill cs off (l ++ [v]) = (fill cs off l).setIfInBounds (off + l.length) (.int .i64 v)
  | [], cs, off, v => rfl
  | a :: l, cs, off, v => by
    show fill _ (off + 1) (l ++ [v]) = _
    rw [fill_snoc l, List.length_cons, Nat.add_assoc, Nat.add_comm 1 l.length]
    rfl
theorem fill_size : ∀ (l : List Int) (cs : Array Value) (off : Nat), (fill cs off l).size = cs.size
  | [], cs, off => rfl
  | a :: l, cs, off => by
    show (fill _ (off + 1) l).size = _
    rw [fill_size l, Array.size_setIfInBounds]

theorem own_base_mono {w : World} {b0 b1 n size : Nat} {e : TypeId} {v : Value} {xs : List Value} (h : w.ownsRow b1 e size v n xs) (hb : b0 ≤ b1) : w.ownsRow b0 e size v n xs := by
  obtain ⟨h1, h2⟩ := h
  refine ⟨h1, ?_⟩
  rcases h2 with h | ⟨g, cap, cur, e, hg, r⟩
  · exact .inl h
  · exact .inr ⟨g, cap, cur, e, Nat.le_trans hb hg, r⟩
def cmd0 : Cmd := ⟨0, 0, 0, 0, 0, []⟩
def cmdR (xs : List Int) (s : Option Nat) : Cmd × Option Nat :=
  let b := byteR xs s
  let p := intsR xs 4 b.2
  let t := getR xs (textS xs) p.2
  if t.2 = none then (cmd0, none) else (⟨b.1, p.1.getD 0 0, p.1.getD 1 0, p.1.getD 2 0, p.1.getD 3 0, t.1⟩, t.2)
theorem inf28 : (Try.prog.info? 28).map (·.size) = some 6 := by kernel_rfl

set_option maxRecDepth 100000 in
set_option maxHeartbeats 4000000 in
theorem takecmd_calls {w : World} {base g : Nat} {A : Option Addr} {c : Nat} {xs : List Int} {s : Option Nat} (h : Rd w base g A c xs s) :
    Calls Try.prog 70 #[.pointer (some ⟨g, 0, none⟩)] w fun e w' => ∃ v, e = .returned (.agg #[.int .i64 (cmdR xs s).1.op, .int .i64 (cmdR xs s).1.client, .int .i64 (cmdR xs s).1.seq, .int .i64 (cmdR xs s).1.cfrom, .int .i64 (cmdR xs s).1.cto, v]) ∧ OwnS w' w.heap.size v (cmdR xs s).1.data ∧ Rd w' base g A c xs (cmdR xs s).2 ∧ Chg (fun k => k = g) w w' := by
  have hbr := byteR_range xs s h.2.2.2.2
  have HT := Lib.hid (Ts.begin h ((Below.refl w.heap.size w).alloc (Nat.le_refl _) (.cells #[.int .i64 0, .int .i64 0, .int .i64 0, .int .i64 0, .int .i64 0, .slice none 0 0] 28)) (blk_new w (.cells #[.int .i64 0, .int .i64 0, .int .i64 0, .int .i64 0, .int .i64 0, .slice none 0 0] 28)) (Nat.le_refl _))
  clear h
  generalize hCR : cmdR xs s = cr
  have HCR := Lib.hid hCR
  clear hCR
  unfold cmdR at HCR
  obtain ⟨z, hz⟩ : ∃ z, z = byteR xs s := ⟨_, rfl⟩
  rw [← hz] at HCR hbr
  have HZ := Lib.hid hz
  clear hz
  obtain ⟨b0, s1⟩ := z
  dsimp only at HCR hbr
  have hw0 : IntKind.i64.wrap b0 = b0 := IntWalk.i64_in _ (by omega)
  go_enter Try.func70, Try.ntmps70
  go_wp2_with fail
  generalize w.alloc (.cells #[.int .i64 0, .int .i64 0, .int .i64 0, .int .i64 0, .int .i64 0, .slice none 0 0] 28) = w1 at HT ⊢
  ((with_reducible refine (rdbyte_calls HT.out.rd).mono ?_); rw [← HZ.out]; rintro e w2 ⟨rfl, hr, hc⟩; have HT2 := Lib.hid (HT.out.read hr hc); clear hr hc)
  have hcl := HT2.out.cell 0
  have hfz := HT2.out.frozen 0
  rw [show (#[Value.int .i64 0, .int .i64 0, .int .i64 0, .int .i64 0, .int .i64 0, .slice none 0 0])[0]? = some (Value.int .i64 0) from rfl] at hcl
  go_upto_region 2 with fail
  have HT2b : Hid (Ts w (w2.setCell ⟨w.heap.size, 0, none⟩ (.int .i64 b0)) base g A c xs s1 w.heap.size 28 #[.int .i64 b0, .int .i64 0, .int .i64 0, .int .i64 0, .int .i64 0, .slice none 0 0]) := Lib.hid (HT2.out.put 0 (.int .i64 b0))
  clear hcl hfz
  generalize w2.setCell ⟨w.heap.size, 0, none⟩ (.int .i64 b0) = w2b at HT2b ⊢
  go_wp2_with fail
  have hp3 := blk_new w2b (.cells #[.pointer (some ⟨w.heap.size, 1, none⟩), .pointer (some ⟨w.heap.size, 2, none⟩), .pointer (some ⟨w.heap.size, 3, none⟩), .pointer (some ⟨w.heap.size, 4, none⟩)] 78)
  have HP3 := Lib.hid hp3
  have HT3 := Lib.hid (HT2b.out.below ((Below.refl w2b.heap.size w2b).alloc (Nat.le_refl _) (.cells #[.pointer (some ⟨w.heap.size, 1, none⟩), .pointer (some ⟨w.heap.size, 2, none⟩), .pointer (some ⟨w.heap.size, 3, none⟩), .pointer (some ⟨w.heap.size, 4, none⟩)] 78)))
  have HN3 : Hid (w2b.heap.size ≠ g ∧ w2b.heap.size ≠ w.heap.size) := Lib.hid ⟨by have := HT2b.out.chg.size; have := HT2b.out.glt; omega, by have := blk_lt HT2b.out.blk; omega⟩
  clear hp3
  generalize w2b.alloc (.cells #[.pointer (some ⟨w.heap.size, 1, none⟩), .pointer (some ⟨w.heap.size, 2, none⟩), .pointer (some ⟨w.heap.size, 3, none⟩), .pointer (some ⟨w.heap.size, 4, none⟩)] 78) = w3 at HP3 HT3 ⊢
  go_loopw [15] (fun vi wr => ∃ i : Nat, vi = .int .i64 i ∧ i ≤ 4 ∧ Hid (Ts w wr base g A c xs (intsR xs i s1).2 w.heap.size 28 (fill #[.int .i64 b0, .int .i64 0, .int .i64 0, .int .i64 0, .int .i64 0, .slice none 0 0] 1 (intsR xs i s1).1)) ∧ Hid (wr.heap[w2b.heap.size]? = some (.cells #[.pointer (some ⟨w.heap.size, 1, none⟩), .pointer (some ⟨w.heap.size, 2, none⟩), .pointer (some ⟨w.heap.size, 3, none⟩), .pointer (some ⟨w.heap.size, 4, none⟩)] 78 (0, 0)))) (fun vi _ => 4 - (intOf vi).toNat)
  case atStart => exact ⟨0, rfl, by omega, HT3, HP3⟩
  case round =>
  obtain ⟨i, rfl, hi, HT, HP⟩ := hrel
  by_cases hlt : i < 4
  · have hptr : wr.cell? ⟨w2b.heap.size, i, none⟩ = some (.pointer (some ⟨w.heap.size, 1 + i, none⟩)) := by
      rw [blk_cell HP.out]
      have : i = 0 ∨ i = 1 ∨ i = 2 ∨ i = 3 := by omega
      rcases this with rfl | rfl | rfl | rfl <;> rfl
    go_wp2_with fail
    ((with_reducible refine (rdint_calls HT.out.rd).mono ?_); rintro e wq ⟨rfl, hr, hc⟩)
    have HTq := Lib.hid (HT.out.read hr hc)
    have HPq := Lib.hid (hc.get HP.out HN3.out.1)
    have hfz := HTq.out.frozen (1 + i)
    obtain ⟨X, hX⟩ : ∃ X, (fill #[.int .i64 b0, .int .i64 0, .int .i64 0, .int .i64 0, .int .i64 0, .slice none 0 0] 1 (intsR xs i s1).1)[1 + i]? = some X := ⟨_, Array.getElem?_eq_getElem (by rw [fill_size]; show 1 + i < 6; omega)⟩
    have hcl := HTq.out.cell (1 + i)
    rw [hX] at hcl
    clear hr hc hX
    go_wp2_with fail
    go_roundw
    case measure => simp [intOf]; omega
    case rel =>
      refine ⟨i + 1, by go_num, by omega, Lib.hid ?_, Lib.hid (blk_far HPq.out HN3.out.2 _)⟩
      have := HTq.out.put (1 + i) (.int .i64 (intR xs (intsR xs i s1).2).1)
      rw [intsR_succ, fill_snoc, intsR_len]
      skip
      exact this
  obtain rfl : i = 4 := by omega
  have HT3 := HT
  clear hlt hi HT HP HP3 HN3
  obtain ⟨v1, v2, v3, v4, s5, hi5⟩ : ∃ v1 v2 v3 v4 s5, intsR xs 4 s1 = ([v1, v2, v3, v4], s5) := ⟨_, _, _, _, _, rfl⟩
  have HT4 := HT3.out
  have hcr := HCR.out
  rw [hi5] at HT4 hcr
  dsimp only at HT4 hcr
  have HT4 : Hid (Ts w wr base g A c xs s5 w.heap.size 28 #[.int .i64 b0, .int .i64 v1, .int .i64 v2, .int .i64 v3, .int .i64 v4, .slice none 0 0]) := Lib.hid HT4
  obtain ⟨t, ht⟩ : ∃ t, t = getR xs (textS xs) s5 := ⟨_, rfl⟩
  rw [← ht] at hcr
  have HTT := Lib.hid ht
  have HCR := Lib.hid hcr
  clear ht hi5 hcr HT3
  obtain ⟨L, s6⟩ := t
  dsimp only at HCR
  go_wp2_with fail
  ((with_reducible refine (gettext_calls HT4.out.rd).mono ?_); rw [← HTT.out]; rintro e w5 ⟨v, rfl, ho, hr, hc⟩)
  have HT5 := Lib.hid (HT4.out.read hr hc)
  have hbs : w.heap.size ≤ wr.heap.size := HT4.out.chg.size
  have hbl : w.heap.size < wr.heap.size := blk_lt HT4.out.blk
  have hne : some w.heap.size ≠ v.ownBlock := fun hk => by have := own_base ho _ hk.symm; omega
  have HO := Lib.hid (show OwnS w5 w.heap.size v L from own_base_mono ho hbs)
  have HNE := Lib.hid hne
  have hcl := HT5.out.cell 5
  have hfz := HT5.out.frozen 5
  rw [show (#[Value.int .i64 b0, .int .i64 v1, .int .i64 v2, .int .i64 v3, .int .i64 v4, .slice none 0 0])[5]? = some (Value.slice none 0 0) from rfl] at hcl
  clear ho hr hc HT4 hne
  obtain ⟨B, d, rfl⟩ := own_slice HO.out
  go_upto_region 8 with fail
  have HT6 : Hid (Ts w (w5.setCell ⟨w.heap.size, 5, none⟩ (.slice B L.length d)) base g A c xs s6 w.heap.size 28 #[.int .i64 b0, .int .i64 v1, .int .i64 v2, .int .i64 v3, .int .i64 v4, .slice B L.length d]) := Lib.hid (HT5.out.put 5 (.slice B L.length d))
  have HO6 := Lib.hid (show OwnS (w5.setCell ⟨w.heap.size, 5, none⟩ (.slice B L.length d)) w.heap.size (.slice B L.length d) L from own_setCell HO.out HNE.out (.slice B L.length d))
  clear hcl hfz HO HT5
  generalize w5.setCell ⟨w.heap.size, 5, none⟩ (.slice B L.length d) = w6 at HT6 HO6 ⊢
  cases s6 with
  | none =>
    go_wp2_with (first | ((with_reducible refine (bad_calls HT6.out.rd).mono ?_); rintro e w' ⟨rfl, rfl⟩) | (refine wpList_store_row rfl 28 (.tmp 2) (.tmp 29) rfl w.heap.size #[.int .i64 0, .int .i64 0, .int .i64 0, .int .i64 0, .int .i64 0, .slice none 0 0] rfl rfl 28 _ HT6.out.blk inf28 rfl (by simp [Value.oneCell']) ?_))
    have HT7 := HT6.out.row #[.int .i64 0, .int .i64 0, .int .i64 0, .int .i64 0, .int .i64 0, .slice none 0 0]
    (try simp only [Exit.inBlock, Exit.then])
    refine bodyPost_ret (results_cell_row rfl _ _ w.heap.size 28 _ (0, 0) _ rfl HT7.blk Try.underlying28 rfl inf28) rfl ?_
    obtain rfl : cr = (cmd0, none) := by rw [← HCR.out]; simp
    exact ⟨_, rfl, own_nil _ _ _ _, HT7.rd, HT7.chg⟩
  | some a =>
    go_wp2_with (first | ((with_reducible refine (bad_calls HT6.out.rd).mono ?_); rintro e w' ⟨rfl, rfl⟩) | (refine wpList_load_row rfl 28 (.tmp 2) rfl w.heap.size rfl 28 _ (0, 0) _ HT6.out.blk Try.underlying28 rfl inf28 ?_) | (refine wpList_store_row rfl 28 (.tmp 2) (.tmp 30) rfl w.heap.size #[.int .i64 b0, .int .i64 v1, .int .i64 v2, .int .i64 v3, .int .i64 v4, .slice B L.length d] rfl rfl 28 _ HT6.out.blk inf28 rfl (by simp [Value.oneCell']) ?_))
    have HT7 := HT6.out.row #[.int .i64 b0, .int .i64 v1, .int .i64 v2, .int .i64 v3, .int .i64 v4, .slice B L.length d]
    (try simp only [Exit.inBlock, Exit.then])
    refine bodyPost_ret (results_cell_row rfl _ _ w.heap.size 28 _ (0, 0) _ rfl HT7.blk Try.underlying28 rfl inf28) rfl ?_
    obtain rfl : cr = (⟨b0, v1, v2, v3, v4, L⟩, some a) := by rw [← HCR.out]; simp
    refine ⟨_, rfl, own_move HO6.out (fun k hk => setRow_other _ _ _ _ (fun he => HNE.out (by rw [← he, hk]))), HT7.rd, HT7.chg⟩

end Go.Proofs.Ytneebjlpeekmbaa
