/- Loading a council: Load. Conditions: bytes are bytes, and not too many. -/
import Derived.Test.YtfanbhbpmhojaaaLo1
import Derived.Test.YtfanbhbpmhojaaaOcU
import Derived.Test.YtfanbhbpmhojaaaLoR
namespace Go.Proofs.Ytfanbhbpmhojaaa
open Go.RowKit Go.Proofs.YtfanbhbpmhojaaaW.PrintWords Go.Proofs.YtfanbhbpmhojaaaW.PrintLast Go.Proofs.YtfanbhbpmhojaaaW.PrintMore PRef
attribute [local go_sem] max2_int min2_int max_two min_two
set_option linter.unusedVariables false
set_option linter.unusedSimpArgs false

/-- What a council keeps. -/
structure Sta where
  term : Int
  vote : Int
  idx : Int
  past : Int
  vot : ByteArray
  text : ByteArray
  log : List S39
/-- What bytes say, one after the other. -/
def staR (xs : List Int) (s : Option Nat) : Sta × Option Nat :=
  let p := intsR xs 4 s
  let e := textS xs p.2
  let f := textS xs e.2
  let l := getR xs (entR xs) f.2
  (⟨p.1.getD 0 0, p.1.getD 1 0, p.1.getD 2 0, p.1.getD 3 0, e.1, f.1, l.1⟩, l.2)
/-- A council just loaded. -/
def St.load (self t v i p : Int) (vo tx : ByteArray) (A : Option Addr) (cap : Nat) (log : List S39) (com tol : Int) : St :=
  { self := self, term := t, vote := v, bidx := i, bterm := p, bvot := vo, btext := tx, A := A, cap := cap, log := log, role := 0, leader := -1, commit := com, told := tol, clock := 0, vs := fun _ => false, nx := fun _ => 0, mt := fun _ => 0, keep := false, mA := none, mN := 0, mC := 0, nA := none, nN := 0, nC := 0 }
def mayL (x : Sta) : Prop := 0 < (votV x.vot).length ∧ 0 ≤ x.term ∧ x.term ≤ 1099511627776 ∧ -1 ≤ x.vote ∧ x.vote < 7 ∧ 0 ≤ x.idx ∧ x.idx ≤ 1099511627776 ∧ 0 ≤ x.past ∧ riseS x.past x.term x.log
def LoadPost (self : Int) (xs : List Int) (w : World) (e : Ending) (w' : World) : Prop :=
  Below w.heap.size w w' ∧
  (((staR xs (some 0)).2 = some xs.length ∧ mayL (staR xs (some 0)).1 ∧ ∃ g A cap, e = .returned (.tuple #[.pointer (some ⟨g, 0, none⟩), .int .i64 0]) ∧ w.heap.size ≤ g ∧ Co w' g (St.load self (staR xs (some 0)).1.term (staR xs (some 0)).1.vote (staR xs (some 0)).1.idx (staR xs (some 0)).1.past (staR xs (some 0)).1.vot (staR xs (some 0)).1.text A cap (staR xs (some 0)).1.log (staR xs (some 0)).1.idx (staR xs (some 0)).1.idx)) ∨
   (¬ ((staR xs (some 0)).2 = some xs.length ∧ mayL (staR xs (some 0)).1) ∧ e = .returned (.tuple #[.pointer none, .int .i64 4])))

theorem textS_size (xs : List Int) (s : Option Nat) : (textS xs s).1.size ≤ xs.length := by
  unfold textS
  dsimp only
  have h : (textR xs s).1.length ≤ xs.length := by
    unfold textR
    split
    · exact Nat.zero_le _
    · split
      · exact Nat.zero_le _
      · rw [List.length_take, List.length_drop]; omega
  unfold strOfNums
  show (List.toArray _).size ≤ _
  simpa using h
theorem loopR_mem {α : Type} (each : Option Nat → α × Option Nat) : ∀ (n : Nat) (s : Option Nat), ∀ x ∈ (loopR each n s).1, ∃ t, x = (each t).1
  | 0, s, x, hx => by cases hx
  | n + 1, s, x, hx => by
    unfold loopR at hx
    split at hx
    · cases hx
    · rcases List.mem_cons.1 hx with rfl | h
      · exact ⟨s, rfl⟩
      · exact loopR_mem each n _ x h
theorem loopR_le {α : Type} (each : Option Nat → α × Option Nat) : ∀ (n : Nat) (s : Option Nat), (loopR each n s).1.length ≤ n
  | 0, s => Nat.le_refl 0
  | n + 1, s => by
    unfold loopR
    split
    · exact Nat.zero_le _
    · exact Nat.succ_le_succ (loopR_le each n _)
theorem getR_len {α : Type} (xs : List Int) (each : Option Nat → α × Option Nat) (s : Option Nat) : (getR xs each s).1.length ≤ 4096 := by
  unfold getR
  dsimp only
  by_cases hb : 4096 < (numR xs s).1 ∨ leftR xs (numR xs s).2 < (numR xs s).1
  · rw [if_pos hb, loopR_none]; exact Nat.zero_le _
  · rw [if_neg hb]
    split
    · exact Nat.zero_le _
    · exact Nat.le_trans (loopR_le _ _ _) (by omega)
theorem getR_size (xs : List Int) (s : Option Nat) : ∀ x ∈ (getR xs (entR xs) s).1, x.f2.size ≤ xs.length := by
  intro x hx
  unfold getR at hx
  dsimp only at hx
  by_cases hb : 4096 < (numR xs s).1 ∨ leftR xs (numR xs s).2 < (numR xs s).1
  · rw [if_pos hb, loopR_none] at hx
    simp at hx
  · rw [if_neg hb] at hx
    split at hx
    · cases hx
    · obtain ⟨t, rfl⟩ := loopR_mem _ _ _ x hx
      exact textS_size xs _
theorem load_self (self : Int) (A : Option Addr) (c n : Nat) (w : World) (h : council_isNode.f self = some false) :
    Calls Try.prog 18 #[.int .i64 self, .slice A n c] w fun e w' => e = .returned (.tuple #[.pointer none, .int .i64 1]) ∧ Below w.heap.size w w' := by
  have HN := fun W => Lib.hid (council_isNode.calls self false W h)
  go_enter Try.func18, Try.ntmps18
  go_wp2_with ((with_reducible refine (HN _).out.mono ?_); rintro e w3 ⟨rfl, hb⟩; have HB3 := Lib.hid hb.below; clear hb)
  go_ret2
  exact ⟨rfl, HB3.out⟩

set_option maxRecDepth 100000 in
set_option maxHeartbeats 4000000 in
theorem load_calls (self : Int) (A : Option Addr) (c : Nat) (xs : List Int) (w : World) (h0 : 0 ≤ self) (h7 : self < 7) (hr : ReadsInt w .u8 A xs.length xs) (hc : xs.length ≤ c) (hb : IsBytes xs) (hl : xs.length ≤ 1000000) :
    Calls Try.prog 18 #[.int .i64 self, .slice A xs.length c] w fun e w' => LoadPost self xs w e w' := by
  have HN := fun W => Lib.hid (council_isNode.calls self true W (isNode_f self h0 h7))
  have HR := Lib.hid hr
  have HC := Lib.hid hc
  have HIB := Lib.hid hb
  clear hr hc hb
  go_enter Try.func18, Try.ntmps18
  go_upto_region 3 with ((with_reducible refine (HN _).out.mono ?_); rintro e w0 ⟨rfl, hb⟩; have HB0 := Lib.hid hb.below; clear hb)
  have HNR := Lib.hid (reader_new A c xs w0 (HR.out.below HB0.out) HC.out HIB.out (by omega))
  go_upto_region 4 with ((with_reducible refine HNR.out.mono ?_); rintro e w1 ⟨g, A1, c1, rfl, hg, HRD, HB1⟩)
  have HT : Hid (Ts w1 (w1.alloc (.cells #[.int .i64 self, .int .i64 0, .int .i64 0, .int .i64 0, .int .i64 0, .string ⟨#[]⟩, .string ⟨#[]⟩, .slice none 0 0, .int .i64 0, .int .i64 (-1), .int .i64 0, .int .i64 0, .int .i64 0, .bool false, .bool false, .bool false, .bool false, .bool false, .bool false, .bool false, .int .i64 0, .int .i64 0, .int .i64 0, .int .i64 0, .int .i64 0, .int .i64 0, .int .i64 0, .int .i64 0, .int .i64 0, .int .i64 0, .int .i64 0, .int .i64 0, .int .i64 0, .int .i64 0, .bool false, .slice none 0 0, .slice none 0 0] 94)) w0.heap.size g A1 c1 xs (some 0) w1.heap.size 94 #[.int .i64 self, .int .i64 0, .int .i64 0, .int .i64 0, .int .i64 0, .string ⟨#[]⟩, .string ⟨#[]⟩, .slice none 0 0, .int .i64 0, .int .i64 (-1), .int .i64 0, .int .i64 0, .int .i64 0, .bool false, .bool false, .bool false, .bool false, .bool false, .bool false, .bool false, .int .i64 0, .int .i64 0, .int .i64 0, .int .i64 0, .int .i64 0, .int .i64 0, .int .i64 0, .int .i64 0, .int .i64 0, .int .i64 0, .int .i64 0, .int .i64 0, .int .i64 0, .int .i64 0, .bool false, .slice none 0 0, .slice none 0 0]) := Lib.hid (Ts.begin HRD.out ((Below.refl w1.heap.size w1).alloc (Nat.le_refl _) (.cells #[.int .i64 self, .int .i64 0, .int .i64 0, .int .i64 0, .int .i64 0, .string ⟨#[]⟩, .string ⟨#[]⟩, .slice none 0 0, .int .i64 0, .int .i64 (-1), .int .i64 0, .int .i64 0, .int .i64 0, .bool false, .bool false, .bool false, .bool false, .bool false, .bool false, .bool false, .int .i64 0, .int .i64 0, .int .i64 0, .int .i64 0, .int .i64 0, .int .i64 0, .int .i64 0, .int .i64 0, .int .i64 0, .int .i64 0, .int .i64 0, .int .i64 0, .int .i64 0, .int .i64 0, .bool false, .slice none 0 0, .slice none 0 0] 94)) (blk_new w1 (.cells #[.int .i64 self, .int .i64 0, .int .i64 0, .int .i64 0, .int .i64 0, .string ⟨#[]⟩, .string ⟨#[]⟩, .slice none 0 0, .int .i64 0, .int .i64 (-1), .int .i64 0, .int .i64 0, .int .i64 0, .bool false, .bool false, .bool false, .bool false, .bool false, .bool false, .bool false, .int .i64 0, .int .i64 0, .int .i64 0, .int .i64 0, .int .i64 0, .int .i64 0, .int .i64 0, .int .i64 0, .int .i64 0, .int .i64 0, .int .i64 0, .int .i64 0, .int .i64 0, .int .i64 0, .bool false, .slice none 0 0, .slice none 0 0] 94)) (Nat.le_refl _))
  have HGW := Lib.hid hg
  clear HRD hg HNR HN
  go_upto_region 5 with fail
  generalize w1.alloc (.cells #[.int .i64 self, .int .i64 0, .int .i64 0, .int .i64 0, .int .i64 0, .string ⟨#[]⟩, .string ⟨#[]⟩, .slice none 0 0, .int .i64 0, .int .i64 (-1), .int .i64 0, .int .i64 0, .int .i64 0, .bool false, .bool false, .bool false, .bool false, .bool false, .bool false, .bool false, .int .i64 0, .int .i64 0, .int .i64 0, .int .i64 0, .int .i64 0, .int .i64 0, .int .i64 0, .int .i64 0, .int .i64 0, .int .i64 0, .int .i64 0, .int .i64 0, .int .i64 0, .int .i64 0, .bool false, .slice none 0 0, .slice none 0 0] 94) = w2 at HT ⊢
  go_region
  (try simp only [Exit.then])
  have hal := (Below.refl w2.heap.size w2).alloc (Nat.le_refl _) (.cells #[.pointer (some ⟨w1.heap.size, 1, none⟩), .pointer (some ⟨w1.heap.size, 2, none⟩), .pointer (some ⟨w1.heap.size, 3, none⟩), .pointer (some ⟨w1.heap.size, 4, none⟩)] 103)
  have HT3 := Lib.hid ((HT.out.below hal).below (below_drew (Below.refl _ _)))
  have HP3 := Lib.hid (blk_below (blk_new w2 (.cells #[.pointer (some ⟨w1.heap.size, 1, none⟩), .pointer (some ⟨w1.heap.size, 2, none⟩), .pointer (some ⟨w1.heap.size, 3, none⟩), .pointer (some ⟨w1.heap.size, 4, none⟩)] 103)) (below_drew (Below.refl (w2.alloc (.cells #[.pointer (some ⟨w1.heap.size, 1, none⟩), .pointer (some ⟨w1.heap.size, 2, none⟩), .pointer (some ⟨w1.heap.size, 3, none⟩), .pointer (some ⟨w1.heap.size, 4, none⟩)] 103)).heap.size _)))
  have HN3 : Hid (w2.heap.size ≠ g ∧ w2.heap.size ≠ w1.heap.size) := Lib.hid ⟨by have := HT.out.chg.size; have := HT.out.glt; omega, by have := blk_lt HT.out.blk; omega⟩
  clear hal
  generalize (w2.alloc (.cells #[.pointer (some ⟨w1.heap.size, 1, none⟩), .pointer (some ⟨w1.heap.size, 2, none⟩), .pointer (some ⟨w1.heap.size, 3, none⟩), .pointer (some ⟨w1.heap.size, 4, none⟩)] 103)).drew = w3 at HP3 HT3 ⊢
  go_wp2_with fail
  go_loopw [37] (fun vi wr => ∃ i : Nat, vi = .int .i64 i ∧ i ≤ 4 ∧ Hid (Ts w1 wr w0.heap.size g A1 c1 xs (intsR xs i (some 0)).2 w1.heap.size 94 (fill #[.int .i64 self, .int .i64 0, .int .i64 0, .int .i64 0, .int .i64 0, .string ⟨#[]⟩, .string ⟨#[]⟩, .slice none 0 0, .int .i64 0, .int .i64 (-1), .int .i64 0, .int .i64 0, .int .i64 0, .bool false, .bool false, .bool false, .bool false, .bool false, .bool false, .bool false, .int .i64 0, .int .i64 0, .int .i64 0, .int .i64 0, .int .i64 0, .int .i64 0, .int .i64 0, .int .i64 0, .int .i64 0, .int .i64 0, .int .i64 0, .int .i64 0, .int .i64 0, .int .i64 0, .bool false, .slice none 0 0, .slice none 0 0] 1 (intsR xs i (some 0)).1)) ∧ Hid (wr.heap[w2.heap.size]? = some (.cells #[.pointer (some ⟨w1.heap.size, 1, none⟩), .pointer (some ⟨w1.heap.size, 2, none⟩), .pointer (some ⟨w1.heap.size, 3, none⟩), .pointer (some ⟨w1.heap.size, 4, none⟩)] 103 (0, 0)))) (fun vi _ => 4 - (intOf vi).toNat)
  case atStart => exact ⟨0, rfl, by omega, HT3, HP3⟩
  case round =>
  obtain ⟨i, rfl, hi, HT, HP⟩ := hrel
  by_cases hlt : i < 4
  · have hptr : wr.cell? ⟨w2.heap.size, i, none⟩ = some (.pointer (some ⟨w1.heap.size, 1 + i, none⟩)) := by
      rw [blk_cell HP.out]
      have : i = 0 ∨ i = 1 ∨ i = 2 ∨ i = 3 := by omega
      rcases this with rfl | rfl | rfl | rfl <;> rfl
    go_wp2_with fail
    ((with_reducible refine (rdint_calls HT.out.rd).mono ?_); rintro e wq ⟨rfl, hr, hc⟩)
    have HTq := Lib.hid (HT.out.read hr hc)
    have HPq := Lib.hid (hc.get HP.out HN3.out.1)
    have hfz := HTq.out.frozen (1 + i)
    obtain ⟨X, hX⟩ : ∃ X, (fill #[.int .i64 self, .int .i64 0, .int .i64 0, .int .i64 0, .int .i64 0, .string ⟨#[]⟩, .string ⟨#[]⟩, .slice none 0 0, .int .i64 0, .int .i64 (-1), .int .i64 0, .int .i64 0, .int .i64 0, .bool false, .bool false, .bool false, .bool false, .bool false, .bool false, .bool false, .int .i64 0, .int .i64 0, .int .i64 0, .int .i64 0, .int .i64 0, .int .i64 0, .int .i64 0, .int .i64 0, .int .i64 0, .int .i64 0, .int .i64 0, .int .i64 0, .int .i64 0, .int .i64 0, .bool false, .slice none 0 0, .slice none 0 0] 1 (intsR xs i (some 0)).1)[1 + i]? = some X := ⟨_, Array.getElem?_eq_getElem (by rw [fill_size]; show 1 + i < 37; omega)⟩
    have hcl := HTq.out.cell (1 + i)
    rw [hX] at hcl
    clear hr hc hX
    go_wp2_with fail
    go_roundw
    case measure => simp [intOf]; omega
    case rel =>
      refine ⟨i + 1, by go_num, by omega, Lib.hid ?_, Lib.hid (blk_far HPq.out HN3.out.2 _)⟩
      have := HTq.out.put (1 + i) (.int .i64 (intR xs (intsR xs i (some 0)).2).1)
      rw [intsR_succ, fill_snoc, intsR_len]
      exact this
  obtain rfl : i = 4 := by omega
  have HT3 := HT
  clear hlt hi HT HP HP3 HN3
  have HPO : Hid (LoadPost self xs w = LoadPost self xs w) := Lib.hid rfl
  obtain ⟨v1, v2, v3, v4, s5, hi5⟩ : ∃ v1 v2 v3 v4 s5, intsR xs 4 (some 0) = ([v1, v2, v3, v4], s5) := ⟨_, _, _, _, _, rfl⟩
  have HT4 := HT3.out
  rw [hi5] at HT4
  dsimp only at HT4
  have HI5 := Lib.hid hi5
  have HT4 : Hid (Ts w1 wr w0.heap.size g A1 c1 xs s5 w1.heap.size 94 (St.load self v1 v2 v3 v4 ⟨#[]⟩ ⟨#[]⟩ none 0 [] 0 0).cells) := Lib.hid HT4
  clear hi5 HT3
  obtain ⟨q, hq⟩ : ∃ q, q = textS xs s5 := ⟨_, rfl⟩
  have HQ := Lib.hid hq
  have hqs := textS_size xs s5
  rw [← hq] at hqs
  clear hq
  obtain ⟨vo, s6⟩ := q
  dsimp only at hqs
  obtain ⟨q, hq⟩ : ∃ q, q = textS xs s6 := ⟨_, rfl⟩
  have HQ2 := Lib.hid hq
  clear hq
  obtain ⟨tx, s7⟩ := q
  obtain ⟨q, hq⟩ : ∃ q, q = getR xs (entR xs) s7 := ⟨_, rfl⟩
  have HQ3 := Lib.hid hq
  clear hq
  obtain ⟨L, s8⟩ := q
  go_wp2_with fail
  ((with_reducible refine (rdtextS_calls HT4.out.rd).mono ?_); rw [← HQ.out]; rintro e w5 ⟨rfl, hr, hc⟩; have HT5 := Lib.hid (HT4.out.read hr hc); clear hr hc HT4)
  go_wp2_with fail
  ((with_reducible refine (rdtextS_calls HT5.out.rd).mono ?_); rw [← HQ2.out]; rintro e w6 ⟨rfl, hr, hc⟩; have HT6 := Lib.hid (HT5.out.read hr hc); clear hr hc HT5)
  have hcl5 : w6.cell? ⟨w1.heap.size, 5, none⟩ = some (.string ⟨#[]⟩) := HT6.out.cell 5
  have hcl6 : w6.cell? ⟨w1.heap.size, 6, none⟩ = some (.string ⟨#[]⟩) := HT6.out.cell 6
  have hfz5 := HT6.out.frozen 5
  have hfz6 := HT6.out.frozen 6
  go_upto_region 11 with fail
  have HT7 : Hid (Ts w1 ((w6.setCell ⟨w1.heap.size, 5, none⟩ (.string vo)).setCell ⟨w1.heap.size, 6, none⟩ (.string tx)) w0.heap.size g A1 c1 xs s7 w1.heap.size 94 (St.load self v1 v2 v3 v4 vo tx none 0 [] 0 0).cells) := Lib.hid ((HT6.out.put 5 (.string vo)).put 6 (.string tx))
  clear hcl5 hcl6 hfz5 hfz6 HT6
  generalize (w6.setCell ⟨w1.heap.size, 5, none⟩ (.string vo)).setCell ⟨w1.heap.size, 6, none⟩ (.string tx) = w7 at HT7 ⊢
  go_wp2_with fail
  ((with_reducible refine (getent_calls HT7.out.rd).mono ?_); rw [← HQ3.out]; rintro e w8 ⟨v, rfl, ho, hr, hc⟩; have HT8 := Lib.hid (HT7.out.read hr hc); have HO := Lib.hid ho; clear hr hc ho)
  dsimp only at HO HT8
  obtain ⟨A9, c9, rfl, hin⟩ := OwnE.reads HO.out
  have hfar : ∀ ad, A9 = some ad → ad.block ≠ w1.heap.size := fun ad hA => by
    subst hA
    have h1 := orow_base HO.out ad.block rfl
    have h2 := blk_lt HT7.out.blk
    omega
  have HFAR := Lib.hid hfar
  have HIN := Lib.hid hin
  have hcl7 : w8.cell? ⟨w1.heap.size, 7, none⟩ = some (.slice none 0 0) := HT8.out.cell 7
  have hfz7 := HT8.out.frozen 7
  clear hfar hin HO HT7
  go_upto_region 12 with fail
  have HT9 : Hid (Ts w1 (w8.setCell ⟨w1.heap.size, 7, none⟩ (.slice A9 L.length c9)) w0.heap.size g A1 c1 xs s8 w1.heap.size 94 (St.load self v1 v2 v3 v4 vo tx A9 c9 L 0 0).cells) := Lib.hid (HT8.out.put 7 (.slice A9 L.length c9))
  have HR9 : Hid (Kd.C k39 (w8.setCell ⟨w1.heap.size, 7, none⟩ (.slice A9 L.length c9)) A9 L.length L) := Lib.hid (row_chg HIN.out.1 HFAR.out ((Chg.refl (fun k => k = w1.heap.size) w8).setCell (p := ⟨w1.heap.size, 7, none⟩) (.inl (by rfl)) _))
  have HLC := Lib.hid HIN.out.2
  clear hcl7 hfz7 HT8 HIN
  generalize w8.setCell ⟨w1.heap.size, 7, none⟩ (.slice A9 L.length c9) = w9 at HT9 HR9 ⊢
  have hcl5 : w9.cell? ⟨w1.heap.size, 5, none⟩ = some (.string vo) := HT9.out.cell 5
  have HVO := Lib.hid (show vo.size ≤ 9223372036854775807 from by omega)
  have HVC := fun W => Lib.hid (voters_calls vo W HVO.out)
  obtain ⟨bv, hbv⟩ : ∃ bv, bv = decide (0 < (votV vo).length) := ⟨_, rfl⟩
  rw [← hbv] at HVC
  have HBV : Hid (bv = true ↔ 0 < (votV vo).length) := Lib.hid (by rw [hbv, decide_eq_true_iff])
  clear hbv hqs
  go_upto_region 13 with ((with_reducible refine (HVC _).out.mono ?_); rintro e wa ⟨vv, rfl, ho, hb⟩; have HT10 := Lib.hid (HT9.out.below hb); have HR10 := Lib.hid (Kd.C_below HR9.out hb); clear ho hb)
  clear hcl5 HVC HT9 HR9
  go_cut [12] (fun v wc => ∃ b : Bool, v = .bool b ∧ Hid (b = true ↔ (s8 = some xs.length ∧ 0 < (votV vo).length ∧ 0 ≤ v1 ∧ v1 ≤ 1099511627776 ∧ -1 ≤ v2 ∧ v2 < 7 ∧ 0 ≤ v3 ∧ v3 ≤ 1099511627776 ∧ 0 ≤ v4)) ∧ Hid (Ts w1 wc w0.heap.size g A1 c1 xs s8 w1.heap.size 94 (St.load self v1 v2 v3 v4 vo tx A9 c9 L 0 0).cells) ∧ Hid (Kd.C k39 wc A9 L.length L))
  case first =>
    by_cases hE : s8 = some xs.length
    · have hEb : decide (s8 = some xs.length) = true := decide_eq_true hE
      have HE := Lib.hid hE
      clear hE
      cases bv
      · have HV : Hid (¬ 0 < (votV vo).length) := Lib.hid (fun h => by have := HBV.out.2 h; cases this)
        clear HBV
        go_wp2_with ((with_reducible refine (end_calls HT10.out.rd).mono ?_); rintro e wx ⟨rfl, hb⟩; have HTx := Lib.hid (HT10.out.below hb); have HRx := Lib.hid (Kd.C_below HR10.out hb); clear hb; have x1 : wx.cell? ⟨w1.heap.size, 1, none⟩ = some (.int .i64 v1) := HTx.out.cell 1; have x2 : wx.cell? ⟨w1.heap.size, 2, none⟩ = some (.int .i64 v2) := HTx.out.cell 2; have x3 : wx.cell? ⟨w1.heap.size, 3, none⟩ = some (.int .i64 v3) := HTx.out.cell 3; have x4 : wx.cell? ⟨w1.heap.size, 4, none⟩ = some (.int .i64 v4) := HTx.out.cell 4)
        go_meet
        exact ⟨false, rfl, Lib.hid ⟨fun h => absurd h (by decide), fun h => absurd h (fun hh => HV.out hh.2.1)⟩, HTx, HRx⟩
      · have HV : Hid (0 < (votV vo).length) := Lib.hid (HBV.out.1 rfl)
        clear HBV
        by_cases hm1 : 0 ≤ v1
        · have hm1b : decide (0 ≤ v1) = true := decide_eq_true hm1
          have Hhm1 := Lib.hid hm1
          clear hm1
          by_cases hm2 : v1 ≤ 1099511627776
          · have hm2b : decide (v1 ≤ 1099511627776) = true := decide_eq_true hm2
            have Hhm2 := Lib.hid hm2
            clear hm2
            by_cases hm3 : -1 ≤ v2
            · have hm3b : decide (-1 ≤ v2) = true := decide_eq_true hm3
              have Hhm3 := Lib.hid hm3
              clear hm3
              by_cases hm4 : v2 < 7
              · have hm4b : decide (v2 < 7) = true := decide_eq_true hm4
                have Hhm4 := Lib.hid hm4
                clear hm4
                by_cases hm5 : 0 ≤ v3
                · have hm5b : decide (0 ≤ v3) = true := decide_eq_true hm5
                  have Hhm5 := Lib.hid hm5
                  clear hm5
                  by_cases hm6 : v3 ≤ 1099511627776
                  · have hm6b : decide (v3 ≤ 1099511627776) = true := decide_eq_true hm6
                    have Hhm6 := Lib.hid hm6
                    clear hm6
                    by_cases hm7 : 0 ≤ v4
                    · have hm7b : decide (0 ≤ v4) = true := decide_eq_true hm7
                      have Hhm7 := Lib.hid hm7
                      clear hm7
                      go_wp2_with ((with_reducible refine (end_calls HT10.out.rd).mono ?_); rintro e wx ⟨rfl, hb⟩; have HTx := Lib.hid (HT10.out.below hb); have HRx := Lib.hid (Kd.C_below HR10.out hb); clear hb; have x1 : wx.cell? ⟨w1.heap.size, 1, none⟩ = some (.int .i64 v1) := HTx.out.cell 1; have x2 : wx.cell? ⟨w1.heap.size, 2, none⟩ = some (.int .i64 v2) := HTx.out.cell 2; have x3 : wx.cell? ⟨w1.heap.size, 3, none⟩ = some (.int .i64 v3) := HTx.out.cell 3; have x4 : wx.cell? ⟨w1.heap.size, 4, none⟩ = some (.int .i64 v4) := HTx.out.cell 4)
                      go_meet
                      exact ⟨true, rfl, Lib.hid ⟨fun _ => ⟨HE.out, HV.out, Hhm1.out, Hhm2.out, Hhm3.out, Hhm4.out, Hhm5.out, Hhm6.out, Hhm7.out⟩, fun _ => rfl⟩, HTx, HRx⟩
                    · have hm7b : decide (0 ≤ v4) = false := decide_eq_false hm7
                      have Hhm7 := Lib.hid hm7
                      clear hm7
                      go_wp2_with ((with_reducible refine (end_calls HT10.out.rd).mono ?_); rintro e wx ⟨rfl, hb⟩; have HTx := Lib.hid (HT10.out.below hb); have HRx := Lib.hid (Kd.C_below HR10.out hb); clear hb; have x1 : wx.cell? ⟨w1.heap.size, 1, none⟩ = some (.int .i64 v1) := HTx.out.cell 1; have x2 : wx.cell? ⟨w1.heap.size, 2, none⟩ = some (.int .i64 v2) := HTx.out.cell 2; have x3 : wx.cell? ⟨w1.heap.size, 3, none⟩ = some (.int .i64 v3) := HTx.out.cell 3; have x4 : wx.cell? ⟨w1.heap.size, 4, none⟩ = some (.int .i64 v4) := HTx.out.cell 4)
                      go_meet
                      exact ⟨false, rfl, Lib.hid ⟨fun h => absurd h (by decide), fun h => absurd h (fun hh => by have h1 := Hhm7.out; have h2 := hh.2.2.2.2.2.2.2.2; omega)⟩, HTx, HRx⟩
                  · have hm6b : decide (v3 ≤ 1099511627776) = false := decide_eq_false hm6
                    have Hhm6 := Lib.hid hm6
                    clear hm6
                    go_wp2_with ((with_reducible refine (end_calls HT10.out.rd).mono ?_); rintro e wx ⟨rfl, hb⟩; have HTx := Lib.hid (HT10.out.below hb); have HRx := Lib.hid (Kd.C_below HR10.out hb); clear hb; have x1 : wx.cell? ⟨w1.heap.size, 1, none⟩ = some (.int .i64 v1) := HTx.out.cell 1; have x2 : wx.cell? ⟨w1.heap.size, 2, none⟩ = some (.int .i64 v2) := HTx.out.cell 2; have x3 : wx.cell? ⟨w1.heap.size, 3, none⟩ = some (.int .i64 v3) := HTx.out.cell 3; have x4 : wx.cell? ⟨w1.heap.size, 4, none⟩ = some (.int .i64 v4) := HTx.out.cell 4)
                    go_meet
                    exact ⟨false, rfl, Lib.hid ⟨fun h => absurd h (by decide), fun h => absurd h (fun hh => by have h1 := Hhm6.out; have h2 := hh.2.2.2.2.2.2.2.1; omega)⟩, HTx, HRx⟩
                · have hm5b : decide (0 ≤ v3) = false := decide_eq_false hm5
                  have Hhm5 := Lib.hid hm5
                  clear hm5
                  go_wp2_with ((with_reducible refine (end_calls HT10.out.rd).mono ?_); rintro e wx ⟨rfl, hb⟩; have HTx := Lib.hid (HT10.out.below hb); have HRx := Lib.hid (Kd.C_below HR10.out hb); clear hb; have x1 : wx.cell? ⟨w1.heap.size, 1, none⟩ = some (.int .i64 v1) := HTx.out.cell 1; have x2 : wx.cell? ⟨w1.heap.size, 2, none⟩ = some (.int .i64 v2) := HTx.out.cell 2; have x3 : wx.cell? ⟨w1.heap.size, 3, none⟩ = some (.int .i64 v3) := HTx.out.cell 3; have x4 : wx.cell? ⟨w1.heap.size, 4, none⟩ = some (.int .i64 v4) := HTx.out.cell 4)
                  go_meet
                  exact ⟨false, rfl, Lib.hid ⟨fun h => absurd h (by decide), fun h => absurd h (fun hh => by have h1 := Hhm5.out; have h2 := hh.2.2.2.2.2.2.1; omega)⟩, HTx, HRx⟩
              · have hm4b : decide (v2 < 7) = false := decide_eq_false hm4
                have Hhm4 := Lib.hid hm4
                clear hm4
                go_wp2_with ((with_reducible refine (end_calls HT10.out.rd).mono ?_); rintro e wx ⟨rfl, hb⟩; have HTx := Lib.hid (HT10.out.below hb); have HRx := Lib.hid (Kd.C_below HR10.out hb); clear hb; have x1 : wx.cell? ⟨w1.heap.size, 1, none⟩ = some (.int .i64 v1) := HTx.out.cell 1; have x2 : wx.cell? ⟨w1.heap.size, 2, none⟩ = some (.int .i64 v2) := HTx.out.cell 2; have x3 : wx.cell? ⟨w1.heap.size, 3, none⟩ = some (.int .i64 v3) := HTx.out.cell 3; have x4 : wx.cell? ⟨w1.heap.size, 4, none⟩ = some (.int .i64 v4) := HTx.out.cell 4)
                go_meet
                exact ⟨false, rfl, Lib.hid ⟨fun h => absurd h (by decide), fun h => absurd h (fun hh => by have h1 := Hhm4.out; have h2 := hh.2.2.2.2.2.1; omega)⟩, HTx, HRx⟩
            · have hm3b : decide (-1 ≤ v2) = false := decide_eq_false hm3
              have Hhm3 := Lib.hid hm3
              clear hm3
              go_wp2_with ((with_reducible refine (end_calls HT10.out.rd).mono ?_); rintro e wx ⟨rfl, hb⟩; have HTx := Lib.hid (HT10.out.below hb); have HRx := Lib.hid (Kd.C_below HR10.out hb); clear hb; have x1 : wx.cell? ⟨w1.heap.size, 1, none⟩ = some (.int .i64 v1) := HTx.out.cell 1; have x2 : wx.cell? ⟨w1.heap.size, 2, none⟩ = some (.int .i64 v2) := HTx.out.cell 2; have x3 : wx.cell? ⟨w1.heap.size, 3, none⟩ = some (.int .i64 v3) := HTx.out.cell 3; have x4 : wx.cell? ⟨w1.heap.size, 4, none⟩ = some (.int .i64 v4) := HTx.out.cell 4)
              go_meet
              exact ⟨false, rfl, Lib.hid ⟨fun h => absurd h (by decide), fun h => absurd h (fun hh => by have h1 := Hhm3.out; have h2 := hh.2.2.2.2.1; omega)⟩, HTx, HRx⟩
          · have hm2b : decide (v1 ≤ 1099511627776) = false := decide_eq_false hm2
            have Hhm2 := Lib.hid hm2
            clear hm2
            go_wp2_with ((with_reducible refine (end_calls HT10.out.rd).mono ?_); rintro e wx ⟨rfl, hb⟩; have HTx := Lib.hid (HT10.out.below hb); have HRx := Lib.hid (Kd.C_below HR10.out hb); clear hb; have x1 : wx.cell? ⟨w1.heap.size, 1, none⟩ = some (.int .i64 v1) := HTx.out.cell 1; have x2 : wx.cell? ⟨w1.heap.size, 2, none⟩ = some (.int .i64 v2) := HTx.out.cell 2; have x3 : wx.cell? ⟨w1.heap.size, 3, none⟩ = some (.int .i64 v3) := HTx.out.cell 3; have x4 : wx.cell? ⟨w1.heap.size, 4, none⟩ = some (.int .i64 v4) := HTx.out.cell 4)
            go_meet
            exact ⟨false, rfl, Lib.hid ⟨fun h => absurd h (by decide), fun h => absurd h (fun hh => by have h1 := Hhm2.out; have h2 := hh.2.2.2.1; omega)⟩, HTx, HRx⟩
        · have hm1b : decide (0 ≤ v1) = false := decide_eq_false hm1
          have Hhm1 := Lib.hid hm1
          clear hm1
          go_wp2_with ((with_reducible refine (end_calls HT10.out.rd).mono ?_); rintro e wx ⟨rfl, hb⟩; have HTx := Lib.hid (HT10.out.below hb); have HRx := Lib.hid (Kd.C_below HR10.out hb); clear hb; have x1 : wx.cell? ⟨w1.heap.size, 1, none⟩ = some (.int .i64 v1) := HTx.out.cell 1; have x2 : wx.cell? ⟨w1.heap.size, 2, none⟩ = some (.int .i64 v2) := HTx.out.cell 2; have x3 : wx.cell? ⟨w1.heap.size, 3, none⟩ = some (.int .i64 v3) := HTx.out.cell 3; have x4 : wx.cell? ⟨w1.heap.size, 4, none⟩ = some (.int .i64 v4) := HTx.out.cell 4)
          go_meet
          exact ⟨false, rfl, Lib.hid ⟨fun h => absurd h (by decide), fun h => absurd h (fun hh => by have h1 := Hhm1.out; have h2 := hh.2.2.1; omega)⟩, HTx, HRx⟩
    · have hEb : decide (s8 = some xs.length) = false := decide_eq_false hE
      have HE := Lib.hid hE
      clear hE
      go_wp2_with ((with_reducible refine (end_calls HT10.out.rd).mono ?_); rintro e wx ⟨rfl, hb⟩; have HTx := Lib.hid (HT10.out.below hb); have HRx := Lib.hid (Kd.C_below HR10.out hb); clear hb; have x1 : wx.cell? ⟨w1.heap.size, 1, none⟩ = some (.int .i64 v1) := HTx.out.cell 1; have x2 : wx.cell? ⟨w1.heap.size, 2, none⟩ = some (.int .i64 v2) := HTx.out.cell 2; have x3 : wx.cell? ⟨w1.heap.size, 3, none⟩ = some (.int .i64 v3) := HTx.out.cell 3; have x4 : wx.cell? ⟨w1.heap.size, 4, none⟩ = some (.int .i64 v4) := HTx.out.cell 4)
      go_meet
      exact ⟨false, rfl, Lib.hid ⟨fun h => absurd h (by decide), fun h => absurd h (fun hh => HE.out hh.1)⟩, HTx, HRx⟩
  case rest =>
  clear HT10 HR10
  obtain ⟨b, rfl, HM, HT11, HR11⟩ := hcut
  generalize wc = wm at HT11 HR11 ⊢
  have HTX : Hid (∀ x ∈ L, x.f2.size ≤ 9223372036854775807) := Lib.hid (fun x hx => by have := getR_size xs s7 x (by rw [← HQ3.out]; exact hx); omega)
  have HLN : Hid (L.length ≤ 4096) := Lib.hid (by have := getR_len xs (entR xs) s7; rw [← HQ3.out] at this; exact this)
  go_upto_region 14 with fail
  go_cut [147] (fun v wd => ∃ b2 : Bool, v = .bool b2 ∧ Hid (b2 = true ↔ ¬ ((s8 = some xs.length ∧ 0 < (votV vo).length ∧ 0 ≤ v1 ∧ v1 ≤ 1099511627776 ∧ -1 ≤ v2 ∧ v2 < 7 ∧ 0 ≤ v3 ∧ v3 ≤ 1099511627776 ∧ 0 ≤ v4) ∧ riseS v4 v1 L)) ∧ Hid (Ts w1 wd w0.heap.size g A1 c1 xs s8 w1.heap.size 94 (St.load self v1 v2 v3 v4 vo tx A9 c9 L 0 0).cells) ∧ Hid (Kd.C k39 wd A9 L.length L))
  case first =>
    have z7 : wm.cell? ⟨w1.heap.size, 7, none⟩ = some (.slice A9 L.length c9) := HT11.out.cell 7
    have z1 : wm.cell? ⟨w1.heap.size, 1, none⟩ = some (.int .i64 v1) := HT11.out.cell 1
    have z4 : wm.cell? ⟨w1.heap.size, 4, none⟩ = some (.int .i64 v4) := HT11.out.cell 4
    have hgl : w1.heap.size < wm.heap.size := blk_lt HT11.out.blk
    cases b
    · refine load_norise _ _ _ _ _ _ _ _ _ _ _ _ _ _ _ _ _ _ _ _ _ _ _ _ _ _ _ _ _ _ _ _ _ _ _ _ _ _ _ _ _ _ _ _ _ _ _ _ _ _ _ _ _ _ _ _ _ _ _ _ _ _ _ _ _ _ _ _ _ _ _ _ _ _ _ _ _ _ _ _ _ _ _ _ _ _ _ _ _ _ _ _ _ _ _ _ _ _ _ _ _ _ _ _ _ _ _ _ _ _ _ _ _ _ _ _ _ _ _ _ _ _ _ _ _ _ _ _ _ _ _ _ _ _ _ _ _ _ _ _ _ _ _ _ _ _ _ _ _ _ _ _ _ _ _ _ _ _ _ _ _ _ _ w1.heap.size wm _ A9 L.length c9 (fun _ _ _ _ _ h => h) z7 ?_
      (try simp only [Exit.then])
      go_wp2_with fail
      go_meet
      exact ⟨true, rfl, Lib.hid ⟨fun _ hh => absurd (HM.out.2 hh.1) (by decide), fun _ => rfl⟩, Lib.hid (HT11.out.below (below_drew (Below.refl _ _))), Lib.hid (Kd.C_below HR11.out (below_drew (Below.refl _ _)))⟩
    · have hd3 : ∀ w', Below wm.drew.heap.size wm.drew w' → Below wm.heap.size wm w' := fun w' hb => (pw_below_drewN (Below.refl wm.heap.size wm) 1).trans hb
      refine load_rise _ _ _ _ _ _ _ _ _ _ _ _ _ _ _ _ _ _ _ _ _ _ _ _ _ _ _ _ _ _ _ _ _ _ _ _ _ _ _ _ _ _ _ _ _ _ _ _ _ _ _ _ _ _ _ _ _ _ _ _ _ _ _ _ _ _ _ _ _ _ _ _ _ _ _ _ _ _ _ _ _ _ _ _ _ _ _ _ _ _ _ _ _ _ _ _ _ _ _ _ _ _ _ _ _ _ _ _ _ _ _ _ _ _ _ _ _ _ _ _ _ _ _ _ _ _ _ _ _ _ _ _ _ _ _ _ _ _ _ _ _ _ _ _ _ _ _ _ _ _ _ _ _ _ _ _ _ _ _ _ _ _ _ w1.heap.size wm _ A9 L.length c9 v4 v1 (fun bb => bb = true ↔ riseS v4 v1 L) (fun _ _ _ _ _ h => h) z7 z4 z1 (fun w' hb => rise_calls w' A9 c9 L v4 v1 (Kd.C_below HR11.out (hd3 w' hb)) HTX.out) ?_
      intro we bb hbb hb
      have HBB := Lib.hid hbb
      have HBe := Lib.hid (hd3 we hb)
      clear hbb hb hd3 z7 z1 z4
      (try simp only [Exit.then])
      go_wp2_with fail
      go_meet
      exact ⟨!bb, rfl, Lib.hid (by
        have h1 := HBB.out
        have h2 := HM.out.1 (by first | rfl | trivial)
        cases bb
        · exact ⟨fun _ hh => absurd (h1.2 hh.2) (by decide), fun _ => rfl⟩
        · exact ⟨fun h => absurd h (by decide), fun h => absurd ⟨h2, h1.1 rfl⟩ h⟩), Lib.hid (HT11.out.below HBe.out), Lib.hid (Kd.C_below HR11.out HBe.out)⟩
  case rest =>
  clear HM HT11 HR11
  obtain ⟨b, rfl, HM, HT12, HR12⟩ := hcut
  have HBA : Hid (∀ W, Below wc.heap.size wc W ∨ Chg (fun k => k = w1.heap.size) wc W → Below w.heap.size w W) := Lib.hid (fun W hW => by
    have h1 : Below w0.heap.size w0 wc := HB1.out.trans (Chg.below HT12.out.chg HB1.out.size (fun i hi hk => by have := HGW.out; omega))
    have h2 : Below w.heap.size w wc := HB0.out.trans (h1.mono HB0.out.size)
    rcases hW with hW | hW
    · exact h2.trans (hW.mono h2.size)
    · exact h2.trans (Chg.below hW h2.size (fun i hi hk => by have := HB0.out.size; have := HB1.out.size; omega)))
  have HSR : Hid (staR xs (some 0) = (⟨v1, v2, v3, v4, vo, tx, L⟩, s8)) := Lib.hid (by
    unfold staR
    rw [HI5.out]
    dsimp only
    rw [← HQ.out]
    dsimp only
    rw [← HQ2.out]
    dsimp only
    rw [← HQ3.out]
    rfl)
  cases b
  · have hgl : w1.heap.size < wc.heap.size := blk_lt HT12.out.blk
    have z3 : wc.cell? ⟨w1.heap.size, 3, none⟩ = some (.int .i64 v3) := HT12.out.cell 3
    have z10 : wc.cell? ⟨w1.heap.size, 10, none⟩ = some (.int .i64 0) := HT12.out.cell 10
    have z11 : wc.cell? ⟨w1.heap.size, 11, none⟩ = some (.int .i64 0) := HT12.out.cell 11
    have f10 := HT12.out.frozen 10
    have f11 := HT12.out.frozen 11
    go_upto_region 16 with fail
    go_region
    have hch : Chg (fun k => k = w1.heap.size) wc ((wc.setCell ⟨w1.heap.size, 10, none⟩ (.int .i64 v3)).setCell ⟨w1.heap.size, 11, none⟩ (.int .i64 v3)).drew := (((Chg.refl (fun k => k = w1.heap.size) wc).setCell (p := ⟨w1.heap.size, 10, none⟩) (.inl (by rfl)) (.int .i64 v3)).setCell (p := ⟨w1.heap.size, 11, none⟩) (.inl (by rfl)) (.int .i64 v3)).drew
    have HCH := Lib.hid hch
    have HR13 := Lib.hid (row_chg HR12.out HFAR.out hch)
    have HT13 := Lib.hid (((HT12.out.put 10 (.int .i64 v3)).put 11 (.int .i64 v3)).below (below_drew (Below.refl _ _)))
    clear hch z3 z10 z11 f10 f11
    generalize ((wc.setCell ⟨w1.heap.size, 10, none⟩ (.int .i64 v3)).setCell ⟨w1.heap.size, 11, none⟩ (.int .i64 v3)).drew = wz at HCH HR13 HT13 ⊢
    (try simp only [Exit.then])
    go_wp2_with fail
    go_ret2
    have hM := Classical.byContradiction (fun h => absurd (HM.out.2 h) (by decide))
    refine ⟨HBA.out wz (.inr HCH.out), .inl ?_⟩
    rw [HSR.out]
    refine ⟨hM.1.1, ⟨hM.1.2.1, hM.1.2.2.1, hM.1.2.2.2.1, hM.1.2.2.2.2.1, hM.1.2.2.2.2.2.1, hM.1.2.2.2.2.2.2.1, hM.1.2.2.2.2.2.2.2.1, hM.1.2.2.2.2.2.2.2.2, hM.2⟩, w1.heap.size, A9, c9, rfl, by have := HB0.out.size; have := HB1.out.size; omega, ?_⟩
    exact ⟨HT13.out.blk, HR13.out, HLC.out, HFAR.out, HLN.out, hM.1.2.2.2.2.2.2.1, (by have := hM.1.2.2.2.2.2.2.2.1; show v3 ≤ _; omega), HTX.out, HVO.out⟩
  · go_wp2_with fail
    go_ret2
    refine ⟨HBA.out wc (.inl (Below.refl _ _)), .inr ⟨?_, rfl⟩⟩
    rw [HSR.out]
    have h1 := HM.out.1 (by first | rfl | trivial)
    exact fun h => h1 ⟨⟨h.1, h.2.1, h.2.2.1, h.2.2.2.1, h.2.2.2.2.1, h.2.2.2.2.2.1, h.2.2.2.2.2.2.1, h.2.2.2.2.2.2.2.1, h.2.2.2.2.2.2.2.2.1⟩, h.2.2.2.2.2.2.2.2.2⟩

end Go.Proofs.Ytfanbhbpmhojaaa
