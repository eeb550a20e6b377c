/- What a function that has blocks of its own lays by a Writer; the closures that lay a Ref and an Entry. Conditions: the kinds' ranges, fewer than 2^45 bytes. -/
import Derived.Test.YtneebjlpeekmbaaPut
import Derived.Test.YtneebjlpeekmbaaSame
namespace Go.Proofs.Ytneebjlpeekmbaa
open Go.RowKit Go.Proofs.YtneebjlpeekmbaaW.PrintWords Go.Proofs.YtneebjlpeekmbaaW.PrintLast Go.Proofs.YtneebjlpeekmbaaW.PrintMore PRef
set_option linter.unusedVariables false
set_option linter.unusedSimpArgs false

/-- ok without the blocks that a call has made for itself, till w1. -/
def okF (ok : Nat → Prop) (w w1 : World) (k : Nat) : Prop := (ok k ∧ k < w.heap.size) ∨ w1.heap.size ≤ k
/-- The Writer as it goes, behind w1. -/
structure St (w1 wr : World) (base g : Nat) (ok : Nat → Prop) (xs : List Int) : Prop where
  lay : Wr wr base g ok xs
  chg : Chg ok w1 wr
theorem St.begin {w w1 : World} {base g : Nat} {ok : Nat → Prop} {xs : List Int} (hW : Wr w base g ok xs) (hb : Below w.heap.size w w1) : St w1 w1 base g (okF ok w w1) xs := by
  refine ⟨?_, Chg.refl _ _⟩
  have h := hW.below hb
  obtain ⟨h0, h1, v, h2, h3, h4⟩ := hW
  refine ⟨h0, .inl ⟨h1, blk_lt h2⟩, v, blk_below h2 hb, own_move h3 (fun k hk => hb.block k (own_lt h3 k hk)), fun k hk => .inl ⟨h4 k hk, own_lt h3 k hk⟩⟩
theorem St.step {w w1 wr w2 : World} {base g : Nat} {ok : Nat → Prop} {xs ys : List Int} (h : St w1 wr base g (okF ok w w1) xs) (hW : Wr w2 base g (more (okF ok w w1) wr) ys) (hC : Chg (okF ok w w1) wr w2) : St w1 w2 base g (okF ok w w1) ys :=
  ⟨hW.mono fun k hk => by
    rcases hk with hk | hk
    · exact hk
    · exact .inr (Nat.le_trans h.2.size hk), h.2.trans hC fun _ _ h => h⟩
theorem St.below {w1 wr w2 : World} {base g : Nat} {ok : Nat → Prop} {xs : List Int} (h : St w1 wr base g ok xs) (hb : Below wr.heap.size wr w2) : St w1 w2 base g ok xs :=
  ⟨h.1.below hb, h.2.trans (Chg.of_same hb ok) fun _ _ h => h⟩
/-- A block of the call's own, made between w and w1, stays. -/
theorem St.keeps {w w1 wr : World} {base g b : Nat} {ok : Nat → Prop} {xs : List Int} {o : Obj} (h : St w1 wr base g (okF ok w w1) xs) (ho : w1.heap[b]? = some o) (hb : w.heap.size ≤ b) : wr.heap[b]? = some o :=
  h.2.get ho fun hk => by
    have := blk_lt ho
    rcases hk with hk | hk <;> omega
theorem St.final {w w1 wr : World} {base g : Nat} {ok : Nat → Prop} {xs : List Int} (h : St w1 wr base g (okF ok w w1) xs) (hb : Below w.heap.size w w1) : Wr wr base g (more ok w) xs ∧ Chg ok w wr :=
  ⟨h.1.mono fun k hk => by
    rcases hk with hk | hk
    · exact .inl hk.1
    · exact .inr (Nat.le_trans hb.size hk), (Chg.of_same hb ok).trans h.2 fun i hi hk => by
    rcases hk with hk | hk
    · exact hk.1
    · have := hb.size; omega⟩
theorem St.belowB {w w1 wr : World} {base g : Nat} {ok : Nat → Prop} {xs : List Int} (h : St w1 wr base g (okF ok w w1) xs) (hb : Below w.heap.size w w1) (hB : base ≤ w.heap.size) (hok : ∀ k, ok k → base ≤ k) : Below base w1 wr :=
  h.2.below (Nat.le_trans hB hb.size) fun i hi hk => by
    rcases hk with hk | hk
    · have := hok i hk.1; omega
    · have := hb.size; omega

abbrev I64 (n : Int) : Prop := -9223372036854775808 ≤ n ∧ n ≤ 9223372036854775807
def encRef (x : S23) : List Int := encInt x.f0 ++ encInt x.f1
def encEnt (x : S60) : List Int := encInt x.f0 ++ encInt x.f1 ++ encText x.f2

set_option maxRecDepth 100000 in
set_option maxHeartbeats 1000000 in
theorem layref_calls (w : World) (base g : Nat) (ok : Nat → Prop) (xs : List Int) (x : S23) (hW : Wr w base g ok xs) (hl : xs.length < 35184372080000) (h0 : I64 x.f0) (h1 : I64 x.f1) :
    Calls Try.prog 62 #[.pointer (some ⟨g, 0, none⟩), .agg #[.int .i64 x.f0, .int .i64 x.f1]] w fun e w' => e = .returned (.tuple #[]) ∧ Wr w' base g (more ok w) (xs ++ encRef x) ∧ Chg ok w w' := by
  obtain ⟨a, b⟩ := x
  dsimp only at h0 h1 ⊢
  have hb := (Below.refl w.heap.size w).alloc (Nat.le_refl _) (.cells #[.int .i64 a, .int .i64 b] 23)
  have HBK := Lib.hid (blk_new w (.cells #[.int .i64 a, .int .i64 b] 23))
  have HS := Lib.hid (St.begin hW hb)
  have HB := Lib.hid hb
  have HA := encInt_length a h0.1 h0.2
  clear hW hb
  go_enter Try.func62, Try.ntmps62
  go_wp2_with fail
  generalize w.alloc (.cells #[.int .i64 a, .int .i64 b] 23) = w1 at HBK HS HB ⊢
  ((with_reducible refine (int_calls _ _ _ _ _ a HS.out.1 (by omega) h0.1 h0.2).mono ?_); rintro e w2 ⟨rfl, hW, hC⟩)
  have HS2 := Lib.hid (HS.out.step hW hC)
  have hc : w2.cell? ⟨w.heap.size, 1, none⟩ = some (.int .i64 b) := by rw [blk_cell (HS2.out.keeps HBK.out (Nat.le_refl _))]; rfl
  clear hW hC HS
  go_wp2_with fail
  ((with_reducible refine (int_calls _ _ _ _ _ b HS2.out.1 (by rw [List.length_append]; omega) h1.1 h1.2).mono ?_); rintro e w3 ⟨rfl, hW, hC⟩)
  have HS3 := Lib.hid (HS2.out.step hW hC)
  clear hW hC HS2
  go_wp2_with fail
  go_end0
  have := HS3.out.final HB.out
  rw [List.append_assoc] at this
  exact ⟨rfl, this⟩

set_option maxRecDepth 100000 in
set_option maxHeartbeats 1000000 in
theorem layent_calls (w : World) (base g : Nat) (ok : Nat → Prop) (xs : List Int) (x : S60) (hW : Wr w base g ok xs) (hl : xs.length < 35184372080000) (h0 : I64 x.f0) (h1 : I64 x.f1) (h2 : x.f2.size ≤ 70368744177664) :
    Calls Try.prog 28 #[.pointer (some ⟨g, 0, none⟩), .agg #[.int .i64 x.f0, .int .i64 x.f1, .string x.f2]] w fun e w' => e = .returned (.tuple #[]) ∧ Wr w' base g (more ok w) (xs ++ encEnt x) ∧ Chg ok w w' := by
  obtain ⟨a, b, s⟩ := x
  dsimp only at h0 h1 h2 ⊢
  have hb := (Below.refl w.heap.size w).alloc (Nat.le_refl _) (.cells #[.int .i64 a, .int .i64 b, .string s] 60)
  have HBK := Lib.hid (blk_new w (.cells #[.int .i64 a, .int .i64 b, .string s] 60))
  have HS := Lib.hid (St.begin hW hb)
  have HB := Lib.hid hb
  have HA := encInt_length a h0.1 h0.2
  have HA2 := encInt_length b h1.1 h1.2
  clear hW hb
  go_enter Try.func28, Try.ntmps28
  go_wp2_with fail
  generalize w.alloc (.cells #[.int .i64 a, .int .i64 b, .string s] 60) = w1 at HBK HS HB ⊢
  ((with_reducible refine (int_calls _ _ _ _ _ a HS.out.1 (by omega) h0.1 h0.2).mono ?_); rintro e w2 ⟨rfl, hW, hC⟩)
  have HS2 := Lib.hid (HS.out.step hW hC)
  have hc : w2.cell? ⟨w.heap.size, 1, none⟩ = some (.int .i64 b) := by rw [blk_cell (HS2.out.keeps HBK.out (Nat.le_refl _))]; rfl
  clear hW hC HS
  go_wp2_with fail
  ((with_reducible refine (int_calls _ _ _ _ _ b HS2.out.1 (by rw [List.length_append]; omega) h1.1 h1.2).mono ?_); rintro e w3 ⟨rfl, hW, hC⟩)
  have HS3 := Lib.hid (HS2.out.step hW hC)
  have hc2 : w3.cell? ⟨w.heap.size, 2, none⟩ = some (.string s) := by rw [blk_cell (HS3.out.keeps HBK.out (Nat.le_refl _))]; rfl
  clear hW hC HS2 hc
  go_wp2_with fail
  ((with_reducible refine (text_calls _ _ _ _ _ s HS3.out.1 (by rw [List.length_append, List.length_append]; omega) h2).mono ?_); rintro e w4 ⟨rfl, hW, hC⟩)
  have HS4 := Lib.hid (HS3.out.step hW hC)
  clear hW hC HS3
  go_wp2_with fail
  go_end0
  have := HS4.out.final HB.out
  rw [List.append_assoc, List.append_assoc] at this
  refine ⟨rfl, ?_⟩
  unfold encEnt
  rw [List.append_assoc]
  exact this

end Go.Proofs.Ytneebjlpeekmbaa
