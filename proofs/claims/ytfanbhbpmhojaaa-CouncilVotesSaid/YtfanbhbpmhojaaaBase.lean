/- Small facts on worlds, slices that came in, and integers, for all of this seat's proofs. They have no conditions beyond those typed. -/
import Derived.Test.YtfanbhbpmhojaaaProg
import Derived.WalkKit
import Derived.WalkSpells
import Derived.WalkLawsBesides
import Derived.OpenShut
import Derived.Lib.Hide
import Derived.BigQuiet
import Derived.Laws.BitsAllLaws
import Derived.Deep.QuietTactic
import Derived.Test.YtfanbhbpmhojaaaWWords
namespace Go.Proofs.Ytfanbhbpmhojaaa
open Go.RowKit Go.Proofs.YtfanbhbpmhojaaaW.PrintWords
set_option linter.unusedVariables false
set_option linter.unusedSimpArgs false
/-- What a slice of integers that came in is told as, turned into the word that the walks use. -/
theorem reads_row {k : IntKind} {w : World} {a : Option Addr} {len cap : Nat} {zs : List Int}
    (h : (a = none ∧ len = 0 ∧ cap = 0 ∧ zs = []) ∨ ∃ x, a = some x ∧ len ≤ cap ∧ cap ≤ maxLen ∧ zs.length = cap ∧ (∀ i, i < zs.length → w.cell? (x.add i) = some (.int k (zs.getD i 0))) ∧ ∀ n ∈ zs, (Lit.int k n).wf = true) :
    ReadsInt w k a len (zs.take len) ∧ len ≤ cap ∧ cap ≤ maxLen ∧ (zs.take len).length = len ∧ ∀ n ∈ zs.take len, (Lit.int k n).wf = true := by
  rcases h with ⟨rfl, rfl, rfl, rfl⟩ | ⟨x, rfl, h1, h2, h3, h4, h5⟩
  · exact ⟨⟨rfl, by omega, fun h => absurd h (by omega)⟩, Nat.le_refl _, Nat.zero_le _, rfl, by simp⟩
  · have hl : (zs.take len).length = len := by rw [List.length_take]; omega
    refine ⟨⟨hl, by unfold maxLen at h2; omega, fun _ => ⟨x, rfl, fun j hj => ?_⟩⟩, h1, h2, hl, fun n hn => h5 n (List.mem_of_mem_take hn)⟩
    rw [h4 j (by omega)]
    simp [List.getD_eq_getElem?_getD, List.getElem?_take, hj]

theorem getD_wf {k : IntKind} {xs : List Int} {P : Int → Prop} (h : ∀ n ∈ xs, (Lit.int k n).wf = true) (hP : ∀ n, (Lit.int k n).wf = true → P n) (h0 : P 0) (i : Nat) : P (xs.getD i 0) := by
  rw [List.getD_eq_getElem?_getD]
  by_cases hi : i < xs.length
  · rw [List.getElem?_eq_getElem hi]; exact hP _ (h _ (List.getElem_mem hi))
  · rw [List.getElem?_eq_none (by omega)]; exact h0

/-- What a call has turned among the blocks that were there lies within 'ok'. -/
structure Chg (ok : Nat → Prop) (w w' : World) : Prop where
  os : w'.os = w.os
  tape : w'.tape = w.tape
  output : w'.output = w.output
  size : w.heap.size ≤ w'.heap.size
  block : ∀ i, i < w.heap.size → ¬ ok i → w'.heap[i]? = w.heap[i]?

namespace Chg
variable {ok ok' : Nat → Prop} {w w1 w2 : World}
theorem refl (ok : Nat → Prop) (w : World) : Chg ok w w := ⟨rfl, rfl, rfl, Nat.le_refl _, fun _ _ _ => rfl⟩
theorem trans (h : Chg ok w w1) (k : Chg ok' w1 w2) (hok : ∀ i, i < w.heap.size → ok' i → ok i) : Chg ok w w2 :=
  ⟨k.os.trans h.os, k.tape.trans h.tape, k.output.trans h.output, Nat.le_trans h.size k.size, fun i hi hn =>
    (k.block i (Nat.lt_of_lt_of_le hi h.size) (fun hk => hn (hok i hi hk))).trans (h.block i hi hn)⟩
theorem mono (h : Chg ok w w1) (hok : ∀ i, ok i → ok' i) : Chg ok' w w1 :=
  ⟨h.os, h.tape, h.output, h.size, fun i hi hn => h.block i hi (fun hk => hn (hok i hk))⟩
theorem of_below {B : Nat} (h : Below B w w1) (hok : ∀ i, i < w.heap.size → B ≤ i → ok i) : Chg ok w w1 :=
  ⟨h.os, h.tape, h.output, h.size, fun i hi hn => h.block i (Nat.lt_of_not_le fun hk => hn (hok i hi hk))⟩
theorem of_same (h : Below w.heap.size w w1) (ok : Nat → Prop) : Chg ok w w1 := of_below h fun i hi hk => absurd hk (by omega)
theorem below {B : Nat} (h : Chg ok w w1) (hB : B ≤ w.heap.size) (hok : ∀ i, i < B → ¬ ok i) : Below B w w1 :=
  ⟨h.os, h.tape, h.output, h.size, fun i hi => h.block i (Nat.lt_of_lt_of_le hi hB) (hok i hi)⟩
theorem of_grown {row : Option Nat} (h : w.grownBy w1 row) (hok : ∀ k, row = some k → ok k) : Chg ok w w1 :=
  ⟨h.os, h.tape, h.output, h.size, fun i hi hn => h.block i hi (fun he => hn (hok i he.symm))⟩
theorem setCell (h : Chg ok w w1) {p : Addr} (hp : ok p.block ∨ w.heap.size ≤ p.block) (u : Value) : Chg ok w (w1.setCell p u) :=
  h.trans (ok' := fun i => i = p.block) ⟨rfl, rfl, rfl, (by unfold World.setCell; split <;> simp), fun i _ hn => Below.heap_setCell w1 p u i hn⟩
    (fun i hi he => by rcases hp with hp | hp
                       · rw [he]; exact hp
                       · omega)
theorem alloc (h : Chg ok w w1) (o : Obj) : Chg ok w (w1.alloc o) :=
  h.trans (of_below ((Below.refl w1.heap.size w1).alloc (Nat.le_refl _) o) (ok := fun _ => False) (fun i hi hk => absurd hk (by omega))) (fun _ _ h => h.elim)
theorem drew (h : Chg ok w w1) : Chg ok w w1.drew := ⟨h.os, h.tape, h.output, h.size, h.block⟩
theorem drewN (h : Chg ok w w1) (n : Nat) : Chg ok w (w1.drewN n) := ⟨h.os, h.tape, h.output, h.size, h.block⟩
theorem get (h : Chg ok w w1) {i : Nat} {o : Obj} (ho : w.heap[i]? = some o) (hn : ¬ ok i) : w1.heap[i]? = some o := (h.block i (blk_lt ho) hn).trans ho
end Chg

/-- 'ok', and whatever is made from w on. -/
def more (ok : Nat → Prop) (w : World) (k : Nat) : Prop := ok k ∨ w.heap.size ≤ k

/-- A Writer at block g that has laid xs; its blocks are ok. -/
def Wr (w : World) (base g : Nat) (ok : Nat → Prop) (xs : List Int) : Prop :=
  base ≤ g ∧ ok g ∧ ∃ v, w.heap[g]? = some (.cells #[v] 118 (0, 0)) ∧ w.ownsRow base 5 1 v xs.length (nums .u8 xs) ∧ ∀ k, v.ownBlock = some k → ok k

namespace Wr
variable {w w1 : World} {base g : Nat} {ok ok' : Nat → Prop} {xs : List Int}
theorem move (h : Wr w base g ok xs) (hm : ∀ k, ok k → k < w.heap.size → w1.heap[k]? = w.heap[k]?) : Wr w1 base g ok xs := by
  obtain ⟨h0, h1, v, h2, h3, h4⟩ := h
  exact ⟨h0, h1, v, (hm g h1 (blk_lt h2)).trans h2, own_move h3 fun k hk => hm k (h4 k hk) (own_lt h3 k hk), h4⟩
theorem chg (h : Wr w base g ok xs) (hc : Chg ok' w w1) (hn : ∀ k, ok k → ¬ ok' k) : Wr w1 base g ok xs := h.move fun k hk hl => hc.block k hl (hn k hk)
theorem below (h : Wr w base g ok xs) (hb : Below w.heap.size w w1) : Wr w1 base g ok xs := h.move fun k _ hl => hb.block k hl
theorem mono (h : Wr w base g ok xs) (hm : ∀ k, ok k → ok' k) : Wr w base g ok' xs := by
  obtain ⟨h0, h1, v, h2, h3, h4⟩ := h
  exact ⟨h0, hm _ h1, v, h2, h3, fun k hk => hm _ (h4 k hk)⟩
theorem lt (h : Wr w base g ok xs) : g < w.heap.size := by
  obtain ⟨h0, h1, v, h2, h3, h4⟩ := h
  exact blk_lt h2
theorem base_le (h : Wr w base g ok xs) : base ≤ w.heap.size := Nat.le_of_lt (Nat.lt_of_le_of_lt h.1 h.lt)
end Wr

theorem ret_u64 {a b : Int} (h : a = b) : Ending.returned (.int .u64 a) = .returned (.int .u64 b) := by rw [h]
theorem ret_i64 {a b : Int} (h : a = b) : Ending.returned (.int .i64 a) = .returned (.int .i64 b) := by rw [h]
theorem ret_u32 {a b : Int} (h : a = b) : Ending.returned (.int .u32 a) = .returned (.int .u32 b) := by rw [h]
theorem ret_u8 {a b : Int} (h : a = b) : Ending.returned (.int .u8 a) = .returned (.int .u8 b) := by rw [h]

theorem not_i64 (n : Int) (h0 : -9223372036854775808 ≤ n) (h1 : n ≤ 9223372036854775807) : bits .xor .i64 (-1) n = -1 - n := by
  have e : BitVec.ofInt 64 (-1) = BitVec.allOnes 64 := by decide
  have h : (BitVec.ofInt 64 (-1) ^^^ BitVec.ofInt 64 n).toNat = 2 ^ 64 - 1 - (n % (2 ^ 64 : Nat)).toNat := by
    rw [e, BitVec.allOnes_xor, BitVec.toNat_not, BitVec.toNat_ofInt]
  show IntKind.i64.wrap (((BitVec.ofInt 64 (-1) ^^^ BitVec.ofInt 64 n).toNat : Nat) : Int) = _
  rw [h, IntKind.wrap_i64]
  omega
theorem not_u32 (n : Nat) (h1 : n < 4294967296) : bits .xor .u32 4294967295 n = 4294967295 - n := by
  have e : BitVec.ofInt 32 4294967295 = BitVec.allOnes 32 := by decide
  have h : (BitVec.ofInt 32 4294967295 ^^^ BitVec.ofInt 32 n).toNat = 2 ^ 32 - 1 - ((n : Int) % (2 ^ 32 : Nat)).toNat := by
    rw [e, BitVec.allOnes_xor, BitVec.toNat_not, BitVec.toNat_ofInt]
  show IntKind.u32.wrap (((BitVec.ofInt 32 4294967295 ^^^ BitVec.ofInt 32 n).toNat : Nat) : Int) = _
  rw [h, IntKind.wrap_u32]
  omega

theorem info5 : (Try.prog.info? 5).map (fun i => (i.zero, i.size, i.bytes)) = some (some (.int .u8 0), 1, 1) := by kernel_rfl



end Go.Proofs.Ytfanbhbpmhojaaa
