/- The numbers of package storm: what Mix, NewRand, Next, Below and the law StormRand come to, for every seed and every slice. No conditions but the ranges of the kinds. -/
import Derived.Test.YthobpcbiaimccaaProg
import Derived.WalkKit
import Derived.WalkSpells
import Derived.WalkLawsBesides
import Derived.Test.YthobpcbiaimccaaWWords
import Derived.Lib.Hide
import Derived.BigQuiet
import Derived.Deep.QuietTactic
namespace Go.Proofs.Ythobpcbiaimccaa
open Go.RowKit Go.Proofs.YthobpcbiaimccaaW.PrintWords
set_option linter.unusedVariables false
set_option linter.unusedSimpArgs false
namespace Rand

def u (x : Int) : Int := IntKind.u64.wrap x
def mixI (x : Int) : Int :=
  let a := IntKind.u64.wrap (bits BinOp.xor IntKind.u64 x (x / 1073741824) * 13787848793156543929)
  let b := IntKind.u64.wrap (bits BinOp.xor IntKind.u64 a (a / 134217728) * 10723151780598845931)
  bits BinOp.xor IntKind.u64 b (b / 2147483648)

theorem wrap_u64 (x : Int) : IntKind.u64.wrap x = x % 18446744073709551616 := by
  simp [IntKind.wrap, IntKind.bits, IntKind.signed]
theorem wrap_rng (x : Int) : 0 ≤ IntKind.u64.wrap x ∧ IntKind.u64.wrap x < 18446744073709551616 := by
  rw [wrap_u64]; omega
theorem wrap_tdiv (x c : Int) (hc : 0 < c) : IntKind.u64.wrap ((IntKind.u64.wrap x).tdiv c) = IntKind.u64.wrap x / c := by
  have h := wrap_rng x
  generalize IntKind.u64.wrap x = y at h
  rw [Int.tdiv_eq_ediv_of_nonneg h.1, wrap_u64]
  have h1 : 0 ≤ y / c := Int.ediv_nonneg h.1 (by omega)
  have h2 : y / c ≤ y := Int.ediv_le_self _ h.1
  omega

theorem ret_u64 {a b : Int} (h : a = b) : Ending.returned (.int .u64 a) = .returned (.int .u64 b) := by rw [h]

set_option maxHeartbeats 400000 in
theorem mix_any (a : Int) (w : World) (h0 : 0 ≤ a) (_h1 : a < 18446744073709551616) :
    Calls Try.prog 17 #[.int .u64 a] w fun e w' => e = .returned (.int .u64 (mixI a)) ∧ w = w' := by
  go_enter Try.func17, Try.ntmps17
  go_wp2
  go_ret
  refine ⟨ret_u64 ?_, rfl⟩
  unfold mixI
  simp only [wrap_tdiv _ 134217728 (by omega), wrap_tdiv _ 2147483648 (by omega)]

set_option maxHeartbeats 400000 in
theorem next_any (g : Nat) (a : Int) (w : World) (hc : w.cell? ⟨g, 0, none⟩ = some (.int .u64 a)) (hf : w.frozen? ⟨g, 0, none⟩ = false) :
    Calls Try.prog 19 #[.pointer (some ⟨g, 0, none⟩)] w fun e w' => e = .returned (.int .u64 (mixI (IntKind.u64.wrap (a + 11400714819323198485)))) ∧ w.setCell ⟨g, 0, none⟩ (.int .u64 (IntKind.u64.wrap (a + 11400714819323198485))) = w' := by
  go_enter Try.func19, Try.ntmps19
  go_wp2
  go_ret
  exact ⟨ret_u64 rfl, rfl⟩

set_option maxHeartbeats 400000 in
theorem next_nil (w : World) :
    Calls Try.prog 19 #[.pointer none] w fun e w' => e = .returned (.int .u64 0) ∧ w = w' := by
  go_enter Try.func19, Try.ntmps19
  go_wp2
  go_ret
  exact ⟨rfl, rfl⟩

set_option maxHeartbeats 400000 in
theorem below_nil (n : Int) (w : World) :
    Calls Try.prog 18 #[.pointer none, .int .i64 n] w fun e w' => e = .returned (.int .i64 0) ∧ w = w' := by
  go_enter Try.func18, Try.ntmps18
  go_wp2
  go_ret
  exact ⟨rfl, rfl⟩

set_option maxHeartbeats 400000 in
theorem below_low (g : Nat) (n : Int) (w : World) (hn : n < 1) :
    Calls Try.prog 18 #[.pointer (some ⟨g, 0, none⟩), .int .i64 n] w fun e w' => e = .returned (.int .i64 0) ∧ w = w' := by
  go_enter Try.func18, Try.ntmps18
  go_wp2
  go_ret
  exact ⟨rfl, rfl⟩

set_option maxHeartbeats 400000 in
theorem below_any (g : Nat) (a n : Int) (w : World) (hn : 1 ≤ n) (_hn' : n ≤ 9223372036854775807) (hc : w.cell? ⟨g, 0, none⟩ = some (.int .u64 a)) (hf : w.frozen? ⟨g, 0, none⟩ = false) :
    Calls Try.prog 18 #[.pointer (some ⟨g, 0, none⟩), .int .i64 n] w fun e w' => e = .returned (.int .i64 (wrap64 ((mixI (IntKind.u64.wrap (a + 11400714819323198485))).tmod n))) ∧ w.setCell ⟨g, 0, none⟩ (.int .u64 (IntKind.u64.wrap (a + 11400714819323198485))) = w' := by
  go_enter Try.func18, Try.ntmps18
  go_wp2_with (go_at_call 19; refine (next_any g a _ hc hf).mono ?_; rintro e w' ⟨rfl, rfl⟩)
  go_ret
  exact ⟨rfl, rfl⟩

set_option maxHeartbeats 400000 in
theorem new_any (a : Int) (w : World) :
    Calls Try.prog 16 #[.int .u64 a] w fun e w' => e = .returned (.pointer (some ⟨w.heap.size, 0, none⟩)) ∧ w.alloc (.cells #[.int .u64 a] 102) = w' := by
  go_enter Try.func16, Try.ntmps16
  go_wp2
  go_ret
  exact ⟨rfl, rfl⟩

theorem mix_zero : mixI (IntKind.u64.wrap (0 + 11400714819323198485)) = 16294208416658607535 := by decide +kernel

set_option maxHeartbeats 400000 in
theorem lives_any (w : World) :
    Calls Try.prog 20 #[] w fun e w' => e = .returned (.bool true) ∧ Below w.heap.size w w' := by
  go_enter Try.func20, Try.ntmps20
  go_wp2_with (first | (go_at_call 16; refine (new_any _ _).mono ?_; rintro e w' ⟨rfl, rfl⟩) | (go_at_call 19; refine (next_any _ 0 _ (by simp) (by simp)).mono ?_; rintro e w' ⟨rfl, rfl⟩; rw [mix_zero]))
  go_ret
  exact ⟨rfl, (Below.refl _ _).alloc (Nat.le_refl _) _⟩

set_option maxRecDepth 100000 in
set_option maxHeartbeats 800000 in
theorem law_any (seed : Int) (A : Option Addr) (n c : Nat) (xs : List Int) (w : World) (h0 : 0 ≤ seed) (h1 : seed < 18446744073709551616)
    (hr : ReadsInt w .i64 A n xs) (hx : ∀ i, xs.getD i 0 ≤ 9223372036854775807) :
    Calls Try.prog 3 #[.int .u64 seed, .slice A n c] w fun e w' => e = .returned (.bool true) ∧ Below w.heap.size w w' := by
  have hn := hr.2.1
  have HR := Lib.hid hr
  clear hr
  have HX := Lib.hid hx
  clear hx
  go_enter Try.func3, Try.ntmps3
  go_wp2_with (go_at_call 16; refine (new_any _ _).mono ?_; rintro e w' ⟨rfl, rfl⟩)
  go_loopw [6, 16] (fun vx vi wr => ∃ (x : Int) (i : Nat), i ≤ n ∧ i ≤ 200 ∧ vi = .int .i64 i ∧ vx = .int .u64 x ∧ 0 ≤ x ∧ x < 18446744073709551616 ∧ wr.cell? ⟨w.heap.size, 0, none⟩ = some (.int .u64 x) ∧ wr.frozen? ⟨w.heap.size, 0, none⟩ = false ∧ Below w.heap.size w wr) (fun _ vi _ => n - (intOf vi).toNat)
  case atStart => exact ⟨seed, 0, by omega, by omega, rfl, rfl, h0, h1, by simp, by simp, (Below.refl _ _).alloc (Nat.le_refl _) _⟩
  case round =>
    obtain ⟨x, i, hi, hi2, rfl, rfl, hx0, hx1, hc, hf, hb⟩ := hrel
    by_cases hlt : i < n
    · obtain ⟨ad, rfl, hcell⟩ := HR.out.at_ (i : Int) (by omega) (by omega)
      have hcell' : wr.cell? (ad.add i) = some (.int .i64 (rd xs i)) := pw_cell_below hb (by simpa using hcell)
      clear hcell
      generalize hz : rd xs i = z at hcell'
      have hz1 : z ≤ 9223372036854775807 := by rw [← hz]; exact HX.out _
      clear hz
      by_cases h2 : 200 ≤ i
      · go_wp2_with (first | (go_at_call 19; with_reducible refine (next_nil _).mono ?_; rintro e w' ⟨rfl, rfl⟩) | (go_at_call 18; with_reducible refine (below_nil _ _).mono ?_; rintro e w' ⟨rfl, rfl⟩) | (go_at_call 20; with_reducible refine (lives_any _).mono ?_; rintro e w' ⟨rfl, hb2⟩))
        go_ret
        exact ⟨rfl, hb.trans (hb2.mono hb.size)⟩
      · by_cases h3 : z < 1
        · go_wp2_with fail
          ((with_reducible refine (below_low _ _ _ h3).mono ?_); rintro e w' ⟨rfl, rfl⟩)
          go_wp2_with fail
          ((with_reducible refine (next_any _ x _ hc hf).mono ?_); rintro e w' ⟨rfl, rfl⟩)
          go_wp2_with fail
          ((with_reducible refine (mix_any _ _ (wrap_rng _).1 (wrap_rng _).2).mono ?_); rintro e w' ⟨rfl, rfl⟩)
          go_wp2_with fail
          go_roundw
          case measure => simp [intOf]; omega
          case rel => exact ⟨_, i + 1, by omega, by omega, by go_num, rfl, (wrap_rng _).1, (wrap_rng _).2, World.cell?_setCell_same _ _ _ hc, by rw [World.frozen?_setCell]; exact hf, hb.setCell (Nat.le_refl _) _⟩
        · go_wp2_with fail
          ((with_reducible refine (mix_any _ _ (wrap_rng _).1 (wrap_rng _).2).mono ?_); rintro e w' ⟨rfl, rfl⟩)
          go_wp2_with fail
          ((with_reducible refine (below_any _ x _ _ (by omega) hz1 hc hf).mono ?_); rintro e w' ⟨rfl, rfl⟩)
          have hc2 := World.cell?_setCell_same _ _ (.int .u64 (IntKind.u64.wrap (x + 11400714819323198485))) hc
          have hf2 : (wr.setCell ⟨w.heap.size, 0, none⟩ (.int .u64 (IntKind.u64.wrap (x + 11400714819323198485)))).frozen? ⟨w.heap.size, 0, none⟩ = false := by rw [World.frozen?_setCell]; exact hf
          go_wp2_with fail
          ((with_reducible refine (next_any _ (IntKind.u64.wrap (x + 11400714819323198485)) _ hc2 hf2).mono ?_); rintro e w' ⟨rfl, rfl⟩)
          go_wp2_with fail
          ((with_reducible refine (mix_any _ _ (wrap_rng _).1 (wrap_rng _).2).mono ?_); rintro e w' ⟨rfl, rfl⟩)
          go_wp2_with fail
          go_roundw
          case measure => simp [intOf]; omega
          case rel => exact ⟨_, i + 1, by omega, by omega, by go_num, rfl, (wrap_rng _).1, (wrap_rng _).2, World.cell?_setCell_same _ _ _ hc2, by rw [World.frozen?_setCell]; exact hf2, (hb.setCell (Nat.le_refl _) _).setCell (Nat.le_refl _) _⟩
    · go_wp2_with (first | (go_at_call 19; with_reducible refine (next_nil _).mono ?_; rintro e w' ⟨rfl, rfl⟩) | (go_at_call 18; with_reducible refine (below_nil _ _).mono ?_; rintro e w' ⟨rfl, rfl⟩) | (go_at_call 20; with_reducible refine (lives_any _).mono ?_; rintro e w' ⟨rfl, hb2⟩))
      go_ret
      exact ⟨rfl, hb.trans (hb2.mono hb.size)⟩

end Rand
end Go.Proofs.Ythobpcbiaimccaa
