/- The sums of package octet and of its reference: what More, Sum, CRC come to, by the plain register. Conditions: the kinds' ranges. -/
import Derived.Test.YtneebjlpeekmbaaBase
import Derived.Test.YtneebjlpeekmbaaCrc
import Derived.Outline
namespace Go.Proofs.Ytneebjlpeekmbaa
open Go.RowKit Go.Proofs.YtneebjlpeekmbaaW.PrintWords
set_option linter.unusedVariables false
set_option linter.unusedSimpArgs false
theorem st_bits (y : Nat) (hy : y < 4294967296) : bits BinOp.xor IntKind.u32 ((y : Int) / 2) (bits BinOp.and IntKind.u32 3988292384 (-bits BinOp.and IntKind.u32 (y : Int) 1 % 4294967296)) = (Crc.st y : Int) := by
  have h1 : bits BinOp.and IntKind.u32 (y : Int) 1 = ((y % 2 : Nat) : Int) := by
    have := u32_and_nat y 1 hy (by omega)
    rw [Nat.and_one_is_mod] at this
    exact this
  have e2 : ((y : Int) / 2) = ((y / 2 : Nat) : Int) := by simp
  rw [h1, e2]
  unfold Crc.st Crc.poly
  rcases Nat.mod_two_eq_zero_or_one y with h | h
  · rw [h, if_neg (by omega)]
    have h3 : bits BinOp.and IntKind.u32 3988292384 (-((0 : Nat) : Int) % 4294967296) = ((0 : Nat) : Int) := by decide +kernel
    rw [h3, u32_xor_nat _ _ (by omega) (by omega)]
  · rw [h, if_pos rfl]
    have h3 : bits BinOp.and IntKind.u32 3988292384 (-((1 : Nat) : Int) % 4294967296) = ((3988292384 : Nat) : Int) := by decide +kernel
    rw [h3, u32_xor_nat _ _ (by omega) (by omega)]

theorem u32_congr {a b : Int} (h : a = b) : Value.int .u32 a = Value.int .u32 b := by rw [h]

set_option maxHeartbeats 400000 in
theorem step_calls (x : Nat) (hx : x < 4294967296) (w : World) :
    Calls Try.prog 89 #[.int .u32 x] w fun e w' => e = .returned (.int .u32 (Crc.it 8 x)) ∧ w = w' := by
  go_enter Try.func89, Try.ntmps89
  go_wp2_with fail
  go_loop [0, 3] (fun vx vk => ∃ y k : Nat, k ≤ 8 ∧ vx = .int .u32 y ∧ vk = .int .i64 k ∧ y < 4294967296 ∧ Hid (Crc.it (8 - k) y = Crc.it 8 x)) (fun _ vk => 8 - (intOf vk).toNat)
  case atStart => exact ⟨x, 0, by omega, rfl, rfl, hx, Lib.hid rfl⟩
  case round =>
    obtain ⟨y, k, hk, rfl, rfl, hy, HY⟩ := hrel
    by_cases hlt : k < 8
    · go_wp2_with fail
      go_round
      case measure => simp [intOf]; omega
      case rel =>
        refine ⟨Crc.st y, k + 1, by omega, u32_congr (st_bits y hy), by go_num, Crc.st_lt y hy, Lib.hid ?_⟩
        rw [← HY.out, show 8 - k = (8 - (k + 1)) + 1 from by omega]
        rfl
    · go_wp2_with fail
      go_ret
      have := HY.out
      rw [show 8 - k = 0 from by omega] at this
      refine ⟨ret_u32 ?_, rfl⟩
      rw [← this]
      rfl

def IsBytes (xs : List Int) : Prop := ∀ x ∈ xs, 0 ≤ x ∧ x < 256

theorem IsBytes.getD {xs : List Int} (h : IsBytes xs) (i : Nat) : 0 ≤ xs.getD i 0 ∧ xs.getD i 0 < 256 := by
  rw [List.getD_eq_getElem?_getD]
  by_cases hi : i < xs.length
  · rw [List.getElem?_eq_getElem hi]; exact h _ (List.getElem_mem hi)
  · rw [List.getElem?_eq_none (by omega)]; simp
theorem IsBytes.nil : IsBytes [] := fun x h => by simp at h
theorem IsBytes.append {xs ys : List Int} (h : IsBytes xs) (k : IsBytes ys) : IsBytes (xs ++ ys) := fun x hx => by
  rcases List.mem_append.1 hx with hx | hx
  · exact h x hx
  · exact k x hx
theorem IsBytes.take {xs : List Int} (h : IsBytes xs) (n : Nat) : IsBytes (xs.take n) := fun x hx => h x (List.mem_of_mem_take hx)
theorem IsBytes.drop {xs : List Int} (h : IsBytes xs) (n : Nat) : IsBytes (xs.drop n) := fun x hx => h x (List.mem_of_mem_drop hx)
theorem IsBytes.lt {xs : List Int} (h : IsBytes xs) : ∀ c ∈ xs, c < 256 := fun c hc => (h c hc).2
theorem isBytes_of (s : ByteArray) : IsBytes (bytesOf s) := by
  intro x hx
  simp only [bytesOf, List.mem_map] at hx
  obtain ⟨b, _, rfl⟩ := hx
  have := b.toNat_lt
  omega

theorem isBytes_wf {xs : List Int} (h : ∀ n ∈ xs, (Lit.int .u8 n).wf = true) : IsBytes xs := fun x hx => by
  have := bounds_u8 (h x hx)
  omega

theorem take_snoc (xs : List Int) (k : Nat) (h : k < xs.length) : xs.take (k + 1) = xs.take k ++ [xs.getD k 0] := by
  rw [List.take_succ_eq_append_getElem h, List.getD_eq_getElem?_getD, List.getElem?_eq_getElem h]
  rfl

/-- What More comes to. -/
def Crc.more (sum : Nat) (xs : List Int) : Nat := 4294967295 - Crc.run (4294967295 - sum) xs
theorem Crc.more_lt (sum : Nat) (xs : List Int) : Crc.more sum xs < 4294967296 := by unfold Crc.more; omega
theorem Crc.more_append (sum : Nat) (xs ys : List Int) (hx : IsBytes xs) (hs : sum < 4294967296) : Crc.more (Crc.more sum xs) ys = Crc.more sum (xs ++ ys) := by
  unfold Crc.more
  rw [Crc.run_append]
  have := Crc.run_lt xs hx.lt (4294967295 - sum) (by omega)
  rw [show 4294967295 - (4294967295 - Crc.run (4294967295 - sum) xs) = Crc.run (4294967295 - sum) xs from by omega]
theorem Crc.more_nil (sum : Nat) (hs : sum < 4294967296) : Crc.more sum [] = sum := by
  unfold Crc.more Crc.run
  simp
  omega

theorem upd_bits (x : Nat) (c : Int) (hx : x < 4294967296) (h0 : 0 ≤ c) (h1 : c < 256) :
    bits BinOp.xor IntKind.u32 ((x : Int) / 256) ((Crc.it 8 (x % 256 ^^^ c.toNat) : Nat) : Int) = (Crc.upd x c : Int) := by
  have e : ((x : Int) / 256) = ((x / 256 : Nat) : Int) := by simp
  rw [e, u32_xor_nat _ _ (by omega) (Crc.it_lt 8 _ (Nat.lt_of_lt_of_le (Nat.xor_lt_two_pow (n := 8) (by omega) (by omega)) (by omega))), Crc.upd_split x c h0 h1]
theorem low_bits (x : Nat) (c : Int) (hx : x < 4294967296) (h0 : 0 ≤ c) (h1 : c < 256) :
    bits BinOp.xor IntKind.u32 (bits BinOp.and IntKind.u32 (x : Int) 255) c = ((x % 256 ^^^ c.toNat : Nat) : Int) := by
  have h2 : bits BinOp.and IntKind.u32 (x : Int) 255 = ((x % 256 : Nat) : Int) := by
    have h := u32_and_nat x 255 hx (by omega)
    have e : x &&& 255 = x % 256 := Nat.and_two_pow_sub_one_eq_mod x 8
    rw [e] at h
    exact h
  obtain ⟨m, rfl⟩ := Int.eq_ofNat_of_zero_le h0
  rw [h2, u32_xor_nat _ _ (by omega) (by omega)]
  simp

set_option maxHeartbeats 400000 in
theorem more_calls (sum : Nat) (A : Option Addr) (n c : Nat) (xs : List Int) (w : World) (hs : sum < 4294967296) (hr : ReadsInt w .u8 A n xs) (hb : IsBytes xs) :
    Calls Try.prog 86 #[.int .u32 sum, .slice A n c] w fun e w' => e = .returned (.int .u32 (Crc.more sum xs)) ∧ w = w' := by
  have hn := hr.2.1
  have hln := hr.1
  have HR := Lib.hid hr
  have HB := Lib.hid hb
  have HN := Lib.hid (not_u32 sum hs)
  clear hr hb
  go_enter Try.func86, Try.ntmps86
  go_wp2_with fail
  go_loop [5, 12] (fun vx vi => ∃ y i : Nat, i ≤ n ∧ vx = .int .u32 y ∧ vi = .int .i64 i ∧ y < 4294967296 ∧ Hid (y = Crc.run (4294967295 - sum) (xs.take i))) (fun _ vi => n - (intOf vi).toNat)
  case atStart =>
    refine ⟨4294967295 - sum, 0, by omega, u32_congr ?_, rfl, by omega, Lib.hid rfl⟩
    show bits BinOp.xor IntKind.u32 4294967295 (sum : Int) = _
    rw [HN.out]; omega
  case round =>
    obtain ⟨y, i, hi, rfl, rfl, hy, HY⟩ := hrel
    by_cases hlt : i < n
    · obtain ⟨ad, rfl, hcell⟩ := HR.out.at_ (i : Int) (by omega) (by omega)
      rw [Int.toNat_natCast] at hcell
      have hbd := HB.out.getD i
      have hsn := Lib.hid (take_snoc xs i (by omega))
      obtain ⟨z, hz⟩ : ∃ z, z = xs.getD i 0 := ⟨_, rfl⟩
      have hcell' : w.cell? (ad.add i) = some (.int .u8 z) := by rw [hz]; simpa [rd] using hcell
      rw [← hz] at hbd
      obtain ⟨hz0, hz1⟩ := hbd
      have HZ := Lib.hid hz
      clear hcell hz
      go_wp2_with fail
      rw [low_bits y z hy hz0 hz1]
      ((with_reducible refine (step_calls _ ?_ _).mono ?_))
      · exact Nat.lt_of_lt_of_le (Nat.xor_lt_two_pow (n := 8) (by omega) (by omega)) (by omega)
      rintro e w' ⟨rfl, rfl⟩
      go_wp2_with fail
      go_round
      case measure => simp [intOf]; omega
      case rel =>
        refine ⟨Crc.upd y z, i + 1, by omega, u32_congr (upd_bits y z hy hz0 hz1), by go_num, Crc.upd_lt y z hy hz1, Lib.hid ?_⟩
        rw [hsn.out, Crc.run_append, ← HY.out, HZ.out]
        rfl
    · go_wp2_with fail
      go_ret
      refine ⟨ret_u32 ?_, rfl⟩
      have h1 := not_u32 y hy
      have h2 := HY.out
      rw [List.take_of_length_le (by omega)] at h2
      unfold Crc.more
      rw [← h2]
      show bits BinOp.xor IntKind.u32 4294967295 (y : Int) = _
      rw [h1]
      omega

/-- A slice of slices of bytes that is read. -/
def ReadsLs (w : World) (A : Option Addr) (n : Nat) (ls : List (List Int)) : Prop :=
  ls.length = n ∧ n ≤ 9223372036854775807 ∧ ∀ j, j < n → ∃ ad B c, A = some ad ∧ w.cell? (ad.add j) = some (.slice B (ls.getD j []).length c) ∧ ReadsInt w .u8 B (ls.getD j []).length (ls.getD j [])

theorem take_snoc' (ls : List (List Int)) (k : Nat) (h : k < ls.length) : (ls.take (k + 1)).flatten = (ls.take k).flatten ++ ls.getD k [] := by
  rw [List.take_succ_eq_append_getElem h, List.getD_eq_getElem?_getD, List.getElem?_eq_getElem h, List.flatten_append]
  simp only [List.flatten_cons, List.flatten_nil, List.append_nil, Option.getD_some]

set_option maxHeartbeats 400000 in
theorem sum_calls (A : Option Addr) (n c : Nat) (ls : List (List Int)) (w : World) (hr : ReadsLs w A n ls) (hb : IsBytes ls.flatten) :
    Calls Try.prog 64 #[.slice A n c] w fun e w' => e = .returned (.int .u32 (Crc.more 0 ls.flatten)) ∧ w = w' := by
  have hn := hr.2.1
  have hln := hr.1
  have HR := Lib.hid hr
  have HB := Lib.hid hb
  clear hr hb
  go_enter Try.func64, Try.ntmps64
  go_wp2_with fail
  go_loop [3, 8] (fun vx vi => ∃ y i : Nat, i ≤ n ∧ vx = .int .u32 y ∧ vi = .int .i64 i ∧ y < 4294967296 ∧ Hid (y = Crc.more 0 (ls.take i).flatten)) (fun _ vi => n - (intOf vi).toNat)
  case atStart => exact ⟨0, 0, by omega, rfl, rfl, by omega, Lib.hid (by rw [List.take_zero]; exact (Crc.more_nil 0 (by omega)).symm)⟩
  case round =>
    obtain ⟨y, i, hi, rfl, rfl, hy, HY⟩ := hrel
    by_cases hlt : i < n
    · obtain ⟨ad, B, c1, rfl, hcell, hreads⟩ := HR.out.2.2 i hlt
      have hsn := Lib.hid (take_snoc' ls i (by omega))
      have HBt : Hid (IsBytes (ls.take i).flatten) := Lib.hid fun x hx => HB.out x (by
        rw [← List.take_append_drop i ls, List.flatten_append]; exact List.mem_append_left _ hx)
      have HBi : Hid (IsBytes (ls.getD i [])) := Lib.hid fun x hx => HB.out x (List.mem_flatten.2 ⟨_, by rw [List.getD_eq_getElem?_getD, List.getElem?_eq_getElem (by omega)]; exact List.getElem_mem (by omega), hx⟩)
      generalize ls.getD i [] = zs at hcell hreads hsn HBi
      have HRz := Lib.hid hreads
      clear hreads
      go_wp2_with fail
      ((with_reducible refine (more_calls y _ _ _ zs _ hy HRz.out HBi.out).mono ?_); rintro e w' ⟨rfl, rfl⟩)
      go_wp2_with fail
      go_round
      case measure => simp [intOf]; omega
      case rel =>
        refine ⟨Crc.more y zs, i + 1, by omega, rfl, by go_num, Crc.more_lt _ _, Lib.hid ?_⟩
        rw [hsn.out, HY.out, Crc.more_append 0 _ _ HBt.out (by omega)]
    · go_wp2_with fail
      go_ret
      refine ⟨ret_u32 ?_, rfl⟩
      rw [HY.out, List.take_of_length_le (by omega)]


end Go.Proofs.Ytneebjlpeekmbaa
