/- A council as one block of cells: its fields told by a plain structure; the methods that only read. Conditions: the log has 4096 entries at most, the base's index lies below 2^41. -/
import Derived.Test.YtfanbhbpmhojaaaVot
import Derived.Deep.Cut
import Derived.Deep.RegionWith
import Derived.Deep.MidRow
namespace Go.Proofs.Ytfanbhbpmhojaaa
open Go.RowKit Go.Proofs.YtfanbhbpmhojaaaW.PrintWords Go.Proofs.YtfanbhbpmhojaaaW.PrintLast Go.Proofs.YtfanbhbpmhojaaaW.PrintMore PRef
attribute [local go_sem] max2_int min2_int max_two min_two
set_option linter.unusedVariables false
set_option linter.unusedSimpArgs false

/-- What a council holds. -/
structure St where
  self : Int
  term : Int
  vote : Int
  bidx : Int
  bterm : Int
  bvot : ByteArray
  btext : ByteArray
  A : Option Addr
  cap : Nat
  log : List S39
  role : Int
  leader : Int
  commit : Int
  told : Int
  clock : Int
  vs : Nat → Bool
  nx : Nat → Int
  mt : Nat → Int
  keep : Bool
  mA : Option Addr
  mN : Nat
  mC : Nat
  nA : Option Addr
  nN : Nat
  nC : Nat

def St.cells (S : St) : Array Value := #[.int .i64 S.self, .int .i64 S.term, .int .i64 S.vote, .int .i64 S.bidx, .int .i64 S.bterm, .string S.bvot, .string S.btext, .slice S.A S.log.length S.cap, .int .i64 S.role, .int .i64 S.leader, .int .i64 S.commit, .int .i64 S.told, .int .i64 S.clock,
  .bool (S.vs 0), .bool (S.vs 1), .bool (S.vs 2), .bool (S.vs 3), .bool (S.vs 4), .bool (S.vs 5), .bool (S.vs 6),
  .int .i64 (S.nx 0), .int .i64 (S.nx 1), .int .i64 (S.nx 2), .int .i64 (S.nx 3), .int .i64 (S.nx 4), .int .i64 (S.nx 5), .int .i64 (S.nx 6),
  .int .i64 (S.mt 0), .int .i64 (S.mt 1), .int .i64 (S.mt 2), .int .i64 (S.mt 3), .int .i64 (S.mt 4), .int .i64 (S.mt 5), .int .i64 (S.mt 6),
  .bool S.keep, .slice S.mA S.mN S.mC, .slice S.nA S.nN S.nC]

/-- A council at block g; its log can be read. -/
structure Co (w : World) (g : Nat) (S : St) : Prop where
  blk : w.heap[g]? = some (.cells S.cells 94 (0, 0))
  row : Kd.C k39 w S.A S.log.length S.log
  cap : S.log.length ≤ S.cap
  far : ∀ ad, S.A = some ad → ad.block ≠ g
  len : S.log.length ≤ 4096
  lo : 0 ≤ S.bidx
  hi : S.bidx ≤ 2199023255552
  tx : ∀ x ∈ S.log, x.f2.size ≤ 9223372036854775807
  bv : S.bvot.size ≤ 9223372036854775807

theorem row_chg {w w1 : World} {A : Option Addr} {l : List S39} {g : Nat} (h : Kd.C k39 w A l.length l) (hf : ∀ ad, A = some ad → ad.block ≠ g) (hc : Chg (fun k => k = g) w w1) : Kd.C k39 w1 A l.length l := by
  refine ⟨h.1, h.2.1, fun hn => ?_⟩
  obtain ⟨ad, e, hcell⟩ := h.2.2 hn
  refine ⟨ad, e, fun j p hj => ?_⟩
  obtain ⟨c, hs, hr, hu⟩ := hcell j p hj
  refine ⟨c, hs, hr, fun i u hi => ?_⟩
  have h0 := hu i u hi
  have hb : (ad.add (j * k39.sz + i)).block = ad.block := add_block _ _
  have hlt : ad.block < w.heap.size := by
    rw [← hb]
    exact World.block_lt_of_cell? w _ h0
  rw [World.cell?_of_block (w := w) (by rw [hb]; exact hc.block _ hlt (hf ad e))]
  exact h0

namespace Co
variable {w w1 : World} {g : Nat} {S : St}
theorem cell (h : Co w g S) (i : Nat) : w.cell? ⟨g, i, none⟩ = S.cells[i]? := blk_cell h.blk i
theorem frozen (h : Co w g S) (i : Nat) : w.frozen? ⟨g, i, none⟩ = false := blk_frozen h.blk i
theorem lt (h : Co w g S) : g < w.heap.size := blk_lt h.blk
theorem c0 (h : Co w g S) : w.cell? ⟨g, 0, none⟩ = some (.int .i64 S.self) := by rw [h.cell]; rfl
theorem c1 (h : Co w g S) : w.cell? ⟨g, 1, none⟩ = some (.int .i64 S.term) := by rw [h.cell]; rfl
theorem c2 (h : Co w g S) : w.cell? ⟨g, 2, none⟩ = some (.int .i64 S.vote) := by rw [h.cell]; rfl
theorem c3 (h : Co w g S) : w.cell? ⟨g, 3, none⟩ = some (.int .i64 S.bidx) := by rw [h.cell]; rfl
theorem c4 (h : Co w g S) : w.cell? ⟨g, 4, none⟩ = some (.int .i64 S.bterm) := by rw [h.cell]; rfl
theorem c5 (h : Co w g S) : w.cell? ⟨g, 5, none⟩ = some (.string S.bvot) := by rw [h.cell]; rfl
theorem c6 (h : Co w g S) : w.cell? ⟨g, 6, none⟩ = some (.string S.btext) := by rw [h.cell]; rfl
theorem c7 (h : Co w g S) : w.cell? ⟨g, 7, none⟩ = some (.slice S.A S.log.length S.cap) := by rw [h.cell]; rfl
theorem c8 (h : Co w g S) : w.cell? ⟨g, 8, none⟩ = some (.int .i64 S.role) := by rw [h.cell]; rfl
theorem c9 (h : Co w g S) : w.cell? ⟨g, 9, none⟩ = some (.int .i64 S.leader) := by rw [h.cell]; rfl
theorem c10 (h : Co w g S) : w.cell? ⟨g, 10, none⟩ = some (.int .i64 S.commit) := by rw [h.cell]; rfl
theorem c11 (h : Co w g S) : w.cell? ⟨g, 11, none⟩ = some (.int .i64 S.told) := by rw [h.cell]; rfl
theorem c12 (h : Co w g S) : w.cell? ⟨g, 12, none⟩ = some (.int .i64 S.clock) := by rw [h.cell]; rfl
theorem c34 (h : Co w g S) : w.cell? ⟨g, 34, none⟩ = some (.bool S.keep) := by rw [h.cell]; rfl
theorem c35 (h : Co w g S) : w.cell? ⟨g, 35, none⟩ = some (.slice S.mA S.mN S.mC) := by rw [h.cell]; rfl
theorem c36 (h : Co w g S) : w.cell? ⟨g, 36, none⟩ = some (.slice S.nA S.nN S.nC) := by rw [h.cell]; rfl
theorem below (h : Co w g S) (hb : Below w.heap.size w w1) : Co w1 g S := ⟨blk_below h.blk hb, Kd.C_below h.row hb, h.cap, h.far, h.len, h.lo, h.hi, h.tx, h.bv⟩
theorem upd (h : Co w g S) {S' : St} (hc : Chg (fun k => k = g) w w1) (hb : w1.heap[g]? = some (.cells S'.cells 94 (0, 0))) (e1 : S'.A = S.A) (e2 : S'.log = S.log) (e3 : S'.cap = S.cap) (e4 : S'.bidx = S.bidx) (e5 : S'.bvot = S.bvot) : Co w1 g S' := by
  refine ⟨hb, ?_, by rw [e2, e3]; exact h.cap, by rw [e1]; exact h.far, by rw [e2]; exact h.len, by rw [e4]; exact h.lo, by rw [e4]; exact h.hi, by rw [e2]; exact h.tx, by rw [e5]; exact h.bv⟩
  rw [e1, e2]
  exact row_chg h.row h.far hc
theorem drewN (h : Co w g S) (n : Nat) : Co (w.drewN n) g S := h.below (pw_below_drewN (Below.refl _ _) n)
end Co

set_option maxRecDepth 100000 in
theorem last_calls {w : World} {g : Nat} {S : St} (h : Co w g S) :
    Calls Try.prog 17 #[.pointer (some ⟨g, 0, none⟩)] w fun e w' => e = .returned (.int .i64 (S.bidx + S.log.length)) ∧ ∃ m, w' = w.drewN m := by
  have c3 := h.c3
  have c7 := h.c7
  have h1 := h.lo
  have h2 := h.hi
  have h3 := h.len
  clear h
  go_enter Try.func17, Try.ntmps17
  go_wp2_with fail
  go_quiet (fail)
  go_wp2_with fail
  go_ret
  exact ⟨rfl, _, rfl⟩

/-- The term of an entry from the base on. -/
def atV (S : St) (i : Int) : Int := if i = S.bidx then S.bterm else if i < S.bidx ∨ S.bidx + S.log.length < i then -1 else (S.log.getD (i - S.bidx - 1).toNat z39).f0

set_option maxRecDepth 100000 in
set_option maxHeartbeats 1000000 in
theorem at_calls {w : World} {g : Nat} {S : St} (h : Co w g S) (i : Int) (hi0 : -4611686018427387904 ≤ i) (hi1 : i ≤ 4611686018427387904) :
    Calls Try.prog 47 #[.pointer (some ⟨g, 0, none⟩), .int .i64 i] w fun e w' => e = .returned (.int .i64 (atV S i)) ∧ ∃ m, w' = w.drewN m := by
  have c3 := h.c3
  have c4 := h.c4
  have c7 := h.c7
  have h1 := h.lo
  have h2 := h.hi
  have h3 := h.len
  have H := Lib.hid h
  clear h
  unfold atV
  by_cases e1 : i = S.bidx
  · have e1b : decide (i = S.bidx) = true := decide_eq_true e1
    have e1c : (i == S.bidx) = true := beq_iff_eq.2 e1
    rw [if_pos e1]
    clear e1
    go_enter Try.func47, Try.ntmps47
    go_wp2_with fail
    go_ret
    exact ⟨rfl, 0, rfl⟩
  · rw [if_neg e1]
    have e1b : (i == S.bidx) = false := beq_eq_false_iff_ne.2 e1
    by_cases e2 : i < S.bidx
    · rw [if_pos (.inl e2)]
      have e2b : decide (i < S.bidx) = true := decide_eq_true e2
      clear e2
      go_enter Try.func47, Try.ntmps47
      go_wp2_with fail
      go_ret
      exact ⟨rfl, 0, rfl⟩
    · have e2b : decide (i < S.bidx) = false := decide_eq_false e2
      by_cases e3 : S.bidx + S.log.length < i
      · rw [if_pos (.inr e3)]
        have e3b : decide (S.bidx + S.log.length < i) = true := decide_eq_true e3
        clear e3
        go_enter Try.func47, Try.ntmps47
        go_wp2_with (((with_reducible refine (last_calls H.out).mono ?_); rintro e w1 ⟨rfl, m, rfl⟩))
        go_ret
        exact ⟨rfl, m, rfl⟩
      · rw [if_neg (by omega)]
        have e3b : decide (S.bidx + S.log.length < i) = false := decide_eq_false e3
        obtain ⟨ad, hA, hc0, _⟩ := at_T39 H.out.row (i - S.bidx - 1) (by omega) (by omega)
        have hd : rd_T39 S.log (i - S.bidx - 1) = S.log.getD (i - S.bidx - 1).toNat z39 := rfl
        rw [hd] at hc0
        obtain ⟨j, hj⟩ : ∃ j : Nat, j = (i - S.bidx - 1).toNat := ⟨_, rfl⟩
        rw [← hj] at hc0 ⊢
        have hj2 : i - S.bidx - 1 = (j : Int) := by omega
        rw [hA] at c7
        have hjl : j < S.log.length := by omega
        generalize (S.log.getD j z39).f0 = z at hc0 ⊢
        clear hj e2 e3 e1 hd
        go_enter Try.func47, Try.ntmps47
        go_wp2_with (((with_reducible refine (last_calls H.out).mono ?_); rintro e w1 ⟨rfl, m, rfl⟩))
        go_quiet (fail)
        go_wp2_with fail
        go_ret
        exact ⟨rfl, _, World.drewN_drewN _ _ _⟩

/-- The voters behind some entries, on a base's. -/
def nowV (v : ByteArray) (l : List S39) : ByteArray := l.foldl (fun v x => if x.f1 = 2 then x.f2 else v) v
theorem nowV_snoc (v : ByteArray) (l : List S39) (i : Nat) (h : i < l.length) : nowV v (l.take (i + 1)) = if (l.getD i z39).f1 = 2 then (l.getD i z39).f2 else nowV v (l.take i) := by
  unfold nowV
  rw [List.take_add_one, List.getElem?_eq_getElem h, List.getD_eq_getElem?_getD, List.getElem?_eq_getElem h, Option.toList_some, List.foldl_append]
  rfl
/-- The voters up to an index. -/
def votersAtV (S : St) (i : Int) : ByteArray := nowV S.bvot (S.log.take (min i (S.bidx + S.log.length) - S.bidx).toNat)

set_option maxRecDepth 100000 in
set_option maxHeartbeats 1000000 in
theorem votersAt_calls {w : World} {g : Nat} {S : St} (h : Co w g S) (i : Int) (hi0 : -4611686018427387904 ≤ i) (hi1 : i ≤ 4611686018427387904) :
    Calls Try.prog 48 #[.pointer (some ⟨g, 0, none⟩), .int .i64 i] w fun e w' => e = .returned (.string (votersAtV S i)) ∧ ∃ m, w' = w.drewN m := by
  have c3 := h.c3
  have c5 := h.c5
  have c7 := h.c7
  have h1 := h.lo
  have h2 := h.hi
  have h3 := h.len
  have H := Lib.hid h
  clear h
  obtain ⟨V, hV⟩ : ∃ V, V = votersAtV S i := ⟨_, rfl⟩
  rw [← hV]
  unfold votersAtV at hV
  have hm : min i (S.bidx + S.log.length) - S.bidx ≤ S.log.length := by omega
  have hm2 : -4611690000000000000 ≤ min i (S.bidx + S.log.length) - S.bidx := by omega
  have HVV := Lib.hid hV
  clear hV
  go_enter Try.func48, Try.ntmps48
  go_wp2_with fail
  go_quiet ((go_at_call 17; exact Calls.quiet_of (last_calls (H.out.drewN _))))
  go_wp2_with fail
  all_goals
    go_loopw [5] (fun vi wr => ∃ (r : Int), vi = .int .i64 r ∧ -4611690000000000001 ≤ r ∧ r < S.log.length ∧ Hid (V = nowV S.bvot (S.log.take (r + 1).toNat)) ∧ ∃ m, wr = w.drewN m) (fun vi _ => (intOf vi + 1).toNat)
    case atStart => exact ⟨_, rfl, by omega, by omega, Lib.hid (by rw [HVV.out]; congr 2; omega), _, rfl⟩
    case round =>
    obtain ⟨r, rfl, hr0, hr1, HR, m, rfl⟩ := hrel
    by_cases hlt : 0 ≤ r
    · obtain ⟨ad, hA, hc0, hc1, hc2⟩ := at_T39 H.out.row r hlt (by omega)
      have hd : rd_T39 S.log r = S.log.getD r.toNat z39 := rfl
      rw [hd] at hc1 hc2
      rw [hA] at c7
      obtain ⟨j, hj⟩ : ∃ j : Nat, r = (j : Int) := ⟨r.toNat, by omega⟩
      subst hj
      have HNV := Lib.hid (nowV_snoc S.bvot S.log j (by omega))
      rw [Int.toNat_natCast] at hc1 hc2
      have HR2 : Hid (V = if (S.log.getD j z39).f1 = 2 then (S.log.getD j z39).f2 else nowV S.bvot (S.log.take j)) := Lib.hid (by rw [HR.out, ← HNV.out]; congr 2)
      have hltb : decide (0 ≤ (j : Int)) = true := decide_eq_true hlt
      have hjl : (j : Int) < S.log.length := hr1
      clear HNV HR hd hlt hr1 hA hc0
      generalize (S.log.getD j z39).f1 = z1 at hc1 HR2
      generalize (S.log.getD j z39).f2 = z2 at hc2 HR2
      by_cases h2 : z1 = 2
      · have hz : (z1 == 2) = true := by rw [h2]; rfl
        have hv : V = z2 := by rw [HR2.out, if_pos h2]
        clear h2
        go_wp2_with fail
        go_ret
        subst hv
        exact ⟨rfl, _, rfl⟩
      · have hz : (z1 == 2) = false := beq_eq_false_iff_ne.2 h2
        have HV2 : Hid (V = nowV S.bvot (S.log.take j)) := Lib.hid (by rw [HR2.out, if_neg h2])
        clear h2
        go_wp2_with fail
        go_roundw
        case measure => first | (simp [intOf]; done) | (simp [intOf]; omega)
        case rel => exact ⟨(j : Int) - 1, by go_num, by omega, by omega, Lib.hid (by rw [HV2.out]; congr 2; omega), _, rfl⟩
    · have hltb : decide (0 ≤ r) = false := decide_eq_false hlt
      have hv : V = S.bvot := by
        rw [HR.out, show (r + 1).toNat = 0 from by omega]; rfl
      clear hlt
      go_wp2_with fail
      go_ret
      subst hv
      exact ⟨rfl, _, rfl⟩

end Go.Proofs.Ytfanbhbpmhojaaa
