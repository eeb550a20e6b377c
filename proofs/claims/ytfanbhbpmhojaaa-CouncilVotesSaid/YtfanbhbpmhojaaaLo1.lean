/- Loading a council: may entries stand behind a term (rise); the term. Conditions: as told. -/
import Derived.Test.YtfanbhbpmhojaaaCoE
import Derived.Test.YtfanbhbpmhojaaaOcU
namespace Go.Proofs.Ytfanbhbpmhojaaa
open Go.RowKit Go.Proofs.YtfanbhbpmhojaaaW.PrintWords Go.Proofs.YtfanbhbpmhojaaaW.PrintLast Go.Proofs.YtfanbhbpmhojaaaW.PrintMore PRef
attribute [local go_sem] max2_int min2_int max_two min_two
set_option linter.unusedVariables false
set_option linter.unusedSimpArgs false

/-- The term that stands ahead of the i-th entry. -/
def fromAt (f : Int) (l : List S39) (i : Nat) : Int := if i = 0 then f else (l.getD (i - 1) z39).f0
def okR (f t : Int) (l : List S39) (i : Nat) : Prop := isEnt (l.getD i z39) ∧ fromAt f l i ≤ (l.getD i z39).f0 ∧ (l.getD i z39).f0 ≤ t
def riseS (f t : Int) (l : List S39) : Prop := (∀ i, i < l.length → okR f t l i) ∧ fromAt f l l.length ≤ t
theorem fromAt_succ (f : Int) (l : List S39) (i : Nat) : fromAt f l (i + 1) = (l.getD i z39).f0 := by unfold fromAt; rw [if_neg (by omega)]; rfl

def RiseP (f t : Int) (l : List S39) (w : World) (e : Ending) (w' : World) : Prop := ∃ b : Bool, e = .returned (.bool b) ∧ (b = true ↔ riseS f t l) ∧ Below w.heap.size w w'
set_option maxRecDepth 100000 in
set_option maxHeartbeats 2000000 in
theorem rise_calls (w : World) (A : Option Addr) (c : Nat) (l : List S39) (f t : Int) (hr : Kd.C k39 w A l.length l) (hs : ∀ x ∈ l, x.f2.size ≤ 9223372036854775807) :
    Calls Try.prog 56 #[.slice A l.length c, .int .i64 f, .int .i64 t] w fun e w' => RiseP f t l w e w' := by
  have HR := Lib.hid hr
  have HS := Lib.hid hs
  have hlen := Kd.C_max hr
  clear hr hs
  go_enter Try.func56, Try.ntmps56
  go_upto_region 2 with fail
  go_loopw [1, 11] (fun vf vi wr => ∃ i : Nat, i ≤ l.length ∧ vi = .int .i64 i ∧ vf = .int .i64 (fromAt f l i) ∧ Hid (∀ j, j < i → okR f t l j) ∧ Hid (Below w.heap.size w wr)) (fun _ vi _ => l.length - (intOf vi).toNat)
  case atStart => exact ⟨0, by omega, rfl, rfl, Lib.hid (fun j hj => absurd hj (by omega)), Lib.hid (Below.refl _ _)⟩
  case round =>
  obtain ⟨i, hi, rfl, rfl, HK, HB⟩ := hrel
  obtain ⟨y, hy⟩ : ∃ y, y = fromAt f l i := ⟨_, rfl⟩
  have HY := Lib.hid hy
  rw [← hy]
  clear hy
  by_cases hlt : i < l.length
  · have hltb : decide ((i : Int) < (l.length : Int)) = true := decide_eq_true (by omega)
    obtain ⟨ad, rfl, ha0, ha1, ha2⟩ := at_T39 (Kd.C_below HR.out HB.out) (i : Int) (by omega) (by omega)
    have hrx : rd_T39 l (i : Int) = l.getD i z39 := by unfold rd_T39; rw [Int.toNat_natCast]
    rw [hrx, Int.toNat_natCast] at ha0 ha1 ha2
    obtain ⟨x, hxe⟩ : ∃ x, x = l.getD i z39 := ⟨_, rfl⟩
    rw [← hxe] at ha0 ha1 ha2
    have HX := Lib.hid hxe
    have hsz := HS.out x (by rw [hxe, List.getD_eq_getElem?_getD, List.getElem?_eq_getElem hlt]; exact List.getElem_mem hlt)
    have HIE := fun W => Lib.hid (isEntry_calls W x hsz)
    clear hxe hrx hsz
    obtain ⟨x0, x1, x2⟩ := x
    dsimp only at ha0 ha1 ha2 HIE
    obtain ⟨be, hbe⟩ : ∃ be, be = decide (isEnt ⟨x0, x1, x2⟩) := ⟨_, rfl⟩
    have HBE : Hid (be = true ↔ isEnt ⟨x0, x1, x2⟩) := Lib.hid (by rw [hbe, decide_eq_true_iff])
    rw [← hbe] at HIE
    clear hbe
    have hno : Hid (∀ (hh : ¬ (isEnt ⟨x0, x1, x2⟩ ∧ y ≤ x0 ∧ x0 ≤ t)), ¬ riseS f t l) := Lib.hid (fun hh hr => by
      have := hr.1 i hlt
      unfold okR at this
      rw [← HX.out, ← HY.out] at this
      exact hh this)
    have HB1 := Lib.hid (HB.out.alloc HB.out.size (.cells #[.int .i64 x0, .int .i64 x1, .string x2] 39))
    have hk1 := blk_new wr (.cells #[.int .i64 x0, .int .i64 x1, .string x2] 39)
    go_upto_region 4 with fail
    generalize wr.alloc (.cells #[.int .i64 x0, .int .i64 x1, .string x2] 39) = w1 at HB1 hk1 ⊢
    have e0 : w1.cell? ⟨wr.heap.size, 0, none⟩ = some (.int .i64 x0) := by rw [blk_cell hk1]; rfl
    have e1 : w1.cell? ⟨wr.heap.size, 1, none⟩ = some (.int .i64 x1) := by rw [blk_cell hk1]; rfl
    have e2 : w1.cell? ⟨wr.heap.size, 2, none⟩ = some (.string x2) := by rw [blk_cell hk1]; rfl
    have HK1 := Lib.hid hk1
    clear ha0 ha1 ha2 hk1
    cases be
    · go_wp2_with ((with_reducible refine (HIE _).out.mono ?_); rintro e w2 ⟨rfl, hb⟩; have HB2 := Lib.hid (HB1.out.trans (hb.mono HB1.out.size)); clear hb)
      go_ret
      exact ⟨false, rfl, ⟨fun h => (by cases h), fun h => absurd h (hno.out (fun hh => by have := HBE.out.2 hh.1; cases this))⟩, HB2.out⟩
    · by_cases hy : y ≤ x0
      · have hyb : decide (x0 < y) = false := decide_eq_false (by omega)
        have HYY := Lib.hid hy
        clear hy
        by_cases ht : x0 ≤ t
        · have htb : decide (t < x0) = false := decide_eq_false (by omega)
          have HTT := Lib.hid ht
          clear ht
          go_wp2_with ((with_reducible refine (HIE _).out.mono ?_); rintro e w2 ⟨rfl, hb⟩; have HB2 := Lib.hid (HB1.out.trans (hb.mono HB1.out.size)); have f0 := pw_cell_below hb e0; clear hb)
          go_roundw
          case measure => simp [intOf]; omega
          case rel =>
            refine ⟨i + 1, by omega, by go_num, by rw [fromAt_succ, ← HX.out], Lib.hid (fun j hj => ?_), HB2⟩
            by_cases hji : j = i
            · subst hji
              unfold okR
              rw [← HX.out, ← HY.out]
              exact ⟨HBE.out.1 (by first | rfl | trivial), HYY.out, HTT.out⟩
            · exact HK.out j (by omega)
        · have htb : decide (t < x0) = true := decide_eq_true (by omega)
          have HTT := Lib.hid ht
          clear ht
          go_wp2_with ((with_reducible refine (HIE _).out.mono ?_); rintro e w2 ⟨rfl, hb⟩; have HB2 := Lib.hid (HB1.out.trans (hb.mono HB1.out.size)); have f0 := pw_cell_below hb e0; clear hb)
          go_ret
          exact ⟨false, rfl, ⟨fun h => (by cases h), fun h => absurd h (hno.out (fun hh => by have h1 := HTT.out; have h2 := hh.2.2; omega))⟩, HB2.out⟩
      · have hyb : decide (x0 < y) = true := decide_eq_true (by omega)
        have HYY := Lib.hid hy
        clear hy
        go_wp2_with ((with_reducible refine (HIE _).out.mono ?_); rintro e w2 ⟨rfl, hb⟩; have HB2 := Lib.hid (HB1.out.trans (hb.mono HB1.out.size)); have f0 := pw_cell_below hb e0; clear hb)
        go_ret
        exact ⟨false, rfl, ⟨fun h => (by cases h), fun h => absurd h (hno.out (fun hh => by have h1 := HYY.out; have h2 := hh.2.1; omega))⟩, HB2.out⟩
  · have hltb : decide ((i : Int) < (l.length : Int)) = false := decide_eq_false (by omega)
    obtain rfl : i = l.length := by omega
    go_wp2_with fail
    go_ret
    exact ⟨_, rfl, by rw [decide_eq_true_iff]; exact ⟨fun h => ⟨HK.out, by rw [← HY.out]; exact h⟩, fun h => by rw [HY.out]; exact h.2⟩, HB.out⟩

theorem term_calls {w : World} {g : Nat} {S : St} (h : Co w g S) : Calls Try.prog 24 #[.pointer (some ⟨g, 0, none⟩)] w fun e w' => e = .returned (.int .i64 S.term) ∧ w = w' := by
  have c1 := h.c1
  have hgl := h.lt
  clear h
  go_enter Try.func24, Try.ntmps24
  go_wp2_with fail
  go_ret
  exact ⟨rfl, rfl⟩

end Go.Proofs.Ytfanbhbpmhojaaa
