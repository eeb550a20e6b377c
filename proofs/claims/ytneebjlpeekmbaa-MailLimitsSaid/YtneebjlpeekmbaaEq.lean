/- slices.Equal over Refs and Entries, and the reference's SameRefs. No conditions beyond those typed. -/
import Derived.Test.YtneebjlpeekmbaaLives
import Derived.Test.YtneebjlpeekmbaaRefS
namespace Go.Proofs.Ytneebjlpeekmbaa
open Go.RowKit Go.Proofs.YtneebjlpeekmbaaW.PrintWords Go.Proofs.YtneebjlpeekmbaaW.PrintLast Go.Proofs.YtneebjlpeekmbaaW.PrintMore PRef
set_option linter.unusedVariables false
set_option linter.unusedSimpArgs false

/-- What an element holds. -/
def p23 (x : S23) : Int × Int := (x.f0, x.f1)
def p60 (x : S60) : Int × Int × List UInt8 := (x.f0, x.f1, x.f2.data.toList)
theorem map_eq_of {α β : Type} (f : α → β) (d : α) (xs ys : List α) (hl : xs.length = ys.length) (h : ∀ j, j < xs.length → f (xs.getD j d) = f (ys.getD j d)) : xs.map f = ys.map f := by
  apply List.ext_getElem
  · simpa using hl
  · intro i h1 h2
    rw [List.length_map] at h1 h2
    have := h i h1
    rw [List.getD_eq_getElem?_getD, List.getD_eq_getElem?_getD, List.getElem?_eq_getElem h1, List.getElem?_eq_getElem h2] at this
    simpa using this
theorem map_ne_of {α β : Type} (f : α → β) (d : α) (xs ys : List α) (j : Nat) (h1 : j < xs.length) (h2 : j < ys.length) (h : f (xs.getD j d) ≠ f (ys.getD j d)) : xs.map f ≠ ys.map f := by
  intro e
  apply h
  have := congrArg (fun l => l[j]?) e
  simp only [List.getElem?_map, List.getElem?_eq_getElem h1, List.getElem?_eq_getElem h2, Option.map_some, Option.some.injEq] at this
  rw [List.getD_eq_getElem?_getD, List.getD_eq_getElem?_getD, List.getElem?_eq_getElem h1, List.getElem?_eq_getElem h2]
  simpa using this
theorem len_ne_of {α β : Type} (f : α → β) (xs ys : List α) (h : xs.length ≠ ys.length) : xs.map f ≠ ys.map f := fun e => h (by have := congrArg List.length e; simpa using this)

set_option maxRecDepth 100000 in
set_option maxHeartbeats 4000000 in
theorem eqref_calls (A B : Option Addr) (c d : Nat) (xs ys : List S23) (w : World) (hx : Kd.C k23 w A xs.length xs) (hc : xs.length ≤ c) (hy : Kd.C k23 w B ys.length ys) (hd : ys.length ≤ d) :
    Calls Try.prog 82 #[.slice A xs.length c, .slice B ys.length d] w fun e w' => e = .returned (.bool (decide (xs.map p23 = ys.map p23))) ∧ Below w.heap.size w w' := by
  have HX := Lib.hid hx
  have HY := Lib.hid hy
  have hlx := hx.2.1
  have hly := hy.2.1
  clear hx hy
  obtain ⟨R, hR⟩ : ∃ R, R = decide (xs.map p23 = ys.map p23) := ⟨_, rfl⟩
  rw [← hR]
  have HR := Lib.hid hR
  clear hR
  by_cases hl : xs.length = ys.length
  · have hlb : ((xs.length : Int) == (ys.length : Int)) = true := by rw [beq_iff_eq]; omega
    have hu23 := Try.underlying23
    go_enter Try.func82, Try.ntmps82
    go_wp2
    repeat (go_quiet (fail); try go_wp2)
    go_loopw [13] (fun vi wr => ∃ i : Nat, vi = .int .i64 i ∧ i ≤ xs.length ∧ Hid (∀ j, j < i → p23 (xs.getD j z23) = p23 (ys.getD j z23)) ∧ Hid (Below w.heap.size w wr)) (fun vi _ => xs.length - (intOf vi).toNat)
    case atStart => exact ⟨0, rfl, by omega, Lib.hid (fun j hj => by omega), Lib.hid (by repeat (first | exact Below.refl _ _ | apply pw_below_drewN | apply below_drew1))⟩
    case round =>
      obtain ⟨i, rfl, hi, HE, HB⟩ := hrel
      by_cases hlt : i < xs.length
      · obtain ⟨ad, rfl, ha0, ha1⟩ := at_T23 (Kd.C_below HX.out HB.out) (i : Int) (by omega) (by omega)
        obtain ⟨bd, rfl, hb0, hb1⟩ := at_T23 (Kd.C_below HY.out HB.out) (i : Int) (by omega) (by omega)
        have hrx : rd_T23 xs (i : Int) = xs.getD i z23 := by unfold rd_T23; rw [Int.toNat_natCast]
        have hry : rd_T23 ys (i : Int) = ys.getD i z23 := by unfold rd_T23; rw [Int.toNat_natCast]
        rw [hrx] at ha0 ha1
        rw [hry] at hb0 hb1
        have HXI := Lib.hid (show xs.getD i z23 = xs.getD i z23 from rfl)
        obtain ⟨x, hxe⟩ : ∃ x, x = xs.getD i z23 := ⟨_, rfl⟩
        obtain ⟨y, hye⟩ : ∃ y, y = ys.getD i z23 := ⟨_, rfl⟩
        rw [← hxe] at ha0 ha1
        rw [← hye] at hb0 hb1
        have HXE := Lib.hid hxe
        have HYE := Lib.hid hye
        clear hrx hry hxe hye HXI
        rw [Int.toNat_natCast] at ha0 ha1 hb0 hb1
        obtain ⟨x0, x1⟩ := x
        obtain ⟨y0, y1⟩ := y
        dsimp only at ha0 ha1 hb0 hb1
        have q0 : (0 : Int) ≤ (i : Int) := by omega
        have q1 : (i : Int) < (xs.length : Int) := by omega
        have q2 : (i : Int) < (ys.length : Int) := by omega
        by_cases h0 : x0 = y0
        · have b0 : (x0 == y0) = true := by rw [beq_iff_eq]; exact h0
          by_cases h1 : x1 = y1
          · have b1 : (x1 == y1) = true := by rw [beq_iff_eq]; exact h1
            have HE2 : Hid (∀ j, j < i + 1 → p23 (xs.getD j z23) = p23 (ys.getD j z23)) := Lib.hid (fun j hj => by
              by_cases hji : j = i
              · rw [hji, ← HXE.out, ← HYE.out]
                unfold p23
                dsimp only
                rw [h0, h1]
              · exact HE.out j (by omega))
            subst h0 h1
            go_wp2
            repeat (go_quiet (fail); try go_wp2)
            go_roundw
            case measure => simp [intOf]; omega
            case rel => exact ⟨i + 1, by go_num, by omega, HE2, Lib.hid (by repeat (first | exact HB.out | apply pw_below_drewN | apply below_drew1))⟩
          · have b1 : (x1 == y1) = false := by rw [beq_eq_false_iff_ne]; exact h1
            obtain rfl : R = false := by
              rw [HR.out, decide_eq_false_iff_not]
              refine map_ne_of p23 z23 xs ys i (by omega) (by omega) ?_
              rw [← HXE.out, ← HYE.out]
              unfold p23
              intro e
              simp only [Prod.mk.injEq] at e
              exact h1 e.2
            go_wp2
            repeat (go_quiet (fail); try go_wp2)
            go_ret
            exact ⟨rfl, by repeat (first | exact HB.out | apply pw_below_drewN | apply below_drew1)⟩
        · have b0 : (x0 == y0) = false := by rw [beq_eq_false_iff_ne]; exact h0
          obtain rfl : R = false := by
            rw [HR.out, decide_eq_false_iff_not]
            refine map_ne_of p23 z23 xs ys i (by omega) (by omega) ?_
            rw [← HXE.out, ← HYE.out]
            unfold p23
            intro e
            simp only [Prod.mk.injEq] at e
            exact h0 e.1
          go_wp2
          repeat (go_quiet (fail); try go_wp2)
          go_ret
          exact ⟨rfl, by repeat (first | exact HB.out | apply pw_below_drewN | apply below_drew1)⟩
      · obtain rfl : i = xs.length := by omega
        obtain rfl : R = true := by
          rw [HR.out, decide_eq_true_iff]
          exact map_eq_of p23 z23 xs ys hl HE.out
        go_wp2
        repeat (go_quiet (fail); try go_wp2)
        go_ret
        exact ⟨rfl, HB.out⟩
  · have hlb : ((xs.length : Int) == (ys.length : Int)) = false := by rw [beq_eq_false_iff_ne]; omega
    obtain rfl : R = false := by rw [HR.out, decide_eq_false_iff_not]; exact len_ne_of _ _ _ hl
    go_enter Try.func82, Try.ntmps82
    go_wp2
    repeat (go_quiet (fail); try go_wp2)
    go_ret
    exact ⟨rfl, by repeat (first | exact Below.refl _ _ | apply pw_below_drewN | apply below_drew1)⟩

set_option maxRecDepth 100000 in
set_option maxHeartbeats 4000000 in
theorem eqent_calls (A B : Option Addr) (c d : Nat) (xs ys : List S60) (w : World) (hx : Kd.C k60 w A xs.length xs) (hc : xs.length ≤ c) (hy : Kd.C k60 w B ys.length ys) (hd : ys.length ≤ d) :
    Calls Try.prog 54 #[.slice A xs.length c, .slice B ys.length d] w fun e w' => e = .returned (.bool (decide (xs.map p60 = ys.map p60))) ∧ Below w.heap.size w w' := by
  have HX := Lib.hid hx
  have HY := Lib.hid hy
  have hlx := hx.2.1
  have hly := hy.2.1
  clear hx hy
  obtain ⟨R, hR⟩ : ∃ R, R = decide (xs.map p60 = ys.map p60) := ⟨_, rfl⟩
  rw [← hR]
  have HR := Lib.hid hR
  clear hR
  by_cases hl : xs.length = ys.length
  · have hlb : ((xs.length : Int) == (ys.length : Int)) = true := by rw [beq_iff_eq]; omega
    have hu60 := Try.underlying60
    go_enter Try.func54, Try.ntmps54
    go_wp2
    repeat (go_quiet (fail); try go_wp2)
    go_loopw [13] (fun vi wr => ∃ i : Nat, vi = .int .i64 i ∧ i ≤ xs.length ∧ Hid (∀ j, j < i → p60 (xs.getD j z60) = p60 (ys.getD j z60)) ∧ Hid (Below w.heap.size w wr)) (fun vi _ => xs.length - (intOf vi).toNat)
    case atStart => exact ⟨0, rfl, by omega, Lib.hid (fun j hj => by omega), Lib.hid (by repeat (first | exact Below.refl _ _ | apply pw_below_drewN | apply below_drew1))⟩
    case round =>
      obtain ⟨i, rfl, hi, HE, HB⟩ := hrel
      by_cases hlt : i < xs.length
      · obtain ⟨ad, rfl, ha0, ha1, ha2⟩ := at_T60 (Kd.C_below HX.out HB.out) (i : Int) (by omega) (by omega)
        obtain ⟨bd, rfl, hb0, hb1, hb2⟩ := at_T60 (Kd.C_below HY.out HB.out) (i : Int) (by omega) (by omega)
        have hrx : rd_T60 xs (i : Int) = xs.getD i z60 := by unfold rd_T60; rw [Int.toNat_natCast]
        have hry : rd_T60 ys (i : Int) = ys.getD i z60 := by unfold rd_T60; rw [Int.toNat_natCast]
        rw [hrx] at ha0 ha1 ha2
        rw [hry] at hb0 hb1 hb2
        have HXI := Lib.hid (show xs.getD i z60 = xs.getD i z60 from rfl)
        obtain ⟨x, hxe⟩ : ∃ x, x = xs.getD i z60 := ⟨_, rfl⟩
        obtain ⟨y, hye⟩ : ∃ y, y = ys.getD i z60 := ⟨_, rfl⟩
        rw [← hxe] at ha0 ha1 ha2
        rw [← hye] at hb0 hb1 hb2
        have HXE := Lib.hid hxe
        have HYE := Lib.hid hye
        clear hrx hry hxe hye HXI
        rw [Int.toNat_natCast] at ha0 ha1 ha2 hb0 hb1 hb2
        obtain ⟨x0, x1, x2⟩ := x
        obtain ⟨y0, y1, y2⟩ := y
        dsimp only at ha0 ha1 ha2 hb0 hb1 hb2
        have q0 : (0 : Int) ≤ (i : Int) := by omega
        have q1 : (i : Int) < (xs.length : Int) := by omega
        have q2 : (i : Int) < (ys.length : Int) := by omega
        by_cases h0 : x0 = y0
        · have b0 : (x0 == y0) = true := by rw [beq_iff_eq]; exact h0
          by_cases h1 : x1 = y1
          · have b1 : (x1 == y1) = true := by rw [beq_iff_eq]; exact h1
            by_cases h2 : x2.toList = y2.toList
            · have b2 : (x2.toList == y2.toList) = true := by rw [beq_iff_eq]; exact h2
              have HE2 : Hid (∀ j, j < i + 1 → p60 (xs.getD j z60) = p60 (ys.getD j z60)) := Lib.hid (fun j hj => by
                by_cases hji : j = i
                · rw [hji, ← HXE.out, ← HYE.out]
                  unfold p60
                  dsimp only
                  rw [h0, h1, show x2.data.toList = y2.data.toList from by rw [← ByteArray.toList_eq, ← ByteArray.toList_eq]; exact h2]
                · exact HE.out j (by omega))
              subst h0 h1
              go_wp2
              repeat (go_quiet (fail); try go_wp2)
              go_roundw
              case measure => simp [intOf]; omega
              case rel => exact ⟨i + 1, by go_num, by omega, HE2, Lib.hid (by repeat (first | exact HB.out | apply pw_below_drewN | apply below_drew1))⟩
            · have b2 : (x2.toList == y2.toList) = false := by rw [beq_eq_false_iff_ne]; exact h2
              obtain rfl : R = false := by
                rw [HR.out, decide_eq_false_iff_not]
                refine map_ne_of p60 z60 xs ys i (by omega) (by omega) ?_
                rw [← HXE.out, ← HYE.out]
                unfold p60
                intro e
                simp only [Prod.mk.injEq] at e
                exact h2 (by rw [ByteArray.toList_eq, ByteArray.toList_eq]; exact e.2.2)
              go_wp2
              repeat (go_quiet (fail); try go_wp2)
              go_ret
              exact ⟨rfl, by repeat (first | exact HB.out | apply pw_below_drewN | apply below_drew1)⟩
          · have b1 : (x1 == y1) = false := by rw [beq_eq_false_iff_ne]; exact h1
            obtain rfl : R = false := by
              rw [HR.out, decide_eq_false_iff_not]
              refine map_ne_of p60 z60 xs ys i (by omega) (by omega) ?_
              rw [← HXE.out, ← HYE.out]
              unfold p60
              intro e
              simp only [Prod.mk.injEq] at e
              exact h1 (e.2.1)
            go_wp2
            repeat (go_quiet (fail); try go_wp2)
            go_ret
            exact ⟨rfl, by repeat (first | exact HB.out | apply pw_below_drewN | apply below_drew1)⟩
        · have b0 : (x0 == y0) = false := by rw [beq_eq_false_iff_ne]; exact h0
          obtain rfl : R = false := by
            rw [HR.out, decide_eq_false_iff_not]
            refine map_ne_of p60 z60 xs ys i (by omega) (by omega) ?_
            rw [← HXE.out, ← HYE.out]
            unfold p60
            intro e
            simp only [Prod.mk.injEq] at e
            exact h0 e.1
          go_wp2
          repeat (go_quiet (fail); try go_wp2)
          go_ret
          exact ⟨rfl, by repeat (first | exact HB.out | apply pw_below_drewN | apply below_drew1)⟩
      · obtain rfl : i = xs.length := by omega
        obtain rfl : R = true := by
          rw [HR.out, decide_eq_true_iff]
          exact map_eq_of p60 z60 xs ys hl HE.out
        go_wp2
        repeat (go_quiet (fail); try go_wp2)
        go_ret
        exact ⟨rfl, HB.out⟩
  · have hlb : ((xs.length : Int) == (ys.length : Int)) = false := by rw [beq_eq_false_iff_ne]; omega
    obtain rfl : R = false := by rw [HR.out, decide_eq_false_iff_not]; exact len_ne_of _ _ _ hl
    go_enter Try.func54, Try.ntmps54
    go_wp2
    repeat (go_quiet (fail); try go_wp2)
    go_ret
    exact ⟨rfl, by repeat (first | exact Below.refl _ _ | apply pw_below_drewN | apply below_drew1)⟩

end Go.Proofs.Ytneebjlpeekmbaa
