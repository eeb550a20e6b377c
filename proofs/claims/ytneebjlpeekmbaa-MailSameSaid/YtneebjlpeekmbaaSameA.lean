/- slices.Equal over Refs and Entries, and the reference's SameRefs. No conditions beyond those typed. The shapes of commands, instances and mails in memory, and the walks of insts.Same and mail.Same. No conditions beyond those typed. -/
import Derived.Test.YtneebjlpeekmbaaFrameA
import Derived.Test.YtneebjlpeekmbaaRefS
namespace Go.Proofs.Ytneebjlpeekmbaa
open Go.RowKit Go.Proofs.YtneebjlpeekmbaaW.PrintWords Go.Proofs.YtneebjlpeekmbaaW.PrintLast Go.Proofs.YtneebjlpeekmbaaW.PrintMore PRef
set_option linter.unusedVariables false
set_option linter.unusedSimpArgs false

/-- What an element holds. -/
def p23 (x : S23) : Int × Int := (x.f0, x.f1)
def p60 (x : S60) : Int × Int × List UInt8 := (x.f0, x.f1, x.f2.data.toList)
theorem map_eq_of {α β : Type} (f : α → β) (d : α) (xs ys : List α) (hl : xs.length = ys.length) (h : ∀ j, j < xs.length → f (xs.getD j d) = f (ys.getD j d)) : xs.map f = ys.map f := by
  apply List.ext_getElem
  · simpa using hl
  · intro i h1 h2
    rw [List.length_map] at h1 h2
    have := h i h1
    rw [List.getD_eq_getElem?_getD, List.getD_eq_getElem?_getD, List.getElem?_eq_getElem h1, List.getElem?_eq_getElem h2] at this
    simpa using this
theorem map_ne_of {α β : Type} (f : α → β) (d : α) (xs ys : List α) (j : Nat) (h1 : j < xs.length) (h2 : j < ys.length) (h : f (xs.getD j d) ≠ f (ys.getD j d)) : xs.map f ≠ ys.map f := by
  intro e
  apply h
  have := congrArg (fun l => l[j]?) e
  simp only [List.getElem?_map, List.getElem?_eq_getElem h1, List.getElem?_eq_getElem h2, Option.map_some, Option.some.injEq] at this
  rw [List.getD_eq_getElem?_getD, List.getD_eq_getElem?_getD, List.getElem?_eq_getElem h1, List.getElem?_eq_getElem h2]
  simpa using this
theorem len_ne_of {α β : Type} (f : α → β) (xs ys : List α) (h : xs.length ≠ ys.length) : xs.map f ≠ ys.map f := fun e => h (by have := congrArg List.length e; simpa using this)

set_option maxRecDepth 100000 in
set_option maxHeartbeats 4000000 in
theorem eqref_calls (A B : Option Addr) (c d : Nat) (xs ys : List S23) (w : World) (hx : Kd.C k23 w A xs.length xs) (hc : xs.length ≤ c) (hy : Kd.C k23 w B ys.length ys) (hd : ys.length ≤ d) :
    Calls Try.prog 82 #[.slice A xs.length c, .slice B ys.length d] w fun e w' => e = .returned (.bool (decide (xs.map p23 = ys.map p23))) ∧ Below w.heap.size w w' := by
  have HX := Lib.hid hx
  have HY := Lib.hid hy
  have hlx := hx.2.1
  have hly := hy.2.1
  clear hx hy
  obtain ⟨R, hR⟩ : ∃ R, R = decide (xs.map p23 = ys.map p23) := ⟨_, rfl⟩
  rw [← hR]
  have HR := Lib.hid hR
  clear hR
  by_cases hl : xs.length = ys.length
  · have hlb : ((xs.length : Int) == (ys.length : Int)) = true := by rw [beq_iff_eq]; omega
    have hu23 := Try.underlying23
    go_enter Try.func82, Try.ntmps82
    go_wp2
    repeat (go_quiet (fail); try go_wp2)
    go_loopw [13] (fun vi wr => ∃ i : Nat, vi = .int .i64 i ∧ i ≤ xs.length ∧ Hid (∀ j, j < i → p23 (xs.getD j z23) = p23 (ys.getD j z23)) ∧ Hid (Below w.heap.size w wr)) (fun vi _ => xs.length - (intOf vi).toNat)
    case atStart => exact ⟨0, rfl, by omega, Lib.hid (fun j hj => by omega), Lib.hid (by repeat (first | exact Below.refl _ _ | apply pw_below_drewN | apply below_drew1))⟩
    case round =>
      obtain ⟨i, rfl, hi, HE, HB⟩ := hrel
      by_cases hlt : i < xs.length
      · obtain ⟨ad, rfl, ha0, ha1⟩ := at_T23 (Kd.C_below HX.out HB.out) (i : Int) (by omega) (by omega)
        obtain ⟨bd, rfl, hb0, hb1⟩ := at_T23 (Kd.C_below HY.out HB.out) (i : Int) (by omega) (by omega)
        have hrx : rd_T23 xs (i : Int) = xs.getD i z23 := by unfold rd_T23; rw [Int.toNat_natCast]
        have hry : rd_T23 ys (i : Int) = ys.getD i z23 := by unfold rd_T23; rw [Int.toNat_natCast]
        rw [hrx] at ha0 ha1
        rw [hry] at hb0 hb1
        have HXI := Lib.hid (show xs.getD i z23 = xs.getD i z23 from rfl)
        obtain ⟨x, hxe⟩ : ∃ x, x = xs.getD i z23 := ⟨_, rfl⟩
        obtain ⟨y, hye⟩ : ∃ y, y = ys.getD i z23 := ⟨_, rfl⟩
        rw [← hxe] at ha0 ha1
        rw [← hye] at hb0 hb1
        have HXE := Lib.hid hxe
        have HYE := Lib.hid hye
        clear hrx hry hxe hye HXI
        rw [Int.toNat_natCast] at ha0 ha1 hb0 hb1
        obtain ⟨x0, x1⟩ := x
        obtain ⟨y0, y1⟩ := y
        dsimp only at ha0 ha1 hb0 hb1
        have q0 : (0 : Int) ≤ (i : Int) := by omega
        have q1 : (i : Int) < (xs.length : Int) := by omega
        have q2 : (i : Int) < (ys.length : Int) := by omega
        by_cases h0 : x0 = y0
        · have b0 : (x0 == y0) = true := by rw [beq_iff_eq]; exact h0
          by_cases h1 : x1 = y1
          · have b1 : (x1 == y1) = true := by rw [beq_iff_eq]; exact h1
            have HE2 : Hid (∀ j, j < i + 1 → p23 (xs.getD j z23) = p23 (ys.getD j z23)) := Lib.hid (fun j hj => by
              by_cases hji : j = i
              · rw [hji, ← HXE.out, ← HYE.out]
                unfold p23
                dsimp only
                rw [h0, h1]
              · exact HE.out j (by omega))
            subst h0 h1
            go_wp2
            repeat (go_quiet (fail); try go_wp2)
            go_roundw
            case measure => simp [intOf]; omega
            case rel => exact ⟨i + 1, by go_num, by omega, HE2, Lib.hid (by repeat (first | exact HB.out | apply pw_below_drewN | apply below_drew1))⟩
          · have b1 : (x1 == y1) = false := by rw [beq_eq_false_iff_ne]; exact h1
            obtain rfl : R = false := by
              rw [HR.out, decide_eq_false_iff_not]
              refine map_ne_of p23 z23 xs ys i (by omega) (by omega) ?_
              rw [← HXE.out, ← HYE.out]
              unfold p23
              intro e
              simp only [Prod.mk.injEq] at e
              exact h1 e.2
            go_wp2
            repeat (go_quiet (fail); try go_wp2)
            go_ret
            exact ⟨rfl, by repeat (first | exact HB.out | apply pw_below_drewN | apply below_drew1)⟩
        · have b0 : (x0 == y0) = false := by rw [beq_eq_false_iff_ne]; exact h0
          obtain rfl : R = false := by
            rw [HR.out, decide_eq_false_iff_not]
            refine map_ne_of p23 z23 xs ys i (by omega) (by omega) ?_
            rw [← HXE.out, ← HYE.out]
            unfold p23
            intro e
            simp only [Prod.mk.injEq] at e
            exact h0 e.1
          go_wp2
          repeat (go_quiet (fail); try go_wp2)
          go_ret
          exact ⟨rfl, by repeat (first | exact HB.out | apply pw_below_drewN | apply below_drew1)⟩
      · obtain rfl : i = xs.length := by omega
        obtain rfl : R = true := by
          rw [HR.out, decide_eq_true_iff]
          exact map_eq_of p23 z23 xs ys hl HE.out
        go_wp2
        repeat (go_quiet (fail); try go_wp2)
        go_ret
        exact ⟨rfl, HB.out⟩
  · have hlb : ((xs.length : Int) == (ys.length : Int)) = false := by rw [beq_eq_false_iff_ne]; omega
    obtain rfl : R = false := by rw [HR.out, decide_eq_false_iff_not]; exact len_ne_of _ _ _ hl
    go_enter Try.func82, Try.ntmps82
    go_wp2
    repeat (go_quiet (fail); try go_wp2)
    go_ret
    exact ⟨rfl, by repeat (first | exact Below.refl _ _ | apply pw_below_drewN | apply below_drew1)⟩

set_option maxRecDepth 100000 in
set_option maxHeartbeats 4000000 in
theorem eqent_calls (A B : Option Addr) (c d : Nat) (xs ys : List S60) (w : World) (hx : Kd.C k60 w A xs.length xs) (hc : xs.length ≤ c) (hy : Kd.C k60 w B ys.length ys) (hd : ys.length ≤ d) :
    Calls Try.prog 54 #[.slice A xs.length c, .slice B ys.length d] w fun e w' => e = .returned (.bool (decide (xs.map p60 = ys.map p60))) ∧ Below w.heap.size w w' := by
  have HX := Lib.hid hx
  have HY := Lib.hid hy
  have hlx := hx.2.1
  have hly := hy.2.1
  clear hx hy
  obtain ⟨R, hR⟩ : ∃ R, R = decide (xs.map p60 = ys.map p60) := ⟨_, rfl⟩
  rw [← hR]
  have HR := Lib.hid hR
  clear hR
  by_cases hl : xs.length = ys.length
  · have hlb : ((xs.length : Int) == (ys.length : Int)) = true := by rw [beq_iff_eq]; omega
    have hu60 := Try.underlying60
    go_enter Try.func54, Try.ntmps54
    go_wp2
    repeat (go_quiet (fail); try go_wp2)
    go_loopw [13] (fun vi wr => ∃ i : Nat, vi = .int .i64 i ∧ i ≤ xs.length ∧ Hid (∀ j, j < i → p60 (xs.getD j z60) = p60 (ys.getD j z60)) ∧ Hid (Below w.heap.size w wr)) (fun vi _ => xs.length - (intOf vi).toNat)
    case atStart => exact ⟨0, rfl, by omega, Lib.hid (fun j hj => by omega), Lib.hid (by repeat (first | exact Below.refl _ _ | apply pw_below_drewN | apply below_drew1))⟩
    case round =>
      obtain ⟨i, rfl, hi, HE, HB⟩ := hrel
      by_cases hlt : i < xs.length
      · obtain ⟨ad, rfl, ha0, ha1, ha2⟩ := at_T60 (Kd.C_below HX.out HB.out) (i : Int) (by omega) (by omega)
        obtain ⟨bd, rfl, hb0, hb1, hb2⟩ := at_T60 (Kd.C_below HY.out HB.out) (i : Int) (by omega) (by omega)
        have hrx : rd_T60 xs (i : Int) = xs.getD i z60 := by unfold rd_T60; rw [Int.toNat_natCast]
        have hry : rd_T60 ys (i : Int) = ys.getD i z60 := by unfold rd_T60; rw [Int.toNat_natCast]
        rw [hrx] at ha0 ha1 ha2
        rw [hry] at hb0 hb1 hb2
        have HXI := Lib.hid (show xs.getD i z60 = xs.getD i z60 from rfl)
        obtain ⟨x, hxe⟩ : ∃ x, x = xs.getD i z60 := ⟨_, rfl⟩
        obtain ⟨y, hye⟩ : ∃ y, y = ys.getD i z60 := ⟨_, rfl⟩
        rw [← hxe] at ha0 ha1 ha2
        rw [← hye] at hb0 hb1 hb2
        have HXE := Lib.hid hxe
        have HYE := Lib.hid hye
        clear hrx hry hxe hye HXI
        rw [Int.toNat_natCast] at ha0 ha1 ha2 hb0 hb1 hb2
        obtain ⟨x0, x1, x2⟩ := x
        obtain ⟨y0, y1, y2⟩ := y
        dsimp only at ha0 ha1 ha2 hb0 hb1 hb2
        have q0 : (0 : Int) ≤ (i : Int) := by omega
        have q1 : (i : Int) < (xs.length : Int) := by omega
        have q2 : (i : Int) < (ys.length : Int) := by omega
        by_cases h0 : x0 = y0
        · have b0 : (x0 == y0) = true := by rw [beq_iff_eq]; exact h0
          by_cases h1 : x1 = y1
          · have b1 : (x1 == y1) = true := by rw [beq_iff_eq]; exact h1
            by_cases h2 : x2.toList = y2.toList
            · have b2 : (x2.toList == y2.toList) = true := by rw [beq_iff_eq]; exact h2
              have HE2 : Hid (∀ j, j < i + 1 → p60 (xs.getD j z60) = p60 (ys.getD j z60)) := Lib.hid (fun j hj => by
                by_cases hji : j = i
                · rw [hji, ← HXE.out, ← HYE.out]
                  unfold p60
                  dsimp only
                  rw [h0, h1, show x2.data.toList = y2.data.toList from by rw [← ByteArray.toList_eq, ← ByteArray.toList_eq]; exact h2]
                · exact HE.out j (by omega))
              subst h0 h1
              go_wp2
              repeat (go_quiet (fail); try go_wp2)
              go_roundw
              case measure => simp [intOf]; omega
              case rel => exact ⟨i + 1, by go_num, by omega, HE2, Lib.hid (by repeat (first | exact HB.out | apply pw_below_drewN | apply below_drew1))⟩
            · have b2 : (x2.toList == y2.toList) = false := by rw [beq_eq_false_iff_ne]; exact h2
              obtain rfl : R = false := by
                rw [HR.out, decide_eq_false_iff_not]
                refine map_ne_of p60 z60 xs ys i (by omega) (by omega) ?_
                rw [← HXE.out, ← HYE.out]
                unfold p60
                intro e
                simp only [Prod.mk.injEq] at e
                exact h2 (by rw [ByteArray.toList_eq, ByteArray.toList_eq]; exact e.2.2)
              go_wp2
              repeat (go_quiet (fail); try go_wp2)
              go_ret
              exact ⟨rfl, by repeat (first | exact HB.out | apply pw_below_drewN | apply below_drew1)⟩
          · have b1 : (x1 == y1) = false := by rw [beq_eq_false_iff_ne]; exact h1
            obtain rfl : R = false := by
              rw [HR.out, decide_eq_false_iff_not]
              refine map_ne_of p60 z60 xs ys i (by omega) (by omega) ?_
              rw [← HXE.out, ← HYE.out]
              unfold p60
              intro e
              simp only [Prod.mk.injEq] at e
              exact h1 (e.2.1)
            go_wp2
            repeat (go_quiet (fail); try go_wp2)
            go_ret
            exact ⟨rfl, by repeat (first | exact HB.out | apply pw_below_drewN | apply below_drew1)⟩
        · have b0 : (x0 == y0) = false := by rw [beq_eq_false_iff_ne]; exact h0
          obtain rfl : R = false := by
            rw [HR.out, decide_eq_false_iff_not]
            refine map_ne_of p60 z60 xs ys i (by omega) (by omega) ?_
            rw [← HXE.out, ← HYE.out]
            unfold p60
            intro e
            simp only [Prod.mk.injEq] at e
            exact h0 e.1
          go_wp2
          repeat (go_quiet (fail); try go_wp2)
          go_ret
          exact ⟨rfl, by repeat (first | exact HB.out | apply pw_below_drewN | apply below_drew1)⟩
      · obtain rfl : i = xs.length := by omega
        obtain rfl : R = true := by
          rw [HR.out, decide_eq_true_iff]
          exact map_eq_of p60 z60 xs ys hl HE.out
        go_wp2
        repeat (go_quiet (fail); try go_wp2)
        go_ret
        exact ⟨rfl, HB.out⟩
  · have hlb : ((xs.length : Int) == (ys.length : Int)) = false := by rw [beq_eq_false_iff_ne]; omega
    obtain rfl : R = false := by rw [HR.out, decide_eq_false_iff_not]; exact len_ne_of _ _ _ hl
    go_enter Try.func54, Try.ntmps54
    go_wp2
    repeat (go_quiet (fail); try go_wp2)
    go_ret
    exact ⟨rfl, by repeat (first | exact Below.refl _ _ | apply pw_below_drewN | apply below_drew1)⟩

end Go.Proofs.Ytneebjlpeekmbaa

namespace Go.Proofs.Ytneebjlpeekmbaa
open Go.RowKit Go.Proofs.YtneebjlpeekmbaaW.PrintWords Go.Proofs.YtneebjlpeekmbaaW.PrintLast Go.Proofs.YtneebjlpeekmbaaW.PrintMore PRef
set_option linter.unusedVariables false
set_option linter.unusedSimpArgs false

structure Cmd where
  op : Int
  client : Int
  seq : Int
  cfrom : Int
  cto : Int
  data : List ByteArray
structure Inst where
  lead : Int
  index : Int
  bn : Int
  bnode : Int
  vn : Int
  vnode : Int
  status : Int
  same : Bool
  cmd : Cmd
  iseq : Int
  deps : List S23
structure Mail where
  kind : Int
  mfrom : Int
  mto : Int
  shard : Int
  inst : Inst
  ok : Bool
  term : Int
  mindex : Int
  past : Int
  commit : Int
  epoch : Int
  entries : List S60
  text : ByteArray
abbrev InC (w : World) (A : Option Addr) (c : Nat) (xs : List ByteArray) : Prop := Kd.C Kd.string w A xs.length xs ∧ xs.length ≤ c
abbrev InR (w : World) (A : Option Addr) (c : Nat) (xs : List S23) : Prop := Kd.C k23 w A xs.length xs ∧ xs.length ≤ c
abbrev InE (w : World) (A : Option Addr) (c : Nat) (xs : List S60) : Prop := Kd.C k60 w A xs.length xs ∧ xs.length ≤ c
theorem p23_inj (x y : S23) (h : p23 x = p23 y) : x = y := by
  obtain ⟨a, b⟩ := x; obtain ⟨c, d⟩ := y
  simp only [p23, Prod.mk.injEq] at h
  obtain ⟨rfl, rfl⟩ := h
  rfl
theorem p60_inj (x y : S60) (h : p60 x = p60 y) : x = y := by
  obtain ⟨a, b, c⟩ := x; obtain ⟨d, e, f⟩ := y
  simp only [p60, Prod.mk.injEq] at h
  obtain ⟨rfl, rfl, h⟩ := h
  have : c = f := by cases c; cases f; congr 1; exact Array.toList_inj.1 h
  subst this
  rfl
theorem map_inj_iff {α β : Type} (f : α → β) (hf : ∀ x y, f x = f y → x = y) : ∀ (xs ys : List α), xs.map f = ys.map f ↔ xs = ys
  | [], [] => by simp
  | [], y :: ys => by simp
  | x :: xs, [] => by simp
  | x :: xs, y :: ys => by
    rw [List.map_cons, List.map_cons, List.cons.injEq, List.cons.injEq, map_inj_iff f hf xs ys]
    exact ⟨fun h => ⟨hf _ _ h.1, h.2⟩, fun h => ⟨by rw [h.1], h.2⟩⟩
theorem eqrefs {A B : Option Addr} {c d : Nat} {xs ys : List S23} {w : World} (r : Bool) (hr : r = true ↔ xs = ys) (hx : InR w A c xs) (hy : InR w B d ys) :
    Calls Try.prog 82 #[.slice A xs.length c, .slice B ys.length d] w fun e w' => e = .returned (.bool r) ∧ Below w.heap.size w w' :=
  (eqref_calls A B c d xs ys w hx.1 hx.2 hy.1 hy.2).mono fun e w' ⟨h1, h2⟩ => ⟨by rw [h1]; congr 2; rw [Bool.eq_iff_iff, hr, decide_eq_true_iff]; exact map_inj_iff p23 p23_inj xs ys, h2⟩
theorem eqents {A B : Option Addr} {c d : Nat} {xs ys : List S60} {w : World} (r : Bool) (hr : r = true ↔ xs = ys) (hx : InE w A c xs) (hy : InE w B d ys) :
    Calls Try.prog 54 #[.slice A xs.length c, .slice B ys.length d] w fun e w' => e = .returned (.bool r) ∧ Below w.heap.size w w' :=
  (eqent_calls A B c d xs ys w hx.1 hx.2 hy.1 hy.2).mono fun e w' ⟨h1, h2⟩ => ⟨by rw [h1]; congr 2; rw [Bool.eq_iff_iff, hr, decide_eq_true_iff]; exact map_inj_iff p60 p60_inj xs ys, h2⟩

theorem eqstr_l0 (xs ys : List ByteArray) (hl : xs.length = ys.length) (h63 : xs.length ≤ 9223372036854775807) (r : Bool) (hr : r = true ↔ xs = ys) : ∀ (d i : Nat), i + d = xs.length → (∀ j, j < i → xs.getD j ByteArray.empty = ys.getD j ByteArray.empty) → slices_Equal_string_string.l0 (d + 1) xs ys (xs.length : Int) i = some r
  | 0, i, h, he => by
    have hi : i = xs.length := by omega
    have hrt : r = true := hr.2 (by
      have := map_eq_of id ByteArray.empty xs ys hl (fun j hj => he j (by omega))
      simpa using this)
    unfold slices_Equal_string_string.l0
    rw [if_neg (by omega), hrt]
  | d + 1, i, h, he => by
    unfold slices_Equal_string_string.l0
    rw [if_pos (by omega), if_pos (by omega), if_pos (by omega), if_pos (by omega)]
    unfold rdOf
    rw [Int.toNat_natCast]
    by_cases hq : xs.getD i ByteArray.empty = ys.getD i ByteArray.empty
    · rw [if_pos (by rw [hq])]
      have : wrap64 ((i : Int) + 1) = ((i + 1 : Nat) : Int) := by unfold wrap64; omega
      rw [this]
      exact eqstr_l0 xs ys hl h63 r hr d (i + 1) (by omega) (fun j hj => by
        by_cases hji : j = i
        · rw [hji]; exact hq
        · exact he j (by omega))
    · have hn : (xs.getD i ByteArray.empty).toList ≠ (ys.getD i ByteArray.empty).toList := fun e => hq (by
        rw [ByteArray.toList_eq, ByteArray.toList_eq] at e
        cases h1 : xs.getD i ByteArray.empty; cases h2 : ys.getD i ByteArray.empty
        rw [h1, h2] at e
        congr 1
        exact Array.toList_inj.1 e)
      rw [if_neg hn]
      have : r = false := by
        cases r with
        | false => rfl
        | true => exact absurd (by rw [hr.1 rfl]) hq
      rw [this]
theorem eqstr_f (xs ys : List ByteArray) (h63 : xs.length ≤ 9223372036854775807) (r : Bool) (hr : r = true ↔ xs = ys) : slices_Equal_string_string.f (xs.length + 1) xs ys = some r := by
  unfold slices_Equal_string_string.f
  by_cases hl : xs.length = ys.length
  · rw [if_pos (by omega)]
    exact eqstr_l0 xs ys hl h63 r hr xs.length 0 (by omega) (fun j hj => by omega)
  · rw [if_neg (by omega)]
    cases r with
    | false => rfl
    | true => exact absurd (by rw [hr.1 rfl]) hl
theorem samecmd {A B : Option Addr} {c d : Nat} (x y : Cmd) {w : World} (r : Bool) (hr : r = true ↔ x = y) (hx : InC w A c x.data) (hy : InC w B d y.data) :
    Calls Try.prog 81 #[.agg #[.int .i64 x.op, .int .i64 x.client, .int .i64 x.seq, .int .i64 x.cfrom, .int .i64 x.cto, .slice A x.data.length c], .agg #[.int .i64 y.op, .int .i64 y.client, .int .i64 y.seq, .int .i64 y.cfrom, .int .i64 y.cto, .slice B y.data.length d]] w fun e w' => e = .returned (.bool r) ∧ Below w.heap.size w w' := by
  refine insts_sameCmd.calls (x.data.length + 1) _ _ _ _ _ _ _ _ _ _ _ _ _ _ _ _ r w hx.1 hx.2 hy.1 hy.2 ?_
  obtain ⟨x0, x1, x2, x3, x4, x5⟩ := x
  obtain ⟨y0, y1, y2, y3, y4, y5⟩ := y
  simp only [Cmd.mk.injEq] at hr
  unfold insts_sameCmd.f
  dsimp only
  have hno : ¬ (x0 = y0 ∧ x1 = y1 ∧ x2 = y2 ∧ x3 = y3 ∧ x4 = y4 ∧ x5 = y5) → r = false := fun h => by
    cases r with
    | false => rfl
    | true => exact absurd (hr.1 rfl) h
  by_cases h0 : x0 = y0
  · rw [if_pos h0]
    by_cases h1 : x1 = y1
    · rw [if_pos h1]
      by_cases h2 : x2 = y2
      · rw [if_pos h2]
        by_cases h3 : x3 = y3
        · rw [if_pos h3]
          by_cases h4 : x4 = y4
          · rw [if_pos h4, eqstr_f x5 y5 hx.1.2.1 r (by rw [hr]; exact ⟨fun h => h.2.2.2.2.2, fun h => ⟨h0, h1, h2, h3, h4, h⟩⟩)]
            rfl
          · rw [if_neg h4, hno (fun h => h4 h.2.2.2.2.1)]
        · rw [if_neg h3, hno (fun h => h3 h.2.2.2.1)]
      · rw [if_neg h2, hno (fun h => h2 h.2.2.1)]
    · rw [if_neg h1, hno (fun h => h1 h.2.1)]
  · rw [if_neg h0, hno (fun h => h0 h.1)]

theorem ba_ext {a b : ByteArray} (e : a.toList = b.toList) : a = b := by
  rw [ByteArray.toList_eq, ByteArray.toList_eq] at e
  cases a; cases b; congr 1; exact Array.toList_inj.1 e
theorem World.size_alloc (w : World) (o : Obj) : (w.alloc o).heap.size = w.heap.size + 1 := by simp

set_option maxRecDepth 100000 in
set_option maxHeartbeats 8000000 in
theorem instsame {A1 A2 B1 B2 : Option Addr} {c1 c2 d1 d2 : Nat} (x y : Inst) {w : World} (r : Bool) (hr : r = true ↔ x = y) (hx1 : InC w A1 c1 x.cmd.data) (hx2 : InR w A2 c2 x.deps) (hy1 : InC w B1 d1 y.cmd.data) (hy2 : InR w B2 d2 y.deps) :
    Calls Try.prog 53 #[.agg #[.int .i64 x.lead, .int .i64 x.index, .int .i64 x.bn, .int .i64 x.bnode, .int .i64 x.vn, .int .i64 x.vnode, .int .i64 x.status, .bool x.same, .int .i64 x.cmd.op, .int .i64 x.cmd.client, .int .i64 x.cmd.seq, .int .i64 x.cmd.cfrom, .int .i64 x.cmd.cto, .slice A1 x.cmd.data.length c1, .int .i64 x.iseq, .slice A2 x.deps.length c2], .agg #[.int .i64 y.lead, .int .i64 y.index, .int .i64 y.bn, .int .i64 y.bnode, .int .i64 y.vn, .int .i64 y.vnode, .int .i64 y.status, .bool y.same, .int .i64 y.cmd.op, .int .i64 y.cmd.client, .int .i64 y.cmd.seq, .int .i64 y.cmd.cfrom, .int .i64 y.cmd.cto, .slice B1 y.cmd.data.length d1, .int .i64 y.iseq, .slice B2 y.deps.length d2]] w fun e w' => e = .returned (.bool r) ∧ Below w.heap.size w w' := by
  have HX1 := Lib.hid hx1
  have HX2 := Lib.hid hx2
  have HY1 := Lib.hid hy1
  have HY2 := Lib.hid hy2
  clear hx1 hx2 hy1 hy2
  obtain ⟨x0, x1, x2, x3, x4, x5, x6, x7, x8, x9, x10⟩ := x
  obtain ⟨y0, y1, y2, y3, y4, y5, y6, y7, y8, y9, y10⟩ := y
  obtain ⟨u0x, u1x, u2x, u3x, u4x, u5x⟩ := x8
  obtain ⟨u0y, u1y, u2y, u3y, u4y, u5y⟩ := y8
  simp only [Inst.mk.injEq] at hr
  dsimp only at HX1 HX2 HY1 HY2 ⊢
  have hu31 := Try.underlying31
  have hu23 := Try.underlying23
  have hu25 := Try.underlying25
  have hu28 := Try.underlying28
  by_cases g0 : x0 = y0
  · subst g0
    by_cases g1 : x1 = y1
    · subst g1
      by_cases g2 : x2 = y2
      · subst g2
        by_cases g3 : x3 = y3
        · subst g3
          by_cases g4 : x4 = y4
          · subst g4
            by_cases g5 : x5 = y5
            · subst g5
              by_cases g6 : x6 = y6
              · subst g6
                by_cases g7 : x7 = y7
                · subst g7
                  by_cases g9 : x9 = y9
                  · subst g9
                    by_cases g8 : (⟨u0x, u1x, u2x, u3x, u4x, u5x⟩ : Cmd) = (⟨u0y, u1y, u2y, u3y, u4y, u5y⟩ : Cmd)
                    · have G8 := Lib.hid g8
                      clear g8
                      by_cases g10 : x10 = y10
                      · have G10 := Lib.hid g10
                        clear g10
                        obtain rfl : r = true := hr.2 ⟨rfl, rfl, rfl, rfl, rfl, rfl, rfl, rfl, G8.out, rfl, G10.out⟩
                        clear hr
                        have HBK1 := Lib.hid (blk_alloc (blk_new w (.cells #[.int .i64 x0, .int .i64 x1, .int .i64 x2, .int .i64 x3, .int .i64 x4, .int .i64 x5, .int .i64 x6, .bool x7, .int .i64 u0x, .int .i64 u1x, .int .i64 u2x, .int .i64 u3x, .int .i64 u4x, .slice A1 u5x.length c1, .int .i64 x9, .slice A2 x10.length c2] 31)) (.cells #[.int .i64 x0, .int .i64 x1, .int .i64 x2, .int .i64 x3, .int .i64 x4, .int .i64 x5, .int .i64 x6, .bool x7, .int .i64 u0y, .int .i64 u1y, .int .i64 u2y, .int .i64 u3y, .int .i64 u4y, .slice B1 u5y.length d1, .int .i64 x9, .slice B2 y10.length d2] 31))
                        have HBK2 : Hid (((w.alloc (.cells #[.int .i64 x0, .int .i64 x1, .int .i64 x2, .int .i64 x3, .int .i64 x4, .int .i64 x5, .int .i64 x6, .bool x7, .int .i64 u0x, .int .i64 u1x, .int .i64 u2x, .int .i64 u3x, .int .i64 u4x, .slice A1 u5x.length c1, .int .i64 x9, .slice A2 x10.length c2] 31)).alloc (.cells #[.int .i64 x0, .int .i64 x1, .int .i64 x2, .int .i64 x3, .int .i64 x4, .int .i64 x5, .int .i64 x6, .bool x7, .int .i64 u0y, .int .i64 u1y, .int .i64 u2y, .int .i64 u3y, .int .i64 u4y, .slice B1 u5y.length d1, .int .i64 x9, .slice B2 y10.length d2] 31)).heap[w.heap.size + 1]? = some (.cells #[.int .i64 x0, .int .i64 x1, .int .i64 x2, .int .i64 x3, .int .i64 x4, .int .i64 x5, .int .i64 x6, .bool x7, .int .i64 u0y, .int .i64 u1y, .int .i64 u2y, .int .i64 u3y, .int .i64 u4y, .slice B1 u5y.length d1, .int .i64 x9, .slice B2 y10.length d2] 31)) := Lib.hid (by have := blk_new (w.alloc (.cells #[.int .i64 x0, .int .i64 x1, .int .i64 x2, .int .i64 x3, .int .i64 x4, .int .i64 x5, .int .i64 x6, .bool x7, .int .i64 u0x, .int .i64 u1x, .int .i64 u2x, .int .i64 u3x, .int .i64 u4x, .slice A1 u5x.length c1, .int .i64 x9, .slice A2 x10.length c2] 31)) (.cells #[.int .i64 x0, .int .i64 x1, .int .i64 x2, .int .i64 x3, .int .i64 x4, .int .i64 x5, .int .i64 x6, .bool x7, .int .i64 u0y, .int .i64 u1y, .int .i64 u2y, .int .i64 u3y, .int .i64 u4y, .slice B1 u5y.length d1, .int .i64 x9, .slice B2 y10.length d2] 31); rwa [World.size_alloc] at this)
                        have HB2 := Lib.hid (((Below.refl w.heap.size w).alloc (Nat.le_refl _) (.cells #[.int .i64 x0, .int .i64 x1, .int .i64 x2, .int .i64 x3, .int .i64 x4, .int .i64 x5, .int .i64 x6, .bool x7, .int .i64 u0x, .int .i64 u1x, .int .i64 u2x, .int .i64 u3x, .int .i64 u4x, .slice A1 u5x.length c1, .int .i64 x9, .slice A2 x10.length c2] 31)).alloc (by simp) (.cells #[.int .i64 x0, .int .i64 x1, .int .i64 x2, .int .i64 x3, .int .i64 x4, .int .i64 x5, .int .i64 x6, .bool x7, .int .i64 u0y, .int .i64 u1y, .int .i64 u2y, .int .i64 u3y, .int .i64 u4y, .slice B1 u5y.length d1, .int .i64 x9, .slice B2 y10.length d2] 31))
                        go_enter Try.func53, Try.ntmps53
                        go_wp2_with (first | ((with_reducible refine (samecmd ⟨u0x, u1x, u2x, u3x, u4x, u5x⟩ ⟨u0y, u1y, u2y, u3y, u4y, u5y⟩ true ⟨fun _ => G8.out, fun _ => rfl⟩ ⟨Kd.C_below HX1.out.1 HB2.out, HX1.out.2⟩ ⟨Kd.C_below HY1.out.1 HB2.out, HY1.out.2⟩).mono ?_); rintro e w3 ⟨rfl, hb⟩; have k3x15 : w3.cell? ⟨w.heap.size, 15, none⟩ = some (.slice A2 x10.length c2) := (by rw [blk_cell (blk_below HBK1.out hb)]; rfl); have k3y15 : w3.cell? ⟨w.heap.size + 1, 15, none⟩ = some (.slice B2 y10.length d2) := (by rw [blk_cell (blk_below HBK2.out hb)]; rfl); have HB3 := Lib.hid (HB2.out.trans (hb.mono HB2.out.size)); clear hb) | ((with_reducible refine (eqrefs true ⟨fun _ => G10.out, fun _ => rfl⟩ ⟨Kd.C_below HX2.out.1 HB3.out, HX2.out.2⟩ ⟨Kd.C_below HY2.out.1 HB3.out, HY2.out.2⟩).mono ?_); rintro e w4 ⟨rfl, hb⟩; have HB4 := Lib.hid (HB3.out.trans (hb.mono HB3.out.size)); clear hb))
                        go_ret
                        exact ⟨rfl, HB4.out⟩
                      · have hneg := g10
                        obtain rfl : r = false := by
                          cases r with
                          | false => rfl
                          | true => exact absurd ((hr.1 rfl).2.2.2.2.2.2.2.2.2.2) hneg
                        clear hr
                        have HBK1 := Lib.hid (blk_alloc (blk_new w (.cells #[.int .i64 x0, .int .i64 x1, .int .i64 x2, .int .i64 x3, .int .i64 x4, .int .i64 x5, .int .i64 x6, .bool x7, .int .i64 u0x, .int .i64 u1x, .int .i64 u2x, .int .i64 u3x, .int .i64 u4x, .slice A1 u5x.length c1, .int .i64 x9, .slice A2 x10.length c2] 31)) (.cells #[.int .i64 x0, .int .i64 x1, .int .i64 x2, .int .i64 x3, .int .i64 x4, .int .i64 x5, .int .i64 x6, .bool x7, .int .i64 u0y, .int .i64 u1y, .int .i64 u2y, .int .i64 u3y, .int .i64 u4y, .slice B1 u5y.length d1, .int .i64 x9, .slice B2 y10.length d2] 31))
                        have HBK2 : Hid (((w.alloc (.cells #[.int .i64 x0, .int .i64 x1, .int .i64 x2, .int .i64 x3, .int .i64 x4, .int .i64 x5, .int .i64 x6, .bool x7, .int .i64 u0x, .int .i64 u1x, .int .i64 u2x, .int .i64 u3x, .int .i64 u4x, .slice A1 u5x.length c1, .int .i64 x9, .slice A2 x10.length c2] 31)).alloc (.cells #[.int .i64 x0, .int .i64 x1, .int .i64 x2, .int .i64 x3, .int .i64 x4, .int .i64 x5, .int .i64 x6, .bool x7, .int .i64 u0y, .int .i64 u1y, .int .i64 u2y, .int .i64 u3y, .int .i64 u4y, .slice B1 u5y.length d1, .int .i64 x9, .slice B2 y10.length d2] 31)).heap[w.heap.size + 1]? = some (.cells #[.int .i64 x0, .int .i64 x1, .int .i64 x2, .int .i64 x3, .int .i64 x4, .int .i64 x5, .int .i64 x6, .bool x7, .int .i64 u0y, .int .i64 u1y, .int .i64 u2y, .int .i64 u3y, .int .i64 u4y, .slice B1 u5y.length d1, .int .i64 x9, .slice B2 y10.length d2] 31)) := Lib.hid (by have := blk_new (w.alloc (.cells #[.int .i64 x0, .int .i64 x1, .int .i64 x2, .int .i64 x3, .int .i64 x4, .int .i64 x5, .int .i64 x6, .bool x7, .int .i64 u0x, .int .i64 u1x, .int .i64 u2x, .int .i64 u3x, .int .i64 u4x, .slice A1 u5x.length c1, .int .i64 x9, .slice A2 x10.length c2] 31)) (.cells #[.int .i64 x0, .int .i64 x1, .int .i64 x2, .int .i64 x3, .int .i64 x4, .int .i64 x5, .int .i64 x6, .bool x7, .int .i64 u0y, .int .i64 u1y, .int .i64 u2y, .int .i64 u3y, .int .i64 u4y, .slice B1 u5y.length d1, .int .i64 x9, .slice B2 y10.length d2] 31); rwa [World.size_alloc] at this)
                        have HB2 := Lib.hid (((Below.refl w.heap.size w).alloc (Nat.le_refl _) (.cells #[.int .i64 x0, .int .i64 x1, .int .i64 x2, .int .i64 x3, .int .i64 x4, .int .i64 x5, .int .i64 x6, .bool x7, .int .i64 u0x, .int .i64 u1x, .int .i64 u2x, .int .i64 u3x, .int .i64 u4x, .slice A1 u5x.length c1, .int .i64 x9, .slice A2 x10.length c2] 31)).alloc (by simp) (.cells #[.int .i64 x0, .int .i64 x1, .int .i64 x2, .int .i64 x3, .int .i64 x4, .int .i64 x5, .int .i64 x6, .bool x7, .int .i64 u0y, .int .i64 u1y, .int .i64 u2y, .int .i64 u3y, .int .i64 u4y, .slice B1 u5y.length d1, .int .i64 x9, .slice B2 y10.length d2] 31))
                        go_enter Try.func53, Try.ntmps53
                        go_wp2_with (first | ((with_reducible refine (samecmd ⟨u0x, u1x, u2x, u3x, u4x, u5x⟩ ⟨u0y, u1y, u2y, u3y, u4y, u5y⟩ true ⟨fun _ => G8.out, fun _ => rfl⟩ ⟨Kd.C_below HX1.out.1 HB2.out, HX1.out.2⟩ ⟨Kd.C_below HY1.out.1 HB2.out, HY1.out.2⟩).mono ?_); rintro e w3 ⟨rfl, hb⟩; have k3x15 : w3.cell? ⟨w.heap.size, 15, none⟩ = some (.slice A2 x10.length c2) := (by rw [blk_cell (blk_below HBK1.out hb)]; rfl); have k3y15 : w3.cell? ⟨w.heap.size + 1, 15, none⟩ = some (.slice B2 y10.length d2) := (by rw [blk_cell (blk_below HBK2.out hb)]; rfl); have HB3 := Lib.hid (HB2.out.trans (hb.mono HB2.out.size)); clear hb) | ((with_reducible refine (eqrefs false ⟨fun h => absurd h (by decide), fun h => absurd h hneg⟩ ⟨Kd.C_below HX2.out.1 HB3.out, HX2.out.2⟩ ⟨Kd.C_below HY2.out.1 HB3.out, HY2.out.2⟩).mono ?_); rintro e w4 ⟨rfl, hb⟩; have HB4 := Lib.hid (HB3.out.trans (hb.mono HB3.out.size)); clear hb))
                        go_ret
                        exact ⟨rfl, HB4.out⟩
                    · have hneg := g8
                      obtain rfl : r = false := by
                        cases r with
                        | false => rfl
                        | true => exact absurd ((hr.1 rfl).2.2.2.2.2.2.2.2.1) hneg
                      clear hr
                      have HBK1 := Lib.hid (blk_alloc (blk_new w (.cells #[.int .i64 x0, .int .i64 x1, .int .i64 x2, .int .i64 x3, .int .i64 x4, .int .i64 x5, .int .i64 x6, .bool x7, .int .i64 u0x, .int .i64 u1x, .int .i64 u2x, .int .i64 u3x, .int .i64 u4x, .slice A1 u5x.length c1, .int .i64 x9, .slice A2 x10.length c2] 31)) (.cells #[.int .i64 x0, .int .i64 x1, .int .i64 x2, .int .i64 x3, .int .i64 x4, .int .i64 x5, .int .i64 x6, .bool x7, .int .i64 u0y, .int .i64 u1y, .int .i64 u2y, .int .i64 u3y, .int .i64 u4y, .slice B1 u5y.length d1, .int .i64 x9, .slice B2 y10.length d2] 31))
                      have HBK2 : Hid (((w.alloc (.cells #[.int .i64 x0, .int .i64 x1, .int .i64 x2, .int .i64 x3, .int .i64 x4, .int .i64 x5, .int .i64 x6, .bool x7, .int .i64 u0x, .int .i64 u1x, .int .i64 u2x, .int .i64 u3x, .int .i64 u4x, .slice A1 u5x.length c1, .int .i64 x9, .slice A2 x10.length c2] 31)).alloc (.cells #[.int .i64 x0, .int .i64 x1, .int .i64 x2, .int .i64 x3, .int .i64 x4, .int .i64 x5, .int .i64 x6, .bool x7, .int .i64 u0y, .int .i64 u1y, .int .i64 u2y, .int .i64 u3y, .int .i64 u4y, .slice B1 u5y.length d1, .int .i64 x9, .slice B2 y10.length d2] 31)).heap[w.heap.size + 1]? = some (.cells #[.int .i64 x0, .int .i64 x1, .int .i64 x2, .int .i64 x3, .int .i64 x4, .int .i64 x5, .int .i64 x6, .bool x7, .int .i64 u0y, .int .i64 u1y, .int .i64 u2y, .int .i64 u3y, .int .i64 u4y, .slice B1 u5y.length d1, .int .i64 x9, .slice B2 y10.length d2] 31)) := Lib.hid (by have := blk_new (w.alloc (.cells #[.int .i64 x0, .int .i64 x1, .int .i64 x2, .int .i64 x3, .int .i64 x4, .int .i64 x5, .int .i64 x6, .bool x7, .int .i64 u0x, .int .i64 u1x, .int .i64 u2x, .int .i64 u3x, .int .i64 u4x, .slice A1 u5x.length c1, .int .i64 x9, .slice A2 x10.length c2] 31)) (.cells #[.int .i64 x0, .int .i64 x1, .int .i64 x2, .int .i64 x3, .int .i64 x4, .int .i64 x5, .int .i64 x6, .bool x7, .int .i64 u0y, .int .i64 u1y, .int .i64 u2y, .int .i64 u3y, .int .i64 u4y, .slice B1 u5y.length d1, .int .i64 x9, .slice B2 y10.length d2] 31); rwa [World.size_alloc] at this)
                      have HB2 := Lib.hid (((Below.refl w.heap.size w).alloc (Nat.le_refl _) (.cells #[.int .i64 x0, .int .i64 x1, .int .i64 x2, .int .i64 x3, .int .i64 x4, .int .i64 x5, .int .i64 x6, .bool x7, .int .i64 u0x, .int .i64 u1x, .int .i64 u2x, .int .i64 u3x, .int .i64 u4x, .slice A1 u5x.length c1, .int .i64 x9, .slice A2 x10.length c2] 31)).alloc (by simp) (.cells #[.int .i64 x0, .int .i64 x1, .int .i64 x2, .int .i64 x3, .int .i64 x4, .int .i64 x5, .int .i64 x6, .bool x7, .int .i64 u0y, .int .i64 u1y, .int .i64 u2y, .int .i64 u3y, .int .i64 u4y, .slice B1 u5y.length d1, .int .i64 x9, .slice B2 y10.length d2] 31))
                      go_enter Try.func53, Try.ntmps53
                      go_wp2_with (((with_reducible refine (samecmd ⟨u0x, u1x, u2x, u3x, u4x, u5x⟩ ⟨u0y, u1y, u2y, u3y, u4y, u5y⟩ false ⟨fun h => absurd h (by decide), fun h => absurd h hneg⟩ ⟨Kd.C_below HX1.out.1 HB2.out, HX1.out.2⟩ ⟨Kd.C_below HY1.out.1 HB2.out, HY1.out.2⟩).mono ?_); rintro e w3 ⟨rfl, hb⟩; have k3x15 : w3.cell? ⟨w.heap.size, 15, none⟩ = some (.slice A2 x10.length c2) := (by rw [blk_cell (blk_below HBK1.out hb)]; rfl); have k3y15 : w3.cell? ⟨w.heap.size + 1, 15, none⟩ = some (.slice B2 y10.length d2) := (by rw [blk_cell (blk_below HBK2.out hb)]; rfl); have HB3 := Lib.hid (HB2.out.trans (hb.mono HB2.out.size)); clear hb))
                      go_ret
                      exact ⟨rfl, HB3.out⟩
                  · have hneg := g9
                    have b : (x9 == y9) = false := by rw [beq_eq_false_iff_ne]; exact hneg
                    obtain rfl : r = false := by
                      cases r with
                      | false => rfl
                      | true => exact absurd ((hr.1 rfl).2.2.2.2.2.2.2.2.2.1) hneg
                    clear hr
                    have HBK1 := Lib.hid (blk_alloc (blk_new w (.cells #[.int .i64 x0, .int .i64 x1, .int .i64 x2, .int .i64 x3, .int .i64 x4, .int .i64 x5, .int .i64 x6, .bool x7, .int .i64 u0x, .int .i64 u1x, .int .i64 u2x, .int .i64 u3x, .int .i64 u4x, .slice A1 u5x.length c1, .int .i64 x9, .slice A2 x10.length c2] 31)) (.cells #[.int .i64 x0, .int .i64 x1, .int .i64 x2, .int .i64 x3, .int .i64 x4, .int .i64 x5, .int .i64 x6, .bool x7, .int .i64 u0y, .int .i64 u1y, .int .i64 u2y, .int .i64 u3y, .int .i64 u4y, .slice B1 u5y.length d1, .int .i64 y9, .slice B2 y10.length d2] 31))
                    have HBK2 : Hid (((w.alloc (.cells #[.int .i64 x0, .int .i64 x1, .int .i64 x2, .int .i64 x3, .int .i64 x4, .int .i64 x5, .int .i64 x6, .bool x7, .int .i64 u0x, .int .i64 u1x, .int .i64 u2x, .int .i64 u3x, .int .i64 u4x, .slice A1 u5x.length c1, .int .i64 x9, .slice A2 x10.length c2] 31)).alloc (.cells #[.int .i64 x0, .int .i64 x1, .int .i64 x2, .int .i64 x3, .int .i64 x4, .int .i64 x5, .int .i64 x6, .bool x7, .int .i64 u0y, .int .i64 u1y, .int .i64 u2y, .int .i64 u3y, .int .i64 u4y, .slice B1 u5y.length d1, .int .i64 y9, .slice B2 y10.length d2] 31)).heap[w.heap.size + 1]? = some (.cells #[.int .i64 x0, .int .i64 x1, .int .i64 x2, .int .i64 x3, .int .i64 x4, .int .i64 x5, .int .i64 x6, .bool x7, .int .i64 u0y, .int .i64 u1y, .int .i64 u2y, .int .i64 u3y, .int .i64 u4y, .slice B1 u5y.length d1, .int .i64 y9, .slice B2 y10.length d2] 31)) := Lib.hid (by have := blk_new (w.alloc (.cells #[.int .i64 x0, .int .i64 x1, .int .i64 x2, .int .i64 x3, .int .i64 x4, .int .i64 x5, .int .i64 x6, .bool x7, .int .i64 u0x, .int .i64 u1x, .int .i64 u2x, .int .i64 u3x, .int .i64 u4x, .slice A1 u5x.length c1, .int .i64 x9, .slice A2 x10.length c2] 31)) (.cells #[.int .i64 x0, .int .i64 x1, .int .i64 x2, .int .i64 x3, .int .i64 x4, .int .i64 x5, .int .i64 x6, .bool x7, .int .i64 u0y, .int .i64 u1y, .int .i64 u2y, .int .i64 u3y, .int .i64 u4y, .slice B1 u5y.length d1, .int .i64 y9, .slice B2 y10.length d2] 31); rwa [World.size_alloc] at this)
                    have HB2 := Lib.hid (((Below.refl w.heap.size w).alloc (Nat.le_refl _) (.cells #[.int .i64 x0, .int .i64 x1, .int .i64 x2, .int .i64 x3, .int .i64 x4, .int .i64 x5, .int .i64 x6, .bool x7, .int .i64 u0x, .int .i64 u1x, .int .i64 u2x, .int .i64 u3x, .int .i64 u4x, .slice A1 u5x.length c1, .int .i64 x9, .slice A2 x10.length c2] 31)).alloc (by simp) (.cells #[.int .i64 x0, .int .i64 x1, .int .i64 x2, .int .i64 x3, .int .i64 x4, .int .i64 x5, .int .i64 x6, .bool x7, .int .i64 u0y, .int .i64 u1y, .int .i64 u2y, .int .i64 u3y, .int .i64 u4y, .slice B1 u5y.length d1, .int .i64 y9, .slice B2 y10.length d2] 31))
                    go_enter Try.func53, Try.ntmps53
                    go_wp2_with (fail)
                    go_ret
                    exact ⟨rfl, HB2.out⟩
                · have hneg := g7
                  have b : (x7 == y7) = false := by rw [beq_eq_false_iff_ne]; exact hneg
                  obtain rfl : r = false := by
                    cases r with
                    | false => rfl
                    | true => exact absurd ((hr.1 rfl).2.2.2.2.2.2.2.1) hneg
                  clear hr
                  have HBK1 := Lib.hid (blk_alloc (blk_new w (.cells #[.int .i64 x0, .int .i64 x1, .int .i64 x2, .int .i64 x3, .int .i64 x4, .int .i64 x5, .int .i64 x6, .bool x7, .int .i64 u0x, .int .i64 u1x, .int .i64 u2x, .int .i64 u3x, .int .i64 u4x, .slice A1 u5x.length c1, .int .i64 x9, .slice A2 x10.length c2] 31)) (.cells #[.int .i64 x0, .int .i64 x1, .int .i64 x2, .int .i64 x3, .int .i64 x4, .int .i64 x5, .int .i64 x6, .bool y7, .int .i64 u0y, .int .i64 u1y, .int .i64 u2y, .int .i64 u3y, .int .i64 u4y, .slice B1 u5y.length d1, .int .i64 y9, .slice B2 y10.length d2] 31))
                  have HBK2 : Hid (((w.alloc (.cells #[.int .i64 x0, .int .i64 x1, .int .i64 x2, .int .i64 x3, .int .i64 x4, .int .i64 x5, .int .i64 x6, .bool x7, .int .i64 u0x, .int .i64 u1x, .int .i64 u2x, .int .i64 u3x, .int .i64 u4x, .slice A1 u5x.length c1, .int .i64 x9, .slice A2 x10.length c2] 31)).alloc (.cells #[.int .i64 x0, .int .i64 x1, .int .i64 x2, .int .i64 x3, .int .i64 x4, .int .i64 x5, .int .i64 x6, .bool y7, .int .i64 u0y, .int .i64 u1y, .int .i64 u2y, .int .i64 u3y, .int .i64 u4y, .slice B1 u5y.length d1, .int .i64 y9, .slice B2 y10.length d2] 31)).heap[w.heap.size + 1]? = some (.cells #[.int .i64 x0, .int .i64 x1, .int .i64 x2, .int .i64 x3, .int .i64 x4, .int .i64 x5, .int .i64 x6, .bool y7, .int .i64 u0y, .int .i64 u1y, .int .i64 u2y, .int .i64 u3y, .int .i64 u4y, .slice B1 u5y.length d1, .int .i64 y9, .slice B2 y10.length d2] 31)) := Lib.hid (by have := blk_new (w.alloc (.cells #[.int .i64 x0, .int .i64 x1, .int .i64 x2, .int .i64 x3, .int .i64 x4, .int .i64 x5, .int .i64 x6, .bool x7, .int .i64 u0x, .int .i64 u1x, .int .i64 u2x, .int .i64 u3x, .int .i64 u4x, .slice A1 u5x.length c1, .int .i64 x9, .slice A2 x10.length c2] 31)) (.cells #[.int .i64 x0, .int .i64 x1, .int .i64 x2, .int .i64 x3, .int .i64 x4, .int .i64 x5, .int .i64 x6, .bool y7, .int .i64 u0y, .int .i64 u1y, .int .i64 u2y, .int .i64 u3y, .int .i64 u4y, .slice B1 u5y.length d1, .int .i64 y9, .slice B2 y10.length d2] 31); rwa [World.size_alloc] at this)
                  have HB2 := Lib.hid (((Below.refl w.heap.size w).alloc (Nat.le_refl _) (.cells #[.int .i64 x0, .int .i64 x1, .int .i64 x2, .int .i64 x3, .int .i64 x4, .int .i64 x5, .int .i64 x6, .bool x7, .int .i64 u0x, .int .i64 u1x, .int .i64 u2x, .int .i64 u3x, .int .i64 u4x, .slice A1 u5x.length c1, .int .i64 x9, .slice A2 x10.length c2] 31)).alloc (by simp) (.cells #[.int .i64 x0, .int .i64 x1, .int .i64 x2, .int .i64 x3, .int .i64 x4, .int .i64 x5, .int .i64 x6, .bool y7, .int .i64 u0y, .int .i64 u1y, .int .i64 u2y, .int .i64 u3y, .int .i64 u4y, .slice B1 u5y.length d1, .int .i64 y9, .slice B2 y10.length d2] 31))
                  go_enter Try.func53, Try.ntmps53
                  go_wp2_with (fail)
                  go_ret
                  exact ⟨rfl, HB2.out⟩
              · have hneg := g6
                have b : (x6 == y6) = false := by rw [beq_eq_false_iff_ne]; exact hneg
                obtain rfl : r = false := by
                  cases r with
                  | false => rfl
                  | true => exact absurd ((hr.1 rfl).2.2.2.2.2.2.1) hneg
                clear hr
                have HBK1 := Lib.hid (blk_alloc (blk_new w (.cells #[.int .i64 x0, .int .i64 x1, .int .i64 x2, .int .i64 x3, .int .i64 x4, .int .i64 x5, .int .i64 x6, .bool x7, .int .i64 u0x, .int .i64 u1x, .int .i64 u2x, .int .i64 u3x, .int .i64 u4x, .slice A1 u5x.length c1, .int .i64 x9, .slice A2 x10.length c2] 31)) (.cells #[.int .i64 x0, .int .i64 x1, .int .i64 x2, .int .i64 x3, .int .i64 x4, .int .i64 x5, .int .i64 y6, .bool y7, .int .i64 u0y, .int .i64 u1y, .int .i64 u2y, .int .i64 u3y, .int .i64 u4y, .slice B1 u5y.length d1, .int .i64 y9, .slice B2 y10.length d2] 31))
                have HBK2 : Hid (((w.alloc (.cells #[.int .i64 x0, .int .i64 x1, .int .i64 x2, .int .i64 x3, .int .i64 x4, .int .i64 x5, .int .i64 x6, .bool x7, .int .i64 u0x, .int .i64 u1x, .int .i64 u2x, .int .i64 u3x, .int .i64 u4x, .slice A1 u5x.length c1, .int .i64 x9, .slice A2 x10.length c2] 31)).alloc (.cells #[.int .i64 x0, .int .i64 x1, .int .i64 x2, .int .i64 x3, .int .i64 x4, .int .i64 x5, .int .i64 y6, .bool y7, .int .i64 u0y, .int .i64 u1y, .int .i64 u2y, .int .i64 u3y, .int .i64 u4y, .slice B1 u5y.length d1, .int .i64 y9, .slice B2 y10.length d2] 31)).heap[w.heap.size + 1]? = some (.cells #[.int .i64 x0, .int .i64 x1, .int .i64 x2, .int .i64 x3, .int .i64 x4, .int .i64 x5, .int .i64 y6, .bool y7, .int .i64 u0y, .int .i64 u1y, .int .i64 u2y, .int .i64 u3y, .int .i64 u4y, .slice B1 u5y.length d1, .int .i64 y9, .slice B2 y10.length d2] 31)) := Lib.hid (by have := blk_new (w.alloc (.cells #[.int .i64 x0, .int .i64 x1, .int .i64 x2, .int .i64 x3, .int .i64 x4, .int .i64 x5, .int .i64 x6, .bool x7, .int .i64 u0x, .int .i64 u1x, .int .i64 u2x, .int .i64 u3x, .int .i64 u4x, .slice A1 u5x.length c1, .int .i64 x9, .slice A2 x10.length c2] 31)) (.cells #[.int .i64 x0, .int .i64 x1, .int .i64 x2, .int .i64 x3, .int .i64 x4, .int .i64 x5, .int .i64 y6, .bool y7, .int .i64 u0y, .int .i64 u1y, .int .i64 u2y, .int .i64 u3y, .int .i64 u4y, .slice B1 u5y.length d1, .int .i64 y9, .slice B2 y10.length d2] 31); rwa [World.size_alloc] at this)
                have HB2 := Lib.hid (((Below.refl w.heap.size w).alloc (Nat.le_refl _) (.cells #[.int .i64 x0, .int .i64 x1, .int .i64 x2, .int .i64 x3, .int .i64 x4, .int .i64 x5, .int .i64 x6, .bool x7, .int .i64 u0x, .int .i64 u1x, .int .i64 u2x, .int .i64 u3x, .int .i64 u4x, .slice A1 u5x.length c1, .int .i64 x9, .slice A2 x10.length c2] 31)).alloc (by simp) (.cells #[.int .i64 x0, .int .i64 x1, .int .i64 x2, .int .i64 x3, .int .i64 x4, .int .i64 x5, .int .i64 y6, .bool y7, .int .i64 u0y, .int .i64 u1y, .int .i64 u2y, .int .i64 u3y, .int .i64 u4y, .slice B1 u5y.length d1, .int .i64 y9, .slice B2 y10.length d2] 31))
                go_enter Try.func53, Try.ntmps53
                go_wp2_with (fail)
                go_ret
                exact ⟨rfl, HB2.out⟩
            · have hneg := g5
              have b : (x5 == y5) = false := by rw [beq_eq_false_iff_ne]; exact hneg
              obtain rfl : r = false := by
                cases r with
                | false => rfl
                | true => exact absurd ((hr.1 rfl).2.2.2.2.2.1) hneg
              clear hr
              have HBK1 := Lib.hid (blk_alloc (blk_new w (.cells #[.int .i64 x0, .int .i64 x1, .int .i64 x2, .int .i64 x3, .int .i64 x4, .int .i64 x5, .int .i64 x6, .bool x7, .int .i64 u0x, .int .i64 u1x, .int .i64 u2x, .int .i64 u3x, .int .i64 u4x, .slice A1 u5x.length c1, .int .i64 x9, .slice A2 x10.length c2] 31)) (.cells #[.int .i64 x0, .int .i64 x1, .int .i64 x2, .int .i64 x3, .int .i64 x4, .int .i64 y5, .int .i64 y6, .bool y7, .int .i64 u0y, .int .i64 u1y, .int .i64 u2y, .int .i64 u3y, .int .i64 u4y, .slice B1 u5y.length d1, .int .i64 y9, .slice B2 y10.length d2] 31))
              have HBK2 : Hid (((w.alloc (.cells #[.int .i64 x0, .int .i64 x1, .int .i64 x2, .int .i64 x3, .int .i64 x4, .int .i64 x5, .int .i64 x6, .bool x7, .int .i64 u0x, .int .i64 u1x, .int .i64 u2x, .int .i64 u3x, .int .i64 u4x, .slice A1 u5x.length c1, .int .i64 x9, .slice A2 x10.length c2] 31)).alloc (.cells #[.int .i64 x0, .int .i64 x1, .int .i64 x2, .int .i64 x3, .int .i64 x4, .int .i64 y5, .int .i64 y6, .bool y7, .int .i64 u0y, .int .i64 u1y, .int .i64 u2y, .int .i64 u3y, .int .i64 u4y, .slice B1 u5y.length d1, .int .i64 y9, .slice B2 y10.length d2] 31)).heap[w.heap.size + 1]? = some (.cells #[.int .i64 x0, .int .i64 x1, .int .i64 x2, .int .i64 x3, .int .i64 x4, .int .i64 y5, .int .i64 y6, .bool y7, .int .i64 u0y, .int .i64 u1y, .int .i64 u2y, .int .i64 u3y, .int .i64 u4y, .slice B1 u5y.length d1, .int .i64 y9, .slice B2 y10.length d2] 31)) := Lib.hid (by have := blk_new (w.alloc (.cells #[.int .i64 x0, .int .i64 x1, .int .i64 x2, .int .i64 x3, .int .i64 x4, .int .i64 x5, .int .i64 x6, .bool x7, .int .i64 u0x, .int .i64 u1x, .int .i64 u2x, .int .i64 u3x, .int .i64 u4x, .slice A1 u5x.length c1, .int .i64 x9, .slice A2 x10.length c2] 31)) (.cells #[.int .i64 x0, .int .i64 x1, .int .i64 x2, .int .i64 x3, .int .i64 x4, .int .i64 y5, .int .i64 y6, .bool y7, .int .i64 u0y, .int .i64 u1y, .int .i64 u2y, .int .i64 u3y, .int .i64 u4y, .slice B1 u5y.length d1, .int .i64 y9, .slice B2 y10.length d2] 31); rwa [World.size_alloc] at this)
              have HB2 := Lib.hid (((Below.refl w.heap.size w).alloc (Nat.le_refl _) (.cells #[.int .i64 x0, .int .i64 x1, .int .i64 x2, .int .i64 x3, .int .i64 x4, .int .i64 x5, .int .i64 x6, .bool x7, .int .i64 u0x, .int .i64 u1x, .int .i64 u2x, .int .i64 u3x, .int .i64 u4x, .slice A1 u5x.length c1, .int .i64 x9, .slice A2 x10.length c2] 31)).alloc (by simp) (.cells #[.int .i64 x0, .int .i64 x1, .int .i64 x2, .int .i64 x3, .int .i64 x4, .int .i64 y5, .int .i64 y6, .bool y7, .int .i64 u0y, .int .i64 u1y, .int .i64 u2y, .int .i64 u3y, .int .i64 u4y, .slice B1 u5y.length d1, .int .i64 y9, .slice B2 y10.length d2] 31))
              go_enter Try.func53, Try.ntmps53
              go_wp2_with (fail)
              go_ret
              exact ⟨rfl, HB2.out⟩
          · have hneg := g4
            have b : (x4 == y4) = false := by rw [beq_eq_false_iff_ne]; exact hneg
            obtain rfl : r = false := by
              cases r with
              | false => rfl
              | true => exact absurd ((hr.1 rfl).2.2.2.2.1) hneg
            clear hr
            have HBK1 := Lib.hid (blk_alloc (blk_new w (.cells #[.int .i64 x0, .int .i64 x1, .int .i64 x2, .int .i64 x3, .int .i64 x4, .int .i64 x5, .int .i64 x6, .bool x7, .int .i64 u0x, .int .i64 u1x, .int .i64 u2x, .int .i64 u3x, .int .i64 u4x, .slice A1 u5x.length c1, .int .i64 x9, .slice A2 x10.length c2] 31)) (.cells #[.int .i64 x0, .int .i64 x1, .int .i64 x2, .int .i64 x3, .int .i64 y4, .int .i64 y5, .int .i64 y6, .bool y7, .int .i64 u0y, .int .i64 u1y, .int .i64 u2y, .int .i64 u3y, .int .i64 u4y, .slice B1 u5y.length d1, .int .i64 y9, .slice B2 y10.length d2] 31))
            have HBK2 : Hid (((w.alloc (.cells #[.int .i64 x0, .int .i64 x1, .int .i64 x2, .int .i64 x3, .int .i64 x4, .int .i64 x5, .int .i64 x6, .bool x7, .int .i64 u0x, .int .i64 u1x, .int .i64 u2x, .int .i64 u3x, .int .i64 u4x, .slice A1 u5x.length c1, .int .i64 x9, .slice A2 x10.length c2] 31)).alloc (.cells #[.int .i64 x0, .int .i64 x1, .int .i64 x2, .int .i64 x3, .int .i64 y4, .int .i64 y5, .int .i64 y6, .bool y7, .int .i64 u0y, .int .i64 u1y, .int .i64 u2y, .int .i64 u3y, .int .i64 u4y, .slice B1 u5y.length d1, .int .i64 y9, .slice B2 y10.length d2] 31)).heap[w.heap.size + 1]? = some (.cells #[.int .i64 x0, .int .i64 x1, .int .i64 x2, .int .i64 x3, .int .i64 y4, .int .i64 y5, .int .i64 y6, .bool y7, .int .i64 u0y, .int .i64 u1y, .int .i64 u2y, .int .i64 u3y, .int .i64 u4y, .slice B1 u5y.length d1, .int .i64 y9, .slice B2 y10.length d2] 31)) := Lib.hid (by have := blk_new (w.alloc (.cells #[.int .i64 x0, .int .i64 x1, .int .i64 x2, .int .i64 x3, .int .i64 x4, .int .i64 x5, .int .i64 x6, .bool x7, .int .i64 u0x, .int .i64 u1x, .int .i64 u2x, .int .i64 u3x, .int .i64 u4x, .slice A1 u5x.length c1, .int .i64 x9, .slice A2 x10.length c2] 31)) (.cells #[.int .i64 x0, .int .i64 x1, .int .i64 x2, .int .i64 x3, .int .i64 y4, .int .i64 y5, .int .i64 y6, .bool y7, .int .i64 u0y, .int .i64 u1y, .int .i64 u2y, .int .i64 u3y, .int .i64 u4y, .slice B1 u5y.length d1, .int .i64 y9, .slice B2 y10.length d2] 31); rwa [World.size_alloc] at this)
            have HB2 := Lib.hid (((Below.refl w.heap.size w).alloc (Nat.le_refl _) (.cells #[.int .i64 x0, .int .i64 x1, .int .i64 x2, .int .i64 x3, .int .i64 x4, .int .i64 x5, .int .i64 x6, .bool x7, .int .i64 u0x, .int .i64 u1x, .int .i64 u2x, .int .i64 u3x, .int .i64 u4x, .slice A1 u5x.length c1, .int .i64 x9, .slice A2 x10.length c2] 31)).alloc (by simp) (.cells #[.int .i64 x0, .int .i64 x1, .int .i64 x2, .int .i64 x3, .int .i64 y4, .int .i64 y5, .int .i64 y6, .bool y7, .int .i64 u0y, .int .i64 u1y, .int .i64 u2y, .int .i64 u3y, .int .i64 u4y, .slice B1 u5y.length d1, .int .i64 y9, .slice B2 y10.length d2] 31))
            go_enter Try.func53, Try.ntmps53
            go_wp2_with (fail)
            go_ret
            exact ⟨rfl, HB2.out⟩
        · have hneg := g3
          have b : (x3 == y3) = false := by rw [beq_eq_false_iff_ne]; exact hneg
          obtain rfl : r = false := by
            cases r with
            | false => rfl
            | true => exact absurd ((hr.1 rfl).2.2.2.1) hneg
          clear hr
          have HBK1 := Lib.hid (blk_alloc (blk_new w (.cells #[.int .i64 x0, .int .i64 x1, .int .i64 x2, .int .i64 x3, .int .i64 x4, .int .i64 x5, .int .i64 x6, .bool x7, .int .i64 u0x, .int .i64 u1x, .int .i64 u2x, .int .i64 u3x, .int .i64 u4x, .slice A1 u5x.length c1, .int .i64 x9, .slice A2 x10.length c2] 31)) (.cells #[.int .i64 x0, .int .i64 x1, .int .i64 x2, .int .i64 y3, .int .i64 y4, .int .i64 y5, .int .i64 y6, .bool y7, .int .i64 u0y, .int .i64 u1y, .int .i64 u2y, .int .i64 u3y, .int .i64 u4y, .slice B1 u5y.length d1, .int .i64 y9, .slice B2 y10.length d2] 31))
          have HBK2 : Hid (((w.alloc (.cells #[.int .i64 x0, .int .i64 x1, .int .i64 x2, .int .i64 x3, .int .i64 x4, .int .i64 x5, .int .i64 x6, .bool x7, .int .i64 u0x, .int .i64 u1x, .int .i64 u2x, .int .i64 u3x, .int .i64 u4x, .slice A1 u5x.length c1, .int .i64 x9, .slice A2 x10.length c2] 31)).alloc (.cells #[.int .i64 x0, .int .i64 x1, .int .i64 x2, .int .i64 y3, .int .i64 y4, .int .i64 y5, .int .i64 y6, .bool y7, .int .i64 u0y, .int .i64 u1y, .int .i64 u2y, .int .i64 u3y, .int .i64 u4y, .slice B1 u5y.length d1, .int .i64 y9, .slice B2 y10.length d2] 31)).heap[w.heap.size + 1]? = some (.cells #[.int .i64 x0, .int .i64 x1, .int .i64 x2, .int .i64 y3, .int .i64 y4, .int .i64 y5, .int .i64 y6, .bool y7, .int .i64 u0y, .int .i64 u1y, .int .i64 u2y, .int .i64 u3y, .int .i64 u4y, .slice B1 u5y.length d1, .int .i64 y9, .slice B2 y10.length d2] 31)) := Lib.hid (by have := blk_new (w.alloc (.cells #[.int .i64 x0, .int .i64 x1, .int .i64 x2, .int .i64 x3, .int .i64 x4, .int .i64 x5, .int .i64 x6, .bool x7, .int .i64 u0x, .int .i64 u1x, .int .i64 u2x, .int .i64 u3x, .int .i64 u4x, .slice A1 u5x.length c1, .int .i64 x9, .slice A2 x10.length c2] 31)) (.cells #[.int .i64 x0, .int .i64 x1, .int .i64 x2, .int .i64 y3, .int .i64 y4, .int .i64 y5, .int .i64 y6, .bool y7, .int .i64 u0y, .int .i64 u1y, .int .i64 u2y, .int .i64 u3y, .int .i64 u4y, .slice B1 u5y.length d1, .int .i64 y9, .slice B2 y10.length d2] 31); rwa [World.size_alloc] at this)
          have HB2 := Lib.hid (((Below.refl w.heap.size w).alloc (Nat.le_refl _) (.cells #[.int .i64 x0, .int .i64 x1, .int .i64 x2, .int .i64 x3, .int .i64 x4, .int .i64 x5, .int .i64 x6, .bool x7, .int .i64 u0x, .int .i64 u1x, .int .i64 u2x, .int .i64 u3x, .int .i64 u4x, .slice A1 u5x.length c1, .int .i64 x9, .slice A2 x10.length c2] 31)).alloc (by simp) (.cells #[.int .i64 x0, .int .i64 x1, .int .i64 x2, .int .i64 y3, .int .i64 y4, .int .i64 y5, .int .i64 y6, .bool y7, .int .i64 u0y, .int .i64 u1y, .int .i64 u2y, .int .i64 u3y, .int .i64 u4y, .slice B1 u5y.length d1, .int .i64 y9, .slice B2 y10.length d2] 31))
          go_enter Try.func53, Try.ntmps53
          go_wp2_with (fail)
          go_ret
          exact ⟨rfl, HB2.out⟩
      · have hneg := g2
        have b : (x2 == y2) = false := by rw [beq_eq_false_iff_ne]; exact hneg
        obtain rfl : r = false := by
          cases r with
          | false => rfl
          | true => exact absurd ((hr.1 rfl).2.2.1) hneg
        clear hr
        have HBK1 := Lib.hid (blk_alloc (blk_new w (.cells #[.int .i64 x0, .int .i64 x1, .int .i64 x2, .int .i64 x3, .int .i64 x4, .int .i64 x5, .int .i64 x6, .bool x7, .int .i64 u0x, .int .i64 u1x, .int .i64 u2x, .int .i64 u3x, .int .i64 u4x, .slice A1 u5x.length c1, .int .i64 x9, .slice A2 x10.length c2] 31)) (.cells #[.int .i64 x0, .int .i64 x1, .int .i64 y2, .int .i64 y3, .int .i64 y4, .int .i64 y5, .int .i64 y6, .bool y7, .int .i64 u0y, .int .i64 u1y, .int .i64 u2y, .int .i64 u3y, .int .i64 u4y, .slice B1 u5y.length d1, .int .i64 y9, .slice B2 y10.length d2] 31))
        have HBK2 : Hid (((w.alloc (.cells #[.int .i64 x0, .int .i64 x1, .int .i64 x2, .int .i64 x3, .int .i64 x4, .int .i64 x5, .int .i64 x6, .bool x7, .int .i64 u0x, .int .i64 u1x, .int .i64 u2x, .int .i64 u3x, .int .i64 u4x, .slice A1 u5x.length c1, .int .i64 x9, .slice A2 x10.length c2] 31)).alloc (.cells #[.int .i64 x0, .int .i64 x1, .int .i64 y2, .int .i64 y3, .int .i64 y4, .int .i64 y5, .int .i64 y6, .bool y7, .int .i64 u0y, .int .i64 u1y, .int .i64 u2y, .int .i64 u3y, .int .i64 u4y, .slice B1 u5y.length d1, .int .i64 y9, .slice B2 y10.length d2] 31)).heap[w.heap.size + 1]? = some (.cells #[.int .i64 x0, .int .i64 x1, .int .i64 y2, .int .i64 y3, .int .i64 y4, .int .i64 y5, .int .i64 y6, .bool y7, .int .i64 u0y, .int .i64 u1y, .int .i64 u2y, .int .i64 u3y, .int .i64 u4y, .slice B1 u5y.length d1, .int .i64 y9, .slice B2 y10.length d2] 31)) := Lib.hid (by have := blk_new (w.alloc (.cells #[.int .i64 x0, .int .i64 x1, .int .i64 x2, .int .i64 x3, .int .i64 x4, .int .i64 x5, .int .i64 x6, .bool x7, .int .i64 u0x, .int .i64 u1x, .int .i64 u2x, .int .i64 u3x, .int .i64 u4x, .slice A1 u5x.length c1, .int .i64 x9, .slice A2 x10.length c2] 31)) (.cells #[.int .i64 x0, .int .i64 x1, .int .i64 y2, .int .i64 y3, .int .i64 y4, .int .i64 y5, .int .i64 y6, .bool y7, .int .i64 u0y, .int .i64 u1y, .int .i64 u2y, .int .i64 u3y, .int .i64 u4y, .slice B1 u5y.length d1, .int .i64 y9, .slice B2 y10.length d2] 31); rwa [World.size_alloc] at this)
        have HB2 := Lib.hid (((Below.refl w.heap.size w).alloc (Nat.le_refl _) (.cells #[.int .i64 x0, .int .i64 x1, .int .i64 x2, .int .i64 x3, .int .i64 x4, .int .i64 x5, .int .i64 x6, .bool x7, .int .i64 u0x, .int .i64 u1x, .int .i64 u2x, .int .i64 u3x, .int .i64 u4x, .slice A1 u5x.length c1, .int .i64 x9, .slice A2 x10.length c2] 31)).alloc (by simp) (.cells #[.int .i64 x0, .int .i64 x1, .int .i64 y2, .int .i64 y3, .int .i64 y4, .int .i64 y5, .int .i64 y6, .bool y7, .int .i64 u0y, .int .i64 u1y, .int .i64 u2y, .int .i64 u3y, .int .i64 u4y, .slice B1 u5y.length d1, .int .i64 y9, .slice B2 y10.length d2] 31))
        go_enter Try.func53, Try.ntmps53
        go_wp2_with (fail)
        go_ret
        exact ⟨rfl, HB2.out⟩
    · have hneg := g1
      have b : (x1 == y1) = false := by rw [beq_eq_false_iff_ne]; exact hneg
      obtain rfl : r = false := by
        cases r with
        | false => rfl
        | true => exact absurd ((hr.1 rfl).2.1) hneg
      clear hr
      have HBK1 := Lib.hid (blk_alloc (blk_new w (.cells #[.int .i64 x0, .int .i64 x1, .int .i64 x2, .int .i64 x3, .int .i64 x4, .int .i64 x5, .int .i64 x6, .bool x7, .int .i64 u0x, .int .i64 u1x, .int .i64 u2x, .int .i64 u3x, .int .i64 u4x, .slice A1 u5x.length c1, .int .i64 x9, .slice A2 x10.length c2] 31)) (.cells #[.int .i64 x0, .int .i64 y1, .int .i64 y2, .int .i64 y3, .int .i64 y4, .int .i64 y5, .int .i64 y6, .bool y7, .int .i64 u0y, .int .i64 u1y, .int .i64 u2y, .int .i64 u3y, .int .i64 u4y, .slice B1 u5y.length d1, .int .i64 y9, .slice B2 y10.length d2] 31))
      have HBK2 : Hid (((w.alloc (.cells #[.int .i64 x0, .int .i64 x1, .int .i64 x2, .int .i64 x3, .int .i64 x4, .int .i64 x5, .int .i64 x6, .bool x7, .int .i64 u0x, .int .i64 u1x, .int .i64 u2x, .int .i64 u3x, .int .i64 u4x, .slice A1 u5x.length c1, .int .i64 x9, .slice A2 x10.length c2] 31)).alloc (.cells #[.int .i64 x0, .int .i64 y1, .int .i64 y2, .int .i64 y3, .int .i64 y4, .int .i64 y5, .int .i64 y6, .bool y7, .int .i64 u0y, .int .i64 u1y, .int .i64 u2y, .int .i64 u3y, .int .i64 u4y, .slice B1 u5y.length d1, .int .i64 y9, .slice B2 y10.length d2] 31)).heap[w.heap.size + 1]? = some (.cells #[.int .i64 x0, .int .i64 y1, .int .i64 y2, .int .i64 y3, .int .i64 y4, .int .i64 y5, .int .i64 y6, .bool y7, .int .i64 u0y, .int .i64 u1y, .int .i64 u2y, .int .i64 u3y, .int .i64 u4y, .slice B1 u5y.length d1, .int .i64 y9, .slice B2 y10.length d2] 31)) := Lib.hid (by have := blk_new (w.alloc (.cells #[.int .i64 x0, .int .i64 x1, .int .i64 x2, .int .i64 x3, .int .i64 x4, .int .i64 x5, .int .i64 x6, .bool x7, .int .i64 u0x, .int .i64 u1x, .int .i64 u2x, .int .i64 u3x, .int .i64 u4x, .slice A1 u5x.length c1, .int .i64 x9, .slice A2 x10.length c2] 31)) (.cells #[.int .i64 x0, .int .i64 y1, .int .i64 y2, .int .i64 y3, .int .i64 y4, .int .i64 y5, .int .i64 y6, .bool y7, .int .i64 u0y, .int .i64 u1y, .int .i64 u2y, .int .i64 u3y, .int .i64 u4y, .slice B1 u5y.length d1, .int .i64 y9, .slice B2 y10.length d2] 31); rwa [World.size_alloc] at this)
      have HB2 := Lib.hid (((Below.refl w.heap.size w).alloc (Nat.le_refl _) (.cells #[.int .i64 x0, .int .i64 x1, .int .i64 x2, .int .i64 x3, .int .i64 x4, .int .i64 x5, .int .i64 x6, .bool x7, .int .i64 u0x, .int .i64 u1x, .int .i64 u2x, .int .i64 u3x, .int .i64 u4x, .slice A1 u5x.length c1, .int .i64 x9, .slice A2 x10.length c2] 31)).alloc (by simp) (.cells #[.int .i64 x0, .int .i64 y1, .int .i64 y2, .int .i64 y3, .int .i64 y4, .int .i64 y5, .int .i64 y6, .bool y7, .int .i64 u0y, .int .i64 u1y, .int .i64 u2y, .int .i64 u3y, .int .i64 u4y, .slice B1 u5y.length d1, .int .i64 y9, .slice B2 y10.length d2] 31))
      go_enter Try.func53, Try.ntmps53
      go_wp2_with (fail)
      go_ret
      exact ⟨rfl, HB2.out⟩
  · have hneg := g0
    have b : (x0 == y0) = false := by rw [beq_eq_false_iff_ne]; exact hneg
    obtain rfl : r = false := by
      cases r with
      | false => rfl
      | true => exact absurd ((hr.1 rfl).1) hneg
    clear hr
    have HBK1 := Lib.hid (blk_alloc (blk_new w (.cells #[.int .i64 x0, .int .i64 x1, .int .i64 x2, .int .i64 x3, .int .i64 x4, .int .i64 x5, .int .i64 x6, .bool x7, .int .i64 u0x, .int .i64 u1x, .int .i64 u2x, .int .i64 u3x, .int .i64 u4x, .slice A1 u5x.length c1, .int .i64 x9, .slice A2 x10.length c2] 31)) (.cells #[.int .i64 y0, .int .i64 y1, .int .i64 y2, .int .i64 y3, .int .i64 y4, .int .i64 y5, .int .i64 y6, .bool y7, .int .i64 u0y, .int .i64 u1y, .int .i64 u2y, .int .i64 u3y, .int .i64 u4y, .slice B1 u5y.length d1, .int .i64 y9, .slice B2 y10.length d2] 31))
    have HBK2 : Hid (((w.alloc (.cells #[.int .i64 x0, .int .i64 x1, .int .i64 x2, .int .i64 x3, .int .i64 x4, .int .i64 x5, .int .i64 x6, .bool x7, .int .i64 u0x, .int .i64 u1x, .int .i64 u2x, .int .i64 u3x, .int .i64 u4x, .slice A1 u5x.length c1, .int .i64 x9, .slice A2 x10.length c2] 31)).alloc (.cells #[.int .i64 y0, .int .i64 y1, .int .i64 y2, .int .i64 y3, .int .i64 y4, .int .i64 y5, .int .i64 y6, .bool y7, .int .i64 u0y, .int .i64 u1y, .int .i64 u2y, .int .i64 u3y, .int .i64 u4y, .slice B1 u5y.length d1, .int .i64 y9, .slice B2 y10.length d2] 31)).heap[w.heap.size + 1]? = some (.cells #[.int .i64 y0, .int .i64 y1, .int .i64 y2, .int .i64 y3, .int .i64 y4, .int .i64 y5, .int .i64 y6, .bool y7, .int .i64 u0y, .int .i64 u1y, .int .i64 u2y, .int .i64 u3y, .int .i64 u4y, .slice B1 u5y.length d1, .int .i64 y9, .slice B2 y10.length d2] 31)) := Lib.hid (by have := blk_new (w.alloc (.cells #[.int .i64 x0, .int .i64 x1, .int .i64 x2, .int .i64 x3, .int .i64 x4, .int .i64 x5, .int .i64 x6, .bool x7, .int .i64 u0x, .int .i64 u1x, .int .i64 u2x, .int .i64 u3x, .int .i64 u4x, .slice A1 u5x.length c1, .int .i64 x9, .slice A2 x10.length c2] 31)) (.cells #[.int .i64 y0, .int .i64 y1, .int .i64 y2, .int .i64 y3, .int .i64 y4, .int .i64 y5, .int .i64 y6, .bool y7, .int .i64 u0y, .int .i64 u1y, .int .i64 u2y, .int .i64 u3y, .int .i64 u4y, .slice B1 u5y.length d1, .int .i64 y9, .slice B2 y10.length d2] 31); rwa [World.size_alloc] at this)
    have HB2 := Lib.hid (((Below.refl w.heap.size w).alloc (Nat.le_refl _) (.cells #[.int .i64 x0, .int .i64 x1, .int .i64 x2, .int .i64 x3, .int .i64 x4, .int .i64 x5, .int .i64 x6, .bool x7, .int .i64 u0x, .int .i64 u1x, .int .i64 u2x, .int .i64 u3x, .int .i64 u4x, .slice A1 u5x.length c1, .int .i64 x9, .slice A2 x10.length c2] 31)).alloc (by simp) (.cells #[.int .i64 y0, .int .i64 y1, .int .i64 y2, .int .i64 y3, .int .i64 y4, .int .i64 y5, .int .i64 y6, .bool y7, .int .i64 u0y, .int .i64 u1y, .int .i64 u2y, .int .i64 u3y, .int .i64 u4y, .slice B1 u5y.length d1, .int .i64 y9, .slice B2 y10.length d2] 31))
    go_enter Try.func53, Try.ntmps53
    go_wp2_with (fail)
    go_ret
    exact ⟨rfl, HB2.out⟩

end Go.Proofs.Ytneebjlpeekmbaa
