/- What the laws of the mail ask first: is a mail light? By plain words. No conditions beyond those typed. -/
import Derived.Test.YtneebjlpeekmbaaEnc
import Derived.Test.YtneebjlpeekmbaaRefL
namespace Go.Proofs.Ytneebjlpeekmbaa
open Go.RowKit Go.Proofs.YtneebjlpeekmbaaW.PrintWords Go.Proofs.YtneebjlpeekmbaaW.PrintLast Go.Proofs.YtneebjlpeekmbaaW.PrintMore PRef
set_option linter.unusedVariables false
set_option linter.unusedSimpArgs false

def sizes (l : List ByteArray) : Nat := (l.map ByteArray.size).sum
def sizesE (l : List S60) : Nat := (l.map fun x => x.f2.size).sum
theorem sizes_drop (l : List ByteArray) (i : Nat) (h : i < l.length) : sizes (l.drop i) = (l.getD i ByteArray.empty).size + sizes (l.drop (i + 1)) := by
  unfold sizes
  rw [List.drop_eq_getElem_cons h, List.map_cons, List.sum_cons, List.getD_eq_getElem?_getD, List.getElem?_eq_getElem h]
  rfl
theorem sizesE_drop (l : List S60) (i : Nat) (h : i < l.length) : sizesE (l.drop i) = (l.getD i z60).f2.size + sizesE (l.drop (i + 1)) := by
  unfold sizesE
  rw [List.drop_eq_getElem_cons h, List.map_cons, List.sum_cons, List.getD_eq_getElem?_getD, List.getElem?_eq_getElem h]
  rfl
structure LightI (l13 : List ByteArray) (l15 : List S23) : Prop where
  data : l13.length ≤ 101 ∧ sizes l13 ≤ 110000
  deps : l15.length ≤ 5000
structure LightOk (x : Mail) : Prop where
  inst : LightI x.inst.cmd.data x.inst.deps
  entries : x.entries.length ≤ 201 ∧ x.text.size + sizesE x.entries ≤ 200000

theorem light7_l0 (a0 a1 a2 a3 a4 a5 a6 : Int) (b7 : Bool) (a8 a9 a10 a11 a12 : Int) (l13 : List ByteArray) (a14 : Int) (l15 : List S23) : ∀ (d k i n : Nat), i + d = l13.length → d < k → i ≤ 101 → n ≤ 110000 → ∃ r, lamellalaw07_Light.l0 k n l13 l13.length i a0 a1 a2 a3 a4 a5 a6 b7 a8 a9 a10 a11 a12 l13 a14 l15 = some r ∧ (r = true → l13.length ≤ 101 ∧ n + sizes (l13.drop i) ≤ 110000 ∧ l15.length ≤ 5000)
  | 0, k, i, n, h, hk, hi, hn => by
    obtain ⟨j, rfl⟩ : ∃ j, k = j + 1 := ⟨k - 1, by omega⟩
    simp only [lamellalaw07_Light.l0]
    rw [if_neg (by omega)]
    refine ⟨_, rfl, fun hr => ?_⟩
    rw [decide_eq_true_iff] at hr
    rw [List.drop_of_length_le (by omega)]
    exact ⟨by omega, by simp [sizes]; omega, by omega⟩
  | d + 1, k, i, n, h, hk, hi, hn => by
    obtain ⟨j, rfl⟩ : ∃ j, k = j + 1 := ⟨k - 1, by omega⟩
    simp only [lamellalaw07_Light.l0]
    rw [if_pos (by omega), if_pos (by omega), if_pos (by omega)]
    have e : rdOf ByteArray.empty l13 (i : Int) = l13.getD i ByteArray.empty := by unfold rdOf; rw [Int.toNat_natCast]
    rw [e]
    have hs := sizes_drop l13 i (by omega)
    generalize (l13.getD i ByteArray.empty).size = z at hs ⊢
    by_cases h1 : (i : Int) > 100
    · rw [if_pos h1]; exact ⟨_, rfl, fun h => by cases h⟩
    · rw [if_neg h1]
      by_cases h2 : (z : Int) > 10000
      · rw [if_pos h2]; exact ⟨_, rfl, fun h => by cases h⟩
      · rw [if_neg h2]
        by_cases h3 : (n : Int) > 100000
        · rw [if_pos h3]; exact ⟨_, rfl, fun h => by cases h⟩
        · rw [if_neg h3]
          have w1 : wrap64 ((n : Int) + z) = ((n + z : Nat) : Int) := by unfold wrap64; omega
          have w2 : wrap64 ((i : Int) + 1) = ((i + 1 : Nat) : Int) := by unfold wrap64; omega
          rw [w1, w2]
          clear w1 w2 e
          obtain ⟨r, hr, hq⟩ := light7_l0 a0 a1 a2 a3 a4 a5 a6 b7 a8 a9 a10 a11 a12 l13 a14 l15 d j (i + 1) (n + z) (by omega) (by omega) (by omega) (by omega)
          exact ⟨r, hr, fun h => by obtain ⟨q1, q2, q3⟩ := hq h; exact ⟨q1, by omega, q3⟩⟩
theorem light7_f (a0 a1 a2 a3 a4 a5 a6 : Int) (b7 : Bool) (a8 a9 a10 a11 a12 : Int) (l13 : List ByteArray) (a14 : Int) (l15 : List S23) (k : Nat) (hk : l13.length < k) : ∃ r, lamellalaw07_Light.f k a0 a1 a2 a3 a4 a5 a6 b7 a8 a9 a10 a11 a12 l13 a14 l15 = some r ∧ (r = true → LightI l13 l15) := by
  obtain ⟨r, hr, hq⟩ := light7_l0 a0 a1 a2 a3 a4 a5 a6 b7 a8 a9 a10 a11 a12 l13 a14 l15 l13.length k 0 0 (by omega) hk (by omega) (by omega)
  exact ⟨r, hr, fun h => by obtain ⟨q1, q2, q3⟩ := hq h; rw [List.drop_zero] at q2; exact ⟨⟨q1, by omega⟩, q3⟩⟩
theorem light15_l0 (m0 m1 m2 m3 a0 a1 a2 a3 a4 a5 a6 : Int) (b7 : Bool) (a8 a9 a10 a11 a12 : Int) (l13 : List ByteArray) (a14 : Int) (l15 : List S23) (b5 : Bool) (m6 m7 m8 m9 m10 : Int) (l26 : List S60) (t27 : ByteArray) : ∀ (d k i n : Nat), i + d = l26.length → d + l13.length + 1 < k → i ≤ 201 → n ≤ 9223372036854775807 → ∃ r, lamellalaw15_light.l0 k n l26 l26.length i m0 m1 m2 m3 a0 a1 a2 a3 a4 a5 a6 b7 a8 a9 a10 a11 a12 l13 a14 l15 b5 m6 m7 m8 m9 m10 l26 t27 = some r ∧ (r = true → l26.length ≤ 201 ∧ n + sizesE (l26.drop i) ≤ 200000 ∧ LightI l13 l15)
  | 0, k, i, n, h, hk, hi, hn => by
    obtain ⟨j, rfl⟩ : ∃ j, k = j + 1 := ⟨k - 1, by omega⟩
    simp only [lamellalaw15_light.l0]
    rw [if_neg (by omega)]
    obtain ⟨r, hr, hq⟩ := light7_f a0 a1 a2 a3 a4 a5 a6 b7 a8 a9 a10 a11 a12 l13 a14 l15 j (by omega)
    rw [hr]
    simp only [Option.bind_some]
    rw [List.drop_of_length_le (by omega)]
    cases r with
    | false => exact ⟨false, rfl, fun h => by cases h⟩
    | true =>
      refine ⟨_, rfl, fun hr => ?_⟩
      rw [decide_eq_true_iff] at hr
      exact ⟨by omega, by simp [sizesE]; omega, hq rfl⟩
  | d + 1, k, i, n, h, hk, hi, hn => by
    obtain ⟨j, rfl⟩ : ∃ j, k = j + 1 := ⟨k - 1, by omega⟩
    simp only [lamellalaw15_light.l0]
    rw [if_pos (by omega), if_pos (by omega), if_pos (by omega)]
    have e : rd_T60 l26 (i : Int) = l26.getD i z60 := by unfold rd_T60; rw [Int.toNat_natCast]
    rw [e]
    have hs := sizesE_drop l26 i (by omega)
    generalize (l26.getD i z60).f2.size = z at hs ⊢
    by_cases h1 : (i : Int) > 200
    · rw [if_pos h1]; exact ⟨_, rfl, fun h => by cases h⟩
    · rw [if_neg h1]
      by_cases h2 : (z : Int) > 10000
      · rw [if_pos h2]; exact ⟨_, rfl, fun h => by cases h⟩
      · rw [if_neg h2]
        by_cases h3 : (n : Int) > 100000
        · rw [if_pos h3]; exact ⟨_, rfl, fun h => by cases h⟩
        · rw [if_neg h3]
          have w1 : wrap64 ((n : Int) + z) = ((n + z : Nat) : Int) := by unfold wrap64; omega
          have w2 : wrap64 ((i : Int) + 1) = ((i + 1 : Nat) : Int) := by unfold wrap64; omega
          rw [w1, w2]
          clear w1 w2 e
          obtain ⟨r, hr, hq⟩ := light15_l0 m0 m1 m2 m3 a0 a1 a2 a3 a4 a5 a6 b7 a8 a9 a10 a11 a12 l13 a14 l15 b5 m6 m7 m8 m9 m10 l26 t27 d j (i + 1) (n + z) (by omega) (by omega) (by omega) (by omega)
          exact ⟨r, hr, fun h => by obtain ⟨q1, q2, q3⟩ := hq h; exact ⟨q1, by omega, q3⟩⟩
theorem light_calls (w : World) (A1 A2 A3 : Option Addr) (c1 c2 c3 : Nat) (x : Mail) (hr1 : InC w A1 c1 x.inst.cmd.data) (hr2 : InR w A2 c2 x.inst.deps) (hr3 : InE w A3 c3 x.entries) (ht : x.text.size ≤ 9223372036854775807) :
    Calls Try.prog 10 #[.agg #[.int .i64 x.kind, .int .i64 x.mfrom, .int .i64 x.mto, .int .i64 x.shard, .int .i64 x.inst.lead, .int .i64 x.inst.index, .int .i64 x.inst.bn, .int .i64 x.inst.bnode, .int .i64 x.inst.vn, .int .i64 x.inst.vnode, .int .i64 x.inst.status, .bool x.inst.same, .int .i64 x.inst.cmd.op, .int .i64 x.inst.cmd.client, .int .i64 x.inst.cmd.seq, .int .i64 x.inst.cmd.cfrom, .int .i64 x.inst.cmd.cto, .slice A1 x.inst.cmd.data.length c1, .int .i64 x.inst.iseq, .slice A2 x.inst.deps.length c2, .bool x.ok, .int .i64 x.term, .int .i64 x.mindex, .int .i64 x.past, .int .i64 x.commit, .int .i64 x.epoch, .slice A3 x.entries.length c3, .string x.text]] w fun e w' => ∃ b, e = .returned (.bool b) ∧ Hid (b = true → LightOk x) ∧ Below w.heap.size w w' := by
  obtain ⟨r, hr, hq⟩ := light15_l0 x.kind x.mfrom x.mto x.shard x.inst.lead x.inst.index x.inst.bn x.inst.bnode x.inst.vn x.inst.vnode x.inst.status x.inst.same x.inst.cmd.op x.inst.cmd.client x.inst.cmd.seq x.inst.cmd.cfrom x.inst.cmd.cto x.inst.cmd.data x.inst.iseq x.inst.deps x.ok x.term x.mindex x.past x.commit x.epoch x.entries x.text x.entries.length (x.entries.length + x.inst.cmd.data.length + 2) 0 x.text.size (by omega) (by omega) (by omega) ht
  refine (lamellalaw15_light.calls (x.entries.length + x.inst.cmd.data.length + 2) _ _ _ _ _ _ _ _ _ _ _ _ _ _ _ _ _ _ _ _ _ _ _ _ _ _ _ _ _ _ _ _ _ _ r w hr1.1 hr1.2 hr2.1 hr2.2 hr3.1 hr3.2 hr).mono fun e w' h => ⟨r, h.1, Lib.hid fun h2 => ?_, h.2⟩
  obtain ⟨q1, q2, q3⟩ := hq h2
  rw [List.drop_zero] at q2
  exact ⟨q3, q1, q2⟩

end Go.Proofs.Ytneebjlpeekmbaa
