/- The word of a kind of mail: a map that the call makes, and looks up. Conditions: the kind's range. -/
import Derived.Test.YtneebjlpeekmbaaBase
import Derived.Maps.OwnOps
namespace Go.Proofs.Ytneebjlpeekmbaa
open Go.RowKit Go.Proofs.YtneebjlpeekmbaaW.PrintWords
open Go.ChangeMaps (setBlock heap_setBlock_same heap_setBlock_other)
set_option linter.unusedVariables false
set_option linter.unusedSimpArgs false

/-- A map's entries, in the order in which they came. -/
def ents : Nat → List (Int × ByteArray) → List MapEntry
  | _, [] => []
  | i, p :: r => ⟨.int .i64 p.1, .string p.2, i⟩ :: ents (i + 1) r
theorem ents_snoc : ∀ (l : List (Int × ByteArray)) (i : Nat) (p : Int × ByteArray), ents i (l ++ [p]) = ents i l ++ [⟨.int .i64 p.1, .string p.2, i + l.length⟩]
  | [], i, p => rfl
  | a :: l, i, p => by
    show _ :: ents (i + 1) (l ++ [p]) = _
    rw [ents_snoc l (i + 1) p, List.length_cons, Nat.add_right_comm i 1 l.length]
    rfl
def MapAt (w : World) (b : Nat) (l : List (Int × ByteArray)) : Prop := w.heap[b]? = some (.map (ents 0 l).toArray l.length)

theorem findNow_none (k : Int) : ∀ (l : List (Int × ByteArray)) (i j : Nat), (∀ p ∈ l, p.1 ≠ k) → Instr.findNow (.int .i64) (.int .i64 k) (ents i l) j = some none
  | [], i, j, _ => rfl
  | p :: l, i, j, h => by
    have h1 := h p (by simp)
    have h2 : (k == p.1) = false := by rw [beq_eq_false_iff_ne]; exact fun e => h1 e.symm
    show (match Instr.sameNow (.int .i64) (.int .i64 k) (.int .i64 p.1) with | some true => _ | some false => Instr.findNow (.int .i64) (.int .i64 k) (ents (i + 1) l) (j + 1) | none => _) = _
    simp only [Instr.sameNow, if_true, h2]
    exact findNow_none k l _ _ (fun q hq => h q (by simp [hq]))
theorem findNow_some (k : Int) : ∀ (l : List (Int × ByteArray)) (i j : Nat), ∃ r, Instr.findNow (.int .i64) (.int .i64 k) (ents i l) j = some r ∧ r.map Prod.snd = (l.find? (fun p => p.1 == k)).map (fun p => Value.string p.2)
  | [], i, j => ⟨none, rfl, rfl⟩
  | p :: l, i, j => by
    show ∃ r, (match Instr.sameNow (.int .i64) (.int .i64 k) (.int .i64 p.1) with | some true => some (some (j, Value.string p.2)) | some false => Instr.findNow (.int .i64) (.int .i64 k) (ents (i + 1) l) (j + 1) | none => none) = some r ∧ _
    by_cases h : p.1 = k
    · have h2 : (k == p.1) = true := by rw [beq_iff_eq]; exact h.symm
      have h3 : (p.1 == k) = true := by rw [beq_iff_eq]; exact h
      simp only [Instr.sameNow, if_true, h2]
      exact ⟨_, rfl, by simp [List.find?_cons, h3]⟩
    · have h2 : (k == p.1) = false := by rw [beq_eq_false_iff_ne]; exact fun e => h e.symm
      have h3 : (p.1 == k) = false := by rw [beq_eq_false_iff_ne]; exact h
      simp only [Instr.sameNow, if_true, h2]
      obtain ⟨r, hr, hm⟩ := findNow_some k l (i + 1) (j + 1)
      exact ⟨r, hr, by rw [List.find?_cons, h3]; exact hm⟩

theorem run_findKey_int {w : World} (k : Int) (es : List MapEntry) (r : Option (Nat × Value)) (h : Instr.findNow (.int .i64) (.int .i64 k) es 0 = some r) : (Instr.findKey 3 (.int .i64 k) es).run Try.prog w = .ok r w := by
  simp [Instr.findKey, run_underlying Try.underlying3, h, Result.andThen]
theorem run_check_int (w : World) (e : Bool) (k : Int) : (Instr.checkKey e 10000 3 (.int .i64 k)).run Try.prog w = .ok () w := by
  exact MapKept.run_checkKey Try.underlying3 (by simp [MapKept.IsKey]) e 9999

theorem map_insert {w : World} {b : Nat} {l : List (Int × ByteArray)} (h : MapAt w b l) (k : Int) (v : ByteArray) (hk : ∀ p ∈ l, p.1 ≠ k) :
    ∃ w', (Instr.mapUpdate 99 (.map (some b)) (.int .i64 k) (.string v)).run Try.prog w = .ok () w' ∧ MapAt w' b (l ++ [(k, v)]) ∧ w.grownBy w' (some b) := by
  have h1 := run_findKey_int (w := w) k (ents 0 l) none (findNow_none k l 0 0 hk)
  refine ⟨setBlock w b (.map ((ents 0 l).toArray.push ⟨.int .i64 k, .string v, l.length⟩) (l.length + 1)), ?_, ?_, ⟨rfl, rfl, rfl, by simp [setBlock], fun i _ hi => heap_setBlock_other h _ (fun e => hi (by rw [e]))⟩⟩
  · simp [Instr.mapUpdate, run_underlying Try.underlying99, MapKept.run_getObj_map h, run_check_int w false k, h1, MapKept.run_setObj_map _ h, Result.andThen, setBlock]
  · unfold MapAt
    rw [heap_setBlock_same h, ents_snoc, List.length_append]
    simp
set_option maxRecDepth 100000 in
theorem map_look {w : World} {b : Nat} {l : List (Int × ByteArray)} (h : MapAt w b l) (k : Int) :
    (Instr.lookup 99 (.map (some b)) (.int .i64 k) false).run Try.prog w = .ok (.string (((l.find? (fun p => p.1 == k)).map Prod.snd).getD ⟨#[]⟩)) w := by
  obtain ⟨r, hr, hm⟩ := findNow_some k l 0 0
  have h1 := run_findKey_int (w := w) k (ents 0 l) r hr
  have hz : (zeroValue 9).run Try.prog w = .ok (.string ⟨#[]⟩) w := by kernel_rfl
  cases hf : l.find? (fun p => p.1 == k) with
  | none =>
    rw [hf] at hm
    cases r with
    | some x => cases hm
    | none => simp [Instr.lookup, run_underlying Try.underlying99, MapKept.run_getObj_map h, run_check_int w _ k, h1, hz, Result.andThen]
  | some p =>
    rw [hf] at hm
    cases r with
    | none => cases hm
    | some x =>
      obtain ⟨j, y⟩ := x
      injection hm with hm
      simp only at hm
      subst hm
      simp [Instr.lookup, run_underlying Try.underlying99, MapKept.run_getObj_map h, run_check_int w _ k, h1, hz, Result.andThen]

theorem wpList_map_insert (w : World) {ops : Array Oper} {rest : List Oper} {o : Oper} {a : Act} {Q : Exit → Act → World → Prop}
    (hg : o.guard = none) (m x v : Operand) (hop : o.op = Op.insert 99 m x v) (b : Nat) (l : List (Int × ByteArray)) (k : Int) (s : ByteArray)
    (hm : a.eval m = .map (some b)) (hx : a.eval x = .int .i64 k) (hv : a.eval v = .string s) (h : MapAt w b l) (hk : ∀ p ∈ l, p.1 ≠ k)
    (hK : ∀ w', MapAt w' b (l ++ [(k, s)]) → w.grownBy w' (some b) → wpList Try.prog ops Q rest (a.put o.dst undef) w') :
    wpList Try.prog ops Q (o :: rest) a w := by
  refine wpList_plain hg fun K' hK' => ?_
  obtain ⟨w', hrun, r1, r2⟩ := map_insert h k s hk
  unfold Oper.wp
  simp [execOp, hop, hm, hx, hv, hrun, Result.andThen]
  exact hK' _ _ (hK w' r1 r2)
theorem wpList_map_look (w : World) {ops : Array Oper} {rest : List Oper} {o : Oper} {a : Act} {Q : Exit → Act → World → Prop}
    (hg : o.guard = none) (m x : Operand) (hop : o.op = Op.lookup 99 m x false) (b : Nat) (l : List (Int × ByteArray)) (k : Int)
    (hm : a.eval m = .map (some b)) (hx : a.eval x = .int .i64 k) (h : MapAt w b l)
    (hK : wpList Try.prog ops Q rest (a.put o.dst (.string (((l.find? (fun p => p.1 == k)).map Prod.snd).getD ⟨#[]⟩))) w) :
    wpList Try.prog ops Q (o :: rest) a w := by
  refine wpList_plain hg fun K' hK' => ?_
  have hrun := map_look h k
  unfold Oper.wp
  simp [execOp, hop, hm, hx, hrun, Result.andThen]
  exact hK' _ _ hK

/-- The kinds and their words. -/
def kinds : List (Int × ByteArray) := [(1, ⟨#[112, 114, 101]⟩), (2, ⟨#[112, 114, 101, 111, 107]⟩), (3, ⟨#[116, 97, 107, 101]⟩), (4, ⟨#[116, 97, 107, 101, 111, 107]⟩), (5, ⟨#[99, 111, 109, 109, 105, 116]⟩), (6, ⟨#[97, 115, 107]⟩), (7, ⟨#[116, 101, 108, 108]⟩), (8, ⟨#[110, 111]⟩), (9, ⟨#[110, 101, 120, 116]⟩), (11, ⟨#[118, 111, 116, 101]⟩), (12, ⟨#[118, 111, 116, 101, 100]⟩), (13, ⟨#[97, 112, 112, 101, 110, 100]⟩), (14, ⟨#[97, 112, 112, 101, 110, 100, 101, 100]⟩), (15, ⟨#[115, 110, 97, 112]⟩), (16, ⟨#[115, 110, 97, 112, 112, 101, 100]⟩), (21, ⟨#[102, 101, 116, 99, 104]⟩), (22, ⟨#[115, 116, 97, 116, 101]⟩), (23, ⟨#[109, 97, 112]⟩), (24, ⟨#[105, 110, 115, 116, 97, 108, 108, 101, 100]⟩), (25, ⟨#[99, 104, 97, 110, 103, 101]⟩), (26, ⟨#[108, 111, 97, 100]⟩), (31, ⟨#[114, 101, 113, 117, 101, 115, 116]⟩), (32, ⟨#[114, 101, 112, 108, 121]⟩), (33, ⟨#[119, 114, 111, 110, 103]⟩)]
def kindWord (k : Int) : ByteArray := ((kinds.find? (fun p => p.1 == k)).map Prod.snd).getD ⟨#[]⟩

set_option maxRecDepth 100000 in
set_option maxHeartbeats 4000000 in
theorem kind_calls (k : Int) (w : World) :
    Calls Try.prog 21 #[.int .i64 k] w fun e w' => e = .returned (.string (kindWord k)) ∧ Below w.heap.size w w' := by
  have hmm := @run_makeMap Try.prog
  have HM : Hid (MapAt (w.alloc (.map #[] 0)) w.heap.size []) := Lib.hid (by exact (MapKept.heap_alloc w _).1)
  have HB := Lib.hid ((Below.refl w.heap.size w).alloc (Nat.le_refl _) (.map #[] 0))
  go_enter Try.func21, Try.ntmps21
  go_wp2_with (first | (refine wpList_map_insert _ rfl _ _ _ rfl w.heap.size _ _ _ rfl rfl rfl HM.out (by decide) ?_; intro w1 hm hg; have HMn := Lib.hid hm; have HBn := Lib.hid (HB.out.grown hg HB.out.size (fun k hk => by injection hk with hk; omega)); clear hm hg HM HB; have HM := HMn; have HB := HBn; clear HMn HBn) | (refine wpList_map_look _ rfl _ _ rfl w.heap.size _ k rfl rfl HM.out ?_))
  go_ret
  exact ⟨rfl, HB.out⟩

end Go.Proofs.Ytneebjlpeekmbaa
