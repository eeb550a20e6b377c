/- A council of one: New; the example of the document holds (lives). Conditions: as told. A council of one: the example of the document holds (lives). No conditions. The example of the document holds (lives). No conditions. -/
import Derived.Test.YtfanbhbpmhojaaaCoD
namespace Go.Proofs.Ytfanbhbpmhojaaa
open Go.RowKit Go.Proofs.YtfanbhbpmhojaaaW.PrintWords Go.Proofs.YtfanbhbpmhojaaaW.PrintLast Go.Proofs.YtfanbhbpmhojaaaW.PrintMore PRef
attribute [local go_sem] max2_int min2_int max_two min_two
set_option linter.unusedVariables false
set_option linter.unusedSimpArgs false

/-- A new council, some ticks old. -/
def St.new (self : Int) (text : ByteArray) (clock : Int) : St :=
  { self := self, term := 0, vote := -1, bidx := 0, bterm := 0, bvot := text, btext := ⟨#[]⟩, A := none, cap := 0, log := [], role := 0, leader := -1, commit := 0, told := 0, clock := clock, vs := fun _ => false, nx := fun _ => 0, mt := fun _ => 0, keep := false, mA := none, mN := 0, mC := 0, nA := none, nN := 0, nC := 0 }
theorem new_tick (self : Int) (text : ByteArray) (c : Int) : (St.new self text c).tick.quit = St.new self text (c + 1) := rfl
theorem isNode_f (a : Int) (h0 : 0 ≤ a) (h7 : a < 7) : council_isNode.f a = some true := by
  unfold council_isNode.f
  rw [if_pos (by omega), decide_eq_true h7]

set_option maxRecDepth 100000 in
set_option maxHeartbeats 2000000 in
theorem new_calls {w : World} {A : Option Addr} {c : Nat} {l : List Int} (self : Int) (n : Nat) (text : ByteArray) (hr : Kd.C (Kd.int .i64) w A l.length l) (hc : l.length ≤ c) (hf : council_textOf.f n l = some text) (hv : 0 < (votV text).length) (hs : text.size ≤ 9223372036854775807) (h0 : 0 ≤ self) (h7 : self < 7) :
    Calls Try.prog 10 #[.int .i64 self, .slice A l.length c] w fun e w' => ∃ g, e = .returned (.tuple #[.pointer (some ⟨g, 0, none⟩), .int .i64 0]) ∧ w.heap.size ≤ g ∧ Co w' g (St.new self text 0) ∧ Below w.heap.size w w' := by
  have HR := Lib.hid hr
  have HTX := Lib.hid (council_textOf.calls n A c l text w hr hc hf)
  have hvd : decide (0 < (votV text).length) = true := decide_eq_true hv
  have HV := fun W => Lib.hid (voters_calls text W hs)
  have HN := fun W => Lib.hid (council_isNode.calls self true W (isNode_f self h0 h7))
  rw [hvd] at HV
  have HS := Lib.hid hs
  clear hr hc hf hv hvd hs
  go_enter Try.func10, Try.ntmps10
  go_wp2_with (first | ((with_reducible refine HTX.out.mono ?_); rintro e w1 ⟨rfl, hb⟩; have HB1 := Lib.hid hb; clear hb) | ((with_reducible refine (HV _).out.mono ?_); rintro e w2 ⟨v, rfl, ho, hb⟩; have HB2 := Lib.hid (HB1.out.trans (hb.mono HB1.out.size)); clear ho hb) | ((with_reducible refine (HN _).out.mono ?_); rintro e w3 ⟨rfl, hb⟩; have HB3 := Lib.hid (HB2.out.trans (hb.below.mono HB2.out.size)); clear hb))
  go_ret2
  refine ⟨w3.heap.size, rfl, HB3.out.size, ?_, HB3.out.trans (((Below.refl w3.heap.size w3).alloc (Nat.le_refl _) _).mono HB3.out.size)⟩
  exact ⟨blk_new w3 _, ⟨rfl, by show (0 : Nat) ≤ _; omega, fun hp => absurd hp (Nat.lt_irrefl 0)⟩, Nat.le_refl 0, (fun ad hA => by cases hA), by show (0 : Nat) ≤ 4096; omega, by show (0 : Int) ≤ 0; omega, by show (0 : Int) ≤ _; omega, (fun x hx => by cases hx), HS.out⟩

/-- A voter alone that leads, in term 1, with all told up to t. -/
structure Led (S : St) (t : Int) : Prop where
  lone : Lone S
  role : S.role = 2
  term : S.term = 1
  com : S.commit = t
  told : S.told = t
  last : S.bidx + S.log.length = t
  at1 : atV S t = 1
  news : S.nA = none ∧ S.nN = 0 ∧ S.nC = 0
  lo : 0 ≤ S.bidx

theorem Led.fit {S : St} {t : Int} (h : Led S t) (ht : t < 4096) (k : Int) (s : ByteArray) (hk : k ≠ 2) (hs : s.size ≤ 9223372036854775807) : Fit S ⟨S.term, k, s⟩ :=
  ⟨h.lone, h.role, rfl, hk, h.com.trans h.last.symm, h.told.trans h.last.symm, by have := h.last; have := h.lo; omega, h.news, hs⟩
theorem Led.put {S : St} {t : Int} (h : Led S t) (k : Int) (s : ByteArray) (hk : k ≠ 2) (A1 : Option Addr) (c1 : Nat) (A : Option Addr) (c : Nat) : Led (S.put ⟨S.term, k, s⟩ A1 c1 A c).quit (t + 1) := by
  have hl := h.last
  have hlen : (S.log ++ [(⟨S.term, k, s⟩ : S39)]).length = S.log.length + 1 := by simp
  refine ⟨⟨h.lone.s0, h.lone.s7, h.lone.bv, ?_⟩, h.role, h.term, ?_, ?_, ?_, ?_, ⟨rfl, rfl, rfl⟩, h.lo⟩
  · intro y hy
    rcases List.mem_append.1 hy with hy | hy
    · exact h.lone.ks y hy
    · rw [List.mem_singleton.1 hy]; exact hk
  · show S.bidx + S.log.length + 1 = t + 1; rw [hl]
  · show S.bidx + S.log.length + 1 = t + 1; rw [hl]
  · show S.bidx + ((S.log ++ [(⟨S.term, k, s⟩ : S39)]).length : Nat) = t + 1
    rw [hlen]; omega
  · unfold atV
    show (if t + 1 = S.bidx then S.bterm else if t + 1 < S.bidx ∨ S.bidx + ((S.log ++ [(⟨S.term, k, s⟩ : S39)]).length : Nat) < t + 1 then -1 else ((S.log ++ [(⟨S.term, k, s⟩ : S39)]).getD (t + 1 - S.bidx - 1).toNat z39).f0) = 1
    rw [hlen, if_neg (by omega), if_neg (by omega), show (t + 1 - S.bidx - 1).toNat = S.log.length from by omega]
    rw [List.getD_eq_getElem?_getD, List.getElem?_append_right (Nat.le_refl _), Nat.sub_self]
    exact h.term
theorem Led.cut {S : St} {t : Int} (h : Led S t) (k : Nat) (s : ByteArray) (hk : k < S.log.length) (A2 : Option Addr) (c2 : Nat) : Led (S.cut (S.bidx + k) s k A2 c2).quit t := by
  have hl := h.last
  have h1 := h.at1
  have hdl : (S.log.drop k).length = S.log.length - k := List.length_drop
  refine ⟨⟨h.lone.s0, h.lone.s7, ?_, ?_⟩, h.role, h.term, h.com, h.told, ?_, ?_, ⟨rfl, rfl, rfl⟩, ?_⟩
  · show votV (votersAtV S (S.bidx + k)) = [S.self]
    rw [h.lone.at_]; exact h.lone.bv
  · intro y hy
    exact h.lone.ks y (List.mem_of_mem_drop hy)
  · show S.bidx + k + ((S.log.drop k).length : Nat) = t
    rw [hdl]; omega
  · unfold atV at h1 ⊢
    show (if t = S.bidx + k then atV S (S.bidx + k) else if t < S.bidx + k ∨ S.bidx + k + ((S.log.drop k).length : Nat) < t then -1 else ((S.log.drop k).getD (t - (S.bidx + k) - 1).toNat z39).f0) = 1
    rw [if_neg (by omega), if_neg (by omega)] at h1
    rw [hdl, if_neg (by omega), if_neg (by omega)]
    refine Eq.trans ?_ h1
    rw [List.getD_eq_getElem?_getD, List.getD_eq_getElem?_getD, List.getElem?_drop, show k + (t - (S.bidx + k) - 1).toNat = (t - S.bidx - 1).toNat from by omega]
  · have := h.lo
    show 0 ≤ S.bidx + (k : Int)
    omega
theorem near_new (self : Int) (text : ByteArray) (c : Int) (h0 : 0 ≤ self) (h7 : self < 7) (hv : votV text = [self]) : Near (St.new self text c) :=
  ⟨⟨h0, h7, hv, fun x hx => by cases hx⟩, rfl, rfl, by show (0 : Nat) < 4096; omega, ⟨rfl, rfl, rfl⟩⟩
theorem led_new (self : Int) (text : ByteArray) (c : Int) (h0 : 0 ≤ self) (h7 : self < 7) (hv : votV text = [self]) (j : Nat) (nx mt : Nat → Int) (A1 : Option Addr) (c1 : Nat) (A : Option Addr) (c2 : Nat) :
    Led (((((St.new self text c).tick.asks j).lead nx mt).put (zeroEnt ((St.new self text c).term + 1)) A1 c1 A c2).quit) 1 :=
  ⟨⟨h0, h7, hv, fun x hx => by
      have : x = zeroEnt ((St.new self text c).term + 1) := by
        have h : x ∈ ([] : List S39) ++ [zeroEnt ((St.new self text c).term + 1)] := hx
        simpa using h
      rw [this]; show (0 : Int) ≠ 2; omega⟩, rfl, rfl, rfl, rfl, rfl, rfl, ⟨rfl, rfl, rfl⟩, Int.le_refl 0⟩

end Go.Proofs.Ytfanbhbpmhojaaa

namespace Go.Proofs.Ytfanbhbpmhojaaa
open Go.RowKit Go.Proofs.YtfanbhbpmhojaaaW.PrintWords Go.Proofs.YtfanbhbpmhojaaaW.PrintLast Go.Proofs.YtfanbhbpmhojaaaW.PrintMore PRef
attribute [local go_sem] max2_int min2_int max_two min_two
set_option linter.unusedVariables false
set_option linter.unusedSimpArgs false

theorem cell_off {w : World} {ad : Addr} {n : Nat} {v : Value} (h : w.cell? (ad.add (0 * 5 + n)) = some v) : w.cell? ⟨ad.block, ad.off + n, none⟩ = some v := by
  rw [Nat.zero_mul, Nat.zero_add] at h
  unfold Addr.add at h
  split at h
  · rename_i h0
    subst h0
    obtain ⟨b, o, s⟩ := ad
    cases s with
    | none => simpa using h
    | some s => simp [World.cell?] at h; split at h <;> simp_all
  · exact h
theorem NewsAt.cells {w0 w : World} {g : Nat} {A : Option Addr} {c : Nat} {i : Int} {x : S39} (h : NewsAt w0 g w A c i x) :
    ∃ ad, A = some ad ∧ w.cell? ad = some (.int .i64 i) ∧ w.cell? ⟨ad.block, ad.off + 3, none⟩ = some (.string x.f2) ∧ w.cell? ⟨ad.block, ad.off + 4, none⟩ = some (.bool false) := by
  have hr : Reps (fun (_ : Unit) (cs : List Value) => cs = [.int .i64 i, .int .i64 x.f0, .int .i64 x.f1, .string x.f2, .bool false]) 5 [()] [.int .i64 i, .int .i64 x.f0, .int .i64 x.f1, .string x.f2, .bool false] :=
    ⟨rfl, fun j p hj => by
      have h0 : j = 0 := by
        have := (List.getElem?_eq_some_iff.1 hj).1
        simpa using this
      subst h0
      rfl⟩
  obtain ⟨A', c', he, hrd⟩ := own_reads_row h hr rfl
  cases he
  obtain ⟨ad, hA, hc⟩ := hrd.2.2 (by omega)
  obtain ⟨cs, _, rfl, hu⟩ := hc 0 () rfl
  refine ⟨ad, hA, ?_, ?_, ?_⟩
  · have := hu 0 _ rfl
    rw [← Addr.add_zero' ad]; exact this
  · exact (cell_off (hu 3 _ rfl))
  · exact (cell_off (hu 4 _ rfl))

/-- One tick of a new council of one that waits. -/
theorem tick_new {w : World} {g : Nat} {self : Int} {text : ByteArray} {c : Int} (h : Co w g (St.new self text c)) (h0 : 0 ≤ self) (h7 : self < 7) (hc0 : 0 ≤ c) (hc : c + 1 < 10 + 3 * self) :
    Calls Try.prog 12 #[.pointer (some ⟨g, 0, none⟩)] w fun e w' => e = .returned (.agg #[.bool false, .slice none 0 0, .slice none 0 0]) ∧ Co w' g (St.new self text (c + 1)) ∧ Chg (fun k => k = g) w w' :=
  tick_wait h rfl h0 h7 hc0 hc
/-- The tick by which it comes to lead. -/
theorem tick_lead {w : World} {g : Nat} {self : Int} {text : ByteArray} {c : Int} (j : Nat) (hj : self = j) (hv : votV text = [self]) (h : Co w g (St.new self text c)) (h0 : 0 ≤ self) (h7 : self < 7) (hc0 : 0 ≤ c) (hc9 : c ≤ 1000) (hc : 10 + 3 * self ≤ c + 1) :
    Calls Try.prog 12 #[.pointer (some ⟨g, 0, none⟩)] w fun e w' => ∃ A cA S, e = .returned (.agg #[.bool true, .slice none 0 0, .slice A 1 cA]) ∧ S.self = self ∧ Led S 1 ∧ S.bidx = 0 ∧ Co w' g S ∧ Chg (fun k => k = g) w w' := by
  refine (tick_elect j hj h (near_new self text c h0 h7 hv) rfl hc0 (by show c ≤ _; omega) hc (Int.le_refl 0) (by show (0 : Int) < _; omega)).mono ?_
  rintro e w' ⟨nx, mt, A1, c1, A, cA, he, hco, hch, hnw⟩
  exact ⟨A, cA, _, he, rfl, led_new self text c h0 h7 hv j nx mt A1 c1 A cA, rfl, hco, hch⟩
/-- An entry of kind 1 is offered to it. -/
theorem offer_led {w : World} {g : Nat} {S : St} {t : Int} (h : Co w g S) (hl : Led S t) (ht : t < 4096) (s : ByteArray) (hs : s.size ≤ 4096) :
    Calls Try.prog 11 #[.pointer (some ⟨g, 0, none⟩), .int .i64 1, .string s] w fun e w' => ∃ A cA S', e = .returned (.tuple #[.agg #[.bool true, .slice S.mA S.mN S.mC, .slice A 1 cA], .int .i64 0]) ∧ S'.self = S.self ∧ Led S' (t + 1) ∧ S'.bidx = S.bidx ∧ Co w' g S' ∧ Chg (fun k => k = g) w w' ∧ NewsAt w g w' A cA (t + 1) ⟨S.term, 1, s⟩ := by
  have hie : isEnt ⟨S.term, 1, s⟩ := ⟨by show (0 : Int) ≤ 1; omega, by show (1 : Int) ≤ 2; omega, .inl (by show (1 : Int) ≠ 2; omega), hs⟩
  refine (offer_ok h (by rw [hl.role]; rfl) 1 s (by omega) hie (by omega) (hl.fit ht 1 s (by omega) (by omega))).mono ?_
  rintro e w' ⟨A1, c1, A, cA, he, hco, hch, hnw⟩
  refine ⟨A, cA, (S.put ⟨S.term, 1, s⟩ A1 c1 A cA).quit, he, rfl, hl.put 1 s (by omega) A1 c1 A cA, rfl, hco, hch, ?_⟩
  rw [hl.last] at hnw
  exact hnw
theorem text0 : council_textOf.f 2 [0] = some ⟨#[0]⟩ := by decide +kernel
theorem text3 : council_textOf.f 2 [3] = some ⟨#[3]⟩ := by decide +kernel
theorem vot0 : votV ⟨#[0]⟩ = [0] := by decide +kernel
theorem vot3 : votV ⟨#[3]⟩ = [3] := by decide +kernel
/-- A row of one number, just laid. -/
theorem lit1 (w : World) (n : Int) : Kd.C (Kd.int .i64) (w.alloc (.cells #[.int .i64 n] 3)) (some ⟨w.heap.size, 0, none⟩) [n].length [n] := by
  refine ⟨rfl, by show (1 : Nat) ≤ _; omega, fun _ => ⟨_, rfl, fun j p hj => ?_⟩⟩
  have h0 : j = 0 := by
    have := (List.getElem?_eq_some_iff.1 hj).1
    simpa using this
  subst h0
  cases hj
  refine ⟨[.int .i64 n], rfl, rfl, fun i u hi => ?_⟩
  have h1 : i = 0 := by
    have := (List.getElem?_eq_some_iff.1 hi).1
    simpa using this
  subst h1
  cases hi
  rw [Addr.add_lit, blk_cell (blk_new w _)]
  rfl
/-- A new council of one. -/
theorem new_one (w : World) (self : Int) (text : ByteArray) (hf : council_textOf.f 2 [self] = some text) (hv : votV text = [self]) (hs : text.size ≤ 9223372036854775807) (h0 : 0 ≤ self) (h7 : self < 7) :
    Calls Try.prog 10 #[.int .i64 self, .slice (some ⟨w.heap.size, 0, none⟩) 1 1] (w.alloc (.cells #[.int .i64 self] 3)) fun e w' => ∃ g, e = .returned (.tuple #[.pointer (some ⟨g, 0, none⟩), .int .i64 0]) ∧ w.heap.size ≤ g ∧ Co w' g (St.new self text 0) ∧ Below w.heap.size w w' := by
  have hb0 := (Below.refl w.heap.size w).alloc (Nat.le_refl _) (.cells #[.int .i64 self] 3)
  refine (new_calls (c := 1) self 2 text (lit1 w self) (Nat.le_refl 1) hf (by rw [hv]; exact Nat.one_pos) hs h0 h7).mono ?_
  rintro e w' ⟨g, he, hg, hco, hb⟩
  exact ⟨g, he, Nat.le_trans hb0.size hg, hco, hb0.trans (hb.mono hb0.size)⟩

end Go.Proofs.Ytfanbhbpmhojaaa

namespace Go.Proofs.Ytfanbhbpmhojaaa
open Go.RowKit Go.Proofs.YtfanbhbpmhojaaaW.PrintWords Go.Proofs.YtfanbhbpmhojaaaW.PrintLast Go.Proofs.YtfanbhbpmhojaaaW.PrintMore PRef
attribute [local go_sem] max2_int min2_int max_two min_two
set_option linter.unusedVariables false
set_option linter.unusedSimpArgs false

theorem wpList_field32 {ops : Array Oper} {rest : List Oper} {o : Oper} {a : Act} {w : World} {Q : Exit → Act → World → Prop} (hgd : o.guard = none) (x : Operand) (ho : o.op = .field 32 x 2) (u0 u1 : Value) (A : Option Addr) (n c : Nat) (hx : a.eval x = .agg #[u0, u1, .slice A n c])
    (h : wpList Try.prog ops Q rest (a.put o.dst (.slice A n c)) w) : wpList Try.prog ops Q (o :: rest) a w := by
  refine wpList_plain hgd fun K hK => ?_
  have hu := Try.underlying32
  have hu30 := Try.underlying30
  have hrun : (execOp a.eval o).run Try.prog w = .ok (.value (.slice A n c)) w := by
    unfold execOp
    simp only [ho, hx]
    simp [Instr.field, Sem.run_bind, run_underlying hu, Result.andThen, asAgg, part, isAgg, run_underlying hu30]
  unfold Oper.wp
  rw [hrun]
  exact hK _ _ h

set_option maxRecDepth 100000 in
set_option maxHeartbeats 4000000 in
theorem lives_calls (w : World) : Calls Try.prog 15 #[] w fun e w' => e = .returned (.bool true) ∧ Below w.heap.size w w' := by
  have HNW := Lib.hid (new_one w 0 ⟨#[0]⟩ text0 vot0 (by decide) (by omega) (by omega))
  go_enter Try.func15, Try.ntmps15
  go_wp2_with ((with_reducible refine HNW.out.mono ?_); rintro e w1 ⟨g, rfl, hg, hco, hb⟩; have HC1 := Lib.hid hco; have HB1 := Lib.hid hb; have hgw := hg; clear hco hb hg)
  have hbel : Hid (∀ w1 w2, Chg (fun k => k = g) w1 w2 → Below w.heap.size w w1 → Below w.heap.size w w2) := Lib.hid (fun w1 w2 hc hb => hb.trans (hc.below hb.size (fun i hi hk => by omega)))
  go_loopw [3, 13] (fun vt vi wr => (∃ i : Nat, i ≤ 9 ∧ vt = .int .i64 0 ∧ vi = .int .i64 i ∧ Hid (Co wr g (St.new 0 ⟨#[0]⟩ i) ∧ Below w.heap.size w wr)) ∨ (vt = .int .i64 1 ∧ vi = .int .i64 10 ∧ ∃ S, Hid (Led S 1 ∧ Co wr g S ∧ Below w.heap.size w wr))) (fun _ vi _ => 10 - (intOf vi).toNat)
  case atStart => exact .inl ⟨0, by omega, rfl, rfl, Lib.hid ⟨HC1.out, HB1.out⟩⟩
  case round =>
  rcases hrel with ⟨i, hi, rfl, rfl, HR⟩ | ⟨rfl, rfl, S, HR⟩
  · by_cases h9 : i < 9
    · have HT := Lib.hid (tick_new HR.out.1 (by omega) (by omega) (by omega) (by omega))
      have hlt : decide ((i : Int) < 10) = true := decide_eq_true (by omega)
      go_wp2_with (first | (refine wpList_field32 rfl (.tmp 17) rfl _ _ _ _ _ rfl ?_) | ((with_reducible refine HT.out.mono ?_); rintro e w2 ⟨rfl, hco, hch⟩; have HC2 := Lib.hid hco; have HB2 := Lib.hid (hbel.out _ _ hch HR.out.2); clear hco hch))
      go_roundw
      case measure => first | (simp [intOf]; done) | (simp [intOf]; omega)
      case rel => exact .inl ⟨i + 1, by omega, by go_num, by go_num, Lib.hid ⟨by have := HC2.out; rw [show ((i + 1 : Nat) : Int) = (i : Int) + 1 from by omega]; exact this, HB2.out⟩⟩
    · have HT := Lib.hid (tick_lead 0 rfl vot0 HR.out.1 (by omega) (by omega) (by omega) (by omega) (by omega))
      have hlt : decide ((i : Int) < 10) = true := decide_eq_true (by omega)
      have hi9 : i = 9 := by omega
      go_wp2_with (first | (refine wpList_field32 rfl (.tmp 17) rfl _ _ _ _ _ rfl ?_) | ((with_reducible refine HT.out.mono ?_); rintro e w2 ⟨A, cA, S, rfl, hself, hled, hbi, hco, hch⟩; have HC2 := Lib.hid hco; have HL2 := Lib.hid hled; have HB2 := Lib.hid (hbel.out _ _ hch HR.out.2); clear hco hch hled hself hbi))
      go_roundw
      case measure => first | (simp [intOf]; done) | (simp [intOf]; omega)
      case rel => exact .inr ⟨by go_num, by first | (subst hi9; rfl) | go_num, S, Lib.hid ⟨HL2.out, HC2.out, HB2.out⟩⟩
  · have HO := Lib.hid (offer_led HR.out.2.1 HR.out.1 (by omega) ⟨#[97]⟩ (by decide))
    go_upto_region 10 with ((with_reducible refine HO.out.mono ?_); rintro e w2 ⟨A, cA, S2, rfl, hself, hled, hbi, hco, hch, hnw⟩; have HC2 := Lib.hid hco; have HL2 := Lib.hid hled; have HB2 := Lib.hid (hbel.out _ _ hch HR.out.2.2); have HN2 := Lib.hid hnw; clear hco hch hled hself hbi hnw)
    have hb3 := (Below.refl w2.heap.size w2).alloc (Nat.le_refl _) (.cells #[.bool true, .slice S.mA S.mN S.mC, .slice A 1 cA] 32)
    have hk3 := blk_new w2 (.cells #[.bool true, .slice S.mA S.mN S.mC, .slice A 1 cA] 32)
    generalize w2.alloc (.cells #[.bool true, .slice S.mA S.mN S.mC, .slice A 1 cA] 32) = w3 at hb3 hk3 ⊢
    have HB3 := Lib.hid (HB2.out.trans (hb3.mono HB2.out.size))
    have HC3 := Lib.hid (HC2.out.below hb3)
    obtain ⟨ad, hA, hn0, hn3, hn4⟩ := (HN2.out.below hb3).cells
    subst hA
    have m0 : w3.cell? ⟨w2.heap.size, 0, none⟩ = some (.bool true) := by rw [blk_cell hk3]; rfl
    have m2 : w3.cell? ⟨w2.heap.size, 2, none⟩ = some (.slice (some ad) 1 cA) := by rw [blk_cell hk3]; rfl
    have HLD : Hid (Calls Try.prog 13 #[.pointer (some ⟨g, 0, none⟩)] w3 fun e w' => e = .returned (.bool true) ∧ w3 = w') := Lib.hid (by
      have := leads_calls HC3.out
      rw [HL2.out.role] at this
      exact this)
    have HTD : Hid (Calls Try.prog 14 #[.pointer (some ⟨g, 0, none⟩)] w3 fun e w' => e = .returned (.int .i64 2) ∧ w3 = w') := Lib.hid (by
      have := told_calls HC3.out
      rw [HL2.out.told] at this
      exact this)
    clear hb3 hk3 hn0 hn4
    go_wp2_with (first | ((with_reducible refine HLD.out.mono ?_); rintro e w4 ⟨rfl, rfl⟩) | ((with_reducible refine HTD.out.mono ?_); rintro e w5 ⟨rfl, rfl⟩))
    go_ret
    exact ⟨by rfl, HB3.out⟩

end Go.Proofs.Ytfanbhbpmhojaaa
