/- A council of one: New; the example of the document holds (lives). Conditions: as told. -/
import Derived.Test.YtfanbhbpmhojaaaCoD
namespace Go.Proofs.Ytfanbhbpmhojaaa
open Go.RowKit Go.Proofs.YtfanbhbpmhojaaaW.PrintWords Go.Proofs.YtfanbhbpmhojaaaW.PrintLast Go.Proofs.YtfanbhbpmhojaaaW.PrintMore PRef
attribute [local go_sem] max2_int min2_int max_two min_two
set_option linter.unusedVariables false
set_option linter.unusedSimpArgs false

/-- A new council, some ticks old. -/
def St.new (self : Int) (text : ByteArray) (clock : Int) : St :=
  { self := self, term := 0, vote := -1, bidx := 0, bterm := 0, bvot := text, btext := ⟨#[]⟩, A := none, cap := 0, log := [], role := 0, leader := -1, commit := 0, told := 0, clock := clock, vs := fun _ => false, nx := fun _ => 0, mt := fun _ => 0, keep := false, mA := none, mN := 0, mC := 0, nA := none, nN := 0, nC := 0 }
theorem new_tick (self : Int) (text : ByteArray) (c : Int) : (St.new self text c).tick.quit = St.new self text (c + 1) := rfl
theorem isNode_f (a : Int) (h0 : 0 ≤ a) (h7 : a < 7) : council_isNode.f a = some true := by
  unfold council_isNode.f
  rw [if_pos (by omega), decide_eq_true h7]

set_option maxRecDepth 100000 in
set_option maxHeartbeats 2000000 in
theorem new_calls {w : World} {A : Option Addr} {c : Nat} {l : List Int} (self : Int) (n : Nat) (text : ByteArray) (hr : Kd.C (Kd.int .i64) w A l.length l) (hc : l.length ≤ c) (hf : council_textOf.f n l = some text) (hv : 0 < (votV text).length) (hs : text.size ≤ 9223372036854775807) (h0 : 0 ≤ self) (h7 : self < 7) :
    Calls Try.prog 10 #[.int .i64 self, .slice A l.length c] w fun e w' => ∃ g, e = .returned (.tuple #[.pointer (some ⟨g, 0, none⟩), .int .i64 0]) ∧ w.heap.size ≤ g ∧ Co w' g (St.new self text 0) ∧ Below w.heap.size w w' := by
  have HR := Lib.hid hr
  have HTX := Lib.hid (council_textOf.calls n A c l text w hr hc hf)
  have hvd : decide (0 < (votV text).length) = true := decide_eq_true hv
  have HV := fun W => Lib.hid (voters_calls text W hs)
  have HN := fun W => Lib.hid (council_isNode.calls self true W (isNode_f self h0 h7))
  rw [hvd] at HV
  have HS := Lib.hid hs
  clear hr hc hf hv hvd hs
  go_enter Try.func10, Try.ntmps10
  go_wp2_with (first | ((with_reducible refine HTX.out.mono ?_); rintro e w1 ⟨rfl, hb⟩; have HB1 := Lib.hid hb; clear hb) | ((with_reducible refine (HV _).out.mono ?_); rintro e w2 ⟨v, rfl, ho, hb⟩; have HB2 := Lib.hid (HB1.out.trans (hb.mono HB1.out.size)); clear ho hb) | ((with_reducible refine (HN _).out.mono ?_); rintro e w3 ⟨rfl, hb⟩; have HB3 := Lib.hid (HB2.out.trans (hb.below.mono HB2.out.size)); clear hb))
  go_ret2
  refine ⟨w3.heap.size, rfl, HB3.out.size, ?_, HB3.out.trans (((Below.refl w3.heap.size w3).alloc (Nat.le_refl _) _).mono HB3.out.size)⟩
  exact ⟨blk_new w3 _, ⟨rfl, by show (0 : Nat) ≤ _; omega, fun hp => absurd hp (Nat.lt_irrefl 0)⟩, Nat.le_refl 0, (fun ad hA => by cases hA), by show (0 : Nat) ≤ 4096; omega, by show (0 : Int) ≤ 0; omega, by show (0 : Int) ≤ _; omega, (fun x hx => by cases hx), HS.out⟩

/-- A voter alone that leads, in term 1, with all told up to t. -/
structure Led (S : St) (t : Int) : Prop where
  lone : Lone S
  role : S.role = 2
  term : S.term = 1
  com : S.commit = t
  told : S.told = t
  last : S.bidx + S.log.length = t
  at1 : atV S t = 1
  news : S.nA = none ∧ S.nN = 0 ∧ S.nC = 0
  lo : 0 ≤ S.bidx

theorem Led.fit {S : St} {t : Int} (h : Led S t) (ht : t < 4096) (k : Int) (s : ByteArray) (hk : k ≠ 2) (hs : s.size ≤ 9223372036854775807) : Fit S ⟨S.term, k, s⟩ :=
  ⟨h.lone, h.role, rfl, hk, h.com.trans h.last.symm, h.told.trans h.last.symm, by have := h.last; have := h.lo; omega, h.news, hs⟩
theorem Led.put {S : St} {t : Int} (h : Led S t) (k : Int) (s : ByteArray) (hk : k ≠ 2) (A1 : Option Addr) (c1 : Nat) (A : Option Addr) (c : Nat) : Led (S.put ⟨S.term, k, s⟩ A1 c1 A c).quit (t + 1) := by
  have hl := h.last
  have hlen : (S.log ++ [(⟨S.term, k, s⟩ : S39)]).length = S.log.length + 1 := by simp
  refine ⟨⟨h.lone.s0, h.lone.s7, h.lone.bv, ?_⟩, h.role, h.term, ?_, ?_, ?_, ?_, ⟨rfl, rfl, rfl⟩, h.lo⟩
  · intro y hy
    rcases List.mem_append.1 hy with hy | hy
    · exact h.lone.ks y hy
    · rw [List.mem_singleton.1 hy]; exact hk
  · show S.bidx + S.log.length + 1 = t + 1; rw [hl]
  · show S.bidx + S.log.length + 1 = t + 1; rw [hl]
  · show S.bidx + ((S.log ++ [(⟨S.term, k, s⟩ : S39)]).length : Nat) = t + 1
    rw [hlen]; omega
  · unfold atV
    show (if t + 1 = S.bidx then S.bterm else if t + 1 < S.bidx ∨ S.bidx + ((S.log ++ [(⟨S.term, k, s⟩ : S39)]).length : Nat) < t + 1 then -1 else ((S.log ++ [(⟨S.term, k, s⟩ : S39)]).getD (t + 1 - S.bidx - 1).toNat z39).f0) = 1
    rw [hlen, if_neg (by omega), if_neg (by omega), show (t + 1 - S.bidx - 1).toNat = S.log.length from by omega]
    rw [List.getD_eq_getElem?_getD, List.getElem?_append_right (Nat.le_refl _), Nat.sub_self]
    exact h.term
theorem Led.cut {S : St} {t : Int} (h : Led S t) (k : Nat) (s : ByteArray) (hk : k < S.log.length) (A2 : Option Addr) (c2 : Nat) : Led (S.cut (S.bidx + k) s k A2 c2).quit t := by
  have hl := h.last
  have h1 := h.at1
  have hdl : (S.log.drop k).length = S.log.length - k := List.length_drop
  refine ⟨⟨h.lone.s0, h.lone.s7, ?_, ?_⟩, h.role, h.term, h.com, h.told, ?_, ?_, ⟨rfl, rfl, rfl⟩, ?_⟩
  · show votV (votersAtV S (S.bidx + k)) = [S.self]
    rw [h.lone.at_]; exact h.lone.bv
  · intro y hy
    exact h.lone.ks y (List.mem_of_mem_drop hy)
  · show S.bidx + k + ((S.log.drop k).length : Nat) = t
    rw [hdl]; omega
  · unfold atV at h1 ⊢
    show (if t = S.bidx + k then atV S (S.bidx + k) else if t < S.bidx + k ∨ S.bidx + k + ((S.log.drop k).length : Nat) < t then -1 else ((S.log.drop k).getD (t - (S.bidx + k) - 1).toNat z39).f0) = 1
    rw [if_neg (by omega), if_neg (by omega)] at h1
    rw [hdl, if_neg (by omega), if_neg (by omega)]
    refine Eq.trans ?_ h1
    rw [List.getD_eq_getElem?_getD, List.getD_eq_getElem?_getD, List.getElem?_drop, show k + (t - (S.bidx + k) - 1).toNat = (t - S.bidx - 1).toNat from by omega]
  · have := h.lo
    show 0 ≤ S.bidx + (k : Int)
    omega
theorem near_new (self : Int) (text : ByteArray) (c : Int) (h0 : 0 ≤ self) (h7 : self < 7) (hv : votV text = [self]) : Near (St.new self text c) :=
  ⟨⟨h0, h7, hv, fun x hx => by cases hx⟩, rfl, rfl, by show (0 : Nat) < 4096; omega, ⟨rfl, rfl, rfl⟩⟩
theorem led_new (self : Int) (text : ByteArray) (c : Int) (h0 : 0 ≤ self) (h7 : self < 7) (hv : votV text = [self]) (j : Nat) (nx mt : Nat → Int) (A1 : Option Addr) (c1 : Nat) (A : Option Addr) (c2 : Nat) :
    Led (((((St.new self text c).tick.asks j).lead nx mt).put (zeroEnt ((St.new self text c).term + 1)) A1 c1 A c2).quit) 1 :=
  ⟨⟨h0, h7, hv, fun x hx => by
      have : x = zeroEnt ((St.new self text c).term + 1) := by
        have h : x ∈ ([] : List S39) ++ [zeroEnt ((St.new self text c).term + 1)] := hx
        simpa using h
      rw [this]; show (0 : Int) ≠ 2; omega⟩, rfl, rfl, rfl, rfl, rfl, rfl, ⟨rfl, rfl, rfl⟩, Int.le_refl 0⟩

end Go.Proofs.Ytfanbhbpmhojaaa
