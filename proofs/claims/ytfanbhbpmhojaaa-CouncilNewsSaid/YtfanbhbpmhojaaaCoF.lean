/- A council of one: the example of the document holds (lives). No conditions. -/
import Derived.Test.YtfanbhbpmhojaaaCoE
namespace Go.Proofs.Ytfanbhbpmhojaaa
open Go.RowKit Go.Proofs.YtfanbhbpmhojaaaW.PrintWords Go.Proofs.YtfanbhbpmhojaaaW.PrintLast Go.Proofs.YtfanbhbpmhojaaaW.PrintMore PRef
attribute [local go_sem] max2_int min2_int max_two min_two
set_option linter.unusedVariables false
set_option linter.unusedSimpArgs false

theorem cell_off {w : World} {ad : Addr} {n : Nat} {v : Value} (h : w.cell? (ad.add (0 * 5 + n)) = some v) : w.cell? ⟨ad.block, ad.off + n, none⟩ = some v := by
  rw [Nat.zero_mul, Nat.zero_add] at h
  unfold Addr.add at h
  split at h
  · rename_i h0
    subst h0
    obtain ⟨b, o, s⟩ := ad
    cases s with
    | none => simpa using h
    | some s => simp [World.cell?] at h; split at h <;> simp_all
  · exact h
theorem NewsAt.cells {w0 w : World} {g : Nat} {A : Option Addr} {c : Nat} {i : Int} {x : S39} (h : NewsAt w0 g w A c i x) :
    ∃ ad, A = some ad ∧ w.cell? ad = some (.int .i64 i) ∧ w.cell? ⟨ad.block, ad.off + 3, none⟩ = some (.string x.f2) ∧ w.cell? ⟨ad.block, ad.off + 4, none⟩ = some (.bool false) := by
  have hr : Reps (fun (_ : Unit) (cs : List Value) => cs = [.int .i64 i, .int .i64 x.f0, .int .i64 x.f1, .string x.f2, .bool false]) 5 [()] [.int .i64 i, .int .i64 x.f0, .int .i64 x.f1, .string x.f2, .bool false] :=
    ⟨rfl, fun j p hj => by
      have h0 : j = 0 := by
        have := (List.getElem?_eq_some_iff.1 hj).1
        simpa using this
      subst h0
      rfl⟩
  obtain ⟨A', c', he, hrd⟩ := own_reads_row h hr rfl
  cases he
  obtain ⟨ad, hA, hc⟩ := hrd.2.2 (by omega)
  obtain ⟨cs, _, rfl, hu⟩ := hc 0 () rfl
  refine ⟨ad, hA, ?_, ?_, ?_⟩
  · have := hu 0 _ rfl
    rw [← Addr.add_zero' ad]; exact this
  · exact (cell_off (hu 3 _ rfl))
  · exact (cell_off (hu 4 _ rfl))

/-- One tick of a new council of one that waits. -/
theorem tick_new {w : World} {g : Nat} {self : Int} {text : ByteArray} {c : Int} (h : Co w g (St.new self text c)) (h0 : 0 ≤ self) (h7 : self < 7) (hc0 : 0 ≤ c) (hc : c + 1 < 10 + 3 * self) :
    Calls Try.prog 12 #[.pointer (some ⟨g, 0, none⟩)] w fun e w' => e = .returned (.agg #[.bool false, .slice none 0 0, .slice none 0 0]) ∧ Co w' g (St.new self text (c + 1)) ∧ Chg (fun k => k = g) w w' :=
  tick_wait h rfl h0 h7 hc0 hc
/-- The tick by which it comes to lead. -/
theorem tick_lead {w : World} {g : Nat} {self : Int} {text : ByteArray} {c : Int} (j : Nat) (hj : self = j) (hv : votV text = [self]) (h : Co w g (St.new self text c)) (h0 : 0 ≤ self) (h7 : self < 7) (hc0 : 0 ≤ c) (hc9 : c ≤ 1000) (hc : 10 + 3 * self ≤ c + 1) :
    Calls Try.prog 12 #[.pointer (some ⟨g, 0, none⟩)] w fun e w' => ∃ A cA S, e = .returned (.agg #[.bool true, .slice none 0 0, .slice A 1 cA]) ∧ S.self = self ∧ Led S 1 ∧ S.bidx = 0 ∧ Co w' g S ∧ Chg (fun k => k = g) w w' := by
  refine (tick_elect j hj h (near_new self text c h0 h7 hv) rfl hc0 (by show c ≤ _; omega) hc (Int.le_refl 0) (by show (0 : Int) < _; omega)).mono ?_
  rintro e w' ⟨nx, mt, A1, c1, A, cA, he, hco, hch, hnw⟩
  exact ⟨A, cA, _, he, rfl, led_new self text c h0 h7 hv j nx mt A1 c1 A cA, rfl, hco, hch⟩
/-- An entry of kind 1 is offered to it. -/
theorem offer_led {w : World} {g : Nat} {S : St} {t : Int} (h : Co w g S) (hl : Led S t) (ht : t < 4096) (s : ByteArray) (hs : s.size ≤ 4096) :
    Calls Try.prog 11 #[.pointer (some ⟨g, 0, none⟩), .int .i64 1, .string s] w fun e w' => ∃ A cA S', e = .returned (.tuple #[.agg #[.bool true, .slice S.mA S.mN S.mC, .slice A 1 cA], .int .i64 0]) ∧ S'.self = S.self ∧ Led S' (t + 1) ∧ S'.bidx = S.bidx ∧ Co w' g S' ∧ Chg (fun k => k = g) w w' ∧ NewsAt w g w' A cA (t + 1) ⟨S.term, 1, s⟩ := by
  have hie : isEnt ⟨S.term, 1, s⟩ := ⟨by show (0 : Int) ≤ 1; omega, by show (1 : Int) ≤ 2; omega, .inl (by show (1 : Int) ≠ 2; omega), hs⟩
  refine (offer_ok h (by rw [hl.role]; rfl) 1 s (by omega) hie (by omega) (hl.fit ht 1 s (by omega) (by omega))).mono ?_
  rintro e w' ⟨A1, c1, A, cA, he, hco, hch, hnw⟩
  refine ⟨A, cA, (S.put ⟨S.term, 1, s⟩ A1 c1 A cA).quit, he, rfl, hl.put 1 s (by omega) A1 c1 A cA, rfl, hco, hch, ?_⟩
  rw [hl.last] at hnw
  exact hnw
theorem text0 : council_textOf.f 2 [0] = some ⟨#[0]⟩ := by decide +kernel
theorem text3 : council_textOf.f 2 [3] = some ⟨#[3]⟩ := by decide +kernel
theorem vot0 : votV ⟨#[0]⟩ = [0] := by decide +kernel
theorem vot3 : votV ⟨#[3]⟩ = [3] := by decide +kernel
/-- A row of one number, just laid. -/
theorem lit1 (w : World) (n : Int) : Kd.C (Kd.int .i64) (w.alloc (.cells #[.int .i64 n] 3)) (some ⟨w.heap.size, 0, none⟩) [n].length [n] := by
  refine ⟨rfl, by show (1 : Nat) ≤ _; omega, fun _ => ⟨_, rfl, fun j p hj => ?_⟩⟩
  have h0 : j = 0 := by
    have := (List.getElem?_eq_some_iff.1 hj).1
    simpa using this
  subst h0
  cases hj
  refine ⟨[.int .i64 n], rfl, rfl, fun i u hi => ?_⟩
  have h1 : i = 0 := by
    have := (List.getElem?_eq_some_iff.1 hi).1
    simpa using this
  subst h1
  cases hi
  rw [Addr.add_lit, blk_cell (blk_new w _)]
  rfl
/-- A new council of one. -/
theorem new_one (w : World) (self : Int) (text : ByteArray) (hf : council_textOf.f 2 [self] = some text) (hv : votV text = [self]) (hs : text.size ≤ 9223372036854775807) (h0 : 0 ≤ self) (h7 : self < 7) :
    Calls Try.prog 10 #[.int .i64 self, .slice (some ⟨w.heap.size, 0, none⟩) 1 1] (w.alloc (.cells #[.int .i64 self] 3)) fun e w' => ∃ g, e = .returned (.tuple #[.pointer (some ⟨g, 0, none⟩), .int .i64 0]) ∧ w.heap.size ≤ g ∧ Co w' g (St.new self text 0) ∧ Below w.heap.size w w' := by
  have hb0 := (Below.refl w.heap.size w).alloc (Nat.le_refl _) (.cells #[.int .i64 self] 3)
  refine (new_calls (c := 1) self 2 text (lit1 w self) (Nat.le_refl 1) hf (by rw [hv]; exact Nat.one_pos) hs h0 h7).mono ?_
  rintro e w' ⟨g, he, hg, hco, hb⟩
  exact ⟨g, he, Nat.le_trans hb0.size hg, hco, hb0.trans (hb.mono hb0.size)⟩

end Go.Proofs.Ytfanbhbpmhojaaa
