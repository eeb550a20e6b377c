/- A voter alone: send, count, settle, add. Conditions: as told of a council's block; its one voter is itself. -/
import Derived.Test.YtfanbhbpmhojaaaCo4
namespace Go.Proofs.Ytfanbhbpmhojaaa
open Go.RowKit Go.Proofs.YtfanbhbpmhojaaaW.PrintWords Go.Proofs.YtfanbhbpmhojaaaW.PrintLast Go.Proofs.YtfanbhbpmhojaaaW.PrintMore PRef
attribute [local go_sem] max2_int min2_int max_two min_two
set_option linter.unusedVariables false
set_option linter.unusedSimpArgs false

/-- A voter alone. -/
structure Lone (S : St) : Prop where
  s0 : 0 ≤ S.self
  s7 : S.self < 7
  bv : votV S.bvot = [S.self]
  ks : ∀ x ∈ S.log, x.f1 ≠ 2

theorem nowV_none (v : ByteArray) (l : List S39) (h : ∀ x ∈ l, x.f1 ≠ 2) : nowV v l = v := by
  induction l generalizing v with
  | nil => rfl
  | cons x l ih =>
    show nowV (if x.f1 = 2 then x.f2 else v) l = v
    rw [if_neg (h x List.mem_cons_self)]
    exact ih v (fun y hy => h y (List.mem_cons_of_mem _ hy))
theorem Lone.at_ {S : St} (h : Lone S) (i : Int) : votersAtV S i = S.bvot := nowV_none _ _ (fun x hx => h.ks x (List.mem_of_mem_take hx))
theorem Lone.voters {S : St} (h : Lone S) : S.voters = [S.self] := by
  unfold St.voters St.now
  rw [nowV_none _ _ h.ks]
  exact h.bv

theorem lvoters_calls {w : World} {g : Nat} {S : St} (h : Co w g S) (hl : Lone S) :
    Calls Try.prog 26 #[.pointer (some ⟨g, 0, none⟩)] w fun e w' => ∃ ad c, e = .returned (.slice (some ad) 1 c) ∧ w'.cell? ad = some (.int .i64 S.self) ∧ Below w.heap.size w w' :=
  (cvoters_calls h).mono fun e w' ⟨v, he, ho, hb⟩ => by
    rw [hl.voters] at ho
    obtain ⟨A5, c, rfl⟩ := Kd.R_slice ho
    obtain ⟨ad, he5, _⟩ := ((Kd.R_reads' ho).2.2).2.2 (by simp)
    subst he5
    obtain ⟨ad2, he2, hc⟩ := Kd.at_int (Kd.R_reads' ho).2.2 0 (by omega) (by simp)
    cases he2
    refine ⟨ad, c, he, ?_, hb⟩
    have ha : ad.add 0 = ad := Addr.add_zero' ad
    rw [← ha]
    simpa [rd] using hc

set_option maxRecDepth 100000 in
set_option maxHeartbeats 1000000 in
theorem send_calls {w : World} {g : Nat} {S : St} (h : Co w g S) (hl : Lone S) :
    Calls Try.prog 44 #[.pointer (some ⟨g, 0, none⟩)] w fun e w' => e = .returned (.tuple #[]) ∧ Below w.heap.size w w' := by
  have H := Lib.hid h
  have HL := Lib.hid hl
  clear h hl
  go_enter Try.func44, Try.ntmps44
  go_wp2_with (((with_reducible refine (lvoters_calls H.out HL.out).mono ?_); rintro e w1 ⟨ad, c, rfl, hca, hb⟩; have HB := Lib.hid hb; clear hb))
  have HA := Lib.hid hca
  clear hca
  go_loopw [7] (fun vi wr => ∃ (i : Nat), vi = .int .i64 i ∧ i ≤ 1 ∧ wr = w1) (fun vi _ => 1 - (intOf vi).toNat)
  case atStart => exact ⟨0, rfl, by omega, rfl⟩
  case round =>
  obtain ⟨i, rfl, hi, rfl⟩ := hrel
  by_cases h0 : i = 0
  · subst h0
    have c0 := (H.out.below HB.out).c0
    have ca := HA.out
    go_wp2_with fail
    go_roundw
    case measure => first | (simp [intOf]; done) | (simp [intOf]; omega)
    case rel => exact ⟨1, by go_num, by omega, by first | rfl | trivial⟩
  · obtain rfl : i = 1 := by omega
    go_wp2_with fail
    go_end0
    exact ⟨rfl, HB.out⟩

/-- The closures of won and settle, at the voter itself. -/
theorem settle1_calls {w : World} {g p : Nat} {S : St} (h : Co w g S) (hp : w.cell? ⟨p, 0, none⟩ = some (.pointer (some ⟨g, 0, none⟩))) (y : Value) :
    Calls Try.prog 103 #[.int .i64 S.self, .pointer (some ⟨p, 0, none⟩), y] w fun e w' => e = .returned (.bool true) ∧ ∃ m, w' = w.drewN m := by
  have c0 := h.c0
  have H := Lib.hid h
  clear h
  go_enter Try.func103, Try.ntmps103
  go_wp2_with fail
  go_quiet (fail)
  go_wp2_with fail
  go_ret
  exact ⟨rfl, _, rfl⟩
theorem won1_calls {w : World} {g p : Nat} {S : St} (h : Co w g S) (hp : w.cell? ⟨p, 0, none⟩ = some (.pointer (some ⟨g, 0, none⟩))) (j : Nat) (hj : S.self = j) (hj7 : j < 7) (hv : S.vs j = true) :
    Calls Try.prog 104 #[.int .i64 S.self, .pointer (some ⟨p, 0, none⟩)] w fun e w' => e = .returned (.bool true) ∧ w = w' := by
  have hc : w.cell? ⟨g, 13 + j, none⟩ = some (.bool true) := by
    rw [h.cell, ← hv]
    obtain rfl | rfl | rfl | rfl | rfl | rfl | rfl : j = 0 ∨ j = 1 ∨ j = 2 ∨ j = 3 ∨ j = 4 ∨ j = 5 ∨ j = 6 := by omega
    all_goals rfl
  have H := Lib.hid h
  rw [hj]
  clear h hj hv
  go_enter Try.func104, Try.ntmps104
  go_wp2_with fail
  go_ret
  exact ⟨rfl, rfl⟩

set_option maxRecDepth 100000 in
set_option maxHeartbeats 1000000 in
theorem count103_calls {w : World} {g p q : Nat} {S : St} (h : Co w g S) (hl : Lone S) (hp : w.cell? ⟨p, 0, none⟩ = some (.pointer (some ⟨g, 0, none⟩))) :
    Calls Try.prog 102 #[.pointer (some ⟨g, 0, none⟩), .func (.func 103) #[] #[.pointer (some ⟨p, 0, none⟩), .pointer (some ⟨q, 0, none⟩)]] w fun e w' => e = .returned (.int .i64 1) ∧ Below w.heap.size w w' := by
  have H := Lib.hid h
  have HL := Lib.hid hl
  have HP := Lib.hid hp
  clear h hl hp
  go_enter Try.func102, Try.ntmps102
  go_wp2_with (((with_reducible refine (lvoters_calls H.out HL.out).mono ?_); rintro e w1 ⟨ad, c, rfl, hca, hb⟩; have HB := Lib.hid hb; clear hb))
  have HA := Lib.hid hca
  have H1 := Lib.hid (H.out.below HB.out)
  have HP1 := Lib.hid (pw_cell_below HB.out HP.out)
  clear hca
  go_loopw [5, 11] (fun vn vi wr => ∃ (i : Nat), vn = .int .i64 i ∧ vi = .int .i64 i ∧ i ≤ 1 ∧ Hid (Below w1.heap.size w1 wr)) (fun _ vi _ => 1 - (intOf vi).toNat)
  case atStart => exact ⟨0, rfl, rfl, by omega, Lib.hid (Below.refl _ _)⟩
  case round =>
  obtain ⟨i, rfl, rfl, hi, HBr⟩ := hrel
  by_cases h0 : i = 0
  · subst h0
    have ca := pw_cell_below HBr.out HA.out
    have H2 := Lib.hid (H1.out.below HBr.out)
    have HP2 := Lib.hid (pw_cell_below HBr.out HP1.out)
    go_wp2_with ((with_reducible refine (settle1_calls H2.out HP2.out (.pointer (some ⟨q, 0, none⟩))).mono ?_); rintro e w3 ⟨rfl, m, rfl⟩; have HB3 := Lib.hid (pw_below_drewN (Below.refl wr.heap.size wr) m))
    go_roundw
    case measure => first | (simp [intOf]; done) | (simp [intOf]; omega)
    case rel => exact ⟨1, by go_num, by go_num, by omega, Lib.hid (HBr.out.trans (HB3.out.mono HBr.out.size))⟩
  · obtain rfl : i = 1 := by omega
    go_wp2_with fail
    go_ret
    exact ⟨rfl, HB.out.trans (HBr.out.mono HB.out.size)⟩

set_option maxRecDepth 100000 in
set_option maxHeartbeats 1000000 in
theorem count104_calls {w : World} {g p : Nat} {S : St} (h : Co w g S) (hl : Lone S) (hp : w.cell? ⟨p, 0, none⟩ = some (.pointer (some ⟨g, 0, none⟩))) (j : Nat) (hj : S.self = j) (hj7 : j < 7) (hv : S.vs j = true) :
    Calls Try.prog 102 #[.pointer (some ⟨g, 0, none⟩), .func (.func 104) #[] #[.pointer (some ⟨p, 0, none⟩)]] w fun e w' => e = .returned (.int .i64 1) ∧ Below w.heap.size w w' := by
  have H := Lib.hid h
  have HL := Lib.hid hl
  have HP := Lib.hid hp
  have HJ := Lib.hid hj
  have HV := Lib.hid hv
  clear h hl hp hj hv
  go_enter Try.func102, Try.ntmps102
  go_wp2_with (((with_reducible refine (lvoters_calls H.out HL.out).mono ?_); rintro e w1 ⟨ad, c, rfl, hca, hb⟩; have HB := Lib.hid hb; clear hb))
  have HA := Lib.hid hca
  have H1 := Lib.hid (H.out.below HB.out)
  have HP1 := Lib.hid (pw_cell_below HB.out HP.out)
  clear hca
  go_loopw [5, 11] (fun vn vi wr => ∃ (i : Nat), vn = .int .i64 i ∧ vi = .int .i64 i ∧ i ≤ 1 ∧ Hid (Below w1.heap.size w1 wr)) (fun _ vi _ => 1 - (intOf vi).toNat)
  case atStart => exact ⟨0, rfl, rfl, by omega, Lib.hid (Below.refl _ _)⟩
  case round =>
  obtain ⟨i, rfl, rfl, hi, HBr⟩ := hrel
  by_cases h0 : i = 0
  · subst h0
    have ca := pw_cell_below HBr.out HA.out
    have H2 := Lib.hid (H1.out.below HBr.out)
    have HP2 := Lib.hid (pw_cell_below HBr.out HP1.out)
    go_wp2_with ((with_reducible refine (won1_calls H2.out HP2.out j HJ.out hj7 HV.out).mono ?_); rintro e w3 ⟨rfl, rfl⟩; have HB3 := Lib.hid (Below.refl wr.heap.size wr))
    go_roundw
    case measure => first | (simp [intOf]; done) | (simp [intOf]; omega)
    case rel => exact ⟨1, by go_num, by go_num, by omega, Lib.hid (HBr.out.trans (HB3.out.mono HBr.out.size))⟩
  · obtain rfl : i = 1 := by omega
    go_wp2_with fail
    go_ret
    exact ⟨rfl, HB.out.trans (HBr.out.mono HB.out.size)⟩

theorem NewsAt.weaken {w w0 w1 : World} {g : Nat} {A : Option Addr} {c : Nat} {i : Int} {x : S39} (h : NewsAt w0 g w1 A c i x) (hb : w.heap.size ≤ w0.heap.size) : NewsAt w g w1 A c i x := own_weaken h hb
theorem NewsAt.below {w0 w1 w2 : World} {g : Nat} {A : Option Addr} {c : Nat} {i : Int} {x : S39} (h : NewsAt w0 g w1 A c i x) (hb : Below w1.heap.size w1 w2) : NewsAt w0 g w2 A c i x := own_move h (fun k hk => hb.block k (own_lt h k hk))
theorem NewsAt.chg {w0 w1 w2 : World} {g : Nat} {A : Option Addr} {c : Nat} {i : Int} {x : S39} (h : NewsAt w0 g w1 A c i x) (hc : Chg (fun k => k = g) w1 w2) (hg : g < w0.heap.size) : NewsAt w0 g w2 A c i x := own_move h (fun k hk => hc.block k (own_lt h k hk) (fun e => by have := own_base h k hk; omega))

/-- What a voter alone that leads has to have before it settles its last entry. -/
structure Ripe (S : St) : Prop where
  lone : Lone S
  role : S.role = 2
  term : atV S (S.bidx + S.log.length) = S.term
  com : S.commit = S.told
  told : S.told + 1 = S.bidx + S.log.length
  pos : 0 < S.log.length
  news : S.nA = none ∧ S.nN = 0 ∧ S.nC = 0

set_option maxRecDepth 100000 in
set_option maxHeartbeats 1000000 in
theorem settle_calls {w : World} {g : Nat} {S : St} (h : Co w g S) (hr : Ripe S) :
    Calls Try.prog 80 #[.pointer (some ⟨g, 0, none⟩)] w fun e w' => ∃ A c, e = .returned (.tuple #[]) ∧ Co w' g { S with commit := S.bidx + S.log.length, told := S.bidx + S.log.length, nA := A, nN := 1, nC := c } ∧ Chg (fun k => k = g) w w' ∧ NewsAt w g w' A c (S.bidx + S.log.length) (S.log.getD (S.log.length - 1) z39) := by
  have H := Lib.hid h
  have HR := Lib.hid hr
  clear h hr
  obtain ⟨i, hi⟩ : ∃ i, i = S.bidx + S.log.length := ⟨_, rfl⟩
  have HI := Lib.hid hi
  rw [← hi]
  clear hi
  go_enter Try.func80, Try.ntmps80
  have HP1 := Lib.hid (blk_cell (blk_new w (.cells #[.pointer (some ⟨g, 0, none⟩)] 24)) 0)
  have HB1 := Lib.hid ((Below.refl w.heap.size w).alloc (Nat.le_refl _) (.cells #[.pointer (some ⟨g, 0, none⟩)] 24))
  have H1 := Lib.hid (H.out.below HB1.out)
  have hgl := H.out.lt
  go_wp2_with (((with_reducible refine (last_calls H1.out).mono ?_); rw [← HI.out]; rintro e w1 ⟨rfl, m1, rfl⟩))
  have HB2 : Hid (Below w.heap.size w (((w.alloc (.cells #[.pointer (some ⟨g, 0, none⟩)] 24)).drewN m1).alloc (.cells #[.int .i64 i] 3))) := Lib.hid ((pw_below_drewN HB1.out m1).alloc (by simp) _)
  have HC2 := Lib.hid (H.out.below HB2.out)
  have HP2 : Hid ((((w.alloc (.cells #[.pointer (some ⟨g, 0, none⟩)] 24)).drewN m1).alloc (.cells #[.int .i64 i] 3)).cell? ⟨w.heap.size, 0, none⟩ = some (.pointer (some ⟨g, 0, none⟩))) := Lib.hid (pw_cell_below ((Below.refl ((w.alloc (.cells #[.pointer (some ⟨g, 0, none⟩)] 24)).drewN m1).heap.size _).alloc (Nat.le_refl _) _) (show ((w.alloc (.cells #[.pointer (some ⟨g, 0, none⟩)] 24)).drewN m1).cell? ⟨w.heap.size, 0, none⟩ = _ from HP1.out))
  have HQ2 : Hid ((((w.alloc (.cells #[.pointer (some ⟨g, 0, none⟩)] 24)).drewN m1).alloc (.cells #[.int .i64 i] 3)).cell? ⟨w.heap.size + 1, 0, none⟩ = some (.int .i64 i)) := Lib.hid (by
    have := blk_new ((w.alloc (.cells #[.pointer (some ⟨g, 0, none⟩)] 24)).drewN m1) (.cells #[.int .i64 i] 3)
    rw [show ((w.alloc (.cells #[.pointer (some ⟨g, 0, none⟩)] 24)).drewN m1).heap.size = w.heap.size + 1 from by simp] at this
    rw [blk_cell this]
    rfl)
  clear HP1 HB1 H1
  generalize ((w.alloc (.cells #[.pointer (some ⟨g, 0, none⟩)] 24)).drewN m1).alloc (.cells #[.int .i64 i] 3) = w2 at HB2 HC2 HP2 HQ2 ⊢
  have hbi := H.out.hi
  have hlo := H.out.lo
  have hln := H.out.len
  have hir : i ≤ 2199023259648 := by have := HI.out; omega
  have hir0 : 0 ≤ i := by have := HI.out; omega
  have hci : S.commit < i := by have h1 := HR.out.com; have h2 := HR.out.told; have := HI.out; omega
  clear hbi hlo hln
  go_loopw [2] (fun v2 wr => v2 = .pointer (some ⟨w.heap.size + 1, 0, none⟩) ∧ w2 = wr) (fun _ _ => 0)
  case atStart => exact ⟨rfl, rfl⟩
  case round =>
  obtain ⟨rfl, hwr⟩ := hrel
  subst hwr
  have hp := HP2.out
  have hq := HQ2.out
  have c10 := HC2.out.c10
  have c1 := HC2.out.c1
  have hd : decide (S.commit < i) = true := decide_eq_true hci
  have ht := HR.out.term
  rw [← HI.out] at ht
  have HT := Lib.hid ht
  clear ht
  have hat : ∀ m, Hid (Calls Try.prog 47 #[.pointer (some ⟨g, 0, none⟩), .int .i64 i] (w2.drewN m) fun e w' => e = .returned (.int .i64 S.term) ∧ ∃ k, w' = (w2.drewN m).drewN k) := fun m => Lib.hid (by
    have := at_calls (HC2.out.drewN m) i (by omega) (by omega)
    rw [HT.out] at this
    exact this)
  go_wp2_with fail
  go_quiet ((go_at_call 47; exact Calls.quiet_of (hat _).out))
  go_wp2_with fail
  have HC3 := Lib.hid (HC2.out.drewN nq)
  have HB3 := Lib.hid (pw_below_drewN HB2.out nq)
  have HP3 : Hid ((w2.drewN nq).cell? ⟨w.heap.size, 0, none⟩ = some (.pointer (some ⟨g, 0, none⟩))) := Lib.hid hp
  have HQ3 : Hid ((w2.drewN nq).cell? ⟨w.heap.size + 1, 0, none⟩ = some (.int .i64 i)) := Lib.hid hq
  clear hp hq c10 c1 hd hat HT HC2 HB2 HP2 HQ2 hci
  generalize w2.drewN nq = w3 at HC3 HB3 HP3 HQ3 ⊢
  have HLV : Hid (((S.voters.length : Nat) : Int) = 1) := Lib.hid (by rw [HR.out.lone.voters]; rfl)
  have hp3 := HP3.out
  have hd3 : ∀ w', Below w3.drew.heap.size w3.drew w' → Below w3.heap.size w3 w' := fun w' hb => (pw_below_drewN (Below.refl w3.heap.size w3) 1).trans hb
  refine settle_major _ _ _ _ _ _ _ _ _ _ _ _ _ _ _ _ _ _ _ _ _ _ _ _ _ _ _ _ _ _ _ _ _ _ _ _ _ _ _ _ _ _ _ _ _ _ _ _ _ _ _ _ _ _ _ _ _ _ _ _ _ _ _ _ _ _ _ _ _ _ _ _ _ _ g w.heap.size (w.heap.size + 1) w3 _ 1 true (fun _ _ _ _ _ h => h) hp3 (fun w' hb => count103_calls (q := w.heap.size + 1) (HC3.out.below (hd3 w' hb)) HR.out.lone (pw_cell_below (hd3 w' hb) hp3)) (fun w' hb => ?_) ?_
  · have := isMajority_calls (HC3.out.below (hd3 w' hb)) 1 (by omega) (by omega)
    rw [HLV.out] at this
    exact this
  intro w4 hb4
  have HB4 := Lib.hid (hd3 w4 hb4)
  clear hp3 hb4 hd3
  have HC4 := Lib.hid (HC3.out.below HB4.out)
  have HP4 := Lib.hid (pw_cell_below HB4.out HP3.out)
  have HQ4 := Lib.hid (pw_cell_below HB4.out HQ3.out)
  have HB5 := Lib.hid (HB3.out.trans (HB4.out.mono HB3.out.size))
  have hp := HP4.out
  have hq := HQ4.out
  clear HC3 HP3 HQ3 HB3 HB4
  obtain ⟨T, hT⟩ : ∃ T, T = fun A c => { S with commit := i, told := i, nA := A, nN := 1, nC := c } := ⟨_, rfl⟩
  have HTT := Lib.hid hT
  have hrc : Hid (Calls Try.prog 94 #[.pointer (some ⟨g, 0, none⟩), .int .i64 i] w4 fun e w' => ∃ A c, e = .returned (.tuple #[]) ∧ Co w' g (T A c) ∧ Chg (fun k => k = g) w4 w' ∧ NewsAt w4 g w' A c i (S.log.getD (S.log.length - 1) z39)) := Lib.hid (by
    have := reach_calls HC4.out HR.out.com HR.out.told HR.out.pos HR.out.news
    rw [← HI.out] at this
    rw [hT]
    exact this)
  clear hT
  simp only [Exit.then]
  go_upto_region 8 with (((with_reducible refine hrc.out.mono ?_); rintro e w5 ⟨A, c, rfl, hco, hch, hnw⟩; have HC5 := Lib.hid hco; have HH5 := Lib.hid hch; have HN5 := Lib.hid hnw; clear hco hch hnw))
  have HE : Hid ((T A c).self = S.self ∧ (T A c).role = 2 ∧ (T A c).commit = i ∧ Lone (T A c)) := Lib.hid (by
    rw [HTT.out]
    exact ⟨rfl, HR.out.role, rfl, HR.out.lone.s0, HR.out.lone.s7, HR.out.lone.bv, HR.out.lone.ks⟩)
  have hp5 : w5.cell? ⟨w.heap.size, 0, none⟩ = some (.pointer (some ⟨g, 0, none⟩)) := by
    have hlt : w.heap.size < w4.heap.size := World.block_lt_of_cell? w4 _ HP4.out
    rw [World.cell?_of_block (w := w4) (HH5.out.block w.heap.size hlt (by omega))]
    exact HP4.out
  have HP5 := Lib.hid hp5
  obtain ⟨S2, hS2⟩ : ∃ S2, S2 = T A c := ⟨_, rfl⟩
  rw [← hS2] at HC5 HE
  have HS2 := Lib.hid hS2
  clear hp hq hS2 hrc HC4 HQ4
  have c10 : w5.cell? ⟨g, 10, none⟩ = some (.int .i64 i) := by have := HC5.out.c10; rw [HE.out.2.2.1] at this; exact this
  have hsz := HC5.out.bv
  have hd5 : ∀ w', Below w5.drew.heap.size w5.drew w' → Below w5.heap.size w5 w' := fun w' hb => (pw_below_drewN (Below.refl w5.heap.size w5) 1).trans hb
  refine settle_voters _ _ _ _ _ _ _ _ _ _ _ _ _ _ _ _ _ _ _ _ _ _ _ _ _ _ _ _ _ _ _ _ _ _ _ _ _ _ _ _ _ _ _ _ _ _ _ _ _ _ _ _ _ _ _ _ _ _ _ _ _ _ _ _ _ _ _ _ _ _ _ _ _ _ _ g w.heap.size w5 _ i S2.bvot (decide (0 < (votV S2.bvot).length)) (fun _ _ _ _ _ h => h) hp5 c10 (fun w' hb => ?_) (fun w' hb => (voters_calls S2.bvot w' hsz).mono (fun e w'' ⟨v, he, _, hb⟩ => ⟨v, he, hb⟩)) ?_
  · have := votersAt_calls (HC5.out.below (hd5 w' hb)) i (by omega) (by omega)
    rw [HE.out.2.2.2.at_] at this
    exact this.mono (fun e w'' ⟨he, m, hm⟩ => ⟨he, by rw [hm]; exact pw_below_drewN (Below.refl _ _) m⟩)
  intro w6 v6 hb6
  have HB6 := Lib.hid (hd5 w6 hb6)
  have HC6 := Lib.hid (HC5.out.below HB6.out)
  have HP6 := Lib.hid (pw_cell_below HB6.out HP5.out)
  clear hp5 c10 hsz hd5 hb6
  simp only [Exit.then]
  go_upto_region 9 with fail
  have hp6 := HP6.out
  have c8 : w6.cell? ⟨g, 8, none⟩ = some (.int .i64 2) := by have := HC6.out.c8; rw [HE.out.2.1] at this; exact this
  have c0 := HC6.out.c0
  refine settle_last _ _ _ _ _ _ _ _ _ _ _ _ _ _ _ _ _ _ _ _ _ _ _ _ _ _ _ _ _ _ _ _ _ _ _ _ _ _ _ _ _ _ _ _ _ _ _ _ _ _ _ _ _ _ _ _ _ _ _ _ _ _ _ _ _ _ _ _ _ _ _ _ _ _ _ g w.heap.size w6 _ S2.self (fun _ _ _ _ _ h => h) hp6 c8 c0 (fun w' hb => ?_) ?_
  · have := is_calls (HC6.out.below ((pw_below_drewN (Below.refl w6.heap.size w6) 1).trans hb)) S2.self
    rw [HE.out.2.2.2.voters] at this
    simpa using this
  intro w7 hb7
  have HB7 := Lib.hid ((pw_below_drewN (Below.refl w6.heap.size w6) 1).trans hb7)
  clear hp6 c8 c0 hb7
  simp only [Exit.then]
  go_wp2_with fail
  go_end0
  have hb57 := HB6.out.trans (HB7.out.mono HB6.out.size)
  refine ⟨A, c, rfl, ?_, ?_, ?_⟩
  · have := HC6.out.below HB7.out
    rw [HS2.out, HTT.out] at this
    exact this
  · exact ((Chg.of_same HB5.out (fun k => k = g)).trans HH5.out (fun _ _ h => h)).trans (Chg.of_same hb57 (fun k => k = g)) (fun _ _ h => h)
  · exact NewsAt.below (NewsAt.weaken HN5.out HB5.out.size) hb57

end Go.Proofs.Ytfanbhbpmhojaaa
