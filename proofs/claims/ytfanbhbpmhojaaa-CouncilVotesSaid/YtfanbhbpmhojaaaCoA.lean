/- A voter alone: open, Offer. Conditions: as told of a council's block; its one voter is itself. A voter alone: Offer. Conditions: as told of a council's block; its one voter is itself. A voter alone: Offer of voters; Compact. Conditions: as told of a council's block; its one voter is itself. -/
import Derived.Test.YtfanbhbpmhojaaaCo9
namespace Go.Proofs.Ytfanbhbpmhojaaa
open Go.RowKit Go.Proofs.YtfanbhbpmhojaaaW.PrintWords Go.Proofs.YtfanbhbpmhojaaaW.PrintLast Go.Proofs.YtfanbhbpmhojaaaW.PrintMore PRef
attribute [local go_sem] max2_int min2_int max_two min_two
set_option linter.unusedVariables false
set_option linter.unusedSimpArgs false

theorem ret_word {fn : Func} {p q : Tmp} (h : fn.results = #[.cell p 32, .tmp q]) (tmps : Array Value) (w : World) (g : Nat) (t : TypeId) (cs : Array Value)
    (hp : tmps.getD p undef = .pointer (some ⟨g, 0, none⟩)) (hg : w.heap[g]? = some (.cells cs t (0, 0))) (hi : (Try.prog.info? 32).map (·.size) = some cs.size) :
    (results fn tmps).run Try.prog w = .ok (.tuple #[.agg cs, tmps.getD q undef]) w := by
  rw [results_cell_tmp h, hp]
  simp [asAddr, Result.andThen, run_loadVar_row w g t 32 cs (0, 0) _ hg Try.underlying32 rfl hi]
/-- A word that asks for nothing. -/
abbrev noWord : Value := .agg #[.bool false, .slice none 0 0, .slice none 0 0]

set_option maxRecDepth 100000 in
theorem open_calls {w : World} {g : Nat} {S : St} (h : Co w g S) (hc : S.commit = S.bidx + S.log.length) (ht : atV S (S.bidx + S.log.length) = S.term) :
    Calls Try.prog 39 #[.pointer (some ⟨g, 0, none⟩)] w fun e w' => e = .returned (.bool false) ∧ ∃ m, w' = w.drewN m := by
  have c10 := h.c10
  have c1 := h.c1
  have hlo := h.lo
  have hhi := h.hi
  have hln := h.len
  rw [hc] at c10
  have H := Lib.hid h
  obtain ⟨i, hi⟩ : ∃ i, i = S.bidx + S.log.length := ⟨_, rfl⟩
  have hi0 : 0 ≤ i := by omega
  have hi1 : i ≤ 2199023259648 := by omega
  have HLA : Hid (Calls Try.prog 17 #[.pointer (some ⟨g, 0, none⟩)] w fun e w' => e = .returned (.int .i64 i) ∧ ∃ k, w' = w.drewN k) := Lib.hid (by rw [hi]; exact last_calls h)
  have HAT : ∀ k m, Hid (Calls Try.prog 47 #[.pointer (some ⟨g, 0, none⟩), .int .i64 i] ((w.drewN k).drewN m) fun e w' => e = .returned (.int .i64 S.term) ∧ ∃ n, w' = ((w.drewN k).drewN m).drewN n) := fun k m => Lib.hid (by
    have := at_calls ((h.drewN k).drewN m) i (by omega) (by omega)
    rw [hi, ht] at this
    rw [hi]
    exact this)
  rw [← hi] at c10
  clear h hc ht hi hlo hhi hln
  go_enter Try.func39, Try.ntmps39
  go_wp2_with fail
  go_loopw [3] (fun vi wr => vi = .int .i64 (i + 1) ∧ w = wr) (fun _ _ => 0)
  case atStart => exact ⟨rfl, rfl⟩
  case round =>
  obtain ⟨rfl, hwr⟩ := hrel
  subst hwr
  have hd : decide (i + 1 ≤ i) = false := decide_eq_false (by omega)
  go_wp2_with ((with_reducible refine HLA.out.mono ?_); rintro e w1 ⟨rfl, m, hm⟩; have c10a : w1.cell? ⟨g, 10, none⟩ = some (.int .i64 i) := (by rw [hm]; exact c10); have c1a : w1.cell? ⟨g, 1, none⟩ = some (.int .i64 S.term) := (by rw [hm]; exact c1); have HAW : ∀ n, Hid (Calls Try.prog 47 #[.pointer (some ⟨g, 0, none⟩), .int .i64 i] (w1.drewN n) fun e w' => e = .returned (.int .i64 S.term) ∧ ∃ k, w' = (w1.drewN n).drewN k) := (fun n => by rw [hm]; exact HAT m n); have HM := Lib.hid hm; clear hm)
  go_quiet ((go_at_call 47; exact Calls.quiet_of (HAW _).out))
  go_wp2_with fail
  go_ret
  exact ⟨rfl, _, by rw [HM.out]; exact World.drewN_drewN _ _ _⟩

end Go.Proofs.Ytfanbhbpmhojaaa

namespace Go.Proofs.Ytfanbhbpmhojaaa
open Go.RowKit Go.Proofs.YtfanbhbpmhojaaaW.PrintWords Go.Proofs.YtfanbhbpmhojaaaW.PrintLast Go.Proofs.YtfanbhbpmhojaaaW.PrintMore PRef
attribute [local go_sem] max2_int min2_int max_two min_two
set_option linter.unusedVariables false
set_option linter.unusedSimpArgs false

theorem inf39 : (Try.prog.info? 39).map (·.size) = some 3 := by kernel_rfl

theorem two_new (w : World) (cs1 cs2 : Array Value) (t1 t2 : TypeId) : Below w.heap.size w ((w.alloc (.cells cs1 t1)).alloc (.cells cs2 t2)) ∧ ((w.alloc (.cells cs1 t1)).alloc (.cells cs2 t2)).heap[w.heap.size]? = some (.cells cs1 t1 (0, 0)) ∧ ((w.alloc (.cells cs1 t1)).alloc (.cells cs2 t2)).heap[w.heap.size + 1]? = some (.cells cs2 t2 (0, 0)) := by
  have h1 := (Below.refl w.heap.size w).alloc (Nat.le_refl _) (.cells cs1 t1)
  have h2 := (Below.refl (w.alloc (.cells cs1 t1)).heap.size _).alloc (Nat.le_refl _) (.cells cs2 t2)
  refine ⟨h1.trans (h2.mono h1.size), blk_below (blk_new w (.cells cs1 t1)) h2, ?_⟩
  have h3 := blk_new (w.alloc (.cells cs1 t1)) (.cells cs2 t2)
  rw [show (w.alloc (.cells cs1 t1)).heap.size = w.heap.size + 1 from by simp] at h3
  exact h3

set_option maxRecDepth 100000 in
/-- Who doesn't lead is offered nothing. -/
theorem offer_none {w : World} {g : Nat} {S : St} (h : Co w g S) (hr : (S.role == 2) = false) (k : Int) (s : ByteArray) :
    Calls Try.prog 11 #[.pointer (some ⟨g, 0, none⟩), .int .i64 k, .string s] w fun e w' => e = .returned (.tuple #[noWord, .int .i64 8]) ∧ Below w.heap.size w w' := by
  have c8 := h.c8
  have hgl := h.lt
  have hr2 : (S.role != 2) = true := by rw [bne, hr]; rfl
  have hbk := blk_new w (.cells #[.bool false, .slice none 0 0, .slice none 0 0] 32)
  have HB1 := Lib.hid ((Below.refl w.heap.size w).alloc (Nat.le_refl _) (.cells #[.bool false, .slice none 0 0, .slice none 0 0] 32))
  have HBK := Lib.hid hbk
  have H := Lib.hid h
  clear h hbk
  go_enter Try.func11, Try.ntmps11
  go_wp2_with fail
  (try simp only [Exit.inBlock, Exit.then])
  refine bodyPost_ret (ret_word rfl _ _ w.heap.size 32 _ rfl HBK.out inf32) rfl ?_
  exact ⟨rfl, HB1.out⟩

set_option maxRecDepth 100000 in
set_option maxHeartbeats 1000000 in
/-- What is no entry is refused. -/
theorem offer_arg {w : World} {g : Nat} {S : St} (h : Co w g S) (hr : (S.role == 2) = true) (k : Int) (s : ByteArray) (hs : s.size ≤ 9223372036854775807) (hk : ¬ isEnt ⟨S.term, k, s⟩) :
    Calls Try.prog 11 #[.pointer (some ⟨g, 0, none⟩), .int .i64 k, .string s] w fun e w' => e = .returned (.tuple #[noWord, .int .i64 1]) ∧ Below w.heap.size w w' := by
  have c8 := h.c8
  have c1 := h.c1
  have hgl := h.lt
  have hr2 : (S.role != 2) = false := by rw [bne, hr]; rfl
  have HIE : Hid (∀ w', Calls Try.prog 38 #[.agg #[.int .i64 S.term, .int .i64 k, .string s]] w' fun e w'' => e = .returned (.bool false) ∧ Below w'.heap.size w' w'') := Lib.hid (fun w' => by
    have := isEntry_calls w' ⟨S.term, k, s⟩ hs
    rw [decide_eq_false hk] at this
    exact this)
  have H := Lib.hid h
  clear h hk
  go_enter Try.func11, Try.ntmps11
  go_upto_region 4 with fail
  have HT := Lib.hid (two_new w #[.bool false, .slice none 0 0, .slice none 0 0] #[.int .i64 S.term, .int .i64 k, .string s] 32 39)
  generalize (w.alloc (.cells #[.bool false, .slice none 0 0, .slice none 0 0] 32)).alloc (.cells #[.int .i64 S.term, .int .i64 k, .string s] 39) = w2 at HT ⊢
  have e0 : w2.cell? ⟨w.heap.size + 1, 0, none⟩ = some (.int .i64 S.term) := by rw [blk_cell HT.out.2.2]; rfl
  have e1 : w2.cell? ⟨w.heap.size + 1, 1, none⟩ = some (.int .i64 k) := by rw [blk_cell HT.out.2.2]; rfl
  have e2 : w2.cell? ⟨w.heap.size + 1, 2, none⟩ = some (.string s) := by rw [blk_cell HT.out.2.2]; rfl
  clear c8 c1
  go_upto_region 5 with ((with_reducible refine (HIE.out w2).mono ?_); rintro e w3 ⟨rfl, hb⟩; have HB3 := Lib.hid hb; clear hb)
  have HK3 := Lib.hid (blk_below HT.out.2.1 HB3.out)
  have HW3 := Lib.hid (HT.out.1.trans (HB3.out.mono HT.out.1.size))
  clear e0 e1 e2
  have z0 : w3.cell? ⟨w.heap.size, 0, none⟩ = some (.bool false) := by rw [blk_cell HK3.out]; rfl
  have z1 : w3.cell? ⟨w.heap.size, 1, none⟩ = some (.slice none 0 0) := by rw [blk_cell HK3.out]; rfl
  have z2 : w3.cell? ⟨w.heap.size, 2, none⟩ = some (.slice none 0 0) := by rw [blk_cell HK3.out]; rfl
  go_wp2_with (refine wpList_store_row rfl 32 (.tmp 6) (.tmp 32) rfl w.heap.size #[.bool false, .slice none 0 0, .slice none 0 0] rfl rfl 32 _ HK3.out inf32 rfl (by simp [Value.oneCell']) ?_)
  (try simp only [Exit.inBlock, Exit.then])
  refine bodyPost_ret (ret_word rfl _ _ w.heap.size 32 _ rfl (setRow_heap _ _ _ _ _ _ HK3.out) inf32) rfl ?_
  exact ⟨rfl, below_row HW3.out (Nat.le_refl _)⟩

set_option maxRecDepth 100000 in
set_option maxHeartbeats 2000000 in
/-- An entry is put to the log. -/
theorem offer_ok {w : World} {g : Nat} {S : St} (h : Co w g S) (hr : (S.role == 2) = true) (k : Int) (s : ByteArray) (hs : s.size ≤ 9223372036854775807) (hk : isEnt ⟨S.term, k, s⟩) (hk2 : k ≠ 2) (hf : Fit S ⟨S.term, k, s⟩) :
    Calls Try.prog 11 #[.pointer (some ⟨g, 0, none⟩), .int .i64 k, .string s] w fun e w' => ∃ A1 c1 A c, e = .returned (.tuple #[.agg #[.bool true, .slice S.mA S.mN S.mC, .slice A 1 c], .int .i64 0]) ∧ Co w' g (S.put ⟨S.term, k, s⟩ A1 c1 A c).quit ∧ Chg (fun k => k = g) w w' ∧ NewsAt w g w' A c (S.bidx + S.log.length + 1) ⟨S.term, k, s⟩ := by
  have c8 := h.c8
  have c1 := h.c1
  have hgl := h.lt
  have hr2 : (S.role != 2) = false := by rw [bne, hr]; rfl
  have HIE : Hid (∀ w', Calls Try.prog 38 #[.agg #[.int .i64 S.term, .int .i64 k, .string s]] w' fun e w'' => e = .returned (.bool true) ∧ Below w'.heap.size w' w'') := Lib.hid (fun w' => by
    have := isEntry_calls w' ⟨S.term, k, s⟩ hs
    rw [decide_eq_true hk] at this
    exact this)
  have H := Lib.hid h
  have HF := Lib.hid hf
  have hkb : (k == 2) = false := beq_eq_false_iff_ne.2 hk2
  have hroom : decide ((4096 : Int) ≤ (S.log.length : Int)) = false := decide_eq_false (by have := hf.room; omega)
  clear h hk hf hk2
  go_enter Try.func11, Try.ntmps11
  go_upto_region 4 with fail
  have HT := Lib.hid (two_new w #[.bool false, .slice none 0 0, .slice none 0 0] #[.int .i64 S.term, .int .i64 k, .string s] 32 39)
  generalize (w.alloc (.cells #[.bool false, .slice none 0 0, .slice none 0 0] 32)).alloc (.cells #[.int .i64 S.term, .int .i64 k, .string s] 39) = w2 at HT ⊢
  have e0 : w2.cell? ⟨w.heap.size + 1, 0, none⟩ = some (.int .i64 S.term) := by rw [blk_cell HT.out.2.2]; rfl
  have e1 : w2.cell? ⟨w.heap.size + 1, 1, none⟩ = some (.int .i64 k) := by rw [blk_cell HT.out.2.2]; rfl
  have e2 : w2.cell? ⟨w.heap.size + 1, 2, none⟩ = some (.string s) := by rw [blk_cell HT.out.2.2]; rfl
  clear c8 c1
  have HE2 := Lib.hid HT.out.2.2
  go_upto_region 6 with ((with_reducible refine (HIE.out w2).mono ?_); rintro e w3 ⟨rfl, hb⟩; have HB3 := Lib.hid hb; clear hb)
  have HK3 := Lib.hid (blk_below HT.out.2.1 HB3.out)
  have HW3 := Lib.hid (HT.out.1.trans (HB3.out.mono HT.out.1.size))
  clear e0 e1 e2
  have HC3 := Lib.hid (H.out.below HW3.out)
  have HE3 := Lib.hid (blk_below HE2.out HB3.out)
  have c7 := HC3.out.c7
  have HADD := Lib.hid (add_calls ⟨S.term, k, s⟩ HC3.out HF.out)
  go_upto_region 21 with fail
  have e0 : w3.cell? ⟨w.heap.size + 1, 0, none⟩ = some (.int .i64 S.term) := by rw [blk_cell HE3.out]; rfl
  have e1 : w3.cell? ⟨w.heap.size + 1, 1, none⟩ = some (.int .i64 k) := by rw [blk_cell HE3.out]; rfl
  have e2 : w3.cell? ⟨w.heap.size + 1, 2, none⟩ = some (.string s) := by rw [blk_cell HE3.out]; rfl
  clear c7
  go_upto_region 22 with ((with_reducible refine HADD.out.mono ?_); rintro e w4 ⟨A1, c1, A, c, rfl, h1, h2, h3⟩; have HC4 := Lib.hid h1; have HH4 := Lib.hid h2; have HN4 := Lib.hid h3; clear h1 h2 h3)
  have HK4 : Hid (w4.heap[w.heap.size]? = some (.cells #[.bool false, .slice none 0 0, .slice none 0 0] 32 (0, 0))) := Lib.hid ((HH4.out.block w.heap.size (blk_lt HK3.out) (by omega)).trans HK3.out)
  clear e0 e1 e2
  go_wp2_with (first | ((with_reducible refine (take_calls HC4.out).mono ?_); rintro e w5 ⟨rfl, hco, hch⟩; have HC5 := Lib.hid hco; have HH5 := Lib.hid hch; clear hco hch; have HK5 : Hid (w5.heap[w.heap.size]? = some (.cells #[.bool false, .slice none 0 0, .slice none 0 0] 32 (0, 0))) := (Lib.hid ((HH5.out.block w.heap.size (blk_lt HK4.out) (by omega)).trans HK4.out))) | (refine wpList_store_row rfl 32 (.tmp 6) (.tmp 85) rfl w.heap.size #[.bool true, .slice S.mA S.mN S.mC, .slice A 1 c] rfl rfl 32 _ HK5.out inf32 rfl (by simp [Value.oneCell']) ?_))
  (try simp only [Exit.inBlock, Exit.then])
  refine bodyPost_ret (ret_word rfl _ _ w.heap.size 32 _ rfl (setRow_heap _ _ _ _ _ _ HK5.out) inf32) rfl ?_
  refine ⟨A1, c1, A, c, rfl, HC5.out.row_far (by omega) HK5.out, ?_, ?_⟩
  · exact (((Chg.of_same HW3.out (fun k => k = g)).trans HH4.out (fun _ _ h => h)).trans HH5.out (fun _ _ h => h)).trans (chg_setRow _ _ _) (fun i hi hk => by omega)
  · have hw : w.heap.size < w3.heap.size := blk_lt HK3.out
    have h5 := HN4.out.chg HH5.out (Nat.lt_trans hgl hw)
    exact (own_move h5 (fun k hk => setRow_other _ _ _ _ (by have := own_base h5 k hk; omega))).weaken' (Nat.le_of_lt hw)

end Go.Proofs.Ytfanbhbpmhojaaa

namespace Go.Proofs.Ytfanbhbpmhojaaa
open Go.RowKit Go.Proofs.YtfanbhbpmhojaaaW.PrintWords Go.Proofs.YtfanbhbpmhojaaaW.PrintLast Go.Proofs.YtfanbhbpmhojaaaW.PrintMore PRef
attribute [local go_sem] max2_int min2_int max_two min_two
set_option linter.unusedVariables false
set_option linter.unusedSimpArgs false

theorem isStep_calls {w : World} {b0 b1 : Nat} {ok0 ok1 : Nat → Prop} {v0 v1 : Value} {l0 l1 : List Int} (n : Nat) (r : Bool) (h0 : Kd.R (Kd.int .i64) 3 w b0 ok0 v0 l0) (h1 : Kd.R (Kd.int .i64) 3 w b1 ok1 v1 l1) (hf : council_isStep.f n l0 l1 = some r) :
    Calls Try.prog 40 #[v0, v1] w fun e w' => e = .returned (.bool r) ∧ Below w.heap.size w w' := by
  obtain ⟨A, c, rfl⟩ := Kd.R_slice h0
  obtain ⟨_, hc, hr⟩ := Kd.R_reads' h0
  obtain ⟨A1, c1, rfl⟩ := Kd.R_slice h1
  obtain ⟨_, hc1, hr1⟩ := Kd.R_reads' h1
  exact (council_isStep.calls n A c l0 A1 c1 l1 r w hr hc hr1 hc1 hf).mono fun e w' ⟨h1, h2⟩ => ⟨h1, h2.below⟩

set_option maxRecDepth 100000 in
set_option maxHeartbeats 2000000 in
/-- Voters that are not others' by one node are refused. -/
theorem offer_voters {w : World} {g : Nat} {S : St} (h : Co w g S) (hr : (S.role == 2) = true) (k : Int) (s : ByteArray) (hs : s.size ≤ 9223372036854775807) (hk : isEnt ⟨S.term, k, s⟩) (hk2 : k = 2) (hco : S.commit = S.bidx + S.log.length) (hat : atV S (S.bidx + S.log.length) = S.term) (n : Nat) (hst : council_isStep.f n (votV s) S.voters = some false) :
    Calls Try.prog 11 #[.pointer (some ⟨g, 0, none⟩), .int .i64 k, .string s] w fun e w' => e = .returned (.tuple #[noWord, .int .i64 1]) ∧ Below w.heap.size w w' := by
  have c8 := h.c8
  have c1 := h.c1
  have hgl := h.lt
  have hr2 : (S.role != 2) = false := by rw [bne, hr]; rfl
  have HIE : Hid (∀ w', Calls Try.prog 38 #[.agg #[.int .i64 S.term, .int .i64 k, .string s]] w' fun e w'' => e = .returned (.bool true) ∧ Below w'.heap.size w' w'') := Lib.hid (fun w' => by
    have := isEntry_calls w' ⟨S.term, k, s⟩ hs
    rw [decide_eq_true hk] at this
    exact this)
  have H := Lib.hid h
  have HCO := Lib.hid hco
  have HAT := Lib.hid hat
  have HST := Lib.hid hst
  have hkb : (k == 2) = true := beq_iff_eq.2 hk2
  clear h hk hk2 hco hat hst
  go_enter Try.func11, Try.ntmps11
  go_upto_region 4 with fail
  have HT := Lib.hid (two_new w #[.bool false, .slice none 0 0, .slice none 0 0] #[.int .i64 S.term, .int .i64 k, .string s] 32 39)
  generalize (w.alloc (.cells #[.bool false, .slice none 0 0, .slice none 0 0] 32)).alloc (.cells #[.int .i64 S.term, .int .i64 k, .string s] 39) = w2 at HT ⊢
  have e0 : w2.cell? ⟨w.heap.size + 1, 0, none⟩ = some (.int .i64 S.term) := by rw [blk_cell HT.out.2.2]; rfl
  have e1 : w2.cell? ⟨w.heap.size + 1, 1, none⟩ = some (.int .i64 k) := by rw [blk_cell HT.out.2.2]; rfl
  have e2 : w2.cell? ⟨w.heap.size + 1, 2, none⟩ = some (.string s) := by rw [blk_cell HT.out.2.2]; rfl
  clear c8 c1
  go_upto_region 7 with ((with_reducible refine (HIE.out w2).mono ?_); rintro e w3 ⟨rfl, hb⟩; have HB3 := Lib.hid hb; clear hb)
  have HK3 := Lib.hid (blk_below HT.out.2.1 HB3.out)
  have HW3 := Lib.hid (HT.out.1.trans (HB3.out.mono HT.out.1.size))
  clear e0 e1 e2
  have HV := Lib.hid (voters_calls s w3 hs)
  go_upto_region 8 with ((with_reducible refine HV.out.mono ?_); rintro e w4 ⟨v4, rfl, ho, hb⟩; have HO4 := Lib.hid ho; have HB4 := Lib.hid (HW3.out.trans (hb.mono HW3.out.size)); have HK4 := Lib.hid (blk_below HK3.out hb); clear ho hb)
  have HC4 := Lib.hid (H.out.below HB4.out)
  have HOP := Lib.hid (open_calls HC4.out HCO.out HAT.out)
  go_upto_region 10 with ((with_reducible refine HOP.out.mono ?_); rintro e w5 ⟨rfl, m, hm⟩; have HM := Lib.hid hm; clear hm)
  have hb45 : Below w4.heap.size w4 w5 := by rw [HM.out]; exact pw_below_drewN (Below.refl _ _) m
  have HB5 := Lib.hid (HB4.out.trans (hb45.mono HB4.out.size))
  have HK5 := Lib.hid (blk_below HK4.out hb45)
  have HC5 := Lib.hid (H.out.below HB5.out)
  have HO5 := Lib.hid (Kd.R_below HO4.out hb45)
  have HCV := Lib.hid (cvoters_calls HC5.out)
  clear hb45
  go_upto_region 11 with (first | ((with_reducible refine HCV.out.mono ?_); rintro e w6 ⟨v6, rfl, ho, hb⟩; have HO6 := Lib.hid ho; have HB6 := Lib.hid (HB5.out.trans (hb.mono HB5.out.size)); have HK6 := Lib.hid (blk_below HK5.out hb); have HOS := Lib.hid (isStep_calls n false (Kd.R_below HO5.out hb) ho HST.out); clear ho hb) | ((with_reducible refine HOS.out.mono ?_); rintro e w7 ⟨rfl, hb⟩; have HB7 := Lib.hid (HB6.out.trans (hb.mono HB6.out.size)); have HK7 := Lib.hid (blk_below HK6.out hb); clear hb))
  have z0 : w7.cell? ⟨w.heap.size, 0, none⟩ = some (.bool false) := by rw [blk_cell HK7.out]; rfl
  have z1 : w7.cell? ⟨w.heap.size, 1, none⟩ = some (.slice none 0 0) := by rw [blk_cell HK7.out]; rfl
  have z2 : w7.cell? ⟨w.heap.size, 2, none⟩ = some (.slice none 0 0) := by rw [blk_cell HK7.out]; rfl
  go_wp2_with (refine wpList_store_row rfl 32 (.tmp 6) (.tmp 50) rfl w.heap.size #[.bool false, .slice none 0 0, .slice none 0 0] rfl rfl 32 _ HK7.out inf32 rfl (by simp [Value.oneCell']) ?_)
  (try simp only [Exit.inBlock, Exit.then])
  refine bodyPost_ret (ret_word rfl _ _ w.heap.size 32 _ rfl (setRow_heap _ _ _ _ _ _ HK7.out) inf32) rfl ?_
  exact ⟨rfl, below_row HB7.out (Nat.le_refl _)⟩

set_option maxRecDepth 100000 in
set_option maxHeartbeats 2000000 in
/-- Where there is nothing to forget. -/
theorem compact_arg {w : World} {g : Nat} {S : St} (h : Co w g S) (i : Int) (s : ByteArray) (hi : i ≤ S.bidx ∨ S.told < i) :
    Calls Try.prog 16 #[.pointer (some ⟨g, 0, none⟩), .int .i64 i, .string s] w fun e w' => e = .returned (.tuple #[noWord, .int .i64 1]) ∧ Below w.heap.size w w' := by
  have c3 := h.c3
  have c11 := h.c11
  have hgl := h.lt
  have hbk := blk_new w (.cells #[.bool false, .slice none 0 0, .slice none 0 0] 32)
  have HB1 := Lib.hid ((Below.refl w.heap.size w).alloc (Nat.le_refl _) (.cells #[.bool false, .slice none 0 0, .slice none 0 0] 32))
  have HBK := Lib.hid hbk
  clear h hbk
  by_cases h1 : i ≤ S.bidx
  · have hd : decide (i ≤ S.bidx) = true := decide_eq_true h1
    clear hi h1
    go_enter Try.func16, Try.ntmps16
    go_wp2_with fail
    (try simp only [Exit.inBlock, Exit.then])
    refine bodyPost_ret (ret_word rfl _ _ w.heap.size 32 _ rfl HBK.out inf32) rfl ?_
    exact ⟨rfl, HB1.out⟩
  · have hd : decide (i ≤ S.bidx) = false := decide_eq_false h1
    have hd2 : decide (S.told < i) = true := decide_eq_true (hi.resolve_left h1)
    clear hi h1
    go_enter Try.func16, Try.ntmps16
    go_wp2_with fail
    (try simp only [Exit.inBlock, Exit.then])
    refine bodyPost_ret (ret_word rfl _ _ w.heap.size 32 _ rfl HBK.out inf32) rfl ?_
    exact ⟨rfl, HB1.out⟩

end Go.Proofs.Ytfanbhbpmhojaaa
