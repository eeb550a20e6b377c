/- A voter alone: Offer. Conditions: as told of a council's block; its one voter is itself. -/
import Derived.Test.YtfanbhbpmhojaaaCoA
namespace Go.Proofs.Ytfanbhbpmhojaaa
open Go.RowKit Go.Proofs.YtfanbhbpmhojaaaW.PrintWords Go.Proofs.YtfanbhbpmhojaaaW.PrintLast Go.Proofs.YtfanbhbpmhojaaaW.PrintMore PRef
attribute [local go_sem] max2_int min2_int max_two min_two
set_option linter.unusedVariables false
set_option linter.unusedSimpArgs false

theorem inf39 : (Try.prog.info? 39).map (·.size) = some 3 := by kernel_rfl

theorem two_new (w : World) (cs1 cs2 : Array Value) (t1 t2 : TypeId) : Below w.heap.size w ((w.alloc (.cells cs1 t1)).alloc (.cells cs2 t2)) ∧ ((w.alloc (.cells cs1 t1)).alloc (.cells cs2 t2)).heap[w.heap.size]? = some (.cells cs1 t1 (0, 0)) ∧ ((w.alloc (.cells cs1 t1)).alloc (.cells cs2 t2)).heap[w.heap.size + 1]? = some (.cells cs2 t2 (0, 0)) := by
  have h1 := (Below.refl w.heap.size w).alloc (Nat.le_refl _) (.cells cs1 t1)
  have h2 := (Below.refl (w.alloc (.cells cs1 t1)).heap.size _).alloc (Nat.le_refl _) (.cells cs2 t2)
  refine ⟨h1.trans (h2.mono h1.size), blk_below (blk_new w (.cells cs1 t1)) h2, ?_⟩
  have h3 := blk_new (w.alloc (.cells cs1 t1)) (.cells cs2 t2)
  rw [show (w.alloc (.cells cs1 t1)).heap.size = w.heap.size + 1 from by simp] at h3
  exact h3

set_option maxRecDepth 100000 in
/-- Who doesn't lead is offered nothing. -/
theorem offer_none {w : World} {g : Nat} {S : St} (h : Co w g S) (hr : (S.role == 2) = false) (k : Int) (s : ByteArray) :
    Calls Try.prog 11 #[.pointer (some ⟨g, 0, none⟩), .int .i64 k, .string s] w fun e w' => e = .returned (.tuple #[noWord, .int .i64 8]) ∧ Below w.heap.size w w' := by
  have c8 := h.c8
  have hgl := h.lt
  have hr2 : (S.role != 2) = true := by rw [bne, hr]; rfl
  have hbk := blk_new w (.cells #[.bool false, .slice none 0 0, .slice none 0 0] 32)
  have HB1 := Lib.hid ((Below.refl w.heap.size w).alloc (Nat.le_refl _) (.cells #[.bool false, .slice none 0 0, .slice none 0 0] 32))
  have HBK := Lib.hid hbk
  have H := Lib.hid h
  clear h hbk
  go_enter Try.func11, Try.ntmps11
  go_wp2_with fail
  (try simp only [Exit.inBlock, Exit.then])
  refine bodyPost_ret (ret_word rfl _ _ w.heap.size 32 _ rfl HBK.out inf32) rfl ?_
  exact ⟨rfl, HB1.out⟩

set_option maxRecDepth 100000 in
set_option maxHeartbeats 1000000 in
/-- What is no entry is refused. -/
theorem offer_arg {w : World} {g : Nat} {S : St} (h : Co w g S) (hr : (S.role == 2) = true) (k : Int) (s : ByteArray) (hs : s.size ≤ 9223372036854775807) (hk : ¬ isEnt ⟨S.term, k, s⟩) :
    Calls Try.prog 11 #[.pointer (some ⟨g, 0, none⟩), .int .i64 k, .string s] w fun e w' => e = .returned (.tuple #[noWord, .int .i64 1]) ∧ Below w.heap.size w w' := by
  have c8 := h.c8
  have c1 := h.c1
  have hgl := h.lt
  have hr2 : (S.role != 2) = false := by rw [bne, hr]; rfl
  have HIE : Hid (∀ w', Calls Try.prog 38 #[.agg #[.int .i64 S.term, .int .i64 k, .string s]] w' fun e w'' => e = .returned (.bool false) ∧ Below w'.heap.size w' w'') := Lib.hid (fun w' => by
    have := isEntry_calls w' ⟨S.term, k, s⟩ hs
    rw [decide_eq_false hk] at this
    exact this)
  have H := Lib.hid h
  clear h hk
  go_enter Try.func11, Try.ntmps11
  go_upto_region 4 with fail
  have HT := Lib.hid (two_new w #[.bool false, .slice none 0 0, .slice none 0 0] #[.int .i64 S.term, .int .i64 k, .string s] 32 39)
  generalize (w.alloc (.cells #[.bool false, .slice none 0 0, .slice none 0 0] 32)).alloc (.cells #[.int .i64 S.term, .int .i64 k, .string s] 39) = w2 at HT ⊢
  have e0 : w2.cell? ⟨w.heap.size + 1, 0, none⟩ = some (.int .i64 S.term) := by rw [blk_cell HT.out.2.2]; rfl
  have e1 : w2.cell? ⟨w.heap.size + 1, 1, none⟩ = some (.int .i64 k) := by rw [blk_cell HT.out.2.2]; rfl
  have e2 : w2.cell? ⟨w.heap.size + 1, 2, none⟩ = some (.string s) := by rw [blk_cell HT.out.2.2]; rfl
  clear c8 c1
  go_upto_region 5 with ((with_reducible refine (HIE.out w2).mono ?_); rintro e w3 ⟨rfl, hb⟩; have HB3 := Lib.hid hb; clear hb)
  have HK3 := Lib.hid (blk_below HT.out.2.1 HB3.out)
  have HW3 := Lib.hid (HT.out.1.trans (HB3.out.mono HT.out.1.size))
  clear e0 e1 e2
  have z0 : w3.cell? ⟨w.heap.size, 0, none⟩ = some (.bool false) := by rw [blk_cell HK3.out]; rfl
  have z1 : w3.cell? ⟨w.heap.size, 1, none⟩ = some (.slice none 0 0) := by rw [blk_cell HK3.out]; rfl
  have z2 : w3.cell? ⟨w.heap.size, 2, none⟩ = some (.slice none 0 0) := by rw [blk_cell HK3.out]; rfl
  go_wp2_with (refine wpList_store_row rfl 32 (.tmp 6) (.tmp 32) rfl w.heap.size #[.bool false, .slice none 0 0, .slice none 0 0] rfl rfl 32 _ HK3.out inf32 rfl (by simp [Value.oneCell']) ?_)
  (try simp only [Exit.inBlock, Exit.then])
  refine bodyPost_ret (ret_word rfl _ _ w.heap.size 32 _ rfl (setRow_heap _ _ _ _ _ _ HK3.out) inf32) rfl ?_
  exact ⟨rfl, below_row HW3.out (Nat.le_refl _)⟩

set_option maxRecDepth 100000 in
set_option maxHeartbeats 2000000 in
/-- An entry is put to the log. -/
theorem offer_ok {w : World} {g : Nat} {S : St} (h : Co w g S) (hr : (S.role == 2) = true) (k : Int) (s : ByteArray) (hs : s.size ≤ 9223372036854775807) (hk : isEnt ⟨S.term, k, s⟩) (hk2 : k ≠ 2) (hf : Fit S ⟨S.term, k, s⟩) :
    Calls Try.prog 11 #[.pointer (some ⟨g, 0, none⟩), .int .i64 k, .string s] w fun e w' => ∃ A1 c1 A c, e = .returned (.tuple #[.agg #[.bool true, .slice S.mA S.mN S.mC, .slice A 1 c], .int .i64 0]) ∧ Co w' g (S.put ⟨S.term, k, s⟩ A1 c1 A c).quit ∧ Chg (fun k => k = g) w w' ∧ NewsAt w g w' A c (S.bidx + S.log.length + 1) ⟨S.term, k, s⟩ := by
  have c8 := h.c8
  have c1 := h.c1
  have hgl := h.lt
  have hr2 : (S.role != 2) = false := by rw [bne, hr]; rfl
  have HIE : Hid (∀ w', Calls Try.prog 38 #[.agg #[.int .i64 S.term, .int .i64 k, .string s]] w' fun e w'' => e = .returned (.bool true) ∧ Below w'.heap.size w' w'') := Lib.hid (fun w' => by
    have := isEntry_calls w' ⟨S.term, k, s⟩ hs
    rw [decide_eq_true hk] at this
    exact this)
  have H := Lib.hid h
  have HF := Lib.hid hf
  have hkb : (k == 2) = false := beq_eq_false_iff_ne.2 hk2
  have hroom : decide ((4096 : Int) ≤ (S.log.length : Int)) = false := decide_eq_false (by have := hf.room; omega)
  clear h hk hf hk2
  go_enter Try.func11, Try.ntmps11
  go_upto_region 4 with fail
  have HT := Lib.hid (two_new w #[.bool false, .slice none 0 0, .slice none 0 0] #[.int .i64 S.term, .int .i64 k, .string s] 32 39)
  generalize (w.alloc (.cells #[.bool false, .slice none 0 0, .slice none 0 0] 32)).alloc (.cells #[.int .i64 S.term, .int .i64 k, .string s] 39) = w2 at HT ⊢
  have e0 : w2.cell? ⟨w.heap.size + 1, 0, none⟩ = some (.int .i64 S.term) := by rw [blk_cell HT.out.2.2]; rfl
  have e1 : w2.cell? ⟨w.heap.size + 1, 1, none⟩ = some (.int .i64 k) := by rw [blk_cell HT.out.2.2]; rfl
  have e2 : w2.cell? ⟨w.heap.size + 1, 2, none⟩ = some (.string s) := by rw [blk_cell HT.out.2.2]; rfl
  clear c8 c1
  have HE2 := Lib.hid HT.out.2.2
  go_upto_region 6 with ((with_reducible refine (HIE.out w2).mono ?_); rintro e w3 ⟨rfl, hb⟩; have HB3 := Lib.hid hb; clear hb)
  have HK3 := Lib.hid (blk_below HT.out.2.1 HB3.out)
  have HW3 := Lib.hid (HT.out.1.trans (HB3.out.mono HT.out.1.size))
  clear e0 e1 e2
  have HC3 := Lib.hid (H.out.below HW3.out)
  have HE3 := Lib.hid (blk_below HE2.out HB3.out)
  have c7 := HC3.out.c7
  have HADD := Lib.hid (add_calls ⟨S.term, k, s⟩ HC3.out HF.out)
  go_upto_region 21 with fail
  have e0 : w3.cell? ⟨w.heap.size + 1, 0, none⟩ = some (.int .i64 S.term) := by rw [blk_cell HE3.out]; rfl
  have e1 : w3.cell? ⟨w.heap.size + 1, 1, none⟩ = some (.int .i64 k) := by rw [blk_cell HE3.out]; rfl
  have e2 : w3.cell? ⟨w.heap.size + 1, 2, none⟩ = some (.string s) := by rw [blk_cell HE3.out]; rfl
  clear c7
  go_upto_region 22 with ((with_reducible refine HADD.out.mono ?_); rintro e w4 ⟨A1, c1, A, c, rfl, h1, h2, h3⟩; have HC4 := Lib.hid h1; have HH4 := Lib.hid h2; have HN4 := Lib.hid h3; clear h1 h2 h3)
  have HK4 : Hid (w4.heap[w.heap.size]? = some (.cells #[.bool false, .slice none 0 0, .slice none 0 0] 32 (0, 0))) := Lib.hid ((HH4.out.block w.heap.size (blk_lt HK3.out) (by omega)).trans HK3.out)
  clear e0 e1 e2
  go_wp2_with (first | ((with_reducible refine (take_calls HC4.out).mono ?_); rintro e w5 ⟨rfl, hco, hch⟩; have HC5 := Lib.hid hco; have HH5 := Lib.hid hch; clear hco hch; have HK5 : Hid (w5.heap[w.heap.size]? = some (.cells #[.bool false, .slice none 0 0, .slice none 0 0] 32 (0, 0))) := (Lib.hid ((HH5.out.block w.heap.size (blk_lt HK4.out) (by omega)).trans HK4.out))) | (refine wpList_store_row rfl 32 (.tmp 6) (.tmp 85) rfl w.heap.size #[.bool true, .slice S.mA S.mN S.mC, .slice A 1 c] rfl rfl 32 _ HK5.out inf32 rfl (by simp [Value.oneCell']) ?_))
  (try simp only [Exit.inBlock, Exit.then])
  refine bodyPost_ret (ret_word rfl _ _ w.heap.size 32 _ rfl (setRow_heap _ _ _ _ _ _ HK5.out) inf32) rfl ?_
  refine ⟨A1, c1, A, c, rfl, HC5.out.row_far (by omega) HK5.out, ?_, ?_⟩
  · exact (((Chg.of_same HW3.out (fun k => k = g)).trans HH4.out (fun _ _ h => h)).trans HH5.out (fun _ _ h => h)).trans (chg_setRow _ _ _) (fun i hi hk => by omega)
  · have hw : w.heap.size < w3.heap.size := blk_lt HK3.out
    have h5 := HN4.out.chg HH5.out (Nat.lt_trans hgl hw)
    exact (own_move h5 (fun k hk => setRow_other _ _ _ _ (by have := own_base h5 k hk; omega))).weaken' (Nat.le_of_lt hw)

end Go.Proofs.Ytfanbhbpmhojaaa
