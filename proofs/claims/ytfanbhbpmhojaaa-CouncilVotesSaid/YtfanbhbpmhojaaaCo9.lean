/- A voter alone: Tick. Conditions: as told of a council's block; its one voter is itself. -/
import Derived.Test.YtfanbhbpmhojaaaCo8
namespace Go.Proofs.Ytfanbhbpmhojaaa
open Go.RowKit Go.Proofs.YtfanbhbpmhojaaaW.PrintWords Go.Proofs.YtfanbhbpmhojaaaW.PrintLast Go.Proofs.YtfanbhbpmhojaaaW.PrintMore PRef
attribute [local go_sem] max2_int min2_int max_two min_two
set_option linter.unusedVariables false
set_option linter.unusedSimpArgs false

/-- A tick later. -/
def St.tick (S : St) : St := { S with clock := S.clock + 1 }
theorem chg_setRow (w : World) (b : Nat) (cs : Array Value) : Chg (fun k => k = b) w (w.setRow b cs) := ⟨rfl, rfl, rfl, by rw [setRow_size]; exact Nat.le_refl _, fun i hi hn => setRow_other w b i cs hn⟩
theorem below_row {w0 w : World} {b : Nat} {cs : Array Value} (h : Below w0.heap.size w0 w) (hb : w0.heap.size ≤ b) : Below w0.heap.size w0 (w.setRow b cs) :=
  h.trans ⟨rfl, rfl, rfl, by rw [setRow_size]; exact Nat.le_refl _, fun i hi => setRow_other w b i cs (by omega)⟩
theorem Co.no32 {w : World} {g b : Nat} {S : St} (h : Co w g S) {x : Bool} {A1 A2 : Option Addr} {n1 n2 c1 c2 : Nat} (hk : w.heap[b]? = some (.cells #[.bool x, .slice A1 n1 c1, .slice A2 n2 c2] 32 (0, 0))) (hl : 0 < S.log.length) (ad : Addr) (hA : S.A = some ad) : ad.block ≠ b := by
  obtain ⟨ad', hA', hc, _⟩ := at_T39 h.row 0 (by omega) (by omega)
  rw [hA] at hA'
  cases hA'
  intro hb
  have hb2 : (ad.add ((0 : Int).toNat * 3)).block = b := by rw [add_block]; exact hb
  generalize ad.add ((0 : Int).toNat * 3) = p at hc hb2
  unfold World.cell? at hc
  rw [hb2, hk] at hc
  simp only at hc
  split at hc
  · cases hc
  · rcases hp : p.off with _ | _ | _ | n
    all_goals rw [hp] at hc; simp at hc
theorem Co.row_far {w : World} {g b : Nat} {S : St} {cs : Array Value} (h : Co w g S) (hg : g ≠ b) {x : Bool} {A1 A2 : Option Addr} {n1 n2 c1 c2 : Nat} (hk : w.heap[b]? = some (.cells #[.bool x, .slice A1 n1 c1, .slice A2 n2 c2] 32 (0, 0))) : Co (w.setRow b cs) g S := by
  refine ⟨(setRow_other w b g cs hg).trans h.blk, ?_, h.cap, h.far, h.len, h.lo, h.hi, h.tx, h.bv⟩
  by_cases h0 : S.log.length = 0
  · exact ⟨rfl, by omega, fun hp => by omega⟩
  · exact row_chg h.row (fun ad hA => h.no32 hk (by omega) ad hA) (chg_setRow w b cs)

theorem _root_.Go.World.ownsRow.weaken' {w : World} {base base' : Nat} {e : TypeId} {size n : Nat} {v : Value} {xs : List Value} (h : w.ownsRow base e size v n xs) (hb : base' ≤ base) : w.ownsRow base' e size v n xs := own_weaken h hb

set_option maxRecDepth 100000 in
set_option maxHeartbeats 1000000 in
theorem tick_wait {w : World} {g : Nat} {S : St} (h : Co w g S) (hr : (S.role == 2) = false) (hs0 : 0 ≤ S.self) (hs7 : S.self < 7) (hc0 : 0 ≤ S.clock) (hc : S.clock + 1 < 10 + 3 * S.self) :
    Calls Try.prog 12 #[.pointer (some ⟨g, 0, none⟩)] w fun e w' => e = .returned (.agg #[.bool S.keep, .slice S.mA S.mN S.mC, .slice S.nA S.nN S.nC]) ∧ Co w' g S.tick.quit ∧ Chg (fun k => k = g) w w' := by
  have c12 := h.c12
  have f12 := h.frozen 12
  have hgl := h.lt
  have H := Lib.hid h
  have hbk := Lib.hid (blk_new w (.cells #[.bool false, .slice none 0 0, .slice none 0 0] 32))
  have HB1 := Lib.hid ((Below.refl w.heap.size w).alloc (Nat.le_refl _) (.cells #[.bool false, .slice none 0 0, .slice none 0 0] 32))
  clear h
  go_enter Try.func12, Try.ntmps12
  go_upto_region 4 with fail
  have HC2 : Hid (Co ((w.setCell ⟨g, 12, none⟩ (.int .i64 (S.clock + 1))).alloc (.cells #[.bool false, .slice none 0 0, .slice none 0 0] 32)) g S.tick ∧ Chg (fun k => k = g) w ((w.setCell ⟨g, 12, none⟩ (.int .i64 (S.clock + 1))).alloc (.cells #[.bool false, .slice none 0 0, .slice none 0 0] 32)) ∧ ((w.setCell ⟨g, 12, none⟩ (.int .i64 (S.clock + 1))).alloc (.cells #[.bool false, .slice none 0 0, .slice none 0 0] 32)).heap[w.heap.size]? = some (.cells #[.bool false, .slice none 0 0, .slice none 0 0] 32 (0, 0))) := Lib.hid (by
    have hc : Chg (fun k => k = g) w (w.setCell ⟨g, 12, none⟩ (.int .i64 (S.clock + 1))) := (Chg.refl (fun k => k = g) w).setCell (p := ⟨g, 12, none⟩) (.inl (by rfl)) _
    have hco : Co (w.setCell ⟨g, 12, none⟩ (.int .i64 (S.clock + 1))) g S.tick := H.out.upd hc (blk_set H.out.blk 12 (.int .i64 (S.clock + 1))) rfl rfl rfl rfl rfl
    have hn := blk_new (w.setCell ⟨g, 12, none⟩ (.int .i64 (S.clock + 1))) (.cells #[.bool false, .slice none 0 0, .slice none 0 0] 32)
    rw [show (w.setCell ⟨g, 12, none⟩ (.int .i64 (S.clock + 1))).heap.size = w.heap.size from by simp] at hn
    exact ⟨hco.below ((Below.refl _ _).alloc (Nat.le_refl _) _), hc.alloc _, hn⟩)
  clear c12 f12 hbk HB1
  generalize (w.setCell ⟨g, 12, none⟩ (.int .i64 (S.clock + 1))).alloc (.cells #[.bool false, .slice none 0 0, .slice none 0 0] 32) = w2 at HC2 ⊢
  have c8 : w2.cell? ⟨g, 8, none⟩ = some (.int .i64 S.role) := HC2.out.1.c8
  go_upto_region 7 with fail
  have c12 : w2.cell? ⟨g, 12, none⟩ = some (.int .i64 (S.clock + 1)) := HC2.out.1.c12
  have c0 : w2.cell? ⟨g, 0, none⟩ = some (.int .i64 S.self) := HC2.out.1.c0
  have hw1 : IntKind.i64.wrap (3 * S.self) = 3 * S.self := IntWalk.i64_in _ (by omega)
  have hw2 : IntKind.i64.wrap (10 + 3 * S.self) = 10 + 3 * S.self := IntWalk.i64_in _ (by omega)
  have hd : decide (10 + 3 * S.self ≤ S.clock + 1) = false := decide_eq_false (by omega)
  go_quiet (fail)
  have HC3 := Lib.hid (show Co (w2.drewN nq) g S.tick from HC2.out.1.drewN nq)
  have HH3 := Lib.hid (HC2.out.2.1.drewN nq)
  have HK3 : Hid ((w2.drewN nq).heap[w.heap.size]? = some (.cells #[.bool false, .slice none 0 0, .slice none 0 0] 32 (0, 0))) := Lib.hid HC2.out.2.2
  clear c8 c12 c0 hd hw1 hw2
  generalize w2.drewN nq = w3 at HC3 HH3 HK3 ⊢
  go_wp2_with (first | ((with_reducible refine (take_calls HC3.out).mono ?_); rintro e w4 ⟨rfl, hco, hch⟩; have HC4 := Lib.hid hco; have HH4 := Lib.hid hch; clear hco hch; have HK4 : Hid (w4.heap[w.heap.size]? = some (.cells #[.bool false, .slice none 0 0, .slice none 0 0] 32 (0, 0))) := (Lib.hid ((HH4.out.block w.heap.size (blk_lt HK3.out) (by omega)).trans HK3.out))) | (refine wpList_store_row rfl 32 (.tmp 2) (.tmp 46) rfl w.heap.size #[.bool S.tick.keep, .slice S.tick.mA S.tick.mN S.tick.mC, .slice S.tick.nA S.tick.nN S.tick.nC] rfl rfl 32 _ HK4.out inf32 rfl (by simp [Value.oneCell']) ?_))
  (try simp only [Exit.inBlock, Exit.then])
  refine bodyPost_ret (results_cell_row rfl _ _ w.heap.size 32 _ (0, 0) _ rfl (setRow_heap _ _ _ _ _ _ HK4.out) Try.underlying32 rfl inf32) rfl ?_
  have hcr : Chg (fun k => k = g) w (w4.setRow w.heap.size #[.bool S.tick.keep, .slice S.tick.mA S.tick.mN S.tick.mC, .slice S.tick.nA S.tick.nN S.tick.nC]) := (HH3.out.trans HH4.out (fun _ _ h => h)).trans (chg_setRow _ _ _) (fun i hi hk => by omega)
  refine ⟨rfl, HC4.out.row_far (by omega) HK4.out, hcr⟩

set_option maxRecDepth 100000 in
set_option maxHeartbeats 1000000 in
theorem tick_elect {w : World} {g : Nat} {S : St} (j : Nat) (hj : S.self = j) (h : Co w g S) (hn : Near S) (hr : (S.role == 2) = false) (hc0 : 0 ≤ S.clock) (hc9 : S.clock ≤ 4611686018427387904) (hc : 10 + 3 * S.self ≤ S.clock + 1) (ht0 : 0 ≤ S.term) (ht1 : S.term < 1099511627776) :
    Calls Try.prog 12 #[.pointer (some ⟨g, 0, none⟩)] w fun e w' => ∃ nx mt A1 c1 A c, e = .returned (.agg #[.bool true, .slice S.mA S.mN S.mC, .slice A 1 c]) ∧ Co w' g (((S.tick.asks j).lead nx mt).put (zeroEnt (S.term + 1)) A1 c1 A c).quit ∧ Chg (fun k => k = g) w w' ∧ NewsAt w g w' A c (S.bidx + S.log.length + 1) (zeroEnt (S.term + 1)) := by
  have c12 := h.c12
  have f12 := h.frozen 12
  have hgl := h.lt
  have H := Lib.hid h
  have hs0 := hn.lone.s0
  have hs7 := hn.lone.s7
  have hm0 := h.lo
  have hm1 := h.hi
  have hm2 := h.len
  have hcm := hn.com
  have HJ := Lib.hid hj
  have HN := Lib.hid hn
  have hbk := Lib.hid (blk_new w (.cells #[.bool false, .slice none 0 0, .slice none 0 0] 32))
  have HB1 := Lib.hid ((Below.refl w.heap.size w).alloc (Nat.le_refl _) (.cells #[.bool false, .slice none 0 0, .slice none 0 0] 32))
  have HCM := Lib.hid (show -4611686018427387904 ≤ S.commit ∧ S.commit ≤ 4611686018427387904 from by omega)
  clear h hj hn hm0 hm1 hm2 hcm
  go_enter Try.func12, Try.ntmps12
  go_upto_region 4 with fail
  have HC2 : Hid (Co ((w.setCell ⟨g, 12, none⟩ (.int .i64 (S.clock + 1))).alloc (.cells #[.bool false, .slice none 0 0, .slice none 0 0] 32)) g S.tick ∧ Chg (fun k => k = g) w ((w.setCell ⟨g, 12, none⟩ (.int .i64 (S.clock + 1))).alloc (.cells #[.bool false, .slice none 0 0, .slice none 0 0] 32)) ∧ ((w.setCell ⟨g, 12, none⟩ (.int .i64 (S.clock + 1))).alloc (.cells #[.bool false, .slice none 0 0, .slice none 0 0] 32)).heap[w.heap.size]? = some (.cells #[.bool false, .slice none 0 0, .slice none 0 0] 32 (0, 0))) := Lib.hid (by
    have hc : Chg (fun k => k = g) w (w.setCell ⟨g, 12, none⟩ (.int .i64 (S.clock + 1))) := (Chg.refl (fun k => k = g) w).setCell (p := ⟨g, 12, none⟩) (.inl (by rfl)) _
    have hco : Co (w.setCell ⟨g, 12, none⟩ (.int .i64 (S.clock + 1))) g S.tick := H.out.upd hc (blk_set H.out.blk 12 (.int .i64 (S.clock + 1))) rfl rfl rfl rfl rfl
    have hn := blk_new (w.setCell ⟨g, 12, none⟩ (.int .i64 (S.clock + 1))) (.cells #[.bool false, .slice none 0 0, .slice none 0 0] 32)
    rw [show (w.setCell ⟨g, 12, none⟩ (.int .i64 (S.clock + 1))).heap.size = w.heap.size from by simp] at hn
    exact ⟨hco.below ((Below.refl _ _).alloc (Nat.le_refl _) _), hc.alloc _, hn⟩)
  clear c12 f12 hbk HB1
  generalize (w.setCell ⟨g, 12, none⟩ (.int .i64 (S.clock + 1))).alloc (.cells #[.bool false, .slice none 0 0, .slice none 0 0] 32) = w2 at HC2 ⊢
  have c8 : w2.cell? ⟨g, 8, none⟩ = some (.int .i64 S.role) := HC2.out.1.c8
  go_upto_region 7 with fail
  have c12 : w2.cell? ⟨g, 12, none⟩ = some (.int .i64 (S.clock + 1)) := HC2.out.1.c12
  have c0 : w2.cell? ⟨g, 0, none⟩ = some (.int .i64 S.self) := HC2.out.1.c0
  have hw1 : IntKind.i64.wrap (3 * S.self) = 3 * S.self := IntWalk.i64_in _ (by omega)
  have hw2 : IntKind.i64.wrap (10 + 3 * S.self) = 10 + 3 * S.self := IntWalk.i64_in _ (by omega)
  have hd : decide (10 + 3 * S.self ≤ S.clock + 1) = true := decide_eq_true (by omega)
  have hd2 : ∀ w', Below w2.drew.heap.size w2.drew w' → Below w2.heap.size w2 w' := fun w' hb => (pw_below_drewN (Below.refl w2.heap.size w2) 1).trans hb
  have hln : Lone S.tick := ⟨HN.out.lone.s0, HN.out.lone.s7, HN.out.lone.bv, HN.out.lone.ks⟩
  have HNT : Hid (Near S.tick) := Lib.hid ⟨hln, HN.out.com, HN.out.told, HN.out.room, HN.out.news⟩
  refine tick_due _ _ _ _ _ _ _ _ _ _ _ _ _ _ _ _ _ _ _ _ _ _ _ _ _ _ _ _ _ _ _ _ _ _ _ _ _ _ _ _ _ _ _ _ _ _ g w2 _ (S.clock + 1) S.self true (fun _ _ _ _ _ h => h) c12 c0 hw1 hw2 hd (fun w' hb => may_calls (HC2.out.1.below (hd2 w' hb)) hln HCM.out.1 HCM.out.2) ?_
  intro w3 hb3
  have HC3 := Lib.hid (HC2.out.1.below (hd2 w3 hb3))
  have HH3 := Lib.hid (HC2.out.2.1.trans (Chg.of_same (hd2 w3 hb3) (fun k => k = g)) (fun _ _ h => h))
  have HK3 : Hid (w3.heap[w.heap.size]? = some (.cells #[.bool false, .slice none 0 0, .slice none 0 0] 32 (0, 0))) := Lib.hid (blk_below HC2.out.2.2 (hd2 w3 hb3))
  clear c8 c12 c0 hd hw1 hw2 hd2 hb3 hln
  simp only [Exit.then]
  go_wp2_with fail
  have HW := Lib.hid (elect_calls (S := S.tick) j HJ.out HC3.out HNT.out ht0 ht1)
  ((with_reducible refine HW.out.mono ?_); rintro e w4 ⟨nx, mt, A1, c1, A, c, rfl, h1, h2, h3⟩)
  have HC4 := Lib.hid h1
  have HH4 := Lib.hid h2
  have HN4 := Lib.hid h3
  have HK4 : Hid (w4.heap[w.heap.size]? = some (.cells #[.bool false, .slice none 0 0, .slice none 0 0] 32 (0, 0))) := Lib.hid ((h2.block w.heap.size (blk_lt HK3.out) (by omega)).trans HK3.out)
  clear h1 h2 h3
  go_wp2_with (first | ((with_reducible refine (take_calls HC4.out).mono ?_); rintro e w5 ⟨rfl, hco, hch⟩; have HC5 := Lib.hid hco; have HH5 := Lib.hid hch; clear hco hch; have HK5 : Hid (w5.heap[w.heap.size]? = some (.cells #[.bool false, .slice none 0 0, .slice none 0 0] 32 (0, 0))) := (Lib.hid ((HH5.out.block w.heap.size (blk_lt HK4.out) (by omega)).trans HK4.out))) | (refine wpList_store_row rfl 32 (.tmp 2) (.tmp 46) rfl w.heap.size #[.bool true, .slice S.mA S.mN S.mC, .slice A 1 c] rfl rfl 32 _ HK5.out inf32 rfl (by simp [Value.oneCell']) ?_))
  (try simp only [Exit.inBlock, Exit.then])
  refine bodyPost_ret (results_cell_row rfl _ _ w.heap.size 32 _ (0, 0) _ rfl (setRow_heap _ _ _ _ _ _ HK5.out) Try.underlying32 rfl inf32) rfl ?_
  refine ⟨nx, mt, A1, c1, A, c, rfl, HC5.out.row_far (by omega) HK5.out, ?_, ?_⟩
  · exact ((HH3.out.trans HH4.out (fun _ _ h => h)).trans HH5.out (fun _ _ h => h)).trans (chg_setRow _ _ _) (fun i hi hk => by omega)
  · have hw : w.heap.size < w3.heap.size := blk_lt HK3.out
    have h5 := HN4.out.chg HH5.out (Nat.lt_trans hgl hw)
    exact (own_move h5 (fun k hk => setRow_other _ _ _ _ (by have := own_base h5 k hk; omega))).weaken' (Nat.le_of_lt hw)

end Go.Proofs.Ytfanbhbpmhojaaa
