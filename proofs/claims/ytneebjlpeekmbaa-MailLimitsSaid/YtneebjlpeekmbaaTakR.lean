/- The closures that take a Ref and an Entry. Conditions: bytes are bytes. -/
import Derived.Test.YtneebjlpeekmbaaGetS
import Derived.Test.YtneebjlpeekmbaaEnc
namespace Go.Proofs.Ytneebjlpeekmbaa
open Go.RowKit Go.Proofs.YtneebjlpeekmbaaW.PrintWords Go.Proofs.YtneebjlpeekmbaaW.PrintLast Go.Proofs.YtneebjlpeekmbaaW.PrintMore PRef
set_option linter.unusedVariables false
set_option linter.unusedSimpArgs false

def refR (xs : List Int) (s : Option Nat) : S23 × Option Nat := (⟨(intR xs s).1, (intR xs (intR xs s).2).1⟩, (intR xs (intR xs s).2).2)
def entR (xs : List Int) (s : Option Nat) : S60 × Option Nat := (⟨(intR xs s).1, (intR xs (intR xs s).2).1, (textS xs (intR xs (intR xs s).2).2).1⟩, (textS xs (intR xs (intR xs s).2).2).2)


/-- The state of a function that fills a block b of its own out of a Reader. -/
structure Ts (w wr : World) (base g : Nat) (A : Option Addr) (c : Nat) (xs : List Int) (s : Option Nat) (b : Nat) (t : TypeId) (cs : Array Value) : Prop where
  rd : Rd wr base g A c xs s
  blk : wr.heap[b]? = some (.cells cs t (0, 0))
  chg : Chg (fun k => k = g) w wr
  new : w.heap.size ≤ b
  glt : g < w.heap.size
  alt : ∀ k, (Value.slice A xs.length c).ownBlock = some k → k < w.heap.size
namespace Ts
variable {w wr w2 : World} {base g : Nat} {A : Option Addr} {c : Nat} {xs : List Int} {s s' : Option Nat} {b : Nat} {t : TypeId} {cs cs' : Array Value}
theorem begin {w w1 : World} (h : Rd w base g A c xs s) (hb : Below w.heap.size w w1) (hk : w1.heap[b]? = some (.cells cs t (0, 0))) (hn : w.heap.size ≤ b) : Ts w w1 base g A c xs s b t cs :=
  ⟨h.below hb, hk, Chg.of_same hb _, hn, h.lt, fun k hk => own_lt h.2.1 k hk⟩
theorem read (h : Ts w wr base g A c xs s b t cs) (hr : Rd w2 base g A c xs s') (hc : Chg (fun k => k = g) wr w2) : Ts w w2 base g A c xs s' b t cs :=
  ⟨hr, hc.get h.blk (by have := h.new; have := h.glt; omega), chg_trans h.chg hc, h.new, h.glt, h.alt⟩
theorem below (h : Ts w wr base g A c xs s b t cs) (hb : Below wr.heap.size wr w2) : Ts w w2 base g A c xs s b t cs :=
  ⟨h.rd.below hb, blk_below h.blk hb, h.chg.trans (Chg.of_same hb _) (fun _ _ h => h), h.new, h.glt, h.alt⟩
theorem only (h : Ts w wr base g A c xs s b t cs) (hk : w2.heap[b]? = some (.cells cs' t (0, 0))) (hc : Chg (fun k => k = b) wr w2) : Ts w w2 base g A c xs s b t cs' :=
  ⟨h.rd.move hc (by have := h.new; have := h.glt; omega) (fun k hk => by have := h.alt k hk; have := h.new; omega), hk, h.chg.trans hc (fun i hi hb => by have := h.new; omega), h.new, h.glt, h.alt⟩
theorem put (h : Ts w wr base g A c xs s b t cs) (i : Nat) (u : Value) : Ts w (wr.setCell ⟨b, i, none⟩ u) base g A c xs s b t (cs.setIfInBounds i u) :=
  h.only (blk_set h.blk i u) ((Chg.refl (fun k => k = b) wr).setCell (.inl rfl) u)
theorem row (h : Ts w wr base g A c xs s b t cs) (cs' : Array Value) : Ts w (wr.setRow b cs') base g A c xs s b t cs' :=
  h.only (setRow_heap wr b cs cs' t (0, 0) h.blk) ⟨rfl, rfl, rfl, by rw [setRow_size]; exact Nat.le_refl _, fun i hi hn => setRow_other wr b i cs' hn⟩
theorem cell (h : Ts w wr base g A c xs s b t cs) (i : Nat) : wr.cell? ⟨b, i, none⟩ = cs[i]? := blk_cell h.blk i
theorem frozen (h : Ts w wr base g A c xs s b t cs) (i : Nat) : wr.frozen? ⟨b, i, none⟩ = false := blk_frozen h.blk i
end Ts

theorem inf23 : (Try.prog.info? 23).map (·.size) = some 2 := by kernel_rfl
theorem inf60 : (Try.prog.info? 60).map (·.size) = some 3 := by kernel_rfl

set_option maxRecDepth 100000 in
set_option maxHeartbeats 2000000 in
theorem takeref_calls {w : World} {base g : Nat} {A : Option Addr} {c : Nat} {xs : List Int} {s : Option Nat} (h : Rd w base g A c xs s) :
    Calls Try.prog 72 #[.pointer (some ⟨g, 0, none⟩)] w fun e w' => e = .returned (.agg #[.int .i64 (refR xs s).1.f0, .int .i64 (refR xs s).1.f1]) ∧ Rd w' base g A c xs (refR xs s).2 ∧ Chg (fun k => k = g) w w' := by
  have HT := Lib.hid (Ts.begin h ((Below.refl w.heap.size w).alloc (Nat.le_refl _) (.cells #[.int .i64 0, .int .i64 0] 23)) (blk_new w (.cells #[.int .i64 0, .int .i64 0] 23)) (Nat.le_refl _))
  clear h
  go_enter Try.func72, Try.ntmps72
  go_wp2_with fail
  generalize w.alloc (.cells #[.int .i64 0, .int .i64 0] 23) = w1 at HT ⊢
  ((with_reducible refine (rdint_calls HT.out.rd).mono ?_); rintro e w2 ⟨rfl, hr, hc⟩; have HT2 := Lib.hid (HT.out.read hr hc); clear hr hc)
  go_wp2_with fail
  ((with_reducible refine (rdint_calls HT2.out.rd).mono ?_); rintro e w3 ⟨rfl, hr, hc⟩; have HT3 := Lib.hid (HT2.out.read hr hc); clear hr hc)
  go_wp2_with (refine wpList_store_row rfl 23 (.tmp 2) (.tmp 9) rfl w.heap.size #[.int .i64 (intR xs s).1, .int .i64 (intR xs (intR xs s).2).1] rfl rfl 23 _ HT3.out.blk inf23 rfl (by simp [Value.oneCell']) ?_)
  have HT4 := HT3.out.row #[.int .i64 (intR xs s).1, .int .i64 (intR xs (intR xs s).2).1]
  (try simp only [Exit.inBlock, Exit.then])
  refine bodyPost_ret (results_cell_row rfl _ _ w.heap.size 23 _ (0, 0) _ rfl HT4.blk Try.underlying23 rfl inf23) rfl ?_
  exact ⟨rfl, HT4.rd, HT4.chg⟩

set_option maxRecDepth 100000 in
set_option maxHeartbeats 2000000 in
theorem takeent_calls {w : World} {base g : Nat} {A : Option Addr} {c : Nat} {xs : List Int} {s : Option Nat} (h : Rd w base g A c xs s) :
    Calls Try.prog 38 #[.pointer (some ⟨g, 0, none⟩)] w fun e w' => e = .returned (.agg #[.int .i64 (entR xs s).1.f0, .int .i64 (entR xs s).1.f1, .string (entR xs s).1.f2]) ∧ Rd w' base g A c xs (entR xs s).2 ∧ Chg (fun k => k = g) w w' := by
  have HT := Lib.hid (Ts.begin h ((Below.refl w.heap.size w).alloc (Nat.le_refl _) (.cells #[.int .i64 0, .int .i64 0, .string ⟨#[]⟩] 60)) (blk_new w (.cells #[.int .i64 0, .int .i64 0, .string ⟨#[]⟩] 60)) (Nat.le_refl _))
  clear h
  go_enter Try.func38, Try.ntmps38
  go_wp2_with fail
  generalize w.alloc (.cells #[.int .i64 0, .int .i64 0, .string ⟨#[]⟩] 60) = w1 at HT ⊢
  ((with_reducible refine (rdint_calls HT.out.rd).mono ?_); rintro e w2 ⟨rfl, hr, hc⟩; have HT2 := Lib.hid (HT.out.read hr hc); clear hr hc)
  go_wp2_with fail
  ((with_reducible refine (rdint_calls HT2.out.rd).mono ?_); rintro e w3 ⟨rfl, hr, hc⟩; have HT3 := Lib.hid (HT2.out.read hr hc); clear hr hc)
  go_wp2_with fail
  ((with_reducible refine (rdtextS_calls HT3.out.rd).mono ?_); rintro e w4 ⟨rfl, hr, hc⟩; have HT4 := Lib.hid (HT3.out.read hr hc); clear hr hc)
  go_wp2_with (refine wpList_store_row rfl 60 (.tmp 2) (.tmp 13) rfl w.heap.size #[.int .i64 (intR xs s).1, .int .i64 (intR xs (intR xs s).2).1, .string (textS xs (intR xs (intR xs s).2).2).1] rfl rfl 60 _ HT4.out.blk inf60 rfl (by simp [Value.oneCell']) ?_)
  have HT5 := HT4.out.row #[.int .i64 (intR xs s).1, .int .i64 (intR xs (intR xs s).2).1, .string (textS xs (intR xs (intR xs s).2).2).1]
  (try simp only [Exit.inBlock, Exit.then])
  refine bodyPost_ret (results_cell_row rfl _ _ w.heap.size 60 _ (0, 0) _ rfl HT5.blk Try.underlying60 rfl inf60) rfl ?_
  exact ⟨rfl, HT5.rd, HT5.chg⟩

end Go.Proofs.Ytneebjlpeekmbaa
