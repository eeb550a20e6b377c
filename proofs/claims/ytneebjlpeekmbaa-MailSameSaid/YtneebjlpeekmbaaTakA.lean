/- The closures that take a Ref and an Entry. Conditions: bytes are bytes. Get of package octet, at Refs and Entries. Conditions: bytes are bytes. How a command is taken from a Reader. Conditions: bytes are bytes. How an instance is taken from a Reader. Conditions: bytes are bytes. -/
import Derived.Test.YtneebjlpeekmbaaGetS
import Derived.Test.YtneebjlpeekmbaaEnc
import Derived.Deep.MidRow
namespace Go.Proofs.Ytneebjlpeekmbaa
open Go.RowKit Go.Proofs.YtneebjlpeekmbaaW.PrintWords Go.Proofs.YtneebjlpeekmbaaW.PrintLast Go.Proofs.YtneebjlpeekmbaaW.PrintMore PRef
set_option linter.unusedVariables false
set_option linter.unusedSimpArgs false

def refR (xs : List Int) (s : Option Nat) : S23 × Option Nat := (⟨(intR xs s).1, (intR xs (intR xs s).2).1⟩, (intR xs (intR xs s).2).2)
def entR (xs : List Int) (s : Option Nat) : S60 × Option Nat := (⟨(intR xs s).1, (intR xs (intR xs s).2).1, (textS xs (intR xs (intR xs s).2).2).1⟩, (textS xs (intR xs (intR xs s).2).2).2)


/-- The state of a function that fills a block b of its own out of a Reader. -/
structure Ts (w wr : World) (base g : Nat) (A : Option Addr) (c : Nat) (xs : List Int) (s : Option Nat) (b : Nat) (t : TypeId) (cs : Array Value) : Prop where
  rd : Rd wr base g A c xs s
  blk : wr.heap[b]? = some (.cells cs t (0, 0))
  chg : Chg (fun k => k = g) w wr
  new : w.heap.size ≤ b
  glt : g < w.heap.size
  alt : ∀ k, (Value.slice A xs.length c).ownBlock = some k → k < w.heap.size
namespace Ts
variable {w wr w2 : World} {base g : Nat} {A : Option Addr} {c : Nat} {xs : List Int} {s s' : Option Nat} {b : Nat} {t : TypeId} {cs cs' : Array Value}
theorem begin {w w1 : World} (h : Rd w base g A c xs s) (hb : Below w.heap.size w w1) (hk : w1.heap[b]? = some (.cells cs t (0, 0))) (hn : w.heap.size ≤ b) : Ts w w1 base g A c xs s b t cs :=
  ⟨h.below hb, hk, Chg.of_same hb _, hn, h.lt, fun k hk => own_lt h.2.1 k hk⟩
theorem read (h : Ts w wr base g A c xs s b t cs) (hr : Rd w2 base g A c xs s') (hc : Chg (fun k => k = g) wr w2) : Ts w w2 base g A c xs s' b t cs :=
  ⟨hr, hc.get h.blk (by have := h.new; have := h.glt; omega), chg_trans h.chg hc, h.new, h.glt, h.alt⟩
theorem below (h : Ts w wr base g A c xs s b t cs) (hb : Below wr.heap.size wr w2) : Ts w w2 base g A c xs s b t cs :=
  ⟨h.rd.below hb, blk_below h.blk hb, h.chg.trans (Chg.of_same hb _) (fun _ _ h => h), h.new, h.glt, h.alt⟩
theorem only (h : Ts w wr base g A c xs s b t cs) (hk : w2.heap[b]? = some (.cells cs' t (0, 0))) (hc : Chg (fun k => k = b) wr w2) : Ts w w2 base g A c xs s b t cs' :=
  ⟨h.rd.move hc (by have := h.new; have := h.glt; omega) (fun k hk => by have := h.alt k hk; have := h.new; omega), hk, h.chg.trans hc (fun i hi hb => by have := h.new; omega), h.new, h.glt, h.alt⟩
theorem put (h : Ts w wr base g A c xs s b t cs) (i : Nat) (u : Value) : Ts w (wr.setCell ⟨b, i, none⟩ u) base g A c xs s b t (cs.setIfInBounds i u) :=
  h.only (blk_set h.blk i u) ((Chg.refl (fun k => k = b) wr).setCell (.inl rfl) u)
theorem row (h : Ts w wr base g A c xs s b t cs) (cs' : Array Value) : Ts w (wr.setRow b cs') base g A c xs s b t cs' :=
  h.only (setRow_heap wr b cs cs' t (0, 0) h.blk) ⟨rfl, rfl, rfl, by rw [setRow_size]; exact Nat.le_refl _, fun i hi hn => setRow_other wr b i cs' hn⟩
theorem cell (h : Ts w wr base g A c xs s b t cs) (i : Nat) : wr.cell? ⟨b, i, none⟩ = cs[i]? := blk_cell h.blk i
theorem frozen (h : Ts w wr base g A c xs s b t cs) (i : Nat) : wr.frozen? ⟨b, i, none⟩ = false := blk_frozen h.blk i
end Ts

theorem inf23 : (Try.prog.info? 23).map (·.size) = some 2 := by kernel_rfl
theorem inf60 : (Try.prog.info? 60).map (·.size) = some 3 := by kernel_rfl

set_option maxRecDepth 100000 in
set_option maxHeartbeats 2000000 in
theorem takeref_calls {w : World} {base g : Nat} {A : Option Addr} {c : Nat} {xs : List Int} {s : Option Nat} (h : Rd w base g A c xs s) :
    Calls Try.prog 72 #[.pointer (some ⟨g, 0, none⟩)] w fun e w' => e = .returned (.agg #[.int .i64 (refR xs s).1.f0, .int .i64 (refR xs s).1.f1]) ∧ Rd w' base g A c xs (refR xs s).2 ∧ Chg (fun k => k = g) w w' := by
  have HT := Lib.hid (Ts.begin h ((Below.refl w.heap.size w).alloc (Nat.le_refl _) (.cells #[.int .i64 0, .int .i64 0] 23)) (blk_new w (.cells #[.int .i64 0, .int .i64 0] 23)) (Nat.le_refl _))
  clear h
  go_enter Try.func72, Try.ntmps72
  go_wp2_with fail
  generalize w.alloc (.cells #[.int .i64 0, .int .i64 0] 23) = w1 at HT ⊢
  ((with_reducible refine (rdint_calls HT.out.rd).mono ?_); rintro e w2 ⟨rfl, hr, hc⟩; have HT2 := Lib.hid (HT.out.read hr hc); clear hr hc)
  go_wp2_with fail
  ((with_reducible refine (rdint_calls HT2.out.rd).mono ?_); rintro e w3 ⟨rfl, hr, hc⟩; have HT3 := Lib.hid (HT2.out.read hr hc); clear hr hc)
  go_wp2_with (refine wpList_store_row rfl 23 (.tmp 2) (.tmp 9) rfl w.heap.size #[.int .i64 (intR xs s).1, .int .i64 (intR xs (intR xs s).2).1] rfl rfl 23 _ HT3.out.blk inf23 rfl (by simp [Value.oneCell']) ?_)
  have HT4 := HT3.out.row #[.int .i64 (intR xs s).1, .int .i64 (intR xs (intR xs s).2).1]
  (try simp only [Exit.inBlock, Exit.then])
  refine bodyPost_ret (results_cell_row rfl _ _ w.heap.size 23 _ (0, 0) _ rfl HT4.blk Try.underlying23 rfl inf23) rfl ?_
  exact ⟨rfl, HT4.rd, HT4.chg⟩

set_option maxRecDepth 100000 in
set_option maxHeartbeats 2000000 in
theorem takeent_calls {w : World} {base g : Nat} {A : Option Addr} {c : Nat} {xs : List Int} {s : Option Nat} (h : Rd w base g A c xs s) :
    Calls Try.prog 38 #[.pointer (some ⟨g, 0, none⟩)] w fun e w' => e = .returned (.agg #[.int .i64 (entR xs s).1.f0, .int .i64 (entR xs s).1.f1, .string (entR xs s).1.f2]) ∧ Rd w' base g A c xs (entR xs s).2 ∧ Chg (fun k => k = g) w w' := by
  have HT := Lib.hid (Ts.begin h ((Below.refl w.heap.size w).alloc (Nat.le_refl _) (.cells #[.int .i64 0, .int .i64 0, .string ⟨#[]⟩] 60)) (blk_new w (.cells #[.int .i64 0, .int .i64 0, .string ⟨#[]⟩] 60)) (Nat.le_refl _))
  clear h
  go_enter Try.func38, Try.ntmps38
  go_wp2_with fail
  generalize w.alloc (.cells #[.int .i64 0, .int .i64 0, .string ⟨#[]⟩] 60) = w1 at HT ⊢
  ((with_reducible refine (rdint_calls HT.out.rd).mono ?_); rintro e w2 ⟨rfl, hr, hc⟩; have HT2 := Lib.hid (HT.out.read hr hc); clear hr hc)
  go_wp2_with fail
  ((with_reducible refine (rdint_calls HT2.out.rd).mono ?_); rintro e w3 ⟨rfl, hr, hc⟩; have HT3 := Lib.hid (HT2.out.read hr hc); clear hr hc)
  go_wp2_with fail
  ((with_reducible refine (rdtextS_calls HT3.out.rd).mono ?_); rintro e w4 ⟨rfl, hr, hc⟩; have HT4 := Lib.hid (HT3.out.read hr hc); clear hr hc)
  go_wp2_with (refine wpList_store_row rfl 60 (.tmp 2) (.tmp 13) rfl w.heap.size #[.int .i64 (intR xs s).1, .int .i64 (intR xs (intR xs s).2).1, .string (textS xs (intR xs (intR xs s).2).2).1] rfl rfl 60 _ HT4.out.blk inf60 rfl (by simp [Value.oneCell']) ?_)
  have HT5 := HT4.out.row #[.int .i64 (intR xs s).1, .int .i64 (intR xs (intR xs s).2).1, .string (textS xs (intR xs (intR xs s).2).2).1]
  (try simp only [Exit.inBlock, Exit.then])
  refine bodyPost_ret (results_cell_row rfl _ _ w.heap.size 60 _ (0, 0) _ rfl HT5.blk Try.underlying60 rfl inf60) rfl ?_
  exact ⟨rfl, HT5.rd, HT5.chg⟩

end Go.Proofs.Ytneebjlpeekmbaa

namespace Go.Proofs.Ytneebjlpeekmbaa
open Go.RowKit Go.Proofs.YtneebjlpeekmbaaW.PrintWords Go.Proofs.YtneebjlpeekmbaaW.PrintLast Go.Proofs.YtneebjlpeekmbaaW.PrintMore PRef
set_option linter.unusedVariables false
set_option linter.unusedSimpArgs false

theorem zinfo23 : (Try.prog.info? 23).map (fun i => (i.zero, i.size, i.bytes)) = some (some (.agg #[.int .i64 0, .int .i64 0]), 2, 16) := by kernel_rfl
theorem zinfo60 : (Try.prog.info? 60).map (fun i => (i.zero, i.size, i.bytes)) = some (some (.agg #[.int .i64 0, .int .i64 0, .string ⟨#[]⟩]), 3, 32) := by kernel_rfl
def cells23 (p : S23) (cs : List Value) : Prop := cs = [.int .i64 p.f0, .int .i64 p.f1]
def cells60 (p : S60) (cs : List Value) : Prop := cs = [.int .i64 p.f0, .int .i64 p.f1, .string p.f2]
def OwnR (w : World) (base : Nat) (v : Value) (l : List S23) : Prop := OwnRow cells23 23 2 w base v l
def OwnE (w : World) (base : Nat) (v : Value) (l : List S60) : Prop := OwnRow cells60 60 3 w base v l
section
variable {α : Type} {R : α → List Value → Prop} {e : TypeId} {size : Nat} {w w1 : World} {base : Nat} {v : Value} {l : List α}
theorem orow_base (h : OwnRow R e size w base v l) : ∀ k, v.ownBlock = some k → base ≤ k := by
  obtain ⟨inner, ho, hr⟩ := h
  exact own_base ho
theorem orow_lt (h : OwnRow R e size w base v l) : ∀ k, v.ownBlock = some k → k < w.heap.size := by
  obtain ⟨inner, ho, hr⟩ := h
  exact own_lt ho
theorem orow_move (h : OwnRow R e size w base v l) (hm : ∀ k, v.ownBlock = some k → w1.heap[k]? = w.heap[k]?) : OwnRow R e size w1 base v l := by
  obtain ⟨inner, ho, hr⟩ := h
  exact ⟨inner, own_move ho hm, hr⟩
end
theorem OwnR.reads {w : World} {base : Nat} {v : Value} {l : List S23} (h : OwnR w base v l) : ∃ A c, v = .slice A l.length c ∧ InR w A c l := by
  obtain ⟨A, c, rfl, hc, hr⟩ := OwnRow.reads h
  exact ⟨A, c, rfl, hr.imp_ (Below.refl _ _) (fun p cs hp => by rw [show cs = _ from hp]; exact k23_mk w p), hc⟩
theorem OwnE.reads {w : World} {base : Nat} {v : Value} {l : List S60} (h : OwnE w base v l) : ∃ A c, v = .slice A l.length c ∧ InE w A c l := by
  obtain ⟨A, c, rfl, hc, hr⟩ := OwnRow.reads h
  exact ⟨A, c, rfl, hr.imp_ (Below.refl _ _) (fun p cs hp => by rw [show cs = _ from hp]; exact k60_mk w p), hc⟩
theorem OwnS.readsC {w : World} {base : Nat} {v : Value} {l : List ByteArray} (h : OwnS w base v l) : ∃ A c, v = .slice A l.length c ∧ InC w A c l := by
  obtain ⟨A, c, rfl, hc, hr⟩ := OwnS.reads h
  refine ⟨A, c, rfl, ⟨hr.1, hr.2.1, fun h0 => ?_⟩, hc⟩
  obtain ⟨ad, e, hcell⟩ := hr.2.2 h0
  refine ⟨ad, e, fun j p hj => ⟨[.string p], rfl, rfl, fun i u hu => ?_⟩⟩
  have hlt := (List.getElem?_eq_some_iff.1 hj).1
  have h1 := hcell j hlt
  rw [List.getD_eq_getElem?_getD, hj] at h1
  cases i with
  | zero =>
    obtain rfl : Value.string p = u := by simpa using hu
    rw [show j * Kd.string.sz + 0 = j from by show j * 1 + 0 = j; omega]
    exact h1
  | succ i => simp at hu

set_option maxRecDepth 100000 in
set_option maxHeartbeats 1000000 in
theorem getref_calls {w : World} {base g : Nat} {A : Option Addr} {c : Nat} {xs : List Int} {s : Option Nat} (h : Rd w base g A c xs s) :
    Calls Try.prog 71 #[.pointer (some ⟨g, 0, none⟩), .func (.func 72) #[] #[]] w fun e w' => ∃ v, e = .returned v ∧ OwnR w' w.heap.size v (getR xs (refR xs) s).1 ∧ Rd w' base g A c xs (getR xs (refR xs) s).2 ∧ Chg (fun k => k = g) w w' := by
  have hll := h.len
  have H := Lib.hid h
  clear h
  have hn := numR_lt xs s
  obtain ⟨L, hL⟩ : ∃ L, L = getR xs (refR xs) s := ⟨_, rfl⟩
  rw [← hL]
  unfold getR at hL
  generalize hm : numR xs s = m at hn hL
  have HM := Lib.hid hm
  clear hm
  obtain ⟨n, u⟩ := m
  dsimp only at hn hL
  have HG0 := Lib.hid hL
  clear hL
  go_enter Try.func71, Try.ntmps71
  go_wp2_with fail
  ((with_reducible refine (rdnum_calls H.out).mono ?_); rw [HM.out]; rintro e w2 ⟨rfl, hr, hc⟩; have HR2 := Lib.hid hr; have HC2 := Lib.hid hc; clear hr hc)
  go_upto_region 2 with fail
  have hlf : leftR xs u < 9223372036854775808 := by unfold leftR; omega
  go_cut [18] (fun v wc => v = .bool (decide (4096 < n ∨ leftR xs u < n)) ∧ Hid (Rd wc base g A c xs u) ∧ Hid (Chg (fun k => k = g) w wc))
  case first =>
    by_cases hbig : 4096 < n
    · go_wp2_with fail
      go_meet
      exact ⟨by simp [hbig], HR2, HC2⟩
    · go_wp2_with fail
      ((with_reducible refine (left_calls HR2.out).mono ?_); rintro e w3 ⟨rfl, hb⟩; have HB := Lib.hid hb; clear hb)
      go_wp2_with fail
      go_meet
      refine ⟨?_, Lib.hid (HR2.out.below HB.out), Lib.hid (HC2.out.trans (Chg.of_same HB.out _) (fun _ _ h => h))⟩
      congr 1
      rw [Bool.eq_iff_iff]
      simp only [Bool.or_eq_true, decide_eq_true_iff]
      omega
  case rest =>
  obtain ⟨rfl, HR3, HC3⟩ := hcut
  clear HR2 HC2
  generalize wc = w3 at HR3 HC3 ⊢
  obtain ⟨t, ht⟩ : ∃ t, t = if 4096 < n ∨ leftR xs u < n then none else u := ⟨_, rfl⟩
  have hG := HG0.out
  rw [← ht] at hG
  have HG := Lib.hid hG
  have HT := Lib.hid ht
  clear ht hG HG0
  go_upto_if 18 with fail
  go_cut [] (fun wc => Hid (Rd wc base g A c xs t) ∧ Hid (Chg (fun k => k = g) w wc))
  case first =>
    by_cases hbad : 4096 < n ∨ leftR xs u < n
    · have hd : decide (4096 < n ∨ leftR xs u < n) = true := by simpa using hbad
      have HTn := HT.out
      rw [if_pos hbad] at HTn
      subst HTn
      go_wp2_with ((with_reducible refine (fail_calls HR3.out).mono ?_); rintro e w4 ⟨rfl, hr, hc⟩; have HR4 := Lib.hid hr; have HC4 := Lib.hid hc; clear hr hc)
      go_meet
      exact ⟨HR4, Lib.hid (chg_trans HC3.out HC4.out)⟩
    · have hd : decide (4096 < n ∨ leftR xs u < n) = false := by simpa using hbad
      have HTn := HT.out
      rw [if_neg hbad] at HTn
      subst HTn
      go_wp2_with fail
      go_meet
      exact ⟨HR3, HC3⟩
  case rest =>
  obtain ⟨HR4, HC4⟩ := hcut
  clear HR3 HC3
  generalize wc = w4 at HR4 HC4 ⊢
  go_wp2_with fail
  have hT4 : t ≠ none → n ≤ 4096 := by
    intro h
    by_cases hbad : 4096 < n ∨ leftR xs u < n
    · exact absurd (by rw [HT.out, if_pos hbad]) h
    · omega
  have HT4 := Lib.hid hT4
  have hgl := H.out.lt
  clear hT4
  go_loopw [6, 7] (fun vl vi wr => ∃ (i : Nat) (l : List S23) (t' : Option Nat), vi = .int .u64 i ∧ i ≤ n ∧ l.length = i ∧ Hid (OwnR wr w.heap.size vl l) ∧ Hid (l ++ (loopR (refR xs) (n - i) t').1 = (loopR (refR xs) n t).1) ∧ Hid ((loopR (refR xs) (n - i) t').2 = (loopR (refR xs) n t).2) ∧ Hid (t' ≠ none → n ≤ 4096) ∧ Hid (Rd wr base g A c xs t') ∧ Hid (Chg (fun k => k = g) w wr)) (fun _ vi _ => n - (intOf vi).toNat)
  case atStart => exact ⟨0, [], t, rfl, by omega, rfl, Lib.hid (OwnRow.none_ _ _ _ _ _), Lib.hid (by simp), Lib.hid (by simp), HT4, HR4, HC4⟩
  case round =>
    obtain ⟨i, l, t', rfl, hi, hl, HO, HE1, HE2, HN, HR, HC⟩ := hrel
    subst hl
    cases t' with
    | none =>
      have HZ : Hid ((loopR (refR xs) n t).2 = none) := Lib.hid (by rw [← HE2.out, loopR_none])
      by_cases hlt : l.length < n
      all_goals
        go_wp2_with ((with_reducible refine (bad_calls HR.out).mono ?_); rintro e w' ⟨rfl, rfl⟩)
        go_ret
        obtain rfl : L = ([], none) := by rw [HG.out, if_pos HZ.out]
        exact ⟨_, rfl, OwnRow.none_ _ _ _ _ _, HR.out, HC.out⟩
    | some a =>
      have hn4 := HN.out (by simp)
      by_cases hlt : l.length < n
      · obtain ⟨B, d, rfl, _⟩ := HO.out.reads
        go_wp2_with ((with_reducible refine (bad_calls HR.out).mono ?_); rintro e w' ⟨rfl, rfl⟩)
        ((with_reducible refine (takeref_calls HR.out).mono ?_); rintro e w5 ⟨rfl, hr, hc⟩)
        have HR5 := Lib.hid hr
        have HC5 := Lib.hid (chg_trans HC.out hc)
        have hne : ∀ k, (Value.slice B l.length d).ownBlock = some k → k ≠ g := fun k hk => by have := orow_base HO.out k hk; omega
        have HO5 := Lib.hid (show OwnR w5 w.heap.size (.slice B l.length d) l from orow_move HO.out (fun k hk => hc.block k (orow_lt HO.out k hk) (hne k hk)))
        have hE1 : (l ++ [(refR xs (some a)).1]) ++ (loopR (refR xs) (n - (l.length + 1)) (refR xs (some a)).2).1 = (loopR (refR xs) n t).1 := by
          rw [← HE1.out, show n - l.length = (n - (l.length + 1)) + 1 from by omega, loopR_some]; simp
        have hE2 : (loopR (refR xs) (n - (l.length + 1)) (refR xs (some a)).2).2 = (loopR (refR xs) n t).2 := by
          rw [← HE2.out, show n - l.length = (n - (l.length + 1)) + 1 from by omega, loopR_some]
        have HE1' := Lib.hid hE1
        have HE2' := Lib.hid hE2
        clear hr hc hE1 hE2
        generalize refR xs (some a) = q at HR5 HE1' HE2' ⊢
        obtain ⟨z, t2⟩ := q
        go_wp2_with ((with_reducible refine gate_builtin (b := .append) (xs := #[.tmp 31, .tmp 35]) rfl ?_); at_builtin; refine OwnRow.append (w0 := w5) w.heap.size rfl (.tmp 31) (.tmp 35) 29 23 (.agg #[.int .i64 0, .int .i64 0]) 2 16 rfl Try.underlying29 zinfo23 rfl (by decide) (by decide) _ l z [.int .i64 z.f0, .int .i64 z.f1] rfl rfl rfl rfl (by simp [Value.oneCell']) HO5.out (Below.refl _ _) HC5.out.size ?hl ?_; (case hl => omega); intro v1 w6 hown hB hg hat; have HO6 := Lib.hid hown; have HG6 := Lib.hid hg; clear hown hB hg hat)
        have hcg : Chg (fun k => w.heap.size ≤ k) w5 w6 := Chg.of_grown HG6.out (fun k hk => orow_base HO5.out k hk)
        have hA : ∀ k, (Value.slice A xs.length c).ownBlock = some k → ¬ w.heap.size ≤ k := fun k hk => by have := own_lt H.out.2.1 k hk; omega
        have HR6 := Lib.hid (HR5.out.move hcg (by omega) hA)
        have HC6 := Lib.hid (HC5.out.trans hcg (fun i hi hk => absurd hk (by omega)))
        clear hcg hA hne
        go_roundw
        case measure => simp [intOf]; omega
        case rel =>
          refine ⟨l.length + 1, l ++ [z], t2, by go_num, by omega, by simp, ?_, HE1', HE2', Lib.hid (fun _ => hn4), HR6, HC6⟩
          exact HO6
      · have hin : l.length = n := by omega
        have hz : (loopR (refR xs) n t).2 = some a := by rw [← HE2.out, hin, Nat.sub_self]; rfl
        have hl2 : l = (loopR (refR xs) n t).1 := by rw [← HE1.out, hin, Nat.sub_self]; simp [loopR]
        have HZ := Lib.hid hz
        have HL := Lib.hid hl2
        clear hin hz hl2
        go_wp2_with ((with_reducible refine (bad_calls HR.out).mono ?_); rintro e w' ⟨rfl, rfl⟩)
        go_ret
        obtain rfl : L = (l, some a) := by rw [HG.out, if_neg (by rw [HZ.out]; simp), ← HZ.out, HL.out]
        exact ⟨_, rfl, HO.out, HR.out, HC.out⟩


set_option maxRecDepth 100000 in
set_option maxHeartbeats 1000000 in
theorem getent_calls {w : World} {base g : Nat} {A : Option Addr} {c : Nat} {xs : List Int} {s : Option Nat} (h : Rd w base g A c xs s) :
    Calls Try.prog 37 #[.pointer (some ⟨g, 0, none⟩), .func (.func 38) #[] #[]] w fun e w' => ∃ v, e = .returned v ∧ OwnE w' w.heap.size v (getR xs (entR xs) s).1 ∧ Rd w' base g A c xs (getR xs (entR xs) s).2 ∧ Chg (fun k => k = g) w w' := by
  have hll := h.len
  have H := Lib.hid h
  clear h
  have hn := numR_lt xs s
  obtain ⟨L, hL⟩ : ∃ L, L = getR xs (entR xs) s := ⟨_, rfl⟩
  rw [← hL]
  unfold getR at hL
  generalize hm : numR xs s = m at hn hL
  have HM := Lib.hid hm
  clear hm
  obtain ⟨n, u⟩ := m
  dsimp only at hn hL
  have HG0 := Lib.hid hL
  clear hL
  go_enter Try.func37, Try.ntmps37
  go_wp2_with fail
  ((with_reducible refine (rdnum_calls H.out).mono ?_); rw [HM.out]; rintro e w2 ⟨rfl, hr, hc⟩; have HR2 := Lib.hid hr; have HC2 := Lib.hid hc; clear hr hc)
  go_upto_region 2 with fail
  have hlf : leftR xs u < 9223372036854775808 := by unfold leftR; omega
  go_cut [18] (fun v wc => v = .bool (decide (4096 < n ∨ leftR xs u < n)) ∧ Hid (Rd wc base g A c xs u) ∧ Hid (Chg (fun k => k = g) w wc))
  case first =>
    by_cases hbig : 4096 < n
    · go_wp2_with fail
      go_meet
      exact ⟨by simp [hbig], HR2, HC2⟩
    · go_wp2_with fail
      ((with_reducible refine (left_calls HR2.out).mono ?_); rintro e w3 ⟨rfl, hb⟩; have HB := Lib.hid hb; clear hb)
      go_wp2_with fail
      go_meet
      refine ⟨?_, Lib.hid (HR2.out.below HB.out), Lib.hid (HC2.out.trans (Chg.of_same HB.out _) (fun _ _ h => h))⟩
      congr 1
      rw [Bool.eq_iff_iff]
      simp only [Bool.or_eq_true, decide_eq_true_iff]
      omega
  case rest =>
  obtain ⟨rfl, HR3, HC3⟩ := hcut
  clear HR2 HC2
  generalize wc = w3 at HR3 HC3 ⊢
  obtain ⟨t, ht⟩ : ∃ t, t = if 4096 < n ∨ leftR xs u < n then none else u := ⟨_, rfl⟩
  have hG := HG0.out
  rw [← ht] at hG
  have HG := Lib.hid hG
  have HT := Lib.hid ht
  clear ht hG HG0
  go_upto_if 18 with fail
  go_cut [] (fun wc => Hid (Rd wc base g A c xs t) ∧ Hid (Chg (fun k => k = g) w wc))
  case first =>
    by_cases hbad : 4096 < n ∨ leftR xs u < n
    · have hd : decide (4096 < n ∨ leftR xs u < n) = true := by simpa using hbad
      have HTn := HT.out
      rw [if_pos hbad] at HTn
      subst HTn
      go_wp2_with ((with_reducible refine (fail_calls HR3.out).mono ?_); rintro e w4 ⟨rfl, hr, hc⟩; have HR4 := Lib.hid hr; have HC4 := Lib.hid hc; clear hr hc)
      go_meet
      exact ⟨HR4, Lib.hid (chg_trans HC3.out HC4.out)⟩
    · have hd : decide (4096 < n ∨ leftR xs u < n) = false := by simpa using hbad
      have HTn := HT.out
      rw [if_neg hbad] at HTn
      subst HTn
      go_wp2_with fail
      go_meet
      exact ⟨HR3, HC3⟩
  case rest =>
  obtain ⟨HR4, HC4⟩ := hcut
  clear HR3 HC3
  generalize wc = w4 at HR4 HC4 ⊢
  go_wp2_with fail
  have hT4 : t ≠ none → n ≤ 4096 := by
    intro h
    by_cases hbad : 4096 < n ∨ leftR xs u < n
    · exact absurd (by rw [HT.out, if_pos hbad]) h
    · omega
  have HT4 := Lib.hid hT4
  have hgl := H.out.lt
  clear hT4
  go_loopw [6, 7] (fun vl vi wr => ∃ (i : Nat) (l : List S60) (t' : Option Nat), vi = .int .u64 i ∧ i ≤ n ∧ l.length = i ∧ Hid (OwnE wr w.heap.size vl l) ∧ Hid (l ++ (loopR (entR xs) (n - i) t').1 = (loopR (entR xs) n t).1) ∧ Hid ((loopR (entR xs) (n - i) t').2 = (loopR (entR xs) n t).2) ∧ Hid (t' ≠ none → n ≤ 4096) ∧ Hid (Rd wr base g A c xs t') ∧ Hid (Chg (fun k => k = g) w wr)) (fun _ vi _ => n - (intOf vi).toNat)
  case atStart => exact ⟨0, [], t, rfl, by omega, rfl, Lib.hid (OwnRow.none_ _ _ _ _ _), Lib.hid (by simp), Lib.hid (by simp), HT4, HR4, HC4⟩
  case round =>
    obtain ⟨i, l, t', rfl, hi, hl, HO, HE1, HE2, HN, HR, HC⟩ := hrel
    subst hl
    cases t' with
    | none =>
      have HZ : Hid ((loopR (entR xs) n t).2 = none) := Lib.hid (by rw [← HE2.out, loopR_none])
      by_cases hlt : l.length < n
      all_goals
        go_wp2_with ((with_reducible refine (bad_calls HR.out).mono ?_); rintro e w' ⟨rfl, rfl⟩)
        go_ret
        obtain rfl : L = ([], none) := by rw [HG.out, if_pos HZ.out]
        exact ⟨_, rfl, OwnRow.none_ _ _ _ _ _, HR.out, HC.out⟩
    | some a =>
      have hn4 := HN.out (by simp)
      by_cases hlt : l.length < n
      · obtain ⟨B, d, rfl, _⟩ := HO.out.reads
        go_wp2_with ((with_reducible refine (bad_calls HR.out).mono ?_); rintro e w' ⟨rfl, rfl⟩)
        ((with_reducible refine (takeent_calls HR.out).mono ?_); rintro e w5 ⟨rfl, hr, hc⟩)
        have HR5 := Lib.hid hr
        have HC5 := Lib.hid (chg_trans HC.out hc)
        have hne : ∀ k, (Value.slice B l.length d).ownBlock = some k → k ≠ g := fun k hk => by have := orow_base HO.out k hk; omega
        have HO5 := Lib.hid (show OwnE w5 w.heap.size (.slice B l.length d) l from orow_move HO.out (fun k hk => hc.block k (orow_lt HO.out k hk) (hne k hk)))
        have hE1 : (l ++ [(entR xs (some a)).1]) ++ (loopR (entR xs) (n - (l.length + 1)) (entR xs (some a)).2).1 = (loopR (entR xs) n t).1 := by
          rw [← HE1.out, show n - l.length = (n - (l.length + 1)) + 1 from by omega, loopR_some]; simp
        have hE2 : (loopR (entR xs) (n - (l.length + 1)) (entR xs (some a)).2).2 = (loopR (entR xs) n t).2 := by
          rw [← HE2.out, show n - l.length = (n - (l.length + 1)) + 1 from by omega, loopR_some]
        have HE1' := Lib.hid hE1
        have HE2' := Lib.hid hE2
        clear hr hc hE1 hE2
        generalize entR xs (some a) = q at HR5 HE1' HE2' ⊢
        obtain ⟨z, t2⟩ := q
        go_wp2_with ((with_reducible refine gate_builtin (b := .append) (xs := #[.tmp 31, .tmp 35]) rfl ?_); at_builtin; refine OwnRow.append (w0 := w5) w.heap.size rfl (.tmp 31) (.tmp 35) 32 60 (.agg #[.int .i64 0, .int .i64 0, .string ⟨#[]⟩]) 3 32 rfl Try.underlying32 zinfo60 rfl (by decide) (by decide) _ l z [.int .i64 z.f0, .int .i64 z.f1, .string z.f2] rfl rfl rfl rfl (by simp [Value.oneCell']) HO5.out (Below.refl _ _) HC5.out.size ?hl ?_; (case hl => omega); intro v1 w6 hown hB hg hat; have HO6 := Lib.hid hown; have HG6 := Lib.hid hg; clear hown hB hg hat)
        have hcg : Chg (fun k => w.heap.size ≤ k) w5 w6 := Chg.of_grown HG6.out (fun k hk => orow_base HO5.out k hk)
        have hA : ∀ k, (Value.slice A xs.length c).ownBlock = some k → ¬ w.heap.size ≤ k := fun k hk => by have := own_lt H.out.2.1 k hk; omega
        have HR6 := Lib.hid (HR5.out.move hcg (by omega) hA)
        have HC6 := Lib.hid (HC5.out.trans hcg (fun i hi hk => absurd hk (by omega)))
        clear hcg hA hne
        go_roundw
        case measure => simp [intOf]; omega
        case rel =>
          refine ⟨l.length + 1, l ++ [z], t2, by go_num, by omega, by simp, ?_, HE1', HE2', Lib.hid (fun _ => hn4), HR6, HC6⟩
          exact HO6
      · have hin : l.length = n := by omega
        have hz : (loopR (entR xs) n t).2 = some a := by rw [← HE2.out, hin, Nat.sub_self]; rfl
        have hl2 : l = (loopR (entR xs) n t).1 := by rw [← HE1.out, hin, Nat.sub_self]; simp [loopR]
        have HZ := Lib.hid hz
        have HL := Lib.hid hl2
        clear hin hz hl2
        go_wp2_with ((with_reducible refine (bad_calls HR.out).mono ?_); rintro e w' ⟨rfl, rfl⟩)
        go_ret
        obtain rfl : L = (l, some a) := by rw [HG.out, if_neg (by rw [HZ.out]; simp), ← HZ.out, HL.out]
        exact ⟨_, rfl, HO.out, HR.out, HC.out⟩


end Go.Proofs.Ytneebjlpeekmbaa

namespace Go.Proofs.Ytneebjlpeekmbaa
open Go.RowKit Go.Proofs.YtneebjlpeekmbaaW.PrintWords Go.Proofs.YtneebjlpeekmbaaW.PrintLast Go.Proofs.YtneebjlpeekmbaaW.PrintMore PRef
set_option linter.unusedVariables false
set_option linter.unusedSimpArgs false

/-- Whole numbers, one behind the other. -/
def intsR (xs : List Int) : Nat → Option Nat → List Int × Option Nat
  | 0, s => ([], s)
  | n + 1, s => ((intsR xs n s).1 ++ [(intR xs (intsR xs n s).2).1], (intR xs (intsR xs n s).2).2)
theorem intsR_succ (xs : List Int) (n : Nat) (s : Option Nat) : intsR xs (n + 1) s = ((intsR xs n s).1 ++ [(intR xs (intsR xs n s).2).1], (intR xs (intsR xs n s).2).2) := rfl
theorem intsR_len (xs : List Int) (s : Option Nat) : ∀ n, (intsR xs n s).1.length = n
  | 0 => rfl
  | n + 1 => by rw [intsR_succ, List.length_append, intsR_len xs s n]; rfl
/-- Cells from off on, filled. -/
def fill (cs : Array Value) (off : Nat) : List Int → Array Value
  | [] => cs
  | v :: vs => fill (cs.setIfInBounds off (.int .i64 v)) (off + 1) vs
theorem fill_snoc : ∀ (l : List Int) (cs : Array Value) (off : Nat) (v : Int), fill cs off (l ++ [v]) = (fill cs off l).setIfInBounds (off + l.length) (.int .i64 v)
  | [], cs, off, v => rfl
  | a :: l, cs, off, v => by
    show fill _ (off + 1) (l ++ [v]) = _
    rw [fill_snoc l, List.length_cons, Nat.add_assoc, Nat.add_comm 1 l.length]
    rfl
theorem fill_size : ∀ (l : List Int) (cs : Array Value) (off : Nat), (fill cs off l).size = cs.size
  | [], cs, off => rfl
  | a :: l, cs, off => by
    show (fill _ (off + 1) l).size = _
    rw [fill_size l, Array.size_setIfInBounds]

theorem own_base_mono {w : World} {b0 b1 n size : Nat} {e : TypeId} {v : Value} {xs : List Value} (h : w.ownsRow b1 e size v n xs) (hb : b0 ≤ b1) : w.ownsRow b0 e size v n xs := by
  obtain ⟨h1, h2⟩ := h
  refine ⟨h1, ?_⟩
  rcases h2 with h | ⟨g, cap, cur, e, hg, r⟩
  · exact .inl h
  · exact .inr ⟨g, cap, cur, e, Nat.le_trans hb hg, r⟩
def cmd0 : Cmd := ⟨0, 0, 0, 0, 0, []⟩
def cmdR (xs : List Int) (s : Option Nat) : Cmd × Option Nat :=
  let b := byteR xs s
  let p := intsR xs 4 b.2
  let t := getR xs (textS xs) p.2
  if t.2 = none then (cmd0, none) else (⟨b.1, p.1.getD 0 0, p.1.getD 1 0, p.1.getD 2 0, p.1.getD 3 0, t.1⟩, t.2)
theorem inf28 : (Try.prog.info? 28).map (·.size) = some 6 := by kernel_rfl

set_option maxRecDepth 100000 in
set_option maxHeartbeats 4000000 in
theorem takecmd_calls {w : World} {base g : Nat} {A : Option Addr} {c : Nat} {xs : List Int} {s : Option Nat} (h : Rd w base g A c xs s) :
    Calls Try.prog 70 #[.pointer (some ⟨g, 0, none⟩)] w fun e w' => ∃ v, e = .returned (.agg #[.int .i64 (cmdR xs s).1.op, .int .i64 (cmdR xs s).1.client, .int .i64 (cmdR xs s).1.seq, .int .i64 (cmdR xs s).1.cfrom, .int .i64 (cmdR xs s).1.cto, v]) ∧ OwnS w' w.heap.size v (cmdR xs s).1.data ∧ Rd w' base g A c xs (cmdR xs s).2 ∧ Chg (fun k => k = g) w w' := by
  have hbr := byteR_range xs s h.2.2.2.2
  have HT := Lib.hid (Ts.begin h ((Below.refl w.heap.size w).alloc (Nat.le_refl _) (.cells #[.int .i64 0, .int .i64 0, .int .i64 0, .int .i64 0, .int .i64 0, .slice none 0 0] 28)) (blk_new w (.cells #[.int .i64 0, .int .i64 0, .int .i64 0, .int .i64 0, .int .i64 0, .slice none 0 0] 28)) (Nat.le_refl _))
  clear h
  generalize hCR : cmdR xs s = cr
  have HCR := Lib.hid hCR
  clear hCR
  unfold cmdR at HCR
  obtain ⟨z, hz⟩ : ∃ z, z = byteR xs s := ⟨_, rfl⟩
  rw [← hz] at HCR hbr
  have HZ := Lib.hid hz
  clear hz
  obtain ⟨b0, s1⟩ := z
  dsimp only at HCR hbr
  have hw0 : IntKind.i64.wrap b0 = b0 := IntWalk.i64_in _ (by omega)
  go_enter Try.func70, Try.ntmps70
  go_wp2_with fail
  generalize w.alloc (.cells #[.int .i64 0, .int .i64 0, .int .i64 0, .int .i64 0, .int .i64 0, .slice none 0 0] 28) = w1 at HT ⊢
  ((with_reducible refine (rdbyte_calls HT.out.rd).mono ?_); rw [← HZ.out]; rintro e w2 ⟨rfl, hr, hc⟩; have HT2 := Lib.hid (HT.out.read hr hc); clear hr hc)
  have hcl := HT2.out.cell 0
  have hfz := HT2.out.frozen 0
  rw [show (#[Value.int .i64 0, .int .i64 0, .int .i64 0, .int .i64 0, .int .i64 0, .slice none 0 0])[0]? = some (Value.int .i64 0) from rfl] at hcl
  go_upto_region 2 with fail
  have HT2b : Hid (Ts w (w2.setCell ⟨w.heap.size, 0, none⟩ (.int .i64 b0)) base g A c xs s1 w.heap.size 28 #[.int .i64 b0, .int .i64 0, .int .i64 0, .int .i64 0, .int .i64 0, .slice none 0 0]) := Lib.hid (HT2.out.put 0 (.int .i64 b0))
  clear hcl hfz
  generalize w2.setCell ⟨w.heap.size, 0, none⟩ (.int .i64 b0) = w2b at HT2b ⊢
  go_wp2_with fail
  have hp3 := blk_new w2b (.cells #[.pointer (some ⟨w.heap.size, 1, none⟩), .pointer (some ⟨w.heap.size, 2, none⟩), .pointer (some ⟨w.heap.size, 3, none⟩), .pointer (some ⟨w.heap.size, 4, none⟩)] 78)
  have HP3 := Lib.hid hp3
  have HT3 := Lib.hid (HT2b.out.below ((Below.refl w2b.heap.size w2b).alloc (Nat.le_refl _) (.cells #[.pointer (some ⟨w.heap.size, 1, none⟩), .pointer (some ⟨w.heap.size, 2, none⟩), .pointer (some ⟨w.heap.size, 3, none⟩), .pointer (some ⟨w.heap.size, 4, none⟩)] 78)))
  have HN3 : Hid (w2b.heap.size ≠ g ∧ w2b.heap.size ≠ w.heap.size) := Lib.hid ⟨by have := HT2b.out.chg.size; have := HT2b.out.glt; omega, by have := blk_lt HT2b.out.blk; omega⟩
  clear hp3
  generalize w2b.alloc (.cells #[.pointer (some ⟨w.heap.size, 1, none⟩), .pointer (some ⟨w.heap.size, 2, none⟩), .pointer (some ⟨w.heap.size, 3, none⟩), .pointer (some ⟨w.heap.size, 4, none⟩)] 78) = w3 at HP3 HT3 ⊢
  go_loopw [15] (fun vi wr => ∃ i : Nat, vi = .int .i64 i ∧ i ≤ 4 ∧ Hid (Ts w wr base g A c xs (intsR xs i s1).2 w.heap.size 28 (fill #[.int .i64 b0, .int .i64 0, .int .i64 0, .int .i64 0, .int .i64 0, .slice none 0 0] 1 (intsR xs i s1).1)) ∧ Hid (wr.heap[w2b.heap.size]? = some (.cells #[.pointer (some ⟨w.heap.size, 1, none⟩), .pointer (some ⟨w.heap.size, 2, none⟩), .pointer (some ⟨w.heap.size, 3, none⟩), .pointer (some ⟨w.heap.size, 4, none⟩)] 78 (0, 0)))) (fun vi _ => 4 - (intOf vi).toNat)
  case atStart => exact ⟨0, rfl, by omega, HT3, HP3⟩
  case round =>
  obtain ⟨i, rfl, hi, HT, HP⟩ := hrel
  by_cases hlt : i < 4
  · have hptr : wr.cell? ⟨w2b.heap.size, i, none⟩ = some (.pointer (some ⟨w.heap.size, 1 + i, none⟩)) := by
      rw [blk_cell HP.out]
      have : i = 0 ∨ i = 1 ∨ i = 2 ∨ i = 3 := by omega
      rcases this with rfl | rfl | rfl | rfl <;> rfl
    go_wp2_with fail
    ((with_reducible refine (rdint_calls HT.out.rd).mono ?_); rintro e wq ⟨rfl, hr, hc⟩)
    have HTq := Lib.hid (HT.out.read hr hc)
    have HPq := Lib.hid (hc.get HP.out HN3.out.1)
    have hfz := HTq.out.frozen (1 + i)
    obtain ⟨X, hX⟩ : ∃ X, (fill #[.int .i64 b0, .int .i64 0, .int .i64 0, .int .i64 0, .int .i64 0, .slice none 0 0] 1 (intsR xs i s1).1)[1 + i]? = some X := ⟨_, Array.getElem?_eq_getElem (by rw [fill_size]; show 1 + i < 6; omega)⟩
    have hcl := HTq.out.cell (1 + i)
    rw [hX] at hcl
    clear hr hc hX
    go_wp2_with fail
    go_roundw
    case measure => simp [intOf]; omega
    case rel =>
      refine ⟨i + 1, by go_num, by omega, Lib.hid ?_, Lib.hid (blk_far HPq.out HN3.out.2 _)⟩
      have := HTq.out.put (1 + i) (.int .i64 (intR xs (intsR xs i s1).2).1)
      rw [intsR_succ, fill_snoc, intsR_len]
      skip
      exact this
  obtain rfl : i = 4 := by omega
  have HT3 := HT
  clear hlt hi HT HP HP3 HN3
  obtain ⟨v1, v2, v3, v4, s5, hi5⟩ : ∃ v1 v2 v3 v4 s5, intsR xs 4 s1 = ([v1, v2, v3, v4], s5) := ⟨_, _, _, _, _, rfl⟩
  have HT4 := HT3.out
  have hcr := HCR.out
  rw [hi5] at HT4 hcr
  dsimp only at HT4 hcr
  have HT4 : Hid (Ts w wr base g A c xs s5 w.heap.size 28 #[.int .i64 b0, .int .i64 v1, .int .i64 v2, .int .i64 v3, .int .i64 v4, .slice none 0 0]) := Lib.hid HT4
  obtain ⟨t, ht⟩ : ∃ t, t = getR xs (textS xs) s5 := ⟨_, rfl⟩
  rw [← ht] at hcr
  have HTT := Lib.hid ht
  have HCR := Lib.hid hcr
  clear ht hi5 hcr HT3
  obtain ⟨L, s6⟩ := t
  dsimp only at HCR
  go_wp2_with fail
  ((with_reducible refine (gettext_calls HT4.out.rd).mono ?_); rw [← HTT.out]; rintro e w5 ⟨v, rfl, ho, hr, hc⟩)
  have HT5 := Lib.hid (HT4.out.read hr hc)
  have hbs : w.heap.size ≤ wr.heap.size := HT4.out.chg.size
  have hbl : w.heap.size < wr.heap.size := blk_lt HT4.out.blk
  have hne : some w.heap.size ≠ v.ownBlock := fun hk => by have := own_base ho _ hk.symm; omega
  have HO := Lib.hid (show OwnS w5 w.heap.size v L from own_base_mono ho hbs)
  have HNE := Lib.hid hne
  have hcl := HT5.out.cell 5
  have hfz := HT5.out.frozen 5
  rw [show (#[Value.int .i64 b0, .int .i64 v1, .int .i64 v2, .int .i64 v3, .int .i64 v4, .slice none 0 0])[5]? = some (Value.slice none 0 0) from rfl] at hcl
  clear ho hr hc HT4 hne
  obtain ⟨B, d, rfl⟩ := own_slice HO.out
  go_upto_region 8 with fail
  have HT6 : Hid (Ts w (w5.setCell ⟨w.heap.size, 5, none⟩ (.slice B L.length d)) base g A c xs s6 w.heap.size 28 #[.int .i64 b0, .int .i64 v1, .int .i64 v2, .int .i64 v3, .int .i64 v4, .slice B L.length d]) := Lib.hid (HT5.out.put 5 (.slice B L.length d))
  have HO6 := Lib.hid (show OwnS (w5.setCell ⟨w.heap.size, 5, none⟩ (.slice B L.length d)) w.heap.size (.slice B L.length d) L from own_setCell HO.out HNE.out (.slice B L.length d))
  clear hcl hfz HO HT5
  generalize w5.setCell ⟨w.heap.size, 5, none⟩ (.slice B L.length d) = w6 at HT6 HO6 ⊢
  cases s6 with
  | none =>
    go_wp2_with (first | ((with_reducible refine (bad_calls HT6.out.rd).mono ?_); rintro e w' ⟨rfl, rfl⟩) | (refine wpList_store_row rfl 28 (.tmp 2) (.tmp 29) rfl w.heap.size #[.int .i64 0, .int .i64 0, .int .i64 0, .int .i64 0, .int .i64 0, .slice none 0 0] rfl rfl 28 _ HT6.out.blk inf28 rfl (by simp [Value.oneCell']) ?_))
    have HT7 := HT6.out.row #[.int .i64 0, .int .i64 0, .int .i64 0, .int .i64 0, .int .i64 0, .slice none 0 0]
    (try simp only [Exit.inBlock, Exit.then])
    refine bodyPost_ret (results_cell_row rfl _ _ w.heap.size 28 _ (0, 0) _ rfl HT7.blk Try.underlying28 rfl inf28) rfl ?_
    obtain rfl : cr = (cmd0, none) := by rw [← HCR.out]; simp
    exact ⟨_, rfl, own_nil _ _ _ _, HT7.rd, HT7.chg⟩
  | some a =>
    go_wp2_with (first | ((with_reducible refine (bad_calls HT6.out.rd).mono ?_); rintro e w' ⟨rfl, rfl⟩) | (refine wpList_load_row rfl 28 (.tmp 2) rfl w.heap.size rfl 28 _ (0, 0) _ HT6.out.blk Try.underlying28 rfl inf28 ?_) | (refine wpList_store_row rfl 28 (.tmp 2) (.tmp 30) rfl w.heap.size #[.int .i64 b0, .int .i64 v1, .int .i64 v2, .int .i64 v3, .int .i64 v4, .slice B L.length d] rfl rfl 28 _ HT6.out.blk inf28 rfl (by simp [Value.oneCell']) ?_))
    have HT7 := HT6.out.row #[.int .i64 b0, .int .i64 v1, .int .i64 v2, .int .i64 v3, .int .i64 v4, .slice B L.length d]
    (try simp only [Exit.inBlock, Exit.then])
    refine bodyPost_ret (results_cell_row rfl _ _ w.heap.size 28 _ (0, 0) _ rfl HT7.blk Try.underlying28 rfl inf28) rfl ?_
    obtain rfl : cr = (⟨b0, v1, v2, v3, v4, L⟩, some a) := by rw [← HCR.out]; simp
    refine ⟨_, rfl, own_move HO6.out (fun k hk => setRow_other _ _ _ _ (fun he => HNE.out (by rw [← he, hk]))), HT7.rd, HT7.chg⟩

end Go.Proofs.Ytneebjlpeekmbaa

namespace Go.Proofs.Ytneebjlpeekmbaa
open Go.RowKit Go.Proofs.YtneebjlpeekmbaaW.PrintWords Go.Proofs.YtneebjlpeekmbaaW.PrintLast Go.Proofs.YtneebjlpeekmbaaW.PrintMore PRef
set_option linter.unusedVariables false
set_option linter.unusedSimpArgs false

/-- Cells from off on, overwritten. -/
def fillv (cs : Array Value) (off : Nat) : List Value → Array Value
  | [] => cs
  | v :: vs => fillv (cs.setIfInBounds off v) (off + 1) vs
theorem Ts.puts {w base g A c xs s b t} : ∀ (vs : List Value) (o : Nat) {wr : World} {cs : Array Value} (h : Ts w wr base g A c xs s b t cs), Ts w (wr.setCells b o vs) base g A c xs s b t (fillv cs o vs)
  | [], _, _, _, h => h
  | v :: vs, o, _, _, h => Ts.puts vs (o + 1) (h.put o v)
theorem chg_setCells (b : Nat) : ∀ (vs : List Value) (o : Nat) (w : World), Chg (fun k => k = b) w (w.setCells b o vs)
  | [], _, w => Chg.refl _ w
  | v :: vs, o, w => ((Chg.refl (fun k => k = b) w).setCell (p := ⟨b, o, none⟩) (.inl rfl) v).trans (chg_setCells b vs (o + 1) _) (fun _ _ h => h)
theorem carry {w1 w2 : World} {base x n size : Nat} {e : TypeId} {v : Value} {l : List Value} (ho : w1.ownsRow base e size v n l) (hc : Chg (fun k => k = x) w1 w2) (hne : some x ≠ v.ownBlock) : w2.ownsRow base e size v n l :=
  own_move ho (fun k hk => hc.block k (own_lt ho k hk) (fun he => hne (by rw [hk, he])))
theorem carryO {α : Type} {R : α → List Value → Prop} {w1 w2 : World} {base x size : Nat} {e : TypeId} {v : Value} {l : List α} (ho : OwnRow R e size w1 base v l) (hc : Chg (fun k => k = x) w1 w2) (hne : some x ≠ v.ownBlock) : OwnRow R e size w2 base v l :=
  orow_move ho (fun k hk => hc.block k (orow_lt ho k hk) (fun he => hne (by rw [hk, he])))
theorem orow_base_mono {α : Type} {R : α → List Value → Prop} {w1 : World} {b0 b1 size : Nat} {e : TypeId} {v : Value} {l : List α} (ho : OwnRow R e size w1 b1 v l) (hb : b0 ≤ b1) : OwnRow R e size w1 b0 v l := by
  obtain ⟨inner, h, hr⟩ := ho
  exact ⟨inner, own_base_mono h hb, hr⟩
theorem chg_setRow (w : World) (b : Nat) (cs : Array Value) : Chg (fun k => k = b) w (w.setRow b cs) := ⟨rfl, rfl, rfl, by rw [setRow_size]; exact Nat.le_refl _, fun i hi hn => setRow_other w b i cs hn⟩
theorem there_blk {w : World} {b : Nat} {t : TypeId} {cs : Array Value} (h : w.heap[b]? = some (.cells cs t (0, 0))) (o n : Nat) (hn : o + n ≤ cs.size) : w.there b o n := fun j hj => ⟨by rw [blk_cell h, Array.getElem?_eq_getElem (by omega)]; rfl, blk_frozen h _⟩

def inst0 : Inst := ⟨0, 0, 0, 0, 0, 0, 0, false, cmd0, 0, []⟩
def instR (xs : List Int) (s : Option Nat) : Inst × Option Nat :=
  let p := intsR xs 7 s
  let b := boolR xs p.2
  let c := cmdR xs b.2
  let q := intR xs c.2
  let d := getR xs (refR xs) q.2
  if d.2 = none then (inst0, none) else (⟨p.1.getD 0 0, p.1.getD 1 0, p.1.getD 2 0, p.1.getD 3 0, p.1.getD 4 0, p.1.getD 5 0, p.1.getD 6 0, b.1, c.1, q.1, d.1⟩, d.2)
theorem inf31 : (Try.prog.info? 31).map (·.size) = some 16 := by kernel_rfl

set_option maxRecDepth 100000 in
set_option maxHeartbeats 4000000 in
theorem takeinst_calls {w : World} {base g : Nat} {A : Option Addr} {c : Nat} {xs : List Int} {s : Option Nat} (h : Rd w base g A c xs s) :
    Calls Try.prog 35 #[.pointer (some ⟨g, 0, none⟩)] w fun e w' => ∃ u1 u2, e = .returned (.agg #[.int .i64 (instR xs s).1.lead, .int .i64 (instR xs s).1.index, .int .i64 (instR xs s).1.bn, .int .i64 (instR xs s).1.bnode, .int .i64 (instR xs s).1.vn, .int .i64 (instR xs s).1.vnode, .int .i64 (instR xs s).1.status, .bool (instR xs s).1.same, .int .i64 (instR xs s).1.cmd.op, .int .i64 (instR xs s).1.cmd.client, .int .i64 (instR xs s).1.cmd.seq, .int .i64 (instR xs s).1.cmd.cfrom, .int .i64 (instR xs s).1.cmd.cto, u1, .int .i64 (instR xs s).1.iseq, u2]) ∧ OwnS w' w.heap.size u1 (instR xs s).1.cmd.data ∧ OwnR w' w.heap.size u2 (instR xs s).1.deps ∧ Rd w' base g A c xs (instR xs s).2 ∧ Chg (fun k => k = g) w w' := by
  have HT := Lib.hid (Ts.begin h ((Below.refl w.heap.size w).alloc (Nat.le_refl _) (.cells #[.int .i64 0, .int .i64 0, .int .i64 0, .int .i64 0, .int .i64 0, .int .i64 0, .int .i64 0, .bool false, .int .i64 0, .int .i64 0, .int .i64 0, .int .i64 0, .int .i64 0, .slice none 0 0, .int .i64 0, .slice none 0 0] 31)) (blk_new w (.cells #[.int .i64 0, .int .i64 0, .int .i64 0, .int .i64 0, .int .i64 0, .int .i64 0, .int .i64 0, .bool false, .int .i64 0, .int .i64 0, .int .i64 0, .int .i64 0, .int .i64 0, .slice none 0 0, .int .i64 0, .slice none 0 0] 31)) (Nat.le_refl _))
  clear h
  generalize hCR : instR xs s = cr
  have HCR := Lib.hid hCR
  clear hCR
  unfold instR at HCR
  have hu31 := Try.underlying31
  have hu23 := Try.underlying23
  have hu25 := Try.underlying25
  go_enter Try.func35, Try.ntmps35
  go_upto_region 1 with fail
  generalize w.alloc (.cells #[.int .i64 0, .int .i64 0, .int .i64 0, .int .i64 0, .int .i64 0, .int .i64 0, .int .i64 0, .bool false, .int .i64 0, .int .i64 0, .int .i64 0, .int .i64 0, .int .i64 0, .slice none 0 0, .int .i64 0, .slice none 0 0] 31) = w1 at HT ⊢
  go_wp2_with fail
  have hp3 := blk_new w1 (.cells #[.pointer (some ⟨w.heap.size, 0, none⟩), .pointer (some ⟨w.heap.size, 1, none⟩), .pointer (some ⟨w.heap.size, 2, none⟩), .pointer (some ⟨w.heap.size, 3, none⟩), .pointer (some ⟨w.heap.size, 4, none⟩), .pointer (some ⟨w.heap.size, 5, none⟩), .pointer (some ⟨w.heap.size, 6, none⟩)] 78)
  have HP3 := Lib.hid hp3
  have HT3 := Lib.hid (HT.out.below ((Below.refl w1.heap.size w1).alloc (Nat.le_refl _) (.cells #[.pointer (some ⟨w.heap.size, 0, none⟩), .pointer (some ⟨w.heap.size, 1, none⟩), .pointer (some ⟨w.heap.size, 2, none⟩), .pointer (some ⟨w.heap.size, 3, none⟩), .pointer (some ⟨w.heap.size, 4, none⟩), .pointer (some ⟨w.heap.size, 5, none⟩), .pointer (some ⟨w.heap.size, 6, none⟩)] 78)))
  have HN3 : Hid (w1.heap.size ≠ g ∧ w1.heap.size ≠ w.heap.size) := Lib.hid ⟨by have := HT.out.chg.size; have := HT.out.glt; omega, by have := blk_lt HT.out.blk; omega⟩
  clear hp3
  generalize w1.alloc (.cells #[.pointer (some ⟨w.heap.size, 0, none⟩), .pointer (some ⟨w.heap.size, 1, none⟩), .pointer (some ⟨w.heap.size, 2, none⟩), .pointer (some ⟨w.heap.size, 3, none⟩), .pointer (some ⟨w.heap.size, 4, none⟩), .pointer (some ⟨w.heap.size, 5, none⟩), .pointer (some ⟨w.heap.size, 6, none⟩)] 78) = w3 at HP3 HT3 ⊢
  go_loopw [20] (fun vi wr => ∃ i : Nat, vi = .int .i64 i ∧ i ≤ 7 ∧ Hid (Ts w wr base g A c xs (intsR xs i s).2 w.heap.size 31 (fill #[.int .i64 0, .int .i64 0, .int .i64 0, .int .i64 0, .int .i64 0, .int .i64 0, .int .i64 0, .bool false, .int .i64 0, .int .i64 0, .int .i64 0, .int .i64 0, .int .i64 0, .slice none 0 0, .int .i64 0, .slice none 0 0] 0 (intsR xs i s).1)) ∧ Hid (wr.heap[w1.heap.size]? = some (.cells #[.pointer (some ⟨w.heap.size, 0, none⟩), .pointer (some ⟨w.heap.size, 1, none⟩), .pointer (some ⟨w.heap.size, 2, none⟩), .pointer (some ⟨w.heap.size, 3, none⟩), .pointer (some ⟨w.heap.size, 4, none⟩), .pointer (some ⟨w.heap.size, 5, none⟩), .pointer (some ⟨w.heap.size, 6, none⟩)] 78 (0, 0)))) (fun vi _ => 7 - (intOf vi).toNat)
  case atStart => exact ⟨0, rfl, by omega, HT3, HP3⟩
  case round =>
  obtain ⟨i, rfl, hi, HT, HP⟩ := hrel
  by_cases hlt : i < 7
  · have hptr : wr.cell? ⟨w1.heap.size, i, none⟩ = some (.pointer (some ⟨w.heap.size, i, none⟩)) := by
      rw [blk_cell HP.out]
      have : i = 0 ∨ i = 1 ∨ i = 2 ∨ i = 3 ∨ i = 4 ∨ i = 5 ∨ i = 6 := by omega
      rcases this with rfl | rfl | rfl | rfl | rfl | rfl | rfl <;> rfl
    go_wp2_with fail
    ((with_reducible refine (rdint_calls HT.out.rd).mono ?_); rintro e wq ⟨rfl, hr, hc⟩)
    have HTq := Lib.hid (HT.out.read hr hc)
    have HPq := Lib.hid (hc.get HP.out HN3.out.1)
    have hfz := HTq.out.frozen (i)
    obtain ⟨X, hX⟩ : ∃ X, (fill #[.int .i64 0, .int .i64 0, .int .i64 0, .int .i64 0, .int .i64 0, .int .i64 0, .int .i64 0, .bool false, .int .i64 0, .int .i64 0, .int .i64 0, .int .i64 0, .int .i64 0, .slice none 0 0, .int .i64 0, .slice none 0 0] 0 (intsR xs i s).1)[i]? = some X := ⟨_, Array.getElem?_eq_getElem (by rw [fill_size]; show i < 16; omega)⟩
    have hcl := HTq.out.cell (i)
    rw [hX] at hcl
    clear hr hc hX
    go_wp2_with fail
    go_roundw
    case measure => simp [intOf]; omega
    case rel =>
      refine ⟨i + 1, by go_num, by omega, Lib.hid ?_, Lib.hid (blk_far HPq.out HN3.out.2 _)⟩
      have := HTq.out.put (i) (.int .i64 (intR xs (intsR xs i s).2).1)
      rw [intsR_succ, fill_snoc, intsR_len]
      rw [Nat.zero_add]
      exact this
  obtain rfl : i = 7 := by omega
  have HT3 := HT
  clear hlt hi HT HP HP3 HN3
  obtain ⟨v1, v2, v3, v4, v5, v6, v7, s5, hi5⟩ : ∃ v1 v2 v3 v4 v5 v6 v7 s5, intsR xs 7 s = ([v1, v2, v3, v4, v5, v6, v7], s5) := ⟨_, _, _, _, _, _, _, _, rfl⟩
  have HT4 := HT3.out
  have hcr := HCR.out
  rw [hi5] at HT4 hcr
  dsimp only at HT4 hcr
  have HT4 : Hid (Ts w wr base g A c xs s5 w.heap.size 31 #[.int .i64 v1, .int .i64 v2, .int .i64 v3, .int .i64 v4, .int .i64 v5, .int .i64 v6, .int .i64 v7, .bool false, .int .i64 0, .int .i64 0, .int .i64 0, .int .i64 0, .int .i64 0, .slice none 0 0, .int .i64 0, .slice none 0 0]) := Lib.hid HT4
  obtain ⟨p, hp⟩ : ∃ p, p = boolR xs s5 := ⟨_, rfl⟩
  rw [← hp] at hcr
  have HBO := Lib.hid hp
  clear hp hi5 HT3
  obtain ⟨b1, s6⟩ := p
  dsimp only at hcr
  obtain ⟨p, hp⟩ : ∃ p, p = cmdR xs s6 := ⟨_, rfl⟩
  rw [← hp] at hcr
  have HCM := Lib.hid hp
  clear hp
  obtain ⟨cm, s7⟩ := p
  dsimp only at hcr
  obtain ⟨p, hp⟩ : ∃ p, p = intR xs s7 := ⟨_, rfl⟩
  rw [← hp] at hcr
  have HQ := Lib.hid hp
  clear hp
  obtain ⟨q1, s8⟩ := p
  dsimp only at hcr
  obtain ⟨p, hp⟩ : ∃ p, p = getR xs (refR xs) s8 := ⟨_, rfl⟩
  rw [← hp] at hcr
  have HD := Lib.hid hp
  clear hp
  obtain ⟨D, s9⟩ := p
  dsimp only at hcr
  have HCR := Lib.hid hcr
  clear hcr
  go_wp2_with fail
  ((with_reducible refine (rdbool_calls HT4.out.rd).mono ?_); rw [← HBO.out]; rintro e w5 ⟨rfl, hr, hc⟩)
  have HT5 := Lib.hid (HT4.out.read hr hc)
  have hcl := HT5.out.cell 7
  have hfz := HT5.out.frozen 7
  rw [show (#[Value.int .i64 v1, .int .i64 v2, .int .i64 v3, .int .i64 v4, .int .i64 v5, .int .i64 v6, .int .i64 v7, .bool false, .int .i64 0, .int .i64 0, .int .i64 0, .int .i64 0, .int .i64 0, .slice none 0 0, .int .i64 0, .slice none 0 0])[7]? = some (Value.bool false) from rfl] at hcl
  clear hr hc HT4
  go_upto_region 7 with fail
  have HT6 : Hid (Ts w (w5.setCell ⟨w.heap.size, 7, none⟩ (.bool b1)) base g A c xs s6 w.heap.size 31 #[.int .i64 v1, .int .i64 v2, .int .i64 v3, .int .i64 v4, .int .i64 v5, .int .i64 v6, .int .i64 v7, .bool b1, .int .i64 0, .int .i64 0, .int .i64 0, .int .i64 0, .int .i64 0, .slice none 0 0, .int .i64 0, .slice none 0 0]) := Lib.hid (HT5.out.put 7 (.bool b1))
  clear hcl hfz HT5
  generalize w5.setCell ⟨w.heap.size, 7, none⟩ (.bool b1) = w6 at HT6 ⊢
  go_wp2_with fail
  ((with_reducible refine (takecmd_calls HT6.out.rd).mono ?_); rw [← HCM.out]; rintro e w7 ⟨v, rfl, ho, hr, hc⟩)
  have HT7 := Lib.hid (HT6.out.read hr hc)
  have hbs : w.heap.size ≤ w6.heap.size := HT6.out.chg.size
  have hbl : w.heap.size < w6.heap.size := blk_lt HT6.out.blk
  have hne : some w.heap.size ≠ v.ownBlock := fun hk => by have := own_base ho _ hk.symm; omega
  have HO := Lib.hid (show OwnS w7 w.heap.size v cm.data from own_base_mono ho hbs)
  have hneg : some g ≠ v.ownBlock := fun hk => by have := own_base ho _ hk.symm; have := HT6.out.glt; omega
  have HNE := Lib.hid hne
  have HNEG := Lib.hid hneg
  clear ho hr hc HT6 hne hneg
  obtain ⟨B, d, rfl⟩ := own_slice HO.out
  go_upto_region 8 with (refine wpList_store_mid rfl 28 (.tmp 34) (.tmp 33) rfl w.heap.size 8 #[.int .i64 cm.op, .int .i64 cm.client, .int .i64 cm.seq, .int .i64 cm.cfrom, .int .i64 cm.cto, .slice B cm.data.length d] rfl rfl (there_blk HT7.out.blk 8 6 (by show 14 ≤ 16; omega)) inf28 (by simp [Value.oneCell']) ?_)
  have HT8 : Hid (Ts w (w7.setCells w.heap.size 8 [.int .i64 cm.op, .int .i64 cm.client, .int .i64 cm.seq, .int .i64 cm.cfrom, .int .i64 cm.cto, .slice B cm.data.length d]) base g A c xs s7 w.heap.size 31 #[.int .i64 v1, .int .i64 v2, .int .i64 v3, .int .i64 v4, .int .i64 v5, .int .i64 v6, .int .i64 v7, .bool b1, .int .i64 cm.op, .int .i64 cm.client, .int .i64 cm.seq, .int .i64 cm.cfrom, .int .i64 cm.cto, .slice B cm.data.length d, .int .i64 0, .slice none 0 0]) := Lib.hid (HT7.out.puts [.int .i64 cm.op, .int .i64 cm.client, .int .i64 cm.seq, .int .i64 cm.cfrom, .int .i64 cm.cto, .slice B cm.data.length d] 8)
  have HO8 := Lib.hid (show OwnS (w7.setCells w.heap.size 8 [.int .i64 cm.op, .int .i64 cm.client, .int .i64 cm.seq, .int .i64 cm.cfrom, .int .i64 cm.cto, .slice B cm.data.length d]) w.heap.size (.slice B cm.data.length d) cm.data from carry HO.out (chg_setCells _ _ _ _) HNE.out)
  clear HO HT7
  generalize w7.setCells w.heap.size 8 [.int .i64 cm.op, .int .i64 cm.client, .int .i64 cm.seq, .int .i64 cm.cfrom, .int .i64 cm.cto, .slice B cm.data.length d] = w8 at HT8 HO8 ⊢
  go_wp2_with fail
  ((with_reducible refine (rdint_calls HT8.out.rd).mono ?_); rw [← HQ.out]; rintro e w9 ⟨rfl, hr, hc⟩)
  have HT9 := Lib.hid (HT8.out.read hr hc)
  have HO9 := Lib.hid (show OwnS w9 w.heap.size (.slice B cm.data.length d) cm.data from carry HO8.out hc HNEG.out)
  have hcl := HT9.out.cell 14
  have hfz := HT9.out.frozen 14
  rw [show (#[Value.int .i64 v1, .int .i64 v2, .int .i64 v3, .int .i64 v4, .int .i64 v5, .int .i64 v6, .int .i64 v7, .bool b1, .int .i64 cm.op, .int .i64 cm.client, .int .i64 cm.seq, .int .i64 cm.cfrom, .int .i64 cm.cto, .slice B cm.data.length d, .int .i64 0, .slice none 0 0])[14]? = some (Value.int .i64 0) from rfl] at hcl
  clear hr hc HT8 HO8
  go_upto_region 9 with fail
  have HT10 : Hid (Ts w (w9.setCell ⟨w.heap.size, 14, none⟩ (.int .i64 q1)) base g A c xs s8 w.heap.size 31 #[.int .i64 v1, .int .i64 v2, .int .i64 v3, .int .i64 v4, .int .i64 v5, .int .i64 v6, .int .i64 v7, .bool b1, .int .i64 cm.op, .int .i64 cm.client, .int .i64 cm.seq, .int .i64 cm.cfrom, .int .i64 cm.cto, .slice B cm.data.length d, .int .i64 q1, .slice none 0 0]) := Lib.hid (HT9.out.put 14 (.int .i64 q1))
  have HO10 := Lib.hid (show OwnS (w9.setCell ⟨w.heap.size, 14, none⟩ (.int .i64 q1)) w.heap.size (.slice B cm.data.length d) cm.data from own_setCell HO9.out HNE.out _)
  clear hcl hfz HT9 HO9
  generalize w9.setCell ⟨w.heap.size, 14, none⟩ (.int .i64 q1) = w10 at HT10 HO10 ⊢
  go_wp2_with fail
  ((with_reducible refine (getref_calls HT10.out.rd).mono ?_); rw [← HD.out]; rintro e w11 ⟨v, rfl, ho, hr, hc⟩)
  have HT11 := Lib.hid (HT10.out.read hr hc)
  have HO11 := Lib.hid (show OwnS w11 w.heap.size (.slice B cm.data.length d) cm.data from carry HO10.out hc HNEG.out)
  have hbs : w.heap.size ≤ w10.heap.size := HT10.out.chg.size
  have hbl : w.heap.size < w10.heap.size := blk_lt HT10.out.blk
  have hne : some w.heap.size ≠ v.ownBlock := fun hk => by have := orow_base ho _ hk.symm; omega
  have HP := Lib.hid (show OwnR w11 w.heap.size v D from orow_base_mono ho hbs)
  have HNP := Lib.hid hne
  have hcl := HT11.out.cell 15
  have hfz := HT11.out.frozen 15
  rw [show (#[Value.int .i64 v1, .int .i64 v2, .int .i64 v3, .int .i64 v4, .int .i64 v5, .int .i64 v6, .int .i64 v7, .bool b1, .int .i64 cm.op, .int .i64 cm.client, .int .i64 cm.seq, .int .i64 cm.cfrom, .int .i64 cm.cto, .slice B cm.data.length d, .int .i64 q1, .slice none 0 0])[15]? = some (Value.slice none 0 0) from rfl] at hcl
  clear ho hr hc HT10 HO10 hne
  obtain ⟨B2, d2, rfl, _⟩ := OwnRow.slice_ HP.out
  go_upto_region 10 with fail
  have HT12 : Hid (Ts w (w11.setCell ⟨w.heap.size, 15, none⟩ (.slice B2 D.length d2)) base g A c xs s9 w.heap.size 31 #[.int .i64 v1, .int .i64 v2, .int .i64 v3, .int .i64 v4, .int .i64 v5, .int .i64 v6, .int .i64 v7, .bool b1, .int .i64 cm.op, .int .i64 cm.client, .int .i64 cm.seq, .int .i64 cm.cfrom, .int .i64 cm.cto, .slice B cm.data.length d, .int .i64 q1, .slice B2 D.length d2]) := Lib.hid (HT11.out.put 15 (.slice B2 D.length d2))
  have HO12 := Lib.hid (show OwnS (w11.setCell ⟨w.heap.size, 15, none⟩ (.slice B2 D.length d2)) w.heap.size (.slice B cm.data.length d) cm.data from own_setCell HO11.out HNE.out _)
  have HP12 := Lib.hid (show OwnR (w11.setCell ⟨w.heap.size, 15, none⟩ (.slice B2 D.length d2)) w.heap.size (.slice B2 D.length d2) D from carryO HP.out ((Chg.refl (fun k => k = w.heap.size) w11).setCell (.inl rfl) _) HNP.out)
  clear hcl hfz HT11 HO11 HP
  generalize w11.setCell ⟨w.heap.size, 15, none⟩ (.slice B2 D.length d2) = w12 at HT12 HO12 HP12 ⊢
  cases s9 with
  | none =>
    go_wp2_with (first | ((with_reducible refine (bad_calls HT12.out.rd).mono ?_); rintro e w' ⟨rfl, rfl⟩) | (refine wpList_store_row rfl 31 (.tmp 2) (.tmp 43) rfl w.heap.size #[.int .i64 0, .int .i64 0, .int .i64 0, .int .i64 0, .int .i64 0, .int .i64 0, .int .i64 0, .bool false, .int .i64 0, .int .i64 0, .int .i64 0, .int .i64 0, .int .i64 0, .slice none 0 0, .int .i64 0, .slice none 0 0] rfl rfl 31 _ HT12.out.blk inf31 rfl (by simp [Value.oneCell']) ?_))
    have HT13 := HT12.out.row #[.int .i64 0, .int .i64 0, .int .i64 0, .int .i64 0, .int .i64 0, .int .i64 0, .int .i64 0, .bool false, .int .i64 0, .int .i64 0, .int .i64 0, .int .i64 0, .int .i64 0, .slice none 0 0, .int .i64 0, .slice none 0 0]
    (try simp only [Exit.inBlock, Exit.then])
    refine bodyPost_ret (results_cell_row rfl _ _ w.heap.size 31 _ (0, 0) _ rfl HT13.blk Try.underlying31 rfl inf31) rfl ?_
    obtain rfl : cr = (inst0, none) := by rw [← HCR.out]; simp
    exact ⟨_, _, rfl, own_nil _ _ _ _, OwnRow.none_ _ _ _ _ _, HT13.rd, HT13.chg⟩
  | some a =>
    go_wp2_with (first | ((with_reducible refine (bad_calls HT12.out.rd).mono ?_); rintro e w' ⟨rfl, rfl⟩) | (refine wpList_load_row rfl 31 (.tmp 2) rfl w.heap.size rfl 31 _ (0, 0) _ HT12.out.blk Try.underlying31 rfl inf31 ?_) | (refine wpList_store_row rfl 31 (.tmp 2) (.tmp 44) rfl w.heap.size #[.int .i64 v1, .int .i64 v2, .int .i64 v3, .int .i64 v4, .int .i64 v5, .int .i64 v6, .int .i64 v7, .bool b1, .int .i64 cm.op, .int .i64 cm.client, .int .i64 cm.seq, .int .i64 cm.cfrom, .int .i64 cm.cto, .slice B cm.data.length d, .int .i64 q1, .slice B2 D.length d2] rfl rfl 31 _ HT12.out.blk inf31 rfl (by simp [Value.oneCell']) ?_))
    have HT13 := HT12.out.row #[.int .i64 v1, .int .i64 v2, .int .i64 v3, .int .i64 v4, .int .i64 v5, .int .i64 v6, .int .i64 v7, .bool b1, .int .i64 cm.op, .int .i64 cm.client, .int .i64 cm.seq, .int .i64 cm.cfrom, .int .i64 cm.cto, .slice B cm.data.length d, .int .i64 q1, .slice B2 D.length d2]
    (try simp only [Exit.inBlock, Exit.then])
    refine bodyPost_ret (results_cell_row rfl _ _ w.heap.size 31 _ (0, 0) _ rfl HT13.blk Try.underlying31 rfl inf31) rfl ?_
    obtain rfl : cr = (⟨v1, v2, v3, v4, v5, v6, v7, b1, cm, q1, D⟩, some a) := by rw [← HCR.out]; simp
    exact ⟨_, _, rfl, carry HO12.out (chg_setRow _ _ _) HNE.out, carryO HP12.out (chg_setRow _ _ _) HNP.out, HT13.rd, HT13.chg⟩

end Go.Proofs.Ytneebjlpeekmbaa
