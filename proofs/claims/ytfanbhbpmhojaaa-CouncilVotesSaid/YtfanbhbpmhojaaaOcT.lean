/- The Reader of octets: an entry, a list of entries. Conditions: the worlds hold what is told of them. -/
import Derived.Test.YtfanbhbpmhojaaaOcR
import Derived.Deep.MidRow
import Derived.Deep.Cut
import Derived.Deep.CutRange
import Derived.Deep.DeepCutAuto
import Derived.Laws.ResultCell
namespace Go.Proofs.Ytfanbhbpmhojaaa
open Go.RowKit Go.Proofs.YtfanbhbpmhojaaaW.PrintWords Go.Proofs.YtfanbhbpmhojaaaW.PrintLast Go.Proofs.YtfanbhbpmhojaaaW.PrintMore PRef
set_option linter.unusedVariables false
set_option linter.unusedSimpArgs false
def entR (xs : List Int) (s : Option Nat) : S39 × Option Nat := (⟨(intR xs s).1, (intR xs (intR xs s).2).1, (textS xs (intR xs (intR xs s).2).2).1⟩, (textS xs (intR xs (intR xs s).2).2).2)


/-- The state of a function that fills a block b of its own out of a Reader. -/
structure Ts (w wr : World) (base g : Nat) (A : Option Addr) (c : Nat) (xs : List Int) (s : Option Nat) (b : Nat) (t : TypeId) (cs : Array Value) : Prop where
  rd : Rd wr base g A c xs s
  blk : wr.heap[b]? = some (.cells cs t (0, 0))
  chg : Chg (fun k => k = g) w wr
  new : w.heap.size ≤ b
  glt : g < w.heap.size
  alt : ∀ k, (Value.slice A xs.length c).ownBlock = some k → k < w.heap.size
namespace Ts
variable {w wr w2 : World} {base g : Nat} {A : Option Addr} {c : Nat} {xs : List Int} {s s' : Option Nat} {b : Nat} {t : TypeId} {cs cs' : Array Value}
theorem begin {w w1 : World} (h : Rd w base g A c xs s) (hb : Below w.heap.size w w1) (hk : w1.heap[b]? = some (.cells cs t (0, 0))) (hn : w.heap.size ≤ b) : Ts w w1 base g A c xs s b t cs :=
  ⟨h.below hb, hk, Chg.of_same hb _, hn, h.lt, fun k hk => own_lt h.2.1 k hk⟩
theorem read (h : Ts w wr base g A c xs s b t cs) (hr : Rd w2 base g A c xs s') (hc : Chg (fun k => k = g) wr w2) : Ts w w2 base g A c xs s' b t cs :=
  ⟨hr, hc.get h.blk (by have := h.new; have := h.glt; omega), chg_trans h.chg hc, h.new, h.glt, h.alt⟩
theorem below (h : Ts w wr base g A c xs s b t cs) (hb : Below wr.heap.size wr w2) : Ts w w2 base g A c xs s b t cs :=
  ⟨h.rd.below hb, blk_below h.blk hb, h.chg.trans (Chg.of_same hb _) (fun _ _ h => h), h.new, h.glt, h.alt⟩
theorem only (h : Ts w wr base g A c xs s b t cs) (hk : w2.heap[b]? = some (.cells cs' t (0, 0))) (hc : Chg (fun k => k = b) wr w2) : Ts w w2 base g A c xs s b t cs' :=
  ⟨h.rd.move hc (by have := h.new; have := h.glt; omega) (fun k hk => by have := h.alt k hk; have := h.new; omega), hk, h.chg.trans hc (fun i hi hb => by have := h.new; omega), h.new, h.glt, h.alt⟩
theorem put (h : Ts w wr base g A c xs s b t cs) (i : Nat) (u : Value) : Ts w (wr.setCell ⟨b, i, none⟩ u) base g A c xs s b t (cs.setIfInBounds i u) :=
  h.only (blk_set h.blk i u) ((Chg.refl (fun k => k = b) wr).setCell (.inl rfl) u)
theorem row (h : Ts w wr base g A c xs s b t cs) (cs' : Array Value) : Ts w (wr.setRow b cs') base g A c xs s b t cs' :=
  h.only (setRow_heap wr b cs cs' t (0, 0) h.blk) ⟨rfl, rfl, rfl, by rw [setRow_size]; exact Nat.le_refl _, fun i hi hn => setRow_other wr b i cs' hn⟩
theorem cell (h : Ts w wr base g A c xs s b t cs) (i : Nat) : wr.cell? ⟨b, i, none⟩ = cs[i]? := blk_cell h.blk i
theorem frozen (h : Ts w wr base g A c xs s b t cs) (i : Nat) : wr.frozen? ⟨b, i, none⟩ = false := blk_frozen h.blk i
end Ts

theorem inf39 : (Try.prog.info? 39).map (·.size) = some 3 := by kernel_rfl

set_option maxRecDepth 100000 in
set_option maxHeartbeats 2000000 in
theorem takeent_calls {w : World} {base g : Nat} {A : Option Addr} {c : Nat} {xs : List Int} {s : Option Nat} (h : Rd w base g A c xs s) :
    Calls Try.prog 54 #[.pointer (some ⟨g, 0, none⟩)] w fun e w' => e = .returned (.agg #[.int .i64 (entR xs s).1.f0, .int .i64 (entR xs s).1.f1, .string (entR xs s).1.f2]) ∧ Rd w' base g A c xs (entR xs s).2 ∧ Chg (fun k => k = g) w w' := by
  have HT := Lib.hid (Ts.begin h ((Below.refl w.heap.size w).alloc (Nat.le_refl _) (.cells #[.int .i64 0, .int .i64 0, .string ⟨#[]⟩] 39)) (blk_new w (.cells #[.int .i64 0, .int .i64 0, .string ⟨#[]⟩] 39)) (Nat.le_refl _))
  clear h
  go_enter Try.func54, Try.ntmps54
  go_wp2_with fail
  generalize w.alloc (.cells #[.int .i64 0, .int .i64 0, .string ⟨#[]⟩] 39) = w1 at HT ⊢
  ((with_reducible refine (rdint_calls HT.out.rd).mono ?_); rintro e w2 ⟨rfl, hr, hc⟩; have HT2 := Lib.hid (HT.out.read hr hc); clear hr hc)
  go_wp2_with fail
  ((with_reducible refine (rdint_calls HT2.out.rd).mono ?_); rintro e w3 ⟨rfl, hr, hc⟩; have HT3 := Lib.hid (HT2.out.read hr hc); clear hr hc)
  go_wp2_with fail
  ((with_reducible refine (rdtextS_calls HT3.out.rd).mono ?_); rintro e w4 ⟨rfl, hr, hc⟩; have HT4 := Lib.hid (HT3.out.read hr hc); clear hr hc)
  go_wp2_with (refine wpList_store_row rfl 39 (.tmp 2) (.tmp 13) rfl w.heap.size #[.int .i64 (intR xs s).1, .int .i64 (intR xs (intR xs s).2).1, .string (textS xs (intR xs (intR xs s).2).2).1] rfl rfl 39 _ HT4.out.blk inf39 rfl (by simp [Value.oneCell']) ?_)
  have HT5 := HT4.out.row #[.int .i64 (intR xs s).1, .int .i64 (intR xs (intR xs s).2).1, .string (textS xs (intR xs (intR xs s).2).2).1]
  (try simp only [Exit.inBlock, Exit.then])
  refine bodyPost_ret (results_cell_row rfl _ _ w.heap.size 39 _ (0, 0) _ rfl HT5.blk Try.underlying39 rfl inf39) rfl ?_
  exact ⟨rfl, HT5.rd, HT5.chg⟩

end Go.Proofs.Ytfanbhbpmhojaaa

namespace Go.Proofs.Ytfanbhbpmhojaaa
open Go.RowKit Go.Proofs.YtfanbhbpmhojaaaW.PrintWords Go.Proofs.YtfanbhbpmhojaaaW.PrintLast Go.Proofs.YtfanbhbpmhojaaaW.PrintMore PRef
set_option linter.unusedVariables false
set_option linter.unusedSimpArgs false

theorem zinfo39 : (Try.prog.info? 39).map (fun i => (i.zero, i.size, i.bytes)) = some (some (.agg #[.int .i64 0, .int .i64 0, .string ⟨#[]⟩]), 3, 32) := by kernel_rfl
def cells39 (p : S39) (cs : List Value) : Prop := cs = [.int .i64 p.f0, .int .i64 p.f1, .string p.f2]
def OwnE (w : World) (base : Nat) (v : Value) (l : List S39) : Prop := OwnRow cells39 39 3 w base v l
section
variable {α : Type} {R : α → List Value → Prop} {e : TypeId} {size : Nat} {w w1 : World} {base : Nat} {v : Value} {l : List α}
theorem orow_base (h : OwnRow R e size w base v l) : ∀ k, v.ownBlock = some k → base ≤ k := by
  obtain ⟨inner, ho, hr⟩ := h
  exact own_base ho
theorem orow_lt (h : OwnRow R e size w base v l) : ∀ k, v.ownBlock = some k → k < w.heap.size := by
  obtain ⟨inner, ho, hr⟩ := h
  exact own_lt ho
theorem orow_move (h : OwnRow R e size w base v l) (hm : ∀ k, v.ownBlock = some k → w1.heap[k]? = w.heap[k]?) : OwnRow R e size w1 base v l := by
  obtain ⟨inner, ho, hr⟩ := h
  exact ⟨inner, own_move ho hm, hr⟩
end
theorem OwnE.reads {w : World} {base : Nat} {v : Value} {l : List S39} (h : OwnE w base v l) : ∃ A c, v = .slice A l.length c ∧ InE w A c l := by
  obtain ⟨A, c, rfl, hc, hr⟩ := OwnRow.reads h
  exact ⟨A, c, rfl, hr.imp_ (Below.refl _ _) (fun p cs hp => by rw [show cs = _ from hp]; exact k39_mk w p), hc⟩
set_option maxRecDepth 100000 in
set_option maxHeartbeats 1000000 in
theorem getent_calls {w : World} {base g : Nat} {A : Option Addr} {c : Nat} {xs : List Int} {s : Option Nat} (h : Rd w base g A c xs s) :
    Calls Try.prog 53 #[.pointer (some ⟨g, 0, none⟩), .func (.func 54) #[] #[]] w fun e w' => ∃ v, e = .returned v ∧ OwnE w' w.heap.size v (getR xs (entR xs) s).1 ∧ Rd w' base g A c xs (getR xs (entR xs) s).2 ∧ Chg (fun k => k = g) w w' := by
  have hll := h.len
  have H := Lib.hid h
  clear h
  have hn := numR_lt xs s
  obtain ⟨L, hL⟩ : ∃ L, L = getR xs (entR xs) s := ⟨_, rfl⟩
  rw [← hL]
  unfold getR at hL
  generalize hm : numR xs s = m at hn hL
  have HM := Lib.hid hm
  clear hm
  obtain ⟨n, u⟩ := m
  dsimp only at hn hL
  have HG0 := Lib.hid hL
  clear hL
  go_enter Try.func53, Try.ntmps53
  go_wp2_with fail
  ((with_reducible refine (rdnum_calls H.out).mono ?_); rw [HM.out]; rintro e w2 ⟨rfl, hr, hc⟩; have HR2 := Lib.hid hr; have HC2 := Lib.hid hc; clear hr hc)
  go_upto_region 2 with fail
  have hlf : leftR xs u < 9223372036854775808 := by unfold leftR; omega
  go_cut [18] (fun v wc => v = .bool (decide (4096 < n ∨ leftR xs u < n)) ∧ Hid (Rd wc base g A c xs u) ∧ Hid (Chg (fun k => k = g) w wc))
  case first =>
    by_cases hbig : 4096 < n
    · go_wp2_with fail
      go_meet
      exact ⟨by simp [hbig], HR2, HC2⟩
    · go_wp2_with fail
      ((with_reducible refine (left_calls HR2.out).mono ?_); rintro e w3 ⟨rfl, hb⟩; have HB := Lib.hid hb; clear hb)
      go_wp2_with fail
      go_meet
      refine ⟨?_, Lib.hid (HR2.out.below HB.out), Lib.hid (HC2.out.trans (Chg.of_same HB.out _) (fun _ _ h => h))⟩
      congr 1
      rw [Bool.eq_iff_iff]
      simp only [Bool.or_eq_true, decide_eq_true_iff]
      omega
  case rest =>
  obtain ⟨rfl, HR3, HC3⟩ := hcut
  clear HR2 HC2
  generalize wc = w3 at HR3 HC3 ⊢
  obtain ⟨t, ht⟩ : ∃ t, t = if 4096 < n ∨ leftR xs u < n then none else u := ⟨_, rfl⟩
  have hG := HG0.out
  rw [← ht] at hG
  have HG := Lib.hid hG
  have HT := Lib.hid ht
  clear ht hG HG0
  go_upto_if 18 with fail
  go_cut [] (fun wc => Hid (Rd wc base g A c xs t) ∧ Hid (Chg (fun k => k = g) w wc))
  case first =>
    by_cases hbad : 4096 < n ∨ leftR xs u < n
    · have hd : decide (4096 < n ∨ leftR xs u < n) = true := by simpa using hbad
      have HTn := HT.out
      rw [if_pos hbad] at HTn
      subst HTn
      go_wp2_with ((with_reducible refine (fail_calls HR3.out).mono ?_); rintro e w4 ⟨rfl, hr, hc⟩; have HR4 := Lib.hid hr; have HC4 := Lib.hid hc; clear hr hc)
      go_meet
      exact ⟨HR4, Lib.hid (chg_trans HC3.out HC4.out)⟩
    · have hd : decide (4096 < n ∨ leftR xs u < n) = false := by simpa using hbad
      have HTn := HT.out
      rw [if_neg hbad] at HTn
      subst HTn
      go_wp2_with fail
      go_meet
      exact ⟨HR3, HC3⟩
  case rest =>
  obtain ⟨HR4, HC4⟩ := hcut
  clear HR3 HC3
  generalize wc = w4 at HR4 HC4 ⊢
  go_wp2_with fail
  have hT4 : t ≠ none → n ≤ 4096 := by
    intro h
    by_cases hbad : 4096 < n ∨ leftR xs u < n
    · exact absurd (by rw [HT.out, if_pos hbad]) h
    · omega
  have HT4 := Lib.hid hT4
  have hgl := H.out.lt
  clear hT4
  go_loopw [6, 7] (fun vl vi wr => ∃ (i : Nat) (l : List S39) (t' : Option Nat), vi = .int .u64 i ∧ i ≤ n ∧ l.length = i ∧ Hid (OwnE wr w.heap.size vl l) ∧ Hid (l ++ (loopR (entR xs) (n - i) t').1 = (loopR (entR xs) n t).1) ∧ Hid ((loopR (entR xs) (n - i) t').2 = (loopR (entR xs) n t).2) ∧ Hid (t' ≠ none → n ≤ 4096) ∧ Hid (Rd wr base g A c xs t') ∧ Hid (Chg (fun k => k = g) w wr)) (fun _ vi _ => n - (intOf vi).toNat)
  case atStart => exact ⟨0, [], t, rfl, by omega, rfl, Lib.hid (OwnRow.none_ _ _ _ _ _), Lib.hid (by simp), Lib.hid (by simp), HT4, HR4, HC4⟩
  case round =>
    obtain ⟨i, l, t', rfl, hi, hl, HO, HE1, HE2, HN, HR, HC⟩ := hrel
    subst hl
    cases t' with
    | none =>
      have HZ : Hid ((loopR (entR xs) n t).2 = none) := Lib.hid (by rw [← HE2.out, loopR_none])
      by_cases hlt : l.length < n
      all_goals
        go_wp2_with ((with_reducible refine (bad_calls HR.out).mono ?_); rintro e w' ⟨rfl, rfl⟩)
        go_ret
        obtain rfl : L = ([], none) := by rw [HG.out, if_pos HZ.out]
        exact ⟨_, rfl, OwnRow.none_ _ _ _ _ _, HR.out, HC.out⟩
    | some a =>
      have hn4 := HN.out (by simp)
      by_cases hlt : l.length < n
      · obtain ⟨B, d, rfl, _⟩ := HO.out.reads
        go_wp2_with ((with_reducible refine (bad_calls HR.out).mono ?_); rintro e w' ⟨rfl, rfl⟩)
        ((with_reducible refine (takeent_calls HR.out).mono ?_); rintro e w5 ⟨rfl, hr, hc⟩)
        have HR5 := Lib.hid hr
        have HC5 := Lib.hid (chg_trans HC.out hc)
        have hne : ∀ k, (Value.slice B l.length d).ownBlock = some k → k ≠ g := fun k hk => by have := orow_base HO.out k hk; omega
        have HO5 := Lib.hid (show OwnE w5 w.heap.size (.slice B l.length d) l from orow_move HO.out (fun k hk => hc.block k (orow_lt HO.out k hk) (hne k hk)))
        have hE1 : (l ++ [(entR xs (some a)).1]) ++ (loopR (entR xs) (n - (l.length + 1)) (entR xs (some a)).2).1 = (loopR (entR xs) n t).1 := by
          rw [← HE1.out, show n - l.length = (n - (l.length + 1)) + 1 from by omega, loopR_some]; simp
        have hE2 : (loopR (entR xs) (n - (l.length + 1)) (entR xs (some a)).2).2 = (loopR (entR xs) n t).2 := by
          rw [← HE2.out, show n - l.length = (n - (l.length + 1)) + 1 from by omega, loopR_some]
        have HE1' := Lib.hid hE1
        have HE2' := Lib.hid hE2
        clear hr hc hE1 hE2
        generalize entR xs (some a) = q at HR5 HE1' HE2' ⊢
        obtain ⟨z, t2⟩ := q
        go_wp2_with ((with_reducible refine gate_builtin (b := .append) (xs := #[.tmp 31, .tmp 35]) rfl ?_); at_builtin; refine OwnRow.append (w0 := w5) w.heap.size rfl (.tmp 31) (.tmp 35) 45 39 (.agg #[.int .i64 0, .int .i64 0, .string ⟨#[]⟩]) 3 32 rfl Try.underlying45 zinfo39 rfl (by decide) (by decide) _ l z [.int .i64 z.f0, .int .i64 z.f1, .string z.f2] rfl rfl rfl rfl (by simp [Value.oneCell']) HO5.out (Below.refl _ _) HC5.out.size ?hl ?_; (case hl => omega); intro v1 w6 hown hB hg hat; have HO6 := Lib.hid hown; have HG6 := Lib.hid hg; clear hown hB hg hat)
        have hcg : Chg (fun k => w.heap.size ≤ k) w5 w6 := Chg.of_grown HG6.out (fun k hk => orow_base HO5.out k hk)
        have hA : ∀ k, (Value.slice A xs.length c).ownBlock = some k → ¬ w.heap.size ≤ k := fun k hk => by have := own_lt H.out.2.1 k hk; omega
        have HR6 := Lib.hid (HR5.out.move hcg (by omega) hA)
        have HC6 := Lib.hid (HC5.out.trans hcg (fun i hi hk => absurd hk (by omega)))
        clear hcg hA hne
        go_roundw
        case measure => simp [intOf]; omega
        case rel =>
          refine ⟨l.length + 1, l ++ [z], t2, by go_num, by omega, by simp, ?_, HE1', HE2', Lib.hid (fun _ => hn4), HR6, HC6⟩
          exact HO6
      · have hin : l.length = n := by omega
        have hz : (loopR (entR xs) n t).2 = some a := by rw [← HE2.out, hin, Nat.sub_self]; rfl
        have hl2 : l = (loopR (entR xs) n t).1 := by rw [← HE1.out, hin, Nat.sub_self]; simp [loopR]
        have HZ := Lib.hid hz
        have HL := Lib.hid hl2
        clear hin hz hl2
        go_wp2_with ((with_reducible refine (bad_calls HR.out).mono ?_); rintro e w' ⟨rfl, rfl⟩)
        go_ret
        obtain rfl : L = (l, some a) := by rw [HG.out, if_neg (by rw [HZ.out]; simp), ← HZ.out, HL.out]
        exact ⟨_, rfl, HO.out, HR.out, HC.out⟩


end Go.Proofs.Ytfanbhbpmhojaaa

namespace Go.Proofs.Ytfanbhbpmhojaaa
open Go.RowKit Go.Proofs.YtfanbhbpmhojaaaW.PrintWords Go.Proofs.YtfanbhbpmhojaaaW.PrintLast Go.Proofs.YtfanbhbpmhojaaaW.PrintMore PRef
set_option linter.unusedVariables false
set_option linter.unusedSimpArgs false

theorem own_base_mono {w : World} {b0 b1 n size : Nat} {e : TypeId} {v : Value} {xs : List Value} (h : w.ownsRow b1 e size v n xs) (hb : b0 ≤ b1) : w.ownsRow b0 e size v n xs := by
  obtain ⟨h1, h2⟩ := h
  refine ⟨h1, ?_⟩
  rcases h2 with h | ⟨g, cap, cur, e, hg, r⟩
  · exact .inl h
  · exact .inr ⟨g, cap, cur, e, Nat.le_trans hb hg, r⟩
end Go.Proofs.Ytfanbhbpmhojaaa

namespace Go.Proofs.Ytfanbhbpmhojaaa
open Go.RowKit Go.Proofs.YtfanbhbpmhojaaaW.PrintWords Go.Proofs.YtfanbhbpmhojaaaW.PrintLast Go.Proofs.YtfanbhbpmhojaaaW.PrintMore PRef
set_option linter.unusedVariables false
set_option linter.unusedSimpArgs false

theorem carry {w1 w2 : World} {base x n size : Nat} {e : TypeId} {v : Value} {l : List Value} (ho : w1.ownsRow base e size v n l) (hc : Chg (fun k => k = x) w1 w2) (hne : some x ≠ v.ownBlock) : w2.ownsRow base e size v n l :=
  own_move ho (fun k hk => hc.block k (own_lt ho k hk) (fun he => hne (by rw [hk, he])))
theorem carryO {α : Type} {R : α → List Value → Prop} {w1 w2 : World} {base x size : Nat} {e : TypeId} {v : Value} {l : List α} (ho : OwnRow R e size w1 base v l) (hc : Chg (fun k => k = x) w1 w2) (hne : some x ≠ v.ownBlock) : OwnRow R e size w2 base v l :=
  orow_move ho (fun k hk => hc.block k (orow_lt ho k hk) (fun he => hne (by rw [hk, he])))
theorem orow_base_mono {α : Type} {R : α → List Value → Prop} {w1 : World} {b0 b1 size : Nat} {e : TypeId} {v : Value} {l : List α} (ho : OwnRow R e size w1 b1 v l) (hb : b0 ≤ b1) : OwnRow R e size w1 b0 v l := by
  obtain ⟨inner, h, hr⟩ := ho
  exact ⟨inner, own_base_mono h hb, hr⟩
theorem there_blk {w : World} {b : Nat} {t : TypeId} {cs : Array Value} (h : w.heap[b]? = some (.cells cs t (0, 0))) (o n : Nat) (hn : o + n ≤ cs.size) : w.there b o n := fun j hj => ⟨by rw [blk_cell h, Array.getElem?_eq_getElem (by omega)]; rfl, blk_frozen h _⟩

end Go.Proofs.Ytfanbhbpmhojaaa
