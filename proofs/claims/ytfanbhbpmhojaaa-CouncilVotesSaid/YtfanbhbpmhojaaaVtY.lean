/- What a state's bytes say is the state; a council's answer to a mail of kind 11 is the reference's. No program in sight. What the law CouncilVotes calls, as contracts of its own. Conditions: those typed. Printed by wip/tools/mkVotesL.py. -/
import Derived.Test.YtfanbhbpmhojaaaMayV
import Derived.Test.YtfanbhbpmhojaaaHrX
import Derived.Test.YtfanbhbpmhojaaaHrD
import Derived.Test.YtfanbhbpmhojaaaCde
import Derived.Test.YtfanbhbpmhojaaaVtL
import Derived.Test.YtfanbhbpmhojaaaMayH
namespace Go.Proofs.Ytfanbhbpmhojaaa
open Go.RowKit Go.Proofs.YtfanbhbpmhojaaaW.PrintWords Go.Proofs.YtfanbhbpmhojaaaW.PrintLast Go.Proofs.YtfanbhbpmhojaaaW.PrintMore PRef
set_option linter.unusedVariables false
set_option linter.unusedSimpArgs false

theorem vot_small (s : ByteArray) (h : 0 < (votV s).length) : s.size ≤ 7 := by
  have h1 := votV_len s
  unfold votV at h h1
  split at h
  · rename_i h2
    rw [if_pos h2, bytesOf_length] at h1
    exact h1
  · simp at h
theorem rise_lo (f t : Int) (l : List S39) (h : ∀ j, j < l.length → okR f t l j) : ∀ j, j ≤ l.length → f ≤ fromAt f l j
  | 0, _ => by unfold fromAt; rw [if_pos rfl]; exact Int.le_refl _
  | j + 1, hj => by
    have ih := rise_lo f t l h j (by omega)
    have h1 := h j (by omega)
    rw [fromAt_succ]
    exact Int.le_trans ih h1.2.1
theorem drop_step {xs p r : List Int} {a : Nat} (h : xs.drop a = p ++ r) : xs.drop (a + p.length) = r := by rw [← List.drop_drop, h, List.drop_left]

structure StaS (x : Sta) : Prop where
  i : StaI x
  vot : x.vot.size ≤ 7
  text : x.text.size ≤ 10000
  log : x.log.length ≤ 60
  ent : ∀ y ∈ x.log, y.f2.size ≤ 4096
  may : mayL x
theorem sta_ok (x : Sta) (hm : mayS x) (ht : x.text.size ≤ 10000) (hl : x.log.length ≤ 60) : StaS x := by
  have hq := (mayS_iff x).1 hm
  obtain ⟨q0, q1, q2, q3, q4, q5, q6, q7, q8, q9, q10⟩ := hq
  have hv := vot_small x.vot q0
  have hlo := rise_lo x.past x.term x.log q10
  have hent : ∀ y ∈ x.log, I64 y.f0 ∧ I64 y.f1 ∧ y.f2.size ≤ 4096 := by
    intro y hy
    obtain ⟨j, hj, rfl⟩ := List.mem_iff_getElem.1 hy
    have h1 := q10 j hj
    have h2 := hlo j (by omega)
    have e : x.log.getD j z39 = x.log[j] := by rw [List.getD_eq_getElem?_getD, List.getElem?_eq_getElem hj]; rfl
    unfold okR isEnt at h1
    rw [e] at h1
    obtain ⟨⟨h3, h4, _, h6⟩, h7, h8⟩ := h1
    exact ⟨⟨by omega, by omega⟩, ⟨by omega, by omega⟩, h6⟩
  exact ⟨⟨⟨by omega, by omega⟩, ⟨by omega, by omega⟩, ⟨by omega, by omega⟩, ⟨by omega, by omega⟩, by omega, by omega, by omega, fun y hy => ⟨(hent y hy).1, (hent y hy).2.1, by have := (hent y hy).2.2; omega⟩⟩, hv, ht, hl, fun y hy => (hent y hy).2.2, hm.1⟩
theorem StaS.len {x : Sta} (h : StaS x) : (encSta x).length ≤ 1000000 := by
  have h1 := ints4 [x.term, x.vote, x.idx, x.past] (by
    intro z hz
    simp only [List.mem_cons, List.not_mem_nil, or_false] at hz
    rcases hz with rfl | rfl | rfl | rfl
    · exact h.i.t
    · exact h.i.v
    · exact h.i.i
    · exact h.i.p) (Nat.le_refl 4) 4
  have h2 := encText_length x.vot (by have := h.vot; omega)
  have h3 := encText_length x.text (by have := h.text; omega)
  have h4 := encNum_length x.log.length (by have := h.log; omega)
  have h5 := encAll_le encEnt x.log 4200 (fun y hy => by
    have q := h.i.ent y hy
    have q2 := h.ent y hy
    have a := encInt_length y.f0 q.1.1 q.1.2
    have b := encInt_length y.f1 q.2.1.1 q.2.1.2
    have c := encText_length y.f2 (by omega)
    unfold encEnt
    rw [List.length_append, List.length_append]
    omega)
  have h6 := h.vot
  have h7 := h.text
  have h8 := h.log
  rw [show [x.term, x.vote, x.idx, x.past].take 4 = [x.term, x.vote, x.idx, x.past] from rfl] at h1
  unfold encSta
  rw [List.length_append, List.length_append, List.length_append, List.length_append]
  omega
theorem encSta_bytes (x : Sta) : IsBytes (encSta x) := by
  unfold encSta
  refine ((((bytesAll encInt _ (fun z _ => encInt_bytes z)).append (encText_bytes _)).append (encText_bytes _)).append (encNum_bytes _)).append (bytesAll encEnt _ (fun y _ => ?_))
  unfold encEnt
  exact ((encInt_bytes _).append (encInt_bytes _)).append (encText_bytes _)
theorem sta_round (x : Sta) (hx : StaI x) (hv : x.vot.size ≤ 1048576) (ht : x.text.size ≤ 1048576) (he : ∀ y ∈ x.log, y.f2.size ≤ 1048576) : staR (encSta x) (some 0) = (x, some (encSta x).length) := by
  obtain ⟨xs, hxs⟩ : ∃ xs, xs = encSta x := ⟨_, rfl⟩
  have d0 : xs.drop 0 = encInt x.term ++ (encInt x.vote ++ (encInt x.idx ++ (encInt x.past ++ (encText x.vot ++ (encText x.text ++ (encNum x.log.length ++ encAll encEnt x.log ++ [])))))) := by
    rw [hxs, List.drop_zero]
    unfold encSta
    simp [encAll, List.append_assoc]
  have i1 := intR_at hx.t.1 hx.t.2 d0
  have d1 := drop_step d0
  have i2 := intR_at hx.v.1 hx.v.2 d1
  have d2 := drop_step d1
  have i3 := intR_at hx.i.1 hx.i.2 d2
  have d3 := drop_step d2
  have i4 := intR_at hx.p.1 hx.p.2 d3
  have d4 := drop_step d3
  have i5 := textS_at hv d4
  have d5 := drop_step d4
  have i6 := textS_at ht d5
  have d6 := drop_step d5
  have i7 := getR_at (entR xs) encEnt x.log _ _ hx.log d6 (fun y hy a r h => entR_at y (hx.ent y hy).1 (hx.ent y hy).2.1 (he y hy) h) (fun y _ => encEnt_pos y)
  have e1 : intsR xs 1 (some 0) = ([x.term], some (0 + (encInt x.term).length)) := by rw [intsR_succ]; show (_ ++ [(intR xs (some 0)).1], (intR xs (some 0)).2) = _; rw [i1]; rfl
  have e2 : intsR xs 2 (some 0) = ([x.term, x.vote], some (0 + (encInt x.term).length + (encInt x.vote).length)) := by rw [intsR_succ, e1]; dsimp only; rw [i2]; rfl
  have e3 : intsR xs 3 (some 0) = ([x.term, x.vote, x.idx], some (0 + (encInt x.term).length + (encInt x.vote).length + (encInt x.idx).length)) := by rw [intsR_succ, e2]; dsimp only; rw [i3]; rfl
  have e4 : intsR xs 4 (some 0) = ([x.term, x.vote, x.idx, x.past], some (0 + (encInt x.term).length + (encInt x.vote).length + (encInt x.idx).length + (encInt x.past).length)) := by rw [intsR_succ, e3]; dsimp only; rw [i4]; rfl
  have hlen : (0 + (encInt x.term).length + (encInt x.vote).length + (encInt x.idx).length + (encInt x.past).length + (encText x.vot).length + (encText x.text).length + (encNum x.log.length ++ encAll encEnt x.log).length) = xs.length := by
    have := congrArg List.length d0
    rw [List.drop_zero] at this
    simp only [List.length_append, List.length_nil] at this ⊢
    omega
  rw [← hxs]
  unfold staR
  dsimp only
  rw [e4]
  dsimp only
  rw [i5]
  dsimp only
  rw [i6]
  dsimp only
  rw [i7]
  dsimp only
  rw [hlen]
  rfl

/-! ### The council that was loaded, and the reference -/
def St.ld (x : Sta) (A : Option Addr) (cap : Nat) : St := St.load 2 x.term x.vote x.idx x.past x.vot x.text A cap x.log x.idx x.idx
theorem at_last (S : St) : atV S (S.bidx + S.log.length) = lastT S.sta := by
  unfold atV lastT St.sta
  dsimp only
  by_cases h : S.log.length = 0
  · rw [if_pos (by omega), if_pos h]
  · rw [if_neg (by omega), if_neg (by omega), if_neg h]
    have e : (S.bidx + (S.log.length : Int) - S.bidx - 1).toNat = S.log.length - 1 := by omega
    rw [e]
theorem fol_term (x : Sta) (A : Option Addr) (cap : Nat) (tm : Int) : (folS (St.ld x A cap) tm).term = vT x tm ∧ (folS (St.ld x A cap) tm).vote = vV x tm ∧ (folS (St.ld x A cap) tm).keep = decide (x.term < tm) ∧ (folS (St.ld x A cap) tm).bidx = x.idx ∧ (folS (St.ld x A cap) tm).log = x.log ∧ (folS (St.ld x A cap) tm).bterm = x.past ∧ (folS (St.ld x A cap) tm).bvot = x.vot ∧ (folS (St.ld x A cap) tm).btext = x.text := by
  by_cases h : x.term < tm
  · have hq : (St.ld x A cap).term < tm := h
    have e1 : vT x tm = tm := if_pos h
    have e2 : vV x tm = -1 := if_pos h
    unfold folS
    rw [if_pos hq, e1, e2, decide_eq_true h]
    exact ⟨rfl, rfl, rfl, rfl, rfl, rfl, rfl, rfl⟩
  · have hq : ¬ (St.ld x A cap).term < tm := h
    have e1 : vT x tm = x.term := if_neg h
    have e2 : vV x tm = x.vote := if_neg h
    unfold folS
    rw [if_neg hq, e1, e2, decide_eq_false h]
    exact ⟨rfl, rfl, rfl, rfl, rfl, rfl, rfl, rfl⟩
theorem ok_same (x : Sta) (A : Option Addr) (cap : Nat) (fr tm ix ps : Int) : okS (folS (St.ld x A cap) tm) fr tm ix ps = vOk x fr tm ix ps := by
  obtain ⟨h1, h2, h3, h4, h5, h6, h7, h8⟩ := fol_term x A cap tm
  have hl : lastT (folS (St.ld x A cap) tm).sta = lastT x := by
    unfold lastT St.sta
    dsimp only
    rw [h5, h6]
  unfold okS vOk
  rw [at_last, hl, h1, h2, h4, h5]
theorem heard_sta (x : Sta) (A : Option Addr) (cap : Nat) (fr tm ix ps : Int) : (heardS (St.ld x A cap) fr tm ix ps).quit.sta = vSta x fr tm ix ps ∧ (heardS (St.ld x A cap) fr tm ix ps).keep = vKeep x fr tm ix ps := by
  have ho := ok_same x A cap fr tm ix ps
  obtain ⟨h1, h2, h3, h4, h5, h6, h7, h8⟩ := fol_term x A cap tm
  unfold heardS givS vSta vKeep St.quit St.sta
  rw [ho]
  cases vOk x fr tm ix ps
  · refine ⟨?_, ?_⟩
    · simp only [Bool.false_eq_true, if_false]
      rw [h1, h2, h4, h5, h6, h7, h8]
    · simp only [Bool.false_eq_true, if_false, Bool.false_and, Bool.or_false]
      exact h3
  · refine ⟨?_, ?_⟩
    · simp only [if_true]
      rw [h1, h4, h5, h6, h7, h8]
    · simp only [if_true, Bool.true_and]
      rw [h3, h2]
theorem vSta_i {x : Sta} (hx : StaS x) {fr tm ix ps : Int} (ht : 1 ≤ tm ∧ tm ≤ 1099511627776) (hf : 0 ≤ fr ∧ fr < 7) : StaI (vSta x fr tm ix ps) := by
  refine ⟨?_, ?_, hx.i.i, hx.i.p, hx.i.vot, hx.i.text, hx.i.log, hx.i.ent⟩
  · show I64 (vT x tm)
    unfold vT
    split
    · exact ⟨by omega, by omega⟩
    · exact hx.i.t
  · show I64 (if vOk x fr tm ix ps then fr else vV x tm)
    split
    · exact ⟨by omega, by omega⟩
    · unfold vV
      split
      · exact ⟨by omega, by omega⟩
      · exact hx.i.v

end Go.Proofs.Ytfanbhbpmhojaaa

namespace Go.Proofs.Ytfanbhbpmhojaaa
open Go.RowKit Go.Proofs.YtfanbhbpmhojaaaW.PrintWords Go.Proofs.YtfanbhbpmhojaaaW.PrintLast Go.Proofs.YtfanbhbpmhojaaaW.PrintMore PRef
set_option linter.unusedVariables false
set_option linter.unusedSimpArgs false

theorem load_sta {x : Sta} (hx : StaS x) {A : Option Addr} {c : Nat} {w : World} (hr : ReadsInt w .u8 A (encSta x).length (encSta x)) (hc : (encSta x).length ≤ c) :
    Calls Try.prog 18 #[.int .i64 2, .slice A (encSta x).length c] w fun e w' => ∃ g A' cap, e = .returned (.tuple #[.pointer (some ⟨g, 0, none⟩), .int .i64 0]) ∧ w.heap.size ≤ g ∧ Co w' g (St.ld x A' cap) ∧ Below w.heap.size w w' :=
  (load_calls 2 A c (encSta x) w (by decide) (by decide) hr hc (encSta_bytes x) hx.len).mono fun e w' h => by
    have hv := hx.vot
    have ht := hx.text
    have hq := sta_round x hx.i (by omega) (by omega) (fun y hy => by have := hx.ent y hy; omega)
    obtain ⟨hb, h | h⟩ := h
    · obtain ⟨h1, h2, g, A', cap, he, hg, hco⟩ := h
      rw [hq] at hco
      exact ⟨g, A', cap, he, hg, hco, hb⟩
    · exact absurd ⟨by rw [hq], by rw [hq]; exact hx.may⟩ h.1
theorem enc_of {w : World} {g : Nat} {T : St} {y : Sta} (h : Co w g T) (hy : T.sta = y) (hi : StaI y) :
    Calls Try.prog 23 #[.pointer (some ⟨g, 0, none⟩)] w fun e w' => ∃ A8 c8, e = .returned (.slice A8 (encSta y).length c8) ∧ Hid (ReadsInt w' .u8 A8 (encSta y).length (encSta y)) ∧ Below w.heap.size w w' := by
  subst hy
  exact (encode_calls h hi).mono fun e w' q => by
    obtain ⟨A8, c8, h1, h2, h3, h4⟩ := q
    exact ⟨A8, c8, h1, h3, h4⟩
theorem code_of {w : World} {A : Option Addr} {c : Nat} {y : Sta} (hr : Kd.C k39 w A y.log.length y.log) (hi : StaI y) :
    Calls Try.prog 31 #[.agg (staC y A c)] w fun e w' => ∃ A9 c9, e = .returned (.slice A9 (encSta y).length c9) ∧ Hid (ReadsInt w' .u8 A9 (encSta y).length (encSta y)) ∧ Below w.heap.size w w' ∧ (encSta y).length ≤ c9 :=
  (code_calls w A c y hr hi).mono fun e w' q => by
    obtain ⟨v, h1, h2, h3⟩ := q
    obtain ⟨A9, c9, h4, h5, h6⟩ := h2.reads
    exact ⟨A9, c9, by rw [h1, h4], Lib.hid h6, h3, h5⟩
theorem hear_yes {w : World} {g : Nat} {x : Sta} {A : Option Addr} {cap : Nat} {cs : Array Value} {fr tt tm ix ps cm : Int} (h : Co w g (St.ld x A cap)) (hm : IsML cs 11 fr tt tm ix ps cm) (hR : isR 2 fr tt tm ix ps cm) :
    Calls Try.prog 29 #[.pointer (some ⟨g, 0, none⟩), .agg cs] w fun e w' => ∃ A' c' T, e = .returned (.agg #[.bool (vKeep x fr tm ix ps), .slice A' 1 c', .slice none 0 0]) ∧ Co w' g T ∧ T.sta = vSta x fr tm ix ps ∧ Chg (fun k => k = g) w w' ∧ w'.ownsRow w.heap.size 70 28 (.slice A' 1 c') 1 (mailV (votedC fr (vOk x fr tm ix ps)) 2 (vT x tm)).toList :=
  (hear_calls h rfl rfl ⟨rfl, rfl, rfl⟩ ⟨rfl, rfl, rfl⟩ hm).mono fun e w' q => by
    rcases q with q | q
    · exact absurd hR q.1
    · obtain ⟨_, A', c', h1, h2, h3, h4⟩ := q
      have hs := heard_sta x A cap fr tm ix ps
      rw [hs.2] at h1
      rw [ok_same, (fol_term x A cap tm).1] at h4
      exact ⟨A', c', _, h1, h2, hs.1, h3, h4⟩
theorem hear_no {w : World} {g : Nat} {x : Sta} {A : Option Addr} {cap : Nat} {cs : Array Value} {fr tt tm ix ps cm : Int} (h : Co w g (St.ld x A cap)) (hm : IsML cs 11 fr tt tm ix ps cm) (hR : ¬ isR 2 fr tt tm ix ps cm) :
    Calls Try.prog 29 #[.pointer (some ⟨g, 0, none⟩), .agg cs] w fun e w' => e = .returned (.agg #[.bool false, .slice none 0 0, .slice none 0 0]) ∧ Co w' g (St.ld x A cap) ∧ Chg (fun k => k = g) w w' :=
  (hear_calls h rfl rfl ⟨rfl, rfl, rfl⟩ ⟨rfl, rfl, rfl⟩ hm).mono fun e w' q => by
    rcases q with q | q
    · exact ⟨q.2.1, q.2.2.1, q.2.2.2⟩
    · exact absurd q.1 hR
theorem may_of {w : World} {A : Option Addr} {c : Nat} {x : Sta} (hr : Kd.C k39 w A x.log.length x.log) (hc : x.log.length ≤ c) (hv : x.vot.size ≤ 9223372036854775807) (he : ∀ y ∈ x.log, y.f2.size ≤ 9223372036854775807) (b : Bool) (hb : b = true ↔ mayS x) :
    Calls Try.prog 30 #[.agg (staC x A c)] w fun e w' => e = .returned (.bool b) ∧ Below w.heap.size w w' := by
  refine (mayh_calls w A c x hr hv he).mono fun e w' q => ?_
  obtain ⟨r, h0, h2, h3⟩ := q
  have e : r = b := by
    cases r <;> cases b
    · rfl
    · exact absurd (h2.2 (hb.1 rfl)) (by decide)
    · exact absurd (hb.2 (h2.1 rfl)) (by decide)
    · rfl
  subst e
  exact ⟨h0, h3⟩
/-- A mail's cells as it comes in. -/
structure RawM (cs : Array Value) (fr tt tm ix ps cm : Int) : Prop where
  size : cs.size = 28
  one : cs.all (·.oneCell') = true
  c0 : ∃ k, cs[0]? = some (.int .i64 k)
  c1 : cs[1]? = some (.int .i64 fr)
  c2 : cs[2]? = some (.int .i64 tt)
  c21 : cs[21]? = some (.int .i64 tm)
  c22 : cs[22]? = some (.int .i64 ix)
  c23 : cs[23]? = some (.int .i64 ps)
  c24 : cs[24]? = some (.int .i64 cm)
  c26 : ∃ A n c, cs[26]? = some (.slice A n c)
  ns : ∀ i s, cs[i]? = some (.string s) → i = 27
def askC (cs : Array Value) : Array Value := (cs.setIfInBounds 0 (.int .i64 11)).setIfInBounds 26 (.slice none 0 0)
theorem set_other {cs : Array Value} {i j : Nat} {u v : Value} (h : cs[j]? = some v) (hne : i ≠ j) : (cs.setIfInBounds i u)[j]? = some v := by rw [Array.getElem?_setIfInBounds_ne hne]; exact h
theorem all_set {cs : Array Value} {i : Nat} {u : Value} (h : cs.all (·.oneCell') = true) (hu : u.oneCell' = true) : (cs.setIfInBounds i u).all (·.oneCell') = true := by
  rw [Array.all_eq_true_iff_forall_mem] at h ⊢
  intro x hx
  rw [← Array.mem_toList_iff, Array.toList_setIfInBounds] at hx
  rcases List.mem_or_eq_of_mem_set hx with hx | rfl
  · exact h x (Array.mem_toList_iff.1 hx)
  · exact hu
theorem ask_ml {cs : Array Value} {fr tt tm ix ps cm : Int} (h : RawM cs fr tt tm ix ps cm) : IsML (askC cs) 11 fr tt tm ix ps cm := by
  unfold askC
  have hs := h.size
  refine ⟨by simp [hs], all_set (all_set h.one rfl) rfl, ?_, ?_, ?_, ?_, ?_, ?_, ?_, ?_⟩
  · refine set_other ?_ (by decide)
    rw [Array.getElem?_setIfInBounds_self_of_lt (by omega)]
  · exact set_other (set_other h.c1 (by decide)) (by decide)
  · exact set_other (set_other h.c2 (by decide)) (by decide)
  · exact set_other (set_other h.c21 (by decide)) (by decide)
  · exact set_other (set_other h.c22 (by decide)) (by decide)
  · exact set_other (set_other h.c23 (by decide)) (by decide)
  · exact set_other (set_other h.c24 (by decide)) (by decide)
  · rw [Array.getElem?_setIfInBounds_self_of_lt (by simp; omega)]
/-- A row of one mail, loaded. -/
theorem run_load70 {w : World} {p : Addr} {l : List Value} (hl : l.length = 28) (hc : ∀ j v, l[j]? = some v → w.cell? (p.add j) = some v) : (loadVar 70 p).run Try.prog w = .ok (.agg l.toArray) w := by
  have h1 := run_loadCells_list (P := Try.prog) (w := w) p l hc
  rw [hl] at h1
  have hi := inf70
  cases hq : Try.prog.info? 70 with
  | none => simp [hq] at hi
  | some i =>
    have hs : i.size = 28 := by simpa [hq] using hi
    have hagg : (isAgg 70).run Try.prog w = .ok true w := by
      unfold isAgg
      rw [Sem.run_bind, run_underlying Try.underlying70 w]
      rfl
    simp [loadVar, Sem.run_bind, hagg, sizeOf, typeInfo, hq, hs, h1]
theorem wpList_load70 {ops : Array Oper} {rest : List Oper} {o : Oper} {a : Act} {w : World} {Q : Exit → Act → World → Prop} (hgd : o.guard = none) (x : Operand) (ho : o.op = .load 70 x) (p : Addr) (hx : a.eval x = .pointer (some p)) (l : List Value) (hl : l.length = 28) (hc : ∀ j v, l[j]? = some v → w.cell? (p.add j) = some v)
    (h : wpList Try.prog ops Q rest (a.put o.dst (.agg l.toArray)) w) : wpList Try.prog ops Q (o :: rest) a w :=
  wpList_plain hgd fun _ hK => by
    unfold Oper.wp execOp
    simp only [ho, hx, Instr.loadAt, Instr.sureAddr, Sem.run_bind, Sem.run_pure, Result.andThen_ok, run_load70 hl hc]
    exact hK _ _ h
theorem own_one {w : World} {base : Nat} {A : Option Addr} {c : Nat} {l : List Value} (h : w.ownsRow base 70 28 (.slice A 1 c) 1 l) : ∃ gA, A = some ⟨gA, 0, none⟩ ∧ base ≤ gA ∧ gA < w.heap.size ∧ l.length = 28 ∧ ∀ j v, l[j]? = some v → w.cell? ((⟨gA, 0, none⟩ : Addr).add j) = some v := by
  obtain ⟨h0, h | ⟨gA, cap, cur, h1, h2, h3, h4, h5, h6, h7⟩⟩ := h
  · exact absurd h.2 (by decide)
  · simp only [Value.slice.injEq] at h1
    obtain ⟨rfl, _, rfl⟩ := h1
    refine ⟨gA, rfl, h2, blk_lt h3, by simpa using h0, fun j v hj => ?_⟩
    have hj28 : j < 28 := by
      rcases Nat.lt_or_ge j 28 with q | q
      · exact q
      · rw [List.getElem?_eq_none (by omega)] at hj; cases hj
    rw [Addr.add_lit, Nat.zero_add, blk_cell h3, ← hj, ← h7]
    rw [List.getElem?_take_of_lt (by omega)]
    simp

end Go.Proofs.Ytfanbhbpmhojaaa
