/- A voter alone: Clone, Compact. Conditions: as told of a council's block; something is left of the log. -/
import Derived.Test.YtfanbhbpmhojaaaCoA
import Derived.Lib.SliceRun
namespace Go.Proofs.Ytfanbhbpmhojaaa
open Go.RowKit Go.Proofs.YtfanbhbpmhojaaaW.PrintWords Go.Proofs.YtfanbhbpmhojaaaW.PrintLast Go.Proofs.YtfanbhbpmhojaaaW.PrintMore PRef
attribute [local go_sem] max2_int min2_int max_two min_two
set_option linter.unusedVariables false
set_option linter.unusedSimpArgs false

theorem reps39_one {w : World} {l : List S39} {cs : List Value} (h : Reps (k39.K w) 3 l cs) : ∀ u ∈ cs, u.oneCell' = true := by
  intro u hu
  obtain ⟨j, hj, rfl⟩ := List.mem_iff_getElem.1 hu
  have hl : j / 3 < l.length := by have := h.1; omega
  have hp := h.2 (j / 3) l[j / 3] (List.getElem?_eq_getElem hl)
  have he := k39_open hp
  have hm : cs[j] ∈ (cs.drop (j / 3 * 3)).take 3 := by
    rw [List.mem_iff_getElem]
    refine ⟨j % 3, by rw [List.length_take, List.length_drop]; omega, ?_⟩
    rw [List.getElem_take, List.getElem_drop]
    congr 1
    omega
  rw [he] at hm
  simp only [List.mem_cons, List.not_mem_nil, or_false] at hm
  rcases hm with h1 | h1 | h1 <;> rw [h1] <;> rfl

set_option maxRecDepth 100000 in
set_option maxHeartbeats 1000000 in
theorem clone_calls {w : World} {ad : Addr} {c : Nat} (l : List S39) (h : Kd.C k39 w (some ad) l.length l) (h0 : 0 < l.length) (h1 : l.length ≤ 4096) :
    Calls Try.prog 49 #[.slice (some ad) l.length c] w fun e w' => ∃ A2 c2, e = .returned (.slice A2 l.length c2) ∧ Kd.C k39 w' A2 l.length l ∧ l.length ≤ c2 ∧ (∀ b, A2 = some b → w.heap.size ≤ b.block) ∧ Below w.heap.size w w' := by
  obtain ⟨_, olds, hlo, hreps, hold⟩ := row_cells h
  have HRP := Lib.hid hreps
  have HONE : Hid (∀ u ∈ olds, u.oneCell' = true) := Lib.hid (reps39_one hreps)
  have HO := Lib.hid (hold ad rfl)
  obtain ⟨i, hi1, hi2, hi3, hi4⟩ := info39
  have HI := Lib.hid (And.intro hi1 (And.intro hi2 (And.intro hi3 hi4)))
  clear h hreps hold hi1 hi2 hi3 hi4
  have q45 : ∀ (w : World) (a : Option Addr) (n c n' c' : Nat), (binOp .eql 45 (.slice a n c) (.slice none n' c')).run Try.prog w = .ok (.bool a.isNone) w := fun w a n c n' c' => Lib.run_eql_slice_nil w _ _ a n c n' c' Try.underlying45
  go_enter Try.func49, Try.ntmps49
  go_wp2_with ((with_reducible refine gate_builtin (b := .append) (xs := #[.tmp 5, .tmp 6]) rfl ?_); at_builtin; refine wpList_append_own _ rfl (.tmp 5) (.tmp 6) 45 rfl w.heap.size 39 i _ 3 32 Try.underlying45 HI.out.1 HI.out.2.1 HI.out.2.2.1 HI.out.2.2.2 rfl (by decide) (.slice (some ⟨w.heap.size, 0, none⟩) 0 0) 0 [] rfl (World.ownsRow_made w #[] 0 (Nat.le_refl _) (Nat.zero_le _) rfl) ad l.length c olds rfl hlo (fun j u hj => pw_cell_below ((Below.refl w.heap.size w).alloc (Nat.le_refl _) _) (HO.out j u hj)) (HONE.out) (by unfold maxLen; omega) (by omega) (by simp) ?_; intro v2 w2 hown hgr hnn; obtain ⟨A2, c2, rfl⟩ := own_slice hown; have HOW := Lib.hid hown; have HGR := Lib.hid hgr; clear hown hgr hnn)
  go_ret
  have hl0 : 0 + l.length = l.length := by omega
  have hown := HOW.out
  rw [hl0, List.nil_append] at hown
  obtain ⟨A3, c3, he, hrd⟩ := own_reads_row hown HRP.out rfl
  cases he
  refine ⟨A2, c2, rfl, hrd, own_le hown, fun b hb => ?_, ?_⟩
  · subst hb
    exact own_base hown b.block rfl
  · exact pw_below_grown ((Below.refl w.heap.size w).alloc (Nat.le_refl _) _) _ (by simp) HGR.out (fun k hk => by simp [Value.ownBlock] at hk; omega)

theorem Co.rebase {w w1 : World} {g : Nat} {S S' : St} (h : Co w g S) (hc : Chg (fun k => k = g) w w1) (hb : w1.heap[g]? = some (.cells S'.cells 94 (0, 0))) (e1 : S'.A = S.A) (e2 : S'.log = S.log) (e3 : S'.cap = S.cap) (h0 : 0 ≤ S'.bidx) (h1 : S'.bidx ≤ 2199023255552) (h2 : S'.bvot.size ≤ 9223372036854775807) : Co w1 g S' := by
  refine ⟨hb, ?_, by rw [e2, e3]; exact h.cap, by rw [e1]; exact h.far, by rw [e2]; exact h.len, h0, h1, by rw [e2]; exact h.tx, h2⟩
  rw [e1, e2]
  exact row_chg h.row h.far hc
theorem Co.relog {w w1 : World} {g : Nat} {S S' : St} (h : Co w g S) (hb : w1.heap[g]? = some (.cells S'.cells 94 (0, 0))) (hr : Kd.C k39 w1 S'.A S'.log.length S'.log) (hcap : S'.log.length ≤ S'.cap) (hf : ∀ ad, S'.A = some ad → ad.block ≠ g) (hl : S'.log.length ≤ 4096) (ht : ∀ x ∈ S'.log, x.f2.size ≤ 9223372036854775807) (e1 : S'.bidx = S.bidx) (e2 : S'.bvot = S.bvot) : Co w1 g S' :=
  ⟨hb, hr, hcap, hf, hl, by rw [e1]; exact h.lo, by rw [e1]; exact h.hi, ht, by rw [e2]; exact h.bv⟩

/-- The state behind a forgetting. -/
def St.cut (S : St) (i : Int) (s : ByteArray) (k : Nat) (A2 : Option Addr) (c2 : Nat) : St :=
  { S with bidx := i, bterm := atV S i, bvot := votersAtV S i, btext := s, log := S.log.drop k, A := A2, cap := c2, keep := true }

set_option maxRecDepth 100000 in
set_option maxHeartbeats 2000000 in
/-- What was told is forgotten, but for the last. -/
theorem compact_ok {w : World} {g : Nat} {S : St} (h : Co w g S) (k : Nat) (s : ByteArray) (hk0 : 0 < k) (hkl : k < S.log.length) (ht : S.bidx + k ≤ S.told) (ht1 : S.told ≤ 2199023255552) (hs : s.size ≤ 1048576) :
    Calls Try.prog 16 #[.pointer (some ⟨g, 0, none⟩), .int .i64 (S.bidx + k), .string s] w fun e w' => ∃ A2 c2, e = .returned (.tuple #[.agg #[.bool true, .slice S.mA S.mN S.mC, .slice S.nA S.nN S.nC], .int .i64 0]) ∧ Co w' g (S.cut (S.bidx + k) s k A2 c2).quit ∧ Chg (fun k => k = g) w w' := by
  have c3 := h.c3
  have c11 := h.c11
  have hgl := h.lt
  have hlo := h.lo
  have hhi := h.hi
  have hln := h.len
  have hsb := h.at_size (S.bidx + k)
  obtain ⟨i, hi⟩ : ∃ i, i = S.bidx + (k : Int) := ⟨_, rfl⟩
  have hik : i - S.bidx = (k : Int) := by omega
  rw [← hi] at ht hsb ⊢
  have hi1 : 0 ≤ i ∧ i ≤ 2199023255552 := by omega
  have hd1 : decide (i ≤ S.bidx) = false := decide_eq_false (by omega)
  have hd2 : decide (S.told < i) = false := decide_eq_false (by omega)
  have hd3 : decide ((1048576 : Int) < (s.size : Int)) = false := decide_eq_false (by omega)
  have HI := Lib.hid hi
  have HIB := Lib.hid hi1
  have HSB := Lib.hid hsb
  have HL1 := Lib.hid hlo
  have hbk := blk_new w (.cells #[.bool false, .slice none 0 0, .slice none 0 0] 32)
  have HB1 := Lib.hid ((Below.refl w.heap.size w).alloc (Nat.le_refl _) (.cells #[.bool false, .slice none 0 0, .slice none 0 0] 32))
  have HBK := Lib.hid hbk
  have H := Lib.hid h
  have HIK := Lib.hid hik
  clear h hbk hi ht hsb hi1 hlo hhi ht1
  go_enter Try.func16, Try.ntmps16
  go_upto_region 7 with fail
  generalize w.alloc (.cells #[.bool false, .slice none 0 0, .slice none 0 0] 32) = w1 at HB1 HBK ⊢
  have HC1 := Lib.hid (H.out.below HB1.out)
  have c3 := HC1.out.c3
  go_upto_region 8 with fail
  have c4 := HC1.out.c4
  have c5 := HC1.out.c5
  have c6 := HC1.out.c6
  have f3 := HC1.out.frozen 3
  have f4 := HC1.out.frozen 4
  have f5 := HC1.out.frozen 5
  have f6 := HC1.out.frozen 6
  have HAT := Lib.hid (at_calls HC1.out i (by have := HIB.out; omega) (by have := HIB.out; omega))
  clear hik hd1 hd2 hd3 c11
  go_upto_region 9 with (first | ((with_reducible refine HAT.out.mono ?_); rintro e w2 ⟨rfl, m2, hm2⟩; have hb2 : Below w1.heap.size w1 w2 := (by rw [hm2]; exact pw_below_drewN (Below.refl _ _) m2); have HVA := Lib.hid (votersAt_calls (HC1.out.below hb2) i (by have := HIB.out; omega) (by have := HIB.out; omega)); have HB2 := Lib.hid hb2; clear hb2 hm2) | ((with_reducible refine HVA.out.mono ?_); rintro e w3 ⟨rfl, m3, hm3⟩; have hb3 : Below w2.heap.size w2 w3 := (by rw [hm3]; exact pw_below_drewN (Below.refl _ _) m3); have HB3 := Lib.hid (HB2.out.trans (hb3.mono HB2.out.size)); have HC3 := Lib.hid (HC1.out.below HB3.out); clear hb3 hm3 c3 c4 c5 c6 f3 f4 f5 f6; have c3 := HC3.out.c3; have c4 := HC3.out.c4; have c5 := HC3.out.c5; have c6 := HC3.out.c6; have f3 := HC3.out.frozen 3; have f4 := HC3.out.frozen 4; have f5 := HC3.out.frozen 5; have f6 := HC3.out.frozen 6))
  have HK3 := Lib.hid (blk_below HBK.out HB3.out)
  have HH3 := Lib.hid (Chg.of_same (HB1.out.trans (HB3.out.mono HB1.out.size)) (fun k => k = g))
  clear c3 c4 c5 c6 f3 f4 f5 f6
  obtain ⟨T, hT⟩ : ∃ T, T = { S with bidx := i, bterm := atV S i, bvot := votersAtV S i, btext := s } := ⟨_, rfl⟩
  have hkey : Co ((((w3.setCell ⟨g, 3, none⟩ (.int .i64 i)).setCell ⟨g, 4, none⟩ (.int .i64 (atV S i))).setCell ⟨g, 5, none⟩ (.string (votersAtV S i))).setCell ⟨g, 6, none⟩ (.string s)) g T ∧ Chg (fun k => k = g) w3 ((((w3.setCell ⟨g, 3, none⟩ (.int .i64 i)).setCell ⟨g, 4, none⟩ (.int .i64 (atV S i))).setCell ⟨g, 5, none⟩ (.string (votersAtV S i))).setCell ⟨g, 6, none⟩ (.string s)) := by
    have hc : Chg (fun k => k = g) w3 ((((w3.setCell ⟨g, 3, none⟩ (.int .i64 i)).setCell ⟨g, 4, none⟩ (.int .i64 (atV S i))).setCell ⟨g, 5, none⟩ (.string (votersAtV S i))).setCell ⟨g, 6, none⟩ (.string s)) := (((((Chg.refl (fun k => k = g) w3).setCell (p := ⟨g, 3, none⟩) (.inl (by rfl)) (.int .i64 i)).setCell (p := ⟨g, 4, none⟩) (.inl (by rfl)) (.int .i64 (atV S i))).setCell (p := ⟨g, 5, none⟩) (.inl (by rfl)) (.string (votersAtV S i))).setCell (p := ⟨g, 6, none⟩) (.inl (by rfl)) (.string s))
    subst hT
    exact ⟨HC3.out.rebase hc (blk_set (blk_set (blk_set (blk_set HC3.out.blk 3 (.int .i64 i)) 4 (.int .i64 (atV S i))) 5 (.string (votersAtV S i))) 6 (.string s)) rfl rfl rfl HIB.out.1 HIB.out.2 HSB.out, hc⟩
  generalize (((w3.setCell ⟨g, 3, none⟩ (.int .i64 i)).setCell ⟨g, 4, none⟩ (.int .i64 (atV S i))).setCell ⟨g, 5, none⟩ (.string (votersAtV S i))).setCell ⟨g, 6, none⟩ (.string s) = w4 at hkey ⊢
  have HC4 := Lib.hid hkey.1
  have HH4 := Lib.hid (HH3.out.trans hkey.2 (fun _ _ h => h))
  have HK4 : Hid (w4.heap[w.heap.size]? = some (.cells #[.bool false, .slice none 0 0, .slice none 0 0] 32 (0, 0))) := Lib.hid ((hkey.2.block w.heap.size (blk_lt HK3.out) (by omega)).trans HK3.out)
  have hgl4 := HC4.out.lt
  clear hkey
  have hTA : T.A = S.A ∧ T.log = S.log ∧ T.cap = S.cap := by subst hT; exact ⟨rfl, rfl, rfl⟩
  have HTT := Lib.hid hT
  clear hT
  obtain ⟨ad, hA, _⟩ := HC4.out.row.2.2 (by rw [hTA.2.1]; omega)
  have c7 := HC4.out.c7
  have f7 := HC4.out.frozen 7
  have hcap := HC4.out.cap
  have hdr := Kd.C_drop (m := k) HC4.out.row (by rw [hTA.2.1]; omega) HC4.out.cap
  rw [hA] at c7 hdr
  rw [hTA.2.1] at c7 hdr hcap
  rw [hTA.2.2] at c7 hdr hcap
  rw [if_neg (by omega)] at hdr
  have hdl : (S.log.drop k).length = S.log.length - k := List.length_drop
  have HDR : Hid (Kd.C k39 w4 (some (ad.add (k * 3))) (S.log.drop k).length (S.log.drop k)) := Lib.hid hdr
  have HCL := fun c => Lib.hid (clone_calls (c := c) (S.log.drop k) HDR.out (by omega) (by omega))
  rw [hdl] at HCL
  have HDL := Lib.hid hdl
  have HTA := Lib.hid hTA
  have hkc : (k : Int) ≤ (S.log.length : Int) := by omega
  have hkc2 : S.log.length ≤ S.cap := hcap
  have hcm : ¬ S.cap = k := by omega
  have hcm2 : ¬ k = S.cap := by omega
  clear hdr hdl hA hTA hcap
  go_upto_region 10 with ((with_reducible refine (HCL _).out.mono ?_); rintro e w5 ⟨A2, c2, rfl, h1, h2, h3, h4⟩; have HR5 := Lib.hid h1; have HCP := Lib.hid h2; have HFA := Lib.hid h3; have HB5 := Lib.hid h4; clear h1 h2 h3 h4 c7 f7; have c7 := (HC4.out.below HB5.out).c7; have f7 := (HC4.out.below HB5.out).frozen 7)
  have HC6 : Hid (Co (w5.setCell ⟨g, 7, none⟩ (.slice A2 (S.log.length - k) c2)) g { T with log := S.log.drop k, A := A2, cap := c2 } ∧ Chg (fun k => k = g) w4 (w5.setCell ⟨g, 7, none⟩ (.slice A2 (S.log.length - k) c2))) := Lib.hid (by
    have hcs : Chg (fun k => k = g) w5 (w5.setCell ⟨g, 7, none⟩ (.slice A2 (S.log.length - k) c2)) := (Chg.refl (fun k => k = g) w5).setCell (p := ⟨g, 7, none⟩) (.inl (by rfl)) _
    have hfar : ∀ ad, A2 = some ad → ad.block ≠ g := fun ad hA => by have := HFA.out ad hA; omega
    refine ⟨(HC4.out.below HB5.out).relog ?_ ?_ ?_ hfar ?_ ?_ rfl rfl, (Chg.of_same HB5.out (fun k => k = g)).trans hcs (fun _ _ h => h)⟩
    · refine (blk_set (HC4.out.below HB5.out).blk 7 (.slice A2 (S.log.length - k) c2)).trans ?_
      unfold St.cells
      dsimp only
      rw [HDL.out]
      rfl
    · show Kd.C k39 _ A2 (S.log.drop k).length (S.log.drop k)
      refine row_chg ?_ hfar hcs
      rw [HDL.out]
      exact HR5.out
    · show (S.log.drop k).length ≤ c2
      rw [HDL.out]; exact HCP.out
    · show (S.log.drop k).length ≤ 4096
      rw [HDL.out]; omega
    · intro x hx
      exact H.out.tx x (List.mem_of_mem_drop hx))
  have HK6 : Hid ((w5.setCell ⟨g, 7, none⟩ (.slice A2 (S.log.length - k) c2)).heap[w.heap.size]? = some (.cells #[.bool false, .slice none 0 0, .slice none 0 0] 32 (0, 0))) := Lib.hid ((HC6.out.2.block w.heap.size (blk_lt HK4.out) (by omega)).trans HK4.out)
  have HH6 := Lib.hid (HH4.out.trans HC6.out.2 (fun _ _ h => h))
  clear c7 f7
  generalize w5.setCell ⟨g, 7, none⟩ (.slice A2 (S.log.length - k) c2) = w6 at HC6 HK6 HH6 ⊢
  have c34 := HC6.out.1.c34
  have f34 := HC6.out.1.frozen 34
  dsimp only at c34
  go_upto_region 11 with fail
  have HC7 : Hid (Co (w6.setCell ⟨g, 34, none⟩ (.bool true)) g (S.cut i s k A2 c2) ∧ Chg (fun k => k = g) w6 (w6.setCell ⟨g, 34, none⟩ (.bool true))) := Lib.hid (by
    have hc : Chg (fun k => k = g) w6 (w6.setCell ⟨g, 34, none⟩ (.bool true)) := (Chg.refl (fun k => k = g) w6).setCell (p := ⟨g, 34, none⟩) (.inl (by rfl)) _
    have := HC6.out.1.upd (S' := S.cut i s k A2 c2) hc ?_ ?_ ?_ ?_ ?_ ?_
    · exact ⟨this, hc⟩
    · refine (blk_set HC6.out.1.blk 34 (.bool true)).trans ?_
      rw [HTT.out]
      rfl
    · rfl
    · rfl
    · rfl
    · rw [HTT.out]; rfl
    · rw [HTT.out]; rfl)
  have HK7 : Hid ((w6.setCell ⟨g, 34, none⟩ (.bool true)).heap[w.heap.size]? = some (.cells #[.bool false, .slice none 0 0, .slice none 0 0] 32 (0, 0))) := Lib.hid ((HC7.out.2.block w.heap.size (blk_lt HK6.out) (by omega)).trans HK6.out)
  clear c34 f34
  generalize w6.setCell ⟨g, 34, none⟩ (.bool true) = w7 at HC7 HK7 ⊢
  have HTK := Lib.hid (take_calls HC7.out.1)
  go_wp2_with (first | ((with_reducible refine HTK.out.mono ?_); rintro e w8 ⟨rfl, hco, hch⟩; have HC8 := Lib.hid hco; have HH8 := Lib.hid hch; clear hco hch; have HK8 : Hid (w8.heap[w.heap.size]? = some (.cells #[.bool false, .slice none 0 0, .slice none 0 0] 32 (0, 0))) := (Lib.hid ((HH8.out.block w.heap.size (blk_lt HK7.out) (by omega)).trans HK7.out))) | (refine wpList_store_row rfl 32 (.tmp 6) (.tmp 69) rfl w.heap.size #[.bool true, .slice S.mA S.mN S.mC, .slice S.nA S.nN S.nC] rfl rfl 32 _ HK8.out inf32 rfl (by simp [Value.oneCell']) ?_))
  (try simp only [Exit.inBlock, Exit.then])
  refine bodyPost_ret (ret_word rfl _ _ w.heap.size 32 _ rfl (setRow_heap _ _ _ _ _ _ HK8.out) inf32) rfl ?_
  refine ⟨A2, c2, rfl, HC8.out.row_far (by omega) HK8.out, ?_⟩
  exact ((HH6.out.trans HC7.out.2 (fun _ _ h => h)).trans HH8.out (fun _ _ h => h)).trans (chg_setRow _ _ _) (fun i hi hk => by omega)

end Go.Proofs.Ytfanbhbpmhojaaa
