/- A voter alone: add. Conditions: as told of a council's block; its one voter is itself. -/
import Derived.Test.YtfanbhbpmhojaaaCo5
namespace Go.Proofs.Ytfanbhbpmhojaaa
open Go.RowKit Go.Proofs.YtfanbhbpmhojaaaW.PrintWords Go.Proofs.YtfanbhbpmhojaaaW.PrintLast Go.Proofs.YtfanbhbpmhojaaaW.PrintMore PRef
attribute [local go_sem] max2_int min2_int max_two min_two
set_option linter.unusedVariables false
set_option linter.unusedSimpArgs false

/-- The cells of a log, as they lie. -/
theorem row_cells {w : World} {A : Option Addr} {l : List S39} (h : Kd.C k39 w A l.length l) :
    (A = none → l.length = 0) ∧ ∃ olds : List Value, olds.length = l.length * 3 ∧ Reps (k39.K w) 3 l olds ∧ ∀ b, A = some b → ∀ j u, olds[j]? = some u → w.cell? (b.add j) = some u := by
  by_cases h0 : l.length = 0
  · refine ⟨fun _ => h0, [], by simp [h0], ?_, fun b _ j u hj => by simp at hj⟩
    obtain rfl := List.eq_nil_of_length_eq_zero h0
    exact ⟨rfl, fun j p hp => by simp at hp⟩
  · obtain ⟨ad, hA, _⟩ := h.2.2 (by omega)
    subst hA
    obtain ⟨inner, hr, hc⟩ := ReadsRow.inner_ h
    exact ⟨(fun e => by cases e), inner, hr.1, hr, (fun b hb j u hj => by cases hb; exact hc j u hj)⟩

/-- What a voter alone that leads has to have before an entry is put to its log. -/
structure Fit (S : St) (x : S39) : Prop where
  lone : Lone S
  role : S.role = 2
  term : x.f0 = S.term
  kind : x.f1 ≠ 2
  com : S.commit = S.bidx + S.log.length
  told : S.told = S.bidx + S.log.length
  room : S.log.length < 4096
  news : S.nA = none ∧ S.nN = 0 ∧ S.nC = 0
  text : x.f2.size ≤ 9223372036854775807

/-- The state behind an entry. -/
def St.put (S : St) (x : S39) (A1 : Option Addr) (c1 : Nat) (A : Option Addr) (c : Nat) : St :=
  { S with log := S.log ++ [x], A := A1, cap := c1, keep := true, commit := S.bidx + S.log.length + 1, told := S.bidx + S.log.length + 1, nA := A, nN := 1, nC := c }

set_option maxRecDepth 100000 in
set_option maxHeartbeats 1000000 in
theorem add_calls {w : World} {g : Nat} {S : St} (x : S39) (h : Co w g S) (hf : Fit S x) :
    Calls Try.prog 42 #[.pointer (some ⟨g, 0, none⟩), .agg #[.int .i64 x.f0, .int .i64 x.f1, .string x.f2]] w fun e w' => ∃ A1 c1 A c, e = .returned (.tuple #[]) ∧ Co w' g (S.put x A1 c1 A c) ∧ Chg (fun k => k = g) w w' ∧ NewsAt w g w' A c (S.bidx + S.log.length + 1) x := by
  have hbk := blk_new w (.cells #[.int .i64 x.f0, .int .i64 x.f1, .string x.f2] 39)
  have HB1 := Lib.hid ((Below.refl w.heap.size w).alloc (Nat.le_refl _) (.cells #[.int .i64 x.f0, .int .i64 x.f1, .string x.f2] 39))
  have HBK := Lib.hid hbk
  have H := Lib.hid h
  have HF := Lib.hid hf
  have hgl := h.lt
  clear h hf hbk
  go_enter Try.func42, Try.ntmps42
  go_upto_region 1 with fail
  generalize w.alloc (.cells #[.int .i64 x.f0, .int .i64 x.f1, .string x.f2] 39) = w1 at HB1 HBK ⊢
  have HC1 := Lib.hid (H.out.below HB1.out)
  have hc0 : w1.cell? ⟨w.heap.size, 0, none⟩ = some (.int .i64 x.f0) := by rw [blk_cell HBK.out]; rfl
  have hc1 : w1.cell? ⟨w.heap.size, 1, none⟩ = some (.int .i64 x.f1) := by rw [blk_cell HBK.out]; rfl
  have hc2 : w1.cell? ⟨w.heap.size, 2, none⟩ = some (.string x.f2) := by rw [blk_cell HBK.out]; rfl
  obtain ⟨hnone, olds, hlo, hreps, hold⟩ := row_cells HC1.out.row
  have HRP := Lib.hid hreps
  have HCd := Lib.hid (HC1.out.drewN 1)
  refine add_first _ _ _ _ _ _ _ _ _ _ _ _ _ _ _ _ _ _ _ _ _ _ _ _ _ _ _ _ _ _ _ g w.heap.size w1 _ S.A S.log.length S.cap x.f0 x.f1 x.f2 olds (fun _ _ _ _ _ h => h) HC1.out.c7 hc0 hc1 hc2 HC1.out.cap HC1.out.len hnone hlo (fun w' hb b hA j u hj => pw_cell_below ((pw_below_drewN (Below.refl w1.heap.size w1) 1).trans hb) (hold b hA j u hj)) (fun w' hb => (HCd.out.below hb).frozen 7) ?_
  intro A1 c1 w3 hown hB
  have hB0 : Below w.heap.size w w3 := HB1.out.trans (((pw_below_drewN (Below.refl w1.heap.size w1) 1).trans hB).mono HB1.out.size)
  have HC3 := Lib.hid (H.out.below hB0)
  have hcs : Chg (fun k => k = g) w3 (w3.setCell ⟨g, 7, none⟩ (.slice A1 (S.log.length + 1) c1)) := (Chg.refl (fun k => k = g) w3).setCell (p := ⟨g, 7, none⟩) (.inl (by rfl)) _
  have hne : ∀ k, (Value.slice A1 (S.log.length + 1) c1).ownBlock = some k → k ≠ g := fun k hk e => by
    have h1 := own_base hown k hk
    have h2 : g < w1.drew.heap.size := HC1.out.lt
    omega
  have HC4 : Hid (Co (w3.setCell ⟨g, 7, none⟩ (.slice A1 (S.log.length + 1) c1)) g { S with log := S.log ++ [x], A := A1, cap := c1 }) := Lib.hid (by
    have hown4 : (w3.setCell ⟨g, 7, none⟩ (.slice A1 (S.log.length + 1) c1)).ownsRow w1.drew.heap.size 39 3 (.slice A1 (S.log.length + 1) c1) (S.log.length + 1) (olds ++ [.int .i64 x.f0, .int .i64 x.f1, .string x.f2]) := own_move hown (fun k hk => hcs.block k (own_lt hown k hk) (hne k hk))
    have hrp : Reps (k39.K w1) 3 (S.log ++ [x]) (olds ++ [.int .i64 x.f0, .int .i64 x.f1, .string x.f2]) := HRP.out.snoc (k39_mk w1 x) rfl
    obtain ⟨A', c', he, hrd⟩ := own_reads_row hown4 hrp (by simp)
    cases he
    have hl : (S.log ++ [x]).length = S.log.length + 1 := by simp
    refine ⟨?_, ?_, ?_, ?_, ?_, H.out.lo, H.out.hi, ?_, H.out.bv⟩
    · have := blk_set HC3.out.blk 7 (.slice A1 (S.log.length + 1) c1)
      rw [this]
      unfold St.cells
      simp
    · show Kd.C k39 _ A1 (S.log ++ [x]).length (S.log ++ [x])
      rw [hl]
      exact hrd
    · show (S.log ++ [x]).length ≤ c1
      rw [hl]
      exact own_le hown4
    · intro ad hA
      subst hA
      exact hne ad.block rfl
    · show (S.log ++ [x]).length ≤ 4096
      rw [hl]
      have := HF.out.room
      omega
    · intro y hy
      rcases List.mem_append.1 hy with hy | hy
      · exact H.out.tx y hy
      · rw [List.mem_singleton.1 hy]; exact HF.out.text)
  have HH4 : Hid (Chg (fun k => k = g) w (w3.setCell ⟨g, 7, none⟩ (.slice A1 (S.log.length + 1) c1))) := Lib.hid ((Chg.of_same hB0 (fun k => k = g)).trans hcs (fun _ _ h => h))
  clear hown hB hB0 hcs hne hold hlo hnone hc0 hc1 hc2
  generalize w3.setCell ⟨g, 7, none⟩ (.slice A1 (S.log.length + 1) c1) = w4 at HC4 HH4 ⊢
  have c34 := HC4.out.c34
  have f34 := HC4.out.frozen 34
  dsimp only at c34
  have HC5 : Hid (Co (w4.setCell ⟨g, 34, none⟩ (.bool true)) g { S with log := S.log ++ [x], A := A1, cap := c1, keep := true } ∧ Chg (fun k => k = g) w (w4.setCell ⟨g, 34, none⟩ (.bool true))) := Lib.hid (by
    have hc2 : Chg (fun k => k = g) w4 (w4.setCell ⟨g, 34, none⟩ (.bool true)) := (Chg.refl (fun k => k = g) w4).setCell (p := ⟨g, 34, none⟩) (.inl (by rfl)) _
    exact ⟨HC4.out.upd hc2 (blk_set HC4.out.blk 34 (.bool true)) rfl rfl rfl rfl rfl, HH4.out.trans hc2 (fun _ _ h => h)⟩)
  obtain ⟨T, hT⟩ : ∃ T, T = { S with log := S.log ++ [x], A := A1, cap := c1, keep := true } := ⟨_, rfl⟩
  rw [← hT] at HC5
  have HRI : Hid (Ripe T) := Lib.hid (by
    subst hT
    have hl : (S.log ++ [x]).length = S.log.length + 1 := by simp
    refine ⟨⟨HF.out.lone.s0, HF.out.lone.s7, HF.out.lone.bv, ?_⟩, HF.out.role, ?_, ?_, ?_, ?_, HF.out.news⟩
    · intro y hy
      rcases List.mem_append.1 hy with hy | hy
      · exact HF.out.lone.ks y hy
      · rw [List.mem_singleton.1 hy]; exact HF.out.kind
    · unfold atV
      dsimp only
      rw [hl, if_neg (by omega), if_neg (by omega), show (S.bidx + ((S.log.length + 1 : Nat) : Int) - S.bidx - 1).toNat = S.log.length from by omega]
      rw [List.getD_eq_getElem?_getD, List.getElem?_append_right (Nat.le_refl _), Nat.sub_self]
      exact HF.out.term
    · exact HF.out.com.trans HF.out.told.symm
    · show S.told + 1 = S.bidx + ((S.log ++ [x]).length : Nat)
      rw [hl, HF.out.told]
      omega
    · show 0 < (S.log ++ [x]).length
      rw [hl]; omega)
  have HTT := Lib.hid hT
  clear hT
  simp only [Exit.then]
  go_wp2_with fail
  clear c34 f34
  generalize w4.setCell ⟨g, 34, none⟩ (.bool true) = w5 at HC5 ⊢
  ((with_reducible refine (send_calls HC5.out.1 HRI.out.lone).mono ?_); rintro e w6 ⟨rfl, hb⟩; have HB6 := Lib.hid hb; clear hb)
  go_wp2_with fail
  ((with_reducible refine (settle_calls (HC5.out.1.below HB6.out) HRI.out).mono ?_); rintro e w7 ⟨A, c, rfl, hco, hch, hnw⟩; have HC7 := Lib.hid hco; have HH7 := Lib.hid hch; have HN7 := Lib.hid hnw; clear hco hch hnw)
  go_wp2_with fail
  go_end0
  have hi : T.bidx + T.log.length = S.bidx + S.log.length + 1 := by
    rw [HTT.out]
    show S.bidx + ((S.log ++ [x]).length : Nat) = _
    rw [List.length_append]
    simp
    omega
  refine ⟨A1, c1, A, c, rfl, ?_, ?_, ?_⟩
  · have := HC7.out
    rw [hi, HTT.out] at this
    exact this
  · exact (HC5.out.2.trans (Chg.of_same HB6.out (fun k => k = g)) (fun _ _ h => h)).trans HH7.out (fun _ _ h => h)
  · have := HN7.out
    rw [hi] at this
    have hx : T.log.getD (T.log.length - 1) z39 = x := by
      rw [HTT.out]
      show (S.log ++ [x]).getD ((S.log ++ [x]).length - 1) z39 = x
      rw [List.length_append, List.length_singleton, Nat.add_sub_cancel, List.getD_eq_getElem?_getD, List.getElem?_append_right (Nat.le_refl _), Nat.sub_self]
      rfl
    rw [hx] at this
    exact this.weaken (Nat.le_trans HC5.out.2.size HB6.out.size)

end Go.Proofs.Ytfanbhbpmhojaaa
