/- The methods of a council that only read: its voters, whether a node is one, whether a number is a majority; isEntry. Conditions: as told of a council's block. -/
import Derived.Test.YtfanbhbpmhojaaaCo
namespace Go.Proofs.Ytfanbhbpmhojaaa
open Go.RowKit Go.Proofs.YtfanbhbpmhojaaaW.PrintWords Go.Proofs.YtfanbhbpmhojaaaW.PrintLast Go.Proofs.YtfanbhbpmhojaaaW.PrintMore PRef
attribute [local go_sem] max2_int min2_int max_two min_two
set_option linter.unusedVariables false
set_option linter.unusedSimpArgs false

/-- The voters now. -/
def St.now (S : St) : ByteArray := nowV S.bvot S.log
def St.voters (S : St) : List Int := votV S.now
theorem voters_len (S : St) : S.voters.length ≤ 7 := votV_len _
theorem nowV_size (v : ByteArray) (l : List S39) (h0 : v.size ≤ 9223372036854775807) (h : ∀ x ∈ l, x.f2.size ≤ 9223372036854775807) : (nowV v l).size ≤ 9223372036854775807 := by
  induction l generalizing v with
  | nil => exact h0
  | cons x l ih =>
    show (nowV (if x.f1 = 2 then x.f2 else v) l).size ≤ _
    apply ih
    · split
      · exact h x List.mem_cons_self
      · exact h0
    · exact fun y hy => h y (List.mem_cons_of_mem _ hy)
theorem Co.at_size {w : World} {g : Nat} {S : St} (h : Co w g S) (i : Int) : (votersAtV S i).size ≤ 9223372036854775807 := nowV_size _ _ h.bv (fun x hx => h.tx x (List.mem_of_mem_take hx))
theorem votersAt_last {w : World} {g : Nat} {S : St} (h : Co w g S) : votersAtV S (S.bidx + S.log.length) = S.now := by
  unfold votersAtV St.now
  rw [List.take_of_length_le (by omega)]

set_option maxRecDepth 100000 in
theorem cvoters_calls {w : World} {g : Nat} {S : St} (h : Co w g S) :
    Calls Try.prog 26 #[.pointer (some ⟨g, 0, none⟩)] w fun e w' => ∃ v, e = .returned v ∧ Kd.R (Kd.int .i64) 3 w' w.heap.size (fun _ => True) v S.voters ∧ Below w.heap.size w w' := by
  have h1 := h.lo
  have h2 := h.hi
  have h3 := h.len
  have hl := votersAt_last h
  have hs := h.at_size (S.bidx + S.log.length)
  rw [hl] at hs
  have HL := Lib.hid hl
  have H := Lib.hid h
  clear h hl
  go_enter Try.func26, Try.ntmps26
  go_wp2_with (first | ((with_reducible refine (last_calls H.out).mono ?_); rintro e w1 ⟨rfl, m1, rfl⟩) | ((with_reducible refine (votersAt_calls (H.out.drewN _) (S.bidx + S.log.length) (by omega) (by omega)).mono ?_); rw [HL.out]; rintro e w1 ⟨rfl, m2, rfl⟩) | ((with_reducible refine (voters_calls S.now _ hs).mono ?_); rintro e w1 ⟨v, rfl, ho, hb⟩; have HO := Lib.hid ho; have HB := Lib.hid hb; clear ho hb))
  go_ret
  exact ⟨_, rfl, HO.out, (pw_below_drewN (Below.refl _ _) _).trans HB.out⟩

theorem index_f (l : List Int) (a : Int) (hl : l.length ≤ 9223372036854775806) : ∀ (d i : Nat), i + d = l.length → ∃ r, slices_Index_int_int.l0 (d + 1) l a (l.length : Int) i = some r ∧ (0 ≤ r ↔ a ∈ l.drop i)
  | 0, i, h => ⟨-1, by unfold slices_Index_int_int.l0; rw [if_neg (by omega)], by rw [List.drop_of_length_le (by omega)]; simp⟩
  | d + 1, i, h => by
    have hi : i < l.length := by omega
    unfold slices_Index_int_int.l0
    rw [if_pos (by omega), if_pos (by omega), if_pos (by omega)]
    have hd : l.drop i = l[i] :: l.drop (i + 1) := List.drop_eq_getElem_cons hi
    have hr : rd l (i : Int) = l[i] := by unfold rd; rw [Int.toNat_natCast, List.getD_eq_getElem?_getD, List.getElem?_eq_getElem hi]; rfl
    rw [hr]
    by_cases he : a = l[i]
    · rw [if_pos he]
      exact ⟨i, rfl, by rw [hd, ← he]; simp⟩
    · rw [if_neg he]
      obtain ⟨r, h1, h2⟩ := index_f l a hl d (i + 1) (by omega)
      refine ⟨r, ?_, by rw [hd, List.mem_cons, h2]; constructor; exact .inr; rintro (h | h); exact absurd h he; exact h⟩
      rw [show wrap64 ((i : Int) + 1) = ((i + 1 : Nat) : Int) from by unfold wrap64; omega]
      exact h1
theorem contains_f (l : List Int) (a : Int) (hl : l.length ≤ 9223372036854775806) : slices_Contains_int_int.f (l.length + 1) l a = some (decide (a ∈ l)) := by
  obtain ⟨r, h1, h2⟩ := index_f l a hl l.length 0 (by omega)
  unfold slices_Contains_int_int.f slices_Index_int_int.f
  rw [show (0 : Int) = ((0 : Nat) : Int) from rfl, h1]
  rw [List.drop_zero] at h2
  simp only [Option.bind_some]
  congr 1
  rw [Bool.eq_iff_iff, decide_eq_true_iff, decide_eq_true_iff]
  exact h2

theorem contains_calls {w : World} {base : Nat} {ok : Nat → Prop} {v : Value} {l : List Int} (a : Int) (h : Kd.R (Kd.int .i64) 3 w base ok v l) (hl : l.length ≤ 7) :
    Calls Try.prog 79 #[v, .int .i64 a] w fun e w' => e = .returned (.bool (decide (a ∈ l))) ∧ ∃ m, w' = w.drewN m := by
  obtain ⟨A, c, rfl⟩ := Kd.R_slice h
  obtain ⟨_, hc, hr⟩ := Kd.R_reads' h
  exact (slices_Contains_int_int.calls _ A c l a _ w hr hc (contains_f l a (by omega))).mono fun e w' ⟨h1, h2⟩ => ⟨h1, h2.out⟩

set_option maxRecDepth 100000 in
theorem is_calls {w : World} {g : Nat} {S : St} (h : Co w g S) (n : Int) :
    Calls Try.prog 41 #[.pointer (some ⟨g, 0, none⟩), .int .i64 n] w fun e w' => e = .returned (.bool (decide (n ∈ S.voters))) ∧ Below w.heap.size w w' := by
  have H := Lib.hid h
  clear h
  go_enter Try.func41, Try.ntmps41
  go_wp2_with (first | ((with_reducible refine (cvoters_calls H.out).mono ?_); rintro e w1 ⟨v, rfl, ho, hb⟩; have HO := Lib.hid ho; have HB := Lib.hid hb; clear ho hb) | ((with_reducible refine (contains_calls n HO.out (voters_len S)).mono ?_); rintro e w2 ⟨rfl, m, rfl⟩))
  go_ret
  exact ⟨rfl, pw_below_drewN HB.out _⟩

set_option maxRecDepth 100000 in
theorem isMajority_calls {w : World} {g : Nat} {S : St} (h : Co w g S) (n : Int) (h0 : 0 ≤ n) (h1 : n ≤ 1000) :
    Calls Try.prog 101 #[.pointer (some ⟨g, 0, none⟩), .int .i64 n] w fun e w' => e = .returned (.bool (decide ((S.voters.length : Int) < 2 * n))) ∧ Below w.heap.size w w' := by
  have H := Lib.hid h
  clear h
  go_enter Try.func101, Try.ntmps101
  go_wp2_with (((with_reducible refine (cvoters_calls H.out).mono ?_); rintro e w1 ⟨v, rfl, ho, hb⟩; have HO := Lib.hid ho; have HB := Lib.hid hb; clear ho hb; obtain ⟨A1, c1, rfl⟩ := Kd.R_slice HO.out))
  go_ret
  exact ⟨rfl, HB.out⟩

set_option maxRecDepth 100000 in
theorem leads_calls {w : World} {g : Nat} {S : St} (h : Co w g S) :
    Calls Try.prog 13 #[.pointer (some ⟨g, 0, none⟩)] w fun e w' => e = .returned (.bool (S.role == 2)) ∧ w = w' := by
  have c8 := h.c8
  clear h
  go_enter Try.func13, Try.ntmps13
  go_wp2_with fail
  go_ret
  exact ⟨rfl, rfl⟩

set_option maxRecDepth 100000 in
theorem told_calls {w : World} {g : Nat} {S : St} (h : Co w g S) :
    Calls Try.prog 14 #[.pointer (some ⟨g, 0, none⟩)] w fun e w' => e = .returned (.int .i64 S.told) ∧ w = w' := by
  have c8 := h.c11
  clear h
  go_enter Try.func14, Try.ntmps14
  go_wp2_with fail
  go_ret
  exact ⟨rfl, rfl⟩

/-- May it be an entry? -/
def isEnt (x : S39) : Prop := 0 ≤ x.f1 ∧ x.f1 ≤ 2 ∧ (x.f1 ≠ 2 ∨ 0 < (votV x.f2).length) ∧ x.f2.size ≤ 4096
instance (x : S39) : Decidable (isEnt x) := by unfold isEnt; infer_instance

set_option maxRecDepth 100000 in
set_option maxHeartbeats 1000000 in
theorem isEntry_calls (w : World) (x : S39) (hs : x.f2.size ≤ 9223372036854775807) :
    Calls Try.prog 38 #[.agg #[.int .i64 x.f0, .int .i64 x.f1, .string x.f2]] w fun e w' => e = .returned (.bool (decide (isEnt x))) ∧ Below w.heap.size w w' := by
  obtain ⟨t, k, s⟩ := x
  dsimp only at hs ⊢
  unfold isEnt
  dsimp only
  obtain ⟨r, hr⟩ : ∃ r, r = decide (0 ≤ k ∧ k ≤ 2 ∧ (k ≠ 2 ∨ 0 < (votV s).length) ∧ s.size ≤ 4096) := ⟨_, rfl⟩
  rw [← hr]
  have HBK := Lib.hid (blk_new w (.cells #[.int .i64 t, .int .i64 k, .string s] 39))
  have HB := Lib.hid ((Below.refl w.heap.size w).alloc (Nat.le_refl _) (.cells #[.int .i64 t, .int .i64 k, .string s] 39))
  have hc0 : (w.alloc (.cells #[.int .i64 t, .int .i64 k, .string s] 39)).cell? ⟨w.heap.size, 1, none⟩ = some (.int .i64 k) := by rw [blk_cell HBK.out]; rfl
  have hc1 : (w.alloc (.cells #[.int .i64 t, .int .i64 k, .string s] 39)).cell? ⟨w.heap.size, 2, none⟩ = some (.string s) := by rw [blk_cell HBK.out]; rfl
  go_enter Try.func38, Try.ntmps38
  go_upto_region 1 with fail
  generalize w.alloc (.cells #[.int .i64 t, .int .i64 k, .string s] 39) = w1 at HBK HB hc0 hc1 ⊢
  have hv := voters_calls s w1 hs
  generalize hN : (votV s).length = N at hv hr ⊢
  have HN := Lib.hid hN
  clear hN
  go_upto_region 2 with ((with_reducible refine hv.mono ?_); rintro e w2 ⟨v, rfl, ho, hb⟩; have d1 := (pw_cell_below hb hc0); have d2 := (pw_cell_below hb hc1); have HB2 := Lib.hid (HB.out.trans (hb.mono HB.out.size)); clear ho hb hv hc0 hc1)
  by_cases k0 : 0 ≤ k
  · have k0b : decide (0 ≤ k) = true := decide_eq_true k0
    by_cases k1 : k ≤ 2
    · have k1b : decide (k ≤ 2) = true := decide_eq_true k1
      by_cases k2 : k = 2
      · have k2b : (k == 2) = true := beq_iff_eq.2 k2
        have k2c : (k != 2) = false := by rw [k2]; rfl
        have hg : decide (0 ≤ k ∧ k ≤ 2 ∧ (k ≠ 2 ∨ 0 < N) ∧ s.size ≤ 4096) = (decide (0 < N) && decide (s.size ≤ 4096)) := by
          rw [Bool.eq_iff_iff, Bool.and_eq_true, decide_eq_true_iff, decide_eq_true_iff, decide_eq_true_iff]
          constructor
          · rintro ⟨_, _, h, h'⟩
            exact ⟨h.resolve_left (fun h => h k2), h'⟩
          · rintro ⟨h, h'⟩
            exact ⟨k0, k1, .inr h, h'⟩
        have HG := Lib.hid (hr.trans hg)
        clear k2 hg hr
        by_cases n0 : 0 < N
        · have n0b : decide (0 < N) = true := decide_eq_true n0
          rw [n0b] at HG
          go_wp2_with fail
          go_ret
          exact ⟨by rw [HG.out]; first | (simp [*]; done) | (simp [*]; omega), HB2.out⟩
        · have n0b : decide (0 < N) = false := decide_eq_false n0
          rw [n0b] at HG
          go_wp2_with fail
          go_ret
          exact ⟨by rw [HG.out]; first | (simp [*]; done) | (simp [*]; omega), HB2.out⟩
      · have k2b : (k == 2) = false := beq_eq_false_iff_ne.2 k2
        have k2c : (k != 2) = true := by rw [bne, k2b]; rfl
        have hg : decide (0 ≤ k ∧ k ≤ 2 ∧ (k ≠ 2 ∨ 0 < N) ∧ s.size ≤ 4096) = decide (s.size ≤ 4096) := by
          rw [Bool.eq_iff_iff, decide_eq_true_iff, decide_eq_true_iff]
          exact ⟨fun h => h.2.2.2, fun h => ⟨k0, k1, .inl k2, h⟩⟩
        have HG := Lib.hid (hr.trans hg)
        clear k2 hg hr
        go_wp2_with fail
        go_ret
        exact ⟨by rw [HG.out]; first | (simp [*]; done) | (simp [*]; omega), HB2.out⟩
    · have k1b : decide (k ≤ 2) = false := decide_eq_false k1
      have hg : decide (0 ≤ k ∧ k ≤ 2 ∧ (k ≠ 2 ∨ 0 < N) ∧ s.size ≤ 4096) = false := decide_eq_false (fun h => k1 h.2.1)
      have HG := Lib.hid (hr.trans hg)
      clear k1 hg hr
      go_wp2_with fail
      go_ret
      exact ⟨by rw [HG.out]; first | (simp [*]; done) | (simp [*]; omega), HB2.out⟩
  · have k0b : decide (0 ≤ k) = false := decide_eq_false k0
    have hg : decide (0 ≤ k ∧ k ≤ 2 ∧ (k ≠ 2 ∨ 0 < N) ∧ s.size ≤ 4096) = false := decide_eq_false (fun h => k0 h.1)
    have HG := Lib.hid (hr.trans hg)
    clear k0 hg hr
    go_wp2_with fail
    go_ret
    exact ⟨by rw [HG.out]; first | (simp [*]; done) | (simp [*]; omega), HB2.out⟩

end Go.Proofs.Ytfanbhbpmhojaaa
