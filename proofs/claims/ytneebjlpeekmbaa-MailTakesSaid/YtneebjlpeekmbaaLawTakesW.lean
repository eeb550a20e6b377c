/- The walks of the laws MailFramed and MailTakes: they return true, and write nothing that was there. Conditions: bytes are bytes. -/
import Derived.Test.YtneebjlpeekmbaaAbT
import Derived.Test.YtneebjlpeekmbaaRead15
import Derived.Test.YtneebjlpeekmbaaUniq
namespace Go.Proofs.Ytneebjlpeekmbaa
open Go.RowKit Go.Proofs.YtneebjlpeekmbaaW.PrintWords Go.Proofs.YtneebjlpeekmbaaW.PrintLast Go.Proofs.YtneebjlpeekmbaaW.PrintMore PRef
set_option linter.unusedVariables false
set_option linter.unusedSimpArgs false

theorem read_m (A : Option Addr) (c : Nat) (xs : List Int) (w : World) (hr : ReadsInt w .u8 A xs.length xs) (hc : xs.length ≤ c) (hb : IsBytes xs) :
    Calls Try.prog 19 #[.slice A xs.length c] w fun e w' => ∃ cs M, e = .returned (.tuple #[.agg cs, .bool (decide ((mailR xs (some 0)).2 = some xs.length))]) ∧ Hid ((mailR xs (some 0)).2 = some xs.length → M = (mailR xs (some 0)).1) ∧ Hid (∀ w2 : World, (∀ k, w.heap.size ≤ k → w2.heap[k]? = w'.heap[k]?) → InM w2 cs M) ∧ Below w.heap.size w w' := by
  refine (read_calls A c xs w hr hc hb).mono ?_
  rintro e w' ⟨M, A1, c1, A2, c2, A3, c3, rfl, hM, hin, hb⟩
  exact ⟨_, M, rfl, Lib.hid hM, Lib.hid (fun w2 hw => by obtain ⟨h1, h2, h3⟩ := hin w2 hw; exact ⟨A1, c1, A2, c2, A3, c3, rfl, h1, h2, h3⟩), hb⟩
theorem decE_frame (us : List Int) (hx : IsBytes us) (hl : us.length ≤ 1048576) : decE (frameL us) = (if (mailR us (some 0)).2 = some us.length then 0 else 4) ∧ ((mailR us (some 0)).2 = some us.length → decM (frameL us) = (mailR us (some 0)).1) := by
  obtain ⟨h1, h2, h3⟩ := unf_frame us hx hl
  have he : decE (frameL us) = (if (mailR us (some 0)).2 = some us.length then 0 else 4) := by
    unfold decE
    rw [h1, h2, h3, frameL_length, if_neg (by decide), if_neg (by decide), if_neg (by omega)]
  refine ⟨he, fun h => ?_⟩
  unfold decM
  rw [he, if_pos h, if_pos rfl, h2]

set_option maxRecDepth 100000 in
set_option maxHeartbeats 4000000 in
theorem framed_law (A : Option Addr) (n1 c1 : Nat) (xs : List Int) (w : World) (hr1 : ReadsInt w .u8 A n1 xs) (hc1 : n1 ≤ c1) (hx : IsBytes xs) :
    Calls Try.prog 5 #[.slice A n1 c1] w fun e w' => e = .returned (.bool true) ∧ Below w.heap.size w w' := by
  obtain ⟨us, hus, hul, hur, hub⟩ : ∃ us : List Int, us.length = min n1 3000 ∧ us.length ≤ 3000 ∧ Hid (ReadsInt w .u8 A us.length us) ∧ Hid (IsBytes us) := by
    have hl := hr1.1
    refine ⟨xs.take 3000, by rw [List.length_take]; omega, by rw [List.length_take]; omega, Lib.hid ?_, Lib.hid (hx.take 3000)⟩
    have e : (xs.take 3000).length = min 3000 n1 := by rw [List.length_take, hl]
    rw [e]
    by_cases h : n1 ≤ 3000
    · rw [Nat.min_eq_right h, List.take_of_length_le (by omega)]; exact hr1
    · rw [Nat.min_eq_left (by omega)]; exact hr1.take_ 3000 (by omega)
  have hu34 := Try.underlying34
  obtain ⟨i0, hi0, hzz⟩ := Option.map_eq_some_iff.1 info5
  have hrd : us.length ≤ c1 := by omega
  clear hr1 hx
  by_cases h3 : 3000 < n1
  case' pos =>
    have h3b : decide (3000 < (n1 : Int)) = true := by rw [decide_eq_true_iff]; omega
    have hcut := cut_to (P := Try.prog) 37 5 .i64 Try.underlying37 hi0 A n1 c1 (3000 : Int) (by omega) (by omega) hc1
    rw [show (3000 : Int).toNat = 3000 from rfl] at hcut
    have hul3 : us.length = 3000 := by omega
    have hgo : (3000 : Nat) = us.length := hul3.symm
    rw [hgo] at hcut
    clear hi0 hzz hus h3 hul3 hgo
    go_enter Try.func5, Try.ntmps5
    go_upto_region 3 with fail
  case' neg =>
    have h3b : decide (3000 < (n1 : Int)) = false := by rw [decide_eq_false_iff_not]; omega
    have hul3 : us.length = n1 := by omega
    subst hul3
    clear hi0 hzz hus h3
    go_enter Try.func5, Try.ntmps5
    go_upto_region 3 with fail
  all_goals
    clear h3b
    go_wp2_with fail
    ((with_reducible refine (rframe_calls A c1 us _ hur.out hrd hub.out (by omega)).mono ?_); rintro e w1 ⟨v, rfl, HO, hb1⟩)
    obtain ⟨A', c', rfl, hc', hr'⟩ := HO.reads
    have HB1 := Lib.hid hb1
    have HR1 := Lib.hid hr'
    have HFB := Lib.hid (frameL_bytes us hub.out)
    have HDE := Lib.hid (decE_frame us hub.out (by omega))
    clear HO hb1 hr'
    go_wp2_with fail
    ((with_reducible refine (dec_m _ _ c' _ HR1.out hc' HFB.out).mono ?_); rintro e w2 ⟨ds, rfl, HD, hb⟩)
    have HB2 := Lib.hid (HB1.out.trans (hb.mono HB1.out.size))
    have HBz := Lib.hid (blk_new w2 (.cells #[.int .i64 0, .int .i64 0, .int .i64 0, .int .i64 0, .int .i64 0, .int .i64 0, .int .i64 0, .int .i64 0, .int .i64 0, .int .i64 0, .int .i64 0, .bool false, .int .i64 0, .int .i64 0, .int .i64 0, .int .i64 0, .int .i64 0, .slice none 0 0, .int .i64 0, .slice none 0 0, .bool false, .int .i64 0, .int .i64 0, .int .i64 0, .int .i64 0, .int .i64 0, .slice none 0 0, .string ⟨#[]⟩] 34))
    have hrow := below_row (cs := ds) ((Below.refl w2.heap.size w2).alloc (Nat.le_refl _) (.cells #[.int .i64 0, .int .i64 0, .int .i64 0, .int .i64 0, .int .i64 0, .int .i64 0, .int .i64 0, .int .i64 0, .int .i64 0, .int .i64 0, .int .i64 0, .bool false, .int .i64 0, .int .i64 0, .int .i64 0, .int .i64 0, .int .i64 0, .slice none 0 0, .int .i64 0, .slice none 0 0, .bool false, .int .i64 0, .int .i64 0, .int .i64 0, .int .i64 0, .int .i64 0, .slice none 0 0, .string ⟨#[]⟩] 34)) (Nat.le_refl _)
    have HB3 := Lib.hid (HB2.out.trans (hrow.mono HB2.out.size))
    have HD3 := Lib.hid (HD.out.below hrow)
    have HBX3 := Lib.hid (setRow_heap (w2.alloc (.cells #[.int .i64 0, .int .i64 0, .int .i64 0, .int .i64 0, .int .i64 0, .int .i64 0, .int .i64 0, .int .i64 0, .int .i64 0, .int .i64 0, .int .i64 0, .bool false, .int .i64 0, .int .i64 0, .int .i64 0, .int .i64 0, .int .i64 0, .slice none 0 0, .int .i64 0, .slice none 0 0, .bool false, .int .i64 0, .int .i64 0, .int .i64 0, .int .i64 0, .int .i64 0, .slice none 0 0, .string ⟨#[]⟩] 34)) w2.heap.size #[.int .i64 0, .int .i64 0, .int .i64 0, .int .i64 0, .int .i64 0, .int .i64 0, .int .i64 0, .int .i64 0, .int .i64 0, .int .i64 0, .int .i64 0, .bool false, .int .i64 0, .int .i64 0, .int .i64 0, .int .i64 0, .int .i64 0, .slice none 0 0, .int .i64 0, .slice none 0 0, .bool false, .int .i64 0, .int .i64 0, .int .i64 0, .int .i64 0, .int .i64 0, .slice none 0 0, .string ⟨#[]⟩] ds 34 (0, 0) HBz.out)
    have HI := Lib.hid HD.out.info
    clear hb hrow HB1 HB2 hc' HR1
    go_upto_region 4 with (refine wpList_store_row rfl 34 (.tmp 3) (.tmp 16) rfl w2.heap.size ds rfl rfl 34 _ HBz.out HD.out.info HD.out.size.symm HD.out.one ?_)
    generalize (w2.alloc (.cells #[.int .i64 0, .int .i64 0, .int .i64 0, .int .i64 0, .int .i64 0, .int .i64 0, .int .i64 0, .int .i64 0, .int .i64 0, .int .i64 0, .int .i64 0, .bool false, .int .i64 0, .int .i64 0, .int .i64 0, .int .i64 0, .int .i64 0, .slice none 0 0, .int .i64 0, .slice none 0 0, .bool false, .int .i64 0, .int .i64 0, .int .i64 0, .int .i64 0, .int .i64 0, .slice none 0 0, .string ⟨#[]⟩] 34)).setRow w2.heap.size ds = w3 at HB3 HBX3 HD3 ⊢
    clear HBz HD
    go_wp2_with fail
    ((with_reducible refine (read_m A c1 us _ (hur.out.below HB3.out) hrd hub.out).mono ?_); rintro e w4 ⟨ms, M, rfl, HM, HF, hb⟩)
    have HN := Lib.hid (HF.out _ (fun _ _ => rfl))
    clear HF
    have HB4 := Lib.hid (HB3.out.trans (hb.mono HB3.out.size))
    have HBz := Lib.hid (blk_new w4 (.cells #[.int .i64 0, .int .i64 0, .int .i64 0, .int .i64 0, .int .i64 0, .int .i64 0, .int .i64 0, .int .i64 0, .int .i64 0, .int .i64 0, .int .i64 0, .bool false, .int .i64 0, .int .i64 0, .int .i64 0, .int .i64 0, .int .i64 0, .slice none 0 0, .int .i64 0, .slice none 0 0, .bool false, .int .i64 0, .int .i64 0, .int .i64 0, .int .i64 0, .int .i64 0, .slice none 0 0, .string ⟨#[]⟩] 34))
    have hrow := below_row (cs := ms) ((Below.refl w4.heap.size w4).alloc (Nat.le_refl _) (.cells #[.int .i64 0, .int .i64 0, .int .i64 0, .int .i64 0, .int .i64 0, .int .i64 0, .int .i64 0, .int .i64 0, .int .i64 0, .int .i64 0, .int .i64 0, .bool false, .int .i64 0, .int .i64 0, .int .i64 0, .int .i64 0, .int .i64 0, .slice none 0 0, .int .i64 0, .slice none 0 0, .bool false, .int .i64 0, .int .i64 0, .int .i64 0, .int .i64 0, .int .i64 0, .slice none 0 0, .string ⟨#[]⟩] 34)) (Nat.le_refl _)
    have hb34 := hb.trans (hrow.mono hb.size)
    have HB5 := Lib.hid (HB4.out.trans (hrow.mono HB4.out.size))
    have HN5 := Lib.hid (HN.out.below hrow)
    have HD5 := Lib.hid (HD3.out.below hb34)
    have HBX5 := Lib.hid (blk_below HBX3.out hb34)
    have HBY5 := Lib.hid (setRow_heap (w4.alloc (.cells #[.int .i64 0, .int .i64 0, .int .i64 0, .int .i64 0, .int .i64 0, .int .i64 0, .int .i64 0, .int .i64 0, .int .i64 0, .int .i64 0, .int .i64 0, .bool false, .int .i64 0, .int .i64 0, .int .i64 0, .int .i64 0, .int .i64 0, .slice none 0 0, .int .i64 0, .slice none 0 0, .bool false, .int .i64 0, .int .i64 0, .int .i64 0, .int .i64 0, .int .i64 0, .slice none 0 0, .string ⟨#[]⟩] 34)) w4.heap.size #[.int .i64 0, .int .i64 0, .int .i64 0, .int .i64 0, .int .i64 0, .int .i64 0, .int .i64 0, .int .i64 0, .int .i64 0, .int .i64 0, .int .i64 0, .bool false, .int .i64 0, .int .i64 0, .int .i64 0, .int .i64 0, .int .i64 0, .slice none 0 0, .int .i64 0, .slice none 0 0, .bool false, .int .i64 0, .int .i64 0, .int .i64 0, .int .i64 0, .int .i64 0, .slice none 0 0, .string ⟨#[]⟩] ms 34 (0, 0) HBz.out)
    have HIM := Lib.hid HN.out.info
    clear hb hrow hb34 HB3 HB4 HD3 HBX3
    by_cases hok : (mailR us (some 0)).2 = some us.length
    case' pos =>
      have hE : decE (frameL us) = 0 := by rw [HDE.out.1, if_pos hok]
      have hM : decM (frameL us) = M := by rw [HDE.out.2 hok, HM.out hok]
      rw [hM] at HD5
      rw [hE, decide_eq_true hok]
      clear hE hM hok HM HDE
      go_upto_region 5 with (refine wpList_store_row rfl 34 (.tmp 5) (.tmp 21) rfl w4.heap.size ms rfl rfl 34 _ HBz.out HN.out.info HN.out.size.symm HN.out.one ?_)
      generalize (w4.alloc (.cells #[.int .i64 0, .int .i64 0, .int .i64 0, .int .i64 0, .int .i64 0, .int .i64 0, .int .i64 0, .int .i64 0, .int .i64 0, .int .i64 0, .int .i64 0, .bool false, .int .i64 0, .int .i64 0, .int .i64 0, .int .i64 0, .int .i64 0, .slice none 0 0, .int .i64 0, .slice none 0 0, .bool false, .int .i64 0, .int .i64 0, .int .i64 0, .int .i64 0, .int .i64 0, .slice none 0 0, .string ⟨#[]⟩] 34)).setRow w4.heap.size ms = w5 at HB5 HN5 HD5 HBX5 HBY5 ⊢
      clear HBz HN
      go_wp2_with (first | (refine gate_guard (by rfl) ?_; dsimp only; refine wpList_load_row rfl 34 (.tmp 3) rfl w2.heap.size rfl 34 ds (0, 0) _ HBX5.out Try.underlying34 rfl HI.out ?_) | (refine gate_guard (by rfl) ?_; dsimp only; refine wpList_load_row rfl 34 (.tmp 5) rfl w4.heap.size rfl 34 ms (0, 0) _ HBY5.out Try.underlying34 rfl HIM.out ?_) | ((with_reducible refine (same15_m HD5.out HN5.out).mono ?_); rintro e w9 ⟨rfl, hb⟩; have HB9 := Lib.hid (HB5.out.trans (hb.mono HB5.out.size)); clear hb) | ((with_reducible refine (lives_calls _).mono ?_); rintro e w6 ⟨rfl, hb6⟩))
      go_ret
      exact ⟨rfl, HB9.out.trans (hb6.mono HB9.out.size)⟩
    case' neg =>
      have hE : decE (frameL us) = 4 := by rw [HDE.out.1, if_neg hok]
      have hM : decM (frameL us) = mail0 := decM_bad _ (by rw [hE]; decide)
      rw [hM] at HD5
      rw [hE, decide_eq_false hok]
      clear hE hM hok HM HDE
      go_upto_region 5 with (refine wpList_store_row rfl 34 (.tmp 5) (.tmp 21) rfl w4.heap.size ms rfl rfl 34 _ HBz.out HN.out.info HN.out.size.symm HN.out.one ?_)
      generalize (w4.alloc (.cells #[.int .i64 0, .int .i64 0, .int .i64 0, .int .i64 0, .int .i64 0, .int .i64 0, .int .i64 0, .int .i64 0, .int .i64 0, .int .i64 0, .int .i64 0, .bool false, .int .i64 0, .int .i64 0, .int .i64 0, .int .i64 0, .int .i64 0, .slice none 0 0, .int .i64 0, .slice none 0 0, .bool false, .int .i64 0, .int .i64 0, .int .i64 0, .int .i64 0, .int .i64 0, .slice none 0 0, .string ⟨#[]⟩] 34)).setRow w4.heap.size ms = w5 at HB5 HN5 HD5 HBX5 HBY5 ⊢
      clear HBz HN
      go_wp2_with (first | (refine gate_guard (by rfl) ?_; dsimp only; refine wpList_load_row rfl 34 (.tmp 3) rfl w2.heap.size rfl 34 ds (0, 0) _ HBX5.out Try.underlying34 rfl HI.out ?_) | ((with_reducible refine (same15_z HD5.out).mono ?_); rintro e w9 ⟨rfl, hb⟩; have HB9 := Lib.hid (HB5.out.trans (hb.mono HB5.out.size)); clear hb) | ((with_reducible refine (lives_calls _).mono ?_); rintro e w6 ⟨rfl, hb6⟩))
      go_ret
      exact ⟨rfl, HB9.out.trans (hb6.mono HB9.out.size)⟩

theorem unf_cases (l : List Int) : unf l = 0 ∨ unf l = 8 ∨ unf l = 4 ∨ unf l = 5 := by
  unfold unf
  split
  · exact .inr (.inl rfl)
  · split
    · exact .inr (.inr (.inl rfl))
    · split
      · exact .inr (.inr (.inl rfl))
      · split
        · exact .inr (.inr (.inr rfl))
        · exact .inl rfl
/-- What is a right frame, and no more, is the frame of its data. -/
theorem frame_back (l : List Int) (hb : IsBytes l) (h0 : unf l = 0) (h1 : Crc.num (l.take 4) + 8 = l.length) : frameL (dataL l) = l ∧ (dataL l).length + 8 = l.length := by
  unfold unf at h0
  split at h0
  · cases h0
  · split at h0
    · cases h0
    · split at h0
      · cases h0
      · split at h0
        · cases h0
        · rename_i hne
          have hc : Crc.num ((l.drop (4 + Crc.num (l.take 4))).take 4) = Crc.more 0 (l.take (4 + Crc.num (l.take 4))) := Decidable.not_not.1 hne
          generalize hn : Crc.num (l.take 4) = n at h1 hc
          have hd : dataL l = (l.take (4 + n)).drop 4 := by unfold dataL; rw [hn]
          have hdl : (dataL l).length = n := by rw [hd, List.length_drop, List.length_take]; omega
          have h4 : fourL n = l.take 4 := by rw [← hn]; exact num_fourL _ (hb.take 4) (by rw [List.length_take]; omega)
          have hw : fourL n ++ dataL l = l.take (4 + n) := by
            rw [h4, hd]
            have e : l.take 4 = (l.take (4 + n)).take 4 := by rw [List.take_take]; congr 1; omega
            rw [e, List.take_append_drop]
          have ht : (l.drop (4 + n)).take 4 = l.drop (4 + n) := List.take_of_length_le (by rw [List.length_drop]; omega)
          rw [ht] at hc
          refine ⟨?_, by omega⟩
          unfold frameL
          rw [hdl, hw, ← hc, num_fourL _ (hb.drop _) (by rw [List.length_drop]; omega), List.take_append_drop]
theorem decE_bad1 (l : List Int) (h : unf l = 8) : decE l = 4 := by unfold decE; rw [if_pos h]
theorem decE_bad2 (l : List Int) (h : unf l = 4) : decE l = 4 := by unfold decE; rw [h, if_neg (by decide), if_pos (by decide)]
theorem decE_long (l : List Int) (h : unf l = 0) (k : Crc.num (l.take 4) + 8 ≠ l.length) : decE l = 4 := by unfold decE; rw [h, if_neg (by decide), if_neg (by decide), if_pos k]
theorem decE_whole (l : List Int) (h : unf l = 0) (k : Crc.num (l.take 4) + 8 = l.length) : decE l = (if (mailR (dataL l) (some 0)).2 = some (dataL l).length then 0 else 4) ∧ ((mailR (dataL l) (some 0)).2 = some (dataL l).length → decM l = (mailR (dataL l) (some 0)).1) := by
  have he : decE l = (if (mailR (dataL l) (some 0)).2 = some (dataL l).length then 0 else 4) := by
    unfold decE
    rw [h, if_neg (by decide), if_neg (by decide), if_neg (by rw [k]; simp)]
  refine ⟨he, fun h => ?_⟩
  unfold decM
  rw [he, if_pos h, if_pos rfl]

set_option maxRecDepth 100000 in
set_option maxHeartbeats 8000000 in
theorem takes_law (A : Option Addr) (n1 c1 : Nat) (xs : List Int) (w : World) (hr1 : ReadsInt w .u8 A n1 xs) (hc1 : n1 ≤ c1) (hx : IsBytes xs) :
    Calls Try.prog 4 #[.slice A n1 c1] w fun e w' => e = .returned (.bool true) ∧ Below w.heap.size w w' := by
  obtain ⟨us, hus, hul, hur, hub⟩ : ∃ us : List Int, us.length = min n1 3000 ∧ us.length ≤ 3000 ∧ Hid (ReadsInt w .u8 A us.length us) ∧ Hid (IsBytes us) := by
    have hl := hr1.1
    refine ⟨xs.take 3000, by rw [List.length_take]; omega, by rw [List.length_take]; omega, Lib.hid ?_, Lib.hid (hx.take 3000)⟩
    have e : (xs.take 3000).length = min 3000 n1 := by rw [List.length_take, hl]
    rw [e]
    by_cases h : n1 ≤ 3000
    · rw [Nat.min_eq_right h, List.take_of_length_le (by omega)]; exact hr1
    · rw [Nat.min_eq_left (by omega)]; exact hr1.take_ 3000 (by omega)
  have hu34 := Try.underlying34
  obtain ⟨i0, hi0, hzz⟩ := Option.map_eq_some_iff.1 info5
  have hrd : us.length ≤ c1 := by omega
  clear hr1 hx
  have hix0 : ∀ w, (Instr.index 48 (.agg #[.int .i64 0, .int .i64 4, .int .i64 4, .int .i64 5]) (.int .i64 0)).run Try.prog w = .ok (.int .i64 0) w := fun _ => by kernel_rfl
  have hix1 : ∀ w, (Instr.index 48 (.agg #[.int .i64 0, .int .i64 4, .int .i64 4, .int .i64 5]) (.int .i64 1)).run Try.prog w = .ok (.int .i64 4) w := fun _ => by kernel_rfl
  have hix2 : ∀ w, (Instr.index 48 (.agg #[.int .i64 0, .int .i64 4, .int .i64 4, .int .i64 5]) (.int .i64 2)).run Try.prog w = .ok (.int .i64 4) w := fun _ => by kernel_rfl
  have hix3 : ∀ w, (Instr.index 48 (.agg #[.int .i64 0, .int .i64 4, .int .i64 4, .int .i64 5]) (.int .i64 3)).run Try.prog w = .ok (.int .i64 5) w := fun _ => by kernel_rfl
  by_cases h3 : 3000 < n1
  case' pos =>
    have h3b : decide (3000 < (n1 : Int)) = true := by rw [decide_eq_true_iff]; omega
    have hcut := cut_to (P := Try.prog) 37 5 .i64 Try.underlying37 hi0 A n1 c1 (3000 : Int) (by omega) (by omega) hc1
    rw [show (3000 : Int).toNat = 3000 from rfl] at hcut
    have hul3 : us.length = 3000 := by omega
    have hgo : (3000 : Nat) = us.length := hul3.symm
    rw [hgo] at hcut
    clear hi0 hzz hus h3 hul3 hgo
    go_enter Try.func4, Try.ntmps4
    go_upto_region 3 with fail
  case' neg =>
    have h3b : decide (3000 < (n1 : Int)) = false := by rw [decide_eq_false_iff_not]; omega
    have hul3 : us.length = n1 := by omega
    subst hul3
    clear hi0 hzz hus h3
    go_enter Try.func4, Try.ntmps4
    go_upto_region 3 with fail
  all_goals
    clear h3b
    go_wp2_with fail
    ((with_reducible refine (dec_m A _ c1 us hur.out hrd hub.out).mono ?_); rintro e w2 ⟨ds, rfl, HD, hb⟩)
    have HB2 := Lib.hid hb
    have HBz := Lib.hid (blk_new w2 (.cells #[.int .i64 0, .int .i64 0, .int .i64 0, .int .i64 0, .int .i64 0, .int .i64 0, .int .i64 0, .int .i64 0, .int .i64 0, .int .i64 0, .int .i64 0, .bool false, .int .i64 0, .int .i64 0, .int .i64 0, .int .i64 0, .int .i64 0, .slice none 0 0, .int .i64 0, .slice none 0 0, .bool false, .int .i64 0, .int .i64 0, .int .i64 0, .int .i64 0, .int .i64 0, .slice none 0 0, .string ⟨#[]⟩] 34))
    have hrow := below_row (cs := ds) ((Below.refl w2.heap.size w2).alloc (Nat.le_refl _) (.cells #[.int .i64 0, .int .i64 0, .int .i64 0, .int .i64 0, .int .i64 0, .int .i64 0, .int .i64 0, .int .i64 0, .int .i64 0, .int .i64 0, .int .i64 0, .bool false, .int .i64 0, .int .i64 0, .int .i64 0, .int .i64 0, .int .i64 0, .slice none 0 0, .int .i64 0, .slice none 0 0, .bool false, .int .i64 0, .int .i64 0, .int .i64 0, .int .i64 0, .int .i64 0, .slice none 0 0, .string ⟨#[]⟩] 34)) (Nat.le_refl _)
    have HB3 := Lib.hid (HB2.out.trans (hrow.mono HB2.out.size))
    have HD3 := Lib.hid (HD.out.below hrow)
    have HBX3 := Lib.hid (setRow_heap (w2.alloc (.cells #[.int .i64 0, .int .i64 0, .int .i64 0, .int .i64 0, .int .i64 0, .int .i64 0, .int .i64 0, .int .i64 0, .int .i64 0, .int .i64 0, .int .i64 0, .bool false, .int .i64 0, .int .i64 0, .int .i64 0, .int .i64 0, .int .i64 0, .slice none 0 0, .int .i64 0, .slice none 0 0, .bool false, .int .i64 0, .int .i64 0, .int .i64 0, .int .i64 0, .int .i64 0, .slice none 0 0, .string ⟨#[]⟩] 34)) w2.heap.size #[.int .i64 0, .int .i64 0, .int .i64 0, .int .i64 0, .int .i64 0, .int .i64 0, .int .i64 0, .int .i64 0, .int .i64 0, .int .i64 0, .int .i64 0, .bool false, .int .i64 0, .int .i64 0, .int .i64 0, .int .i64 0, .int .i64 0, .slice none 0 0, .int .i64 0, .slice none 0 0, .bool false, .int .i64 0, .int .i64 0, .int .i64 0, .int .i64 0, .int .i64 0, .slice none 0 0, .string ⟨#[]⟩] ds 34 (0, 0) HBz.out)
    have HI := Lib.hid HD.out.info
    clear hb hrow HB2
    go_upto_region 4 with (refine wpList_store_row rfl 34 (.tmp 3) (.tmp 21) rfl w2.heap.size ds rfl rfl 34 _ HBz.out HD.out.info HD.out.size.symm HD.out.one ?_)
    generalize (w2.alloc (.cells #[.int .i64 0, .int .i64 0, .int .i64 0, .int .i64 0, .int .i64 0, .int .i64 0, .int .i64 0, .int .i64 0, .int .i64 0, .int .i64 0, .int .i64 0, .bool false, .int .i64 0, .int .i64 0, .int .i64 0, .int .i64 0, .int .i64 0, .slice none 0 0, .int .i64 0, .slice none 0 0, .bool false, .int .i64 0, .int .i64 0, .int .i64 0, .int .i64 0, .int .i64 0, .slice none 0 0, .string ⟨#[]⟩] 34)).setRow w2.heap.size ds = w3 at HB3 HBX3 HD3 ⊢
    clear HBz HD
    go_wp2_with fail
    ((with_reducible refine (runframe_calls A c1 us _ (hur.out.below HB3.out) hrd hub.out).mono ?_); rintro e w4 ⟨v, k, rfl, HV, hb⟩)
    have HB4 := Lib.hid (HB3.out.trans (hb.mono HB3.out.size))
    have HV4 := Lib.hid HV
    have HBz := Lib.hid (blk_new w4 (.cells #[.int .i64 0, .int .i64 0, .int .i64 0, .int .i64 0, .int .i64 0, .int .i64 0, .int .i64 0, .int .i64 0, .int .i64 0, .int .i64 0, .int .i64 0, .bool false, .int .i64 0, .int .i64 0, .int .i64 0, .int .i64 0, .int .i64 0, .slice none 0 0, .int .i64 0, .slice none 0 0, .bool false, .int .i64 0, .int .i64 0, .int .i64 0, .int .i64 0, .int .i64 0, .slice none 0 0, .string ⟨#[]⟩] 34))
    have hrow := below_row (cs := #[.int .i64 0, .int .i64 0, .int .i64 0, .int .i64 0, .int .i64 0, .int .i64 0, .int .i64 0, .int .i64 0, .int .i64 0, .int .i64 0, .int .i64 0, .bool false, .int .i64 0, .int .i64 0, .int .i64 0, .int .i64 0, .int .i64 0, .slice none 0 0, .int .i64 0, .slice none 0 0, .bool false, .int .i64 0, .int .i64 0, .int .i64 0, .int .i64 0, .int .i64 0, .slice none 0 0, .string ⟨#[]⟩]) ((Below.refl w4.heap.size w4).alloc (Nat.le_refl _) (.cells #[.int .i64 0, .int .i64 0, .int .i64 0, .int .i64 0, .int .i64 0, .int .i64 0, .int .i64 0, .int .i64 0, .int .i64 0, .int .i64 0, .int .i64 0, .bool false, .int .i64 0, .int .i64 0, .int .i64 0, .int .i64 0, .int .i64 0, .slice none 0 0, .int .i64 0, .slice none 0 0, .bool false, .int .i64 0, .int .i64 0, .int .i64 0, .int .i64 0, .int .i64 0, .slice none 0 0, .string ⟨#[]⟩] 34)) (Nat.le_refl _)
    have HC45 := Lib.hid hrow
    have hb35 := hb.trans (hrow.mono hb.size)
    have HB5 := Lib.hid (HB4.out.trans (hrow.mono HB4.out.size))
    have HD5 := Lib.hid (HD3.out.below hb35)
    have HD4 := Lib.hid (HD3.out.below hb)
    have HBX5 := Lib.hid (blk_below HBX3.out hb35)
    have HBY5 := Lib.hid (setRow_heap (w4.alloc (.cells #[.int .i64 0, .int .i64 0, .int .i64 0, .int .i64 0, .int .i64 0, .int .i64 0, .int .i64 0, .int .i64 0, .int .i64 0, .int .i64 0, .int .i64 0, .bool false, .int .i64 0, .int .i64 0, .int .i64 0, .int .i64 0, .int .i64 0, .slice none 0 0, .int .i64 0, .slice none 0 0, .bool false, .int .i64 0, .int .i64 0, .int .i64 0, .int .i64 0, .int .i64 0, .slice none 0 0, .string ⟨#[]⟩] 34)) w4.heap.size #[.int .i64 0, .int .i64 0, .int .i64 0, .int .i64 0, .int .i64 0, .int .i64 0, .int .i64 0, .int .i64 0, .int .i64 0, .int .i64 0, .int .i64 0, .bool false, .int .i64 0, .int .i64 0, .int .i64 0, .int .i64 0, .int .i64 0, .slice none 0 0, .int .i64 0, .slice none 0 0, .bool false, .int .i64 0, .int .i64 0, .int .i64 0, .int .i64 0, .int .i64 0, .slice none 0 0, .string ⟨#[]⟩] #[.int .i64 0, .int .i64 0, .int .i64 0, .int .i64 0, .int .i64 0, .int .i64 0, .int .i64 0, .int .i64 0, .int .i64 0, .int .i64 0, .int .i64 0, .bool false, .int .i64 0, .int .i64 0, .int .i64 0, .int .i64 0, .int .i64 0, .slice none 0 0, .int .i64 0, .slice none 0 0, .bool false, .int .i64 0, .int .i64 0, .int .i64 0, .int .i64 0, .int .i64 0, .slice none 0 0, .string ⟨#[]⟩] 34 (0, 0) HBz.out)
    have HNE : Hid (w2.heap.size < w4.heap.size) := Lib.hid (Nat.lt_of_lt_of_le (blk_lt HBX3.out) hb.size)
    clear hb hrow hb35 HV HB3 HD3 HBX3
    obtain ⟨q, hq⟩ : ∃ q, q = unf us := ⟨_, rfl⟩
    have HQ := Lib.hid hq
    rw [← hq] at HV4 ⊢
    have hqc := unf_cases us
    rw [← hq] at hqc
    clear hq
    obtain ⟨j, hj⟩ : ∃ j, j = decE us := ⟨_, rfl⟩
    have HJ := Lib.hid hj
    rw [← hj]
    clear hj
    rcases hqc with rfl | rfl | rfl | rfl
    rotate_left
    case' inr.inl =>
      have hE := decE_bad1 us HQ.out.symm
      rw [show whyOf 8 = 1 from rfl]
    case' inr.inr.inl =>
      have hE := decE_bad2 us HQ.out.symm
      rw [show whyOf 4 = 2 from rfl]
    case' inr.inr.inr =>
      have hE := decE_turned us HQ.out.symm
      rw [show whyOf 5 = 3 from rfl]
    any_goals
      have hM : decM us = mail0 := decM_bad us (by rw [hE]; decide)
      rw [hM] at HD5
      obtain rfl : j = _ := HJ.out.trans hE
      clear hE hM HJ HV4
      go_upto_region 9 with (refine wpList_store_row rfl 34 (.tmp 9) (.tmp 40) rfl w4.heap.size #[.int .i64 0, .int .i64 0, .int .i64 0, .int .i64 0, .int .i64 0, .int .i64 0, .int .i64 0, .int .i64 0, .int .i64 0, .int .i64 0, .int .i64 0, .bool false, .int .i64 0, .int .i64 0, .int .i64 0, .int .i64 0, .int .i64 0, .slice none 0 0, .int .i64 0, .slice none 0 0, .bool false, .int .i64 0, .int .i64 0, .int .i64 0, .int .i64 0, .int .i64 0, .slice none 0 0, .string ⟨#[]⟩] rfl rfl 34 _ HBz.out inf34b rfl (by simp [Value.oneCell']) ?_)
      generalize (w4.alloc (.cells #[.int .i64 0, .int .i64 0, .int .i64 0, .int .i64 0, .int .i64 0, .int .i64 0, .int .i64 0, .int .i64 0, .int .i64 0, .int .i64 0, .int .i64 0, .bool false, .int .i64 0, .int .i64 0, .int .i64 0, .int .i64 0, .int .i64 0, .slice none 0 0, .int .i64 0, .slice none 0 0, .bool false, .int .i64 0, .int .i64 0, .int .i64 0, .int .i64 0, .int .i64 0, .slice none 0 0, .string ⟨#[]⟩] 34)).setRow w4.heap.size #[.int .i64 0, .int .i64 0, .int .i64 0, .int .i64 0, .int .i64 0, .int .i64 0, .int .i64 0, .int .i64 0, .int .i64 0, .int .i64 0, .int .i64 0, .bool false, .int .i64 0, .int .i64 0, .int .i64 0, .int .i64 0, .int .i64 0, .slice none 0 0, .int .i64 0, .slice none 0 0, .bool false, .int .i64 0, .int .i64 0, .int .i64 0, .int .i64 0, .int .i64 0, .slice none 0 0, .string ⟨#[]⟩] = w5 at HB5 HC45 HD5 HBX5 HBY5 ⊢
      clear HBz
      go_wp2_with (first | (refine gate_guard (by rfl) ?_; dsimp only; refine wpList_load_row rfl 34 (.tmp 3) rfl w2.heap.size rfl 34 ds (0, 0) _ HBX5.out Try.underlying34 rfl HI.out ?_) | ((with_reducible refine (same15_z HD5.out).mono ?_); rintro e w9 ⟨rfl, hb⟩; have HB9 := Lib.hid (HB5.out.trans (hb.mono HB5.out.size)); clear hb) | ((with_reducible refine (lives_calls _).mono ?_); rintro e w6 ⟨rfl, hb6⟩))
      go_ret
      exact ⟨rfl, HB9.out.trans (hb6.mono HB9.out.size)⟩
    rw [show whyOf 0 = 0 from rfl]
    obtain ⟨hk, ho⟩ := HV4.out rfl
    have HO := Lib.hid ho
    clear HV4 ho
    by_cases hkl : Crc.num (us.take 4) + 8 = us.length
    · obtain ⟨hfb, hdl⟩ := frame_back us hub.out HQ.out.symm hkl
      obtain rfl : k = (us.length : Int) := by omega
      obtain ⟨hw1, hw2⟩ := decE_whole us HQ.out.symm hkl
      have hdb : IsBytes (dataL us) := (hub.out.take _).drop 4
      have hnb : ((us.length : Int) == (us.length : Int)) = true := beq_self_eq_true _
      obtain ⟨B, d, rfl, hd, hr'⟩ := HO.out.reads
      obtain ⟨da, hda⟩ : ∃ da, da = dataL us := ⟨_, rfl⟩
      rw [← hda] at hfb hdl hw1 hw2 hdb hr' hd ⊢
      have HFB := Lib.hid hfb
      have HW1 := Lib.hid hw1
      have HW2 := Lib.hid hw2
      have HDB := Lib.hid hdb
      have HRD := Lib.hid (hr'.below HC45.out)
      clear hk hfb hw1 hw2 hdb hr' HO hda hkl
      go_upto_region 9 with (refine wpList_store_row rfl 34 (.tmp 9) (.tmp 40) rfl w4.heap.size #[.int .i64 0, .int .i64 0, .int .i64 0, .int .i64 0, .int .i64 0, .int .i64 0, .int .i64 0, .int .i64 0, .int .i64 0, .int .i64 0, .int .i64 0, .bool false, .int .i64 0, .int .i64 0, .int .i64 0, .int .i64 0, .int .i64 0, .slice none 0 0, .int .i64 0, .slice none 0 0, .bool false, .int .i64 0, .int .i64 0, .int .i64 0, .int .i64 0, .int .i64 0, .slice none 0 0, .string ⟨#[]⟩] rfl rfl 34 _ HBz.out inf34b rfl (by simp [Value.oneCell']) ?_)
      generalize (w4.alloc (.cells #[.int .i64 0, .int .i64 0, .int .i64 0, .int .i64 0, .int .i64 0, .int .i64 0, .int .i64 0, .int .i64 0, .int .i64 0, .int .i64 0, .int .i64 0, .bool false, .int .i64 0, .int .i64 0, .int .i64 0, .int .i64 0, .int .i64 0, .slice none 0 0, .int .i64 0, .slice none 0 0, .bool false, .int .i64 0, .int .i64 0, .int .i64 0, .int .i64 0, .int .i64 0, .slice none 0 0, .string ⟨#[]⟩] 34)).setRow w4.heap.size #[.int .i64 0, .int .i64 0, .int .i64 0, .int .i64 0, .int .i64 0, .int .i64 0, .int .i64 0, .int .i64 0, .int .i64 0, .int .i64 0, .int .i64 0, .bool false, .int .i64 0, .int .i64 0, .int .i64 0, .int .i64 0, .int .i64 0, .slice none 0 0, .int .i64 0, .slice none 0 0, .bool false, .int .i64 0, .int .i64 0, .int .i64 0, .int .i64 0, .int .i64 0, .slice none 0 0, .string ⟨#[]⟩] = w5 at HB5 HC45 HD5 HBX5 HBY5 HRD ⊢
      clear HBz hnb
      go_wp2_with fail
      ((with_reducible refine (read_m B d da _ HRD.out hd HDB.out).mono ?_); rintro e w6 ⟨ms, M, rfl, HM, HF, hb⟩)
      have HN := Lib.hid (HF.out _ (fun _ _ => rfl))
      have HN7 : Hid (InM (w6.setRow w4.heap.size ms) ms M) := Lib.hid (HF.out _ (fun k hk => setRow_other w6 w4.heap.size k ms (by have := blk_lt HBY5.out; omega)))
      clear HF
      have HC46 := Lib.hid (HC45.out.trans (hb.mono HC45.out.size))
      have HC47 := Lib.hid (below_row (cs := ms) HC46.out (Nat.le_refl _))
      have HB7 := Lib.hid (HB4.out.trans (HC47.out.mono HB4.out.size))
      have HBY7 := Lib.hid (setRow_heap w6 w4.heap.size #[.int .i64 0, .int .i64 0, .int .i64 0, .int .i64 0, .int .i64 0, .int .i64 0, .int .i64 0, .int .i64 0, .int .i64 0, .int .i64 0, .int .i64 0, .bool false, .int .i64 0, .int .i64 0, .int .i64 0, .int .i64 0, .int .i64 0, .slice none 0 0, .int .i64 0, .slice none 0 0, .bool false, .int .i64 0, .int .i64 0, .int .i64 0, .int .i64 0, .int .i64 0, .slice none 0 0, .string ⟨#[]⟩] ms 34 (0, 0) (blk_below HBY5.out hb))
      have HBz := Lib.hid (blk_below HBY5.out hb)
      have HBX7 : Hid ((w6.setRow w4.heap.size ms).heap[w2.heap.size]? = some (.cells ds 34 (0, 0))) := Lib.hid ((setRow_other w6 w4.heap.size w2.heap.size ms (by have := HNE.out; omega)).trans (blk_below HBX5.out hb))
      have HIM := Lib.hid HN.out.info
      have HC57 := Lib.hid hb
      have HD7 := Lib.hid (HD4.out.below HC47.out)
      clear hb HBY5 HBX5 HD5 HD4 HC45 HC46
      by_cases hok : (mailR da (some 0)).2 = some da.length
      · obtain ⟨hu1, hu2, hu3⟩ := mail_uniq HDB.out (by omega) hok
        have hE := HW1.out
        rw [if_pos hok] at hE
        have hDM := HW2.out hok
        have hMM := HM.out hok
        rw [← hMM] at hu1 hu2 hu3 hDM
        rw [hDM] at HD7
        obtain rfl : j = _ := HJ.out.trans hE
        rw [decide_eq_true hok]
        have HU1 := Lib.hid hu1
        have HU2 := Lib.hid hu2
        have HU3 := Lib.hid hu3
        have hl1 : (encMail M).length = da.length := by rw [hu1]
        have HL1 := Lib.hid hl1
        clear hu1 hu2 hu3 hE hDM hMM HJ hok HM HW1 HW2 hl1
        go_upto_region 11 with (refine wpList_store_row rfl 34 (.tmp 9) (.tmp 46) rfl w4.heap.size ms rfl rfl 34 _ HBz.out HN.out.info HN.out.size.symm HN.out.one ?_)
        generalize w6.setRow w4.heap.size ms = w7 at HC47 HB7 HBY7 HBX7 HD7 HN7 ⊢
        clear HBz HN
        go_wp2_with ((refine gate_guard (by rfl) ?_; dsimp only; refine wpList_load_row rfl 34 (.tmp 3) rfl w2.heap.size rfl 34 ds (0, 0) _ HBX7.out Try.underlying34 rfl HI.out ?_))
        ((with_reducible refine (enc_ok_m HD7.out HU2.out HU3.out (by have := HL1.out; omega)).mono ?_); rintro e w8 ⟨g, cap, rfl, hcap, hgb, HO8, hb⟩)
        have HB8 := Lib.hid (HB7.out.trans (hb.mono HB7.out.size))
        have HD8 := Lib.hid (HD7.out.below hb)
        have HN8 := Lib.hid (HN7.out.below hb)
        have HBX8 := Lib.hid (blk_below HBX7.out hb)
        have HBY8 := Lib.hid (blk_below HBY7.out hb)
        rw [HU1.out, HFB.out] at HO8
        rw [HU1.out]
        clear hb HB7 HD7 HN7 HBX7 HBY7 hcap hgb hdl
        go_wp2_with (first | (refine gate_guard (by rfl) ?_; dsimp only; refine wpList_load_row rfl 34 (.tmp 3) rfl w2.heap.size rfl 34 ds (0, 0) _ HBX8.out Try.underlying34 rfl HI.out ?_) | (refine gate_guard (by rfl) ?_; dsimp only; refine wpList_load_row rfl 34 (.tmp 9) rfl w4.heap.size rfl 34 ms (0, 0) _ HBY8.out Try.underlying34 rfl HIM.out ?_) | ((with_reducible refine (same15_m HD8.out HN8.out).mono ?_); rintro e w9 ⟨rfl, hb⟩; have HB9 := Lib.hid (HB8.out.trans (hb.mono HB8.out.size)); have cva := own_string (P := Try.prog) (src := 37) (dst := 9) Try.underlying37 Try.underlying5 Try.underlying9 (pw_own_below HO8.out hb); have cvb := string_of_reads (P := Try.prog) (src := 37) (dst := 9) (c := c1) Try.underlying37 Try.underlying5 Try.underlying9 (hur.out.below HB9.out); clear hb) | ((with_reducible refine (lives_calls _).mono ?_); rintro e wl ⟨rfl, hb6⟩))
        go_ret
        exact ⟨rfl, HB9.out.trans (hb6.mono HB9.out.size)⟩
      · have hE : decE us = 4 := by rw [HW1.out, if_neg hok]
        have hM : decM us = mail0 := decM_bad us (by rw [hE]; decide)
        rw [hM] at HD7
        obtain rfl : j = _ := HJ.out.trans hE
        rw [decide_eq_false hok]
        clear hE hM HJ hok HM HW1 HW2 HN7
        go_upto_region 11 with (refine wpList_store_row rfl 34 (.tmp 9) (.tmp 46) rfl w4.heap.size ms rfl rfl 34 _ HBz.out HN.out.info HN.out.size.symm HN.out.one ?_)
        generalize w6.setRow w4.heap.size ms = w7 at HC47 HB7 HBY7 HBX7 HD7 ⊢
        clear HBz HN
        go_wp2_with (first | (refine gate_guard (by rfl) ?_; dsimp only; refine wpList_load_row rfl 34 (.tmp 3) rfl w2.heap.size rfl 34 ds (0, 0) _ HBX7.out Try.underlying34 rfl HI.out ?_) | ((with_reducible refine (same15_z HD7.out).mono ?_); rintro e w9 ⟨rfl, hb⟩; have HB9 := Lib.hid (HB7.out.trans (hb.mono HB7.out.size)); clear hb) | ((with_reducible refine (lives_calls _).mono ?_); rintro e wl ⟨rfl, hb6⟩))
        go_ret
        exact ⟨rfl, HB9.out.trans (hb6.mono HB9.out.size)⟩
    · have hE := decE_long us HQ.out.symm hkl
      have hM : decM us = mail0 := decM_bad us (by rw [hE]; decide)
      rw [hM] at HD5
      obtain rfl : j = _ := HJ.out.trans hE
      have hnb : (k == (us.length : Int)) = false := by rw [beq_eq_false_iff_ne]; omega
      have hnb2 : (k != (us.length : Int)) = true := by rw [bne_iff_ne]; omega
      clear hE hM HJ hk hkl HO
      go_upto_region 9 with (refine wpList_store_row rfl 34 (.tmp 9) (.tmp 40) rfl w4.heap.size #[.int .i64 0, .int .i64 0, .int .i64 0, .int .i64 0, .int .i64 0, .int .i64 0, .int .i64 0, .int .i64 0, .int .i64 0, .int .i64 0, .int .i64 0, .bool false, .int .i64 0, .int .i64 0, .int .i64 0, .int .i64 0, .int .i64 0, .slice none 0 0, .int .i64 0, .slice none 0 0, .bool false, .int .i64 0, .int .i64 0, .int .i64 0, .int .i64 0, .int .i64 0, .slice none 0 0, .string ⟨#[]⟩] rfl rfl 34 _ HBz.out inf34b rfl (by simp [Value.oneCell']) ?_)
      generalize (w4.alloc (.cells #[.int .i64 0, .int .i64 0, .int .i64 0, .int .i64 0, .int .i64 0, .int .i64 0, .int .i64 0, .int .i64 0, .int .i64 0, .int .i64 0, .int .i64 0, .bool false, .int .i64 0, .int .i64 0, .int .i64 0, .int .i64 0, .int .i64 0, .slice none 0 0, .int .i64 0, .slice none 0 0, .bool false, .int .i64 0, .int .i64 0, .int .i64 0, .int .i64 0, .int .i64 0, .slice none 0 0, .string ⟨#[]⟩] 34)).setRow w4.heap.size #[.int .i64 0, .int .i64 0, .int .i64 0, .int .i64 0, .int .i64 0, .int .i64 0, .int .i64 0, .int .i64 0, .int .i64 0, .int .i64 0, .int .i64 0, .bool false, .int .i64 0, .int .i64 0, .int .i64 0, .int .i64 0, .int .i64 0, .slice none 0 0, .int .i64 0, .slice none 0 0, .bool false, .int .i64 0, .int .i64 0, .int .i64 0, .int .i64 0, .int .i64 0, .slice none 0 0, .string ⟨#[]⟩] = w5 at HB5 HC45 HD5 HBX5 HBY5 ⊢
      clear HBz
      go_wp2_with (first | (refine gate_guard (by rfl) ?_; dsimp only; refine wpList_load_row rfl 34 (.tmp 3) rfl w2.heap.size rfl 34 ds (0, 0) _ HBX5.out Try.underlying34 rfl HI.out ?_) | ((with_reducible refine (same15_z HD5.out).mono ?_); rintro e w9 ⟨rfl, hb⟩; have HB9 := Lib.hid (HB5.out.trans (hb.mono HB5.out.size)); clear hb) | ((with_reducible refine (lives_calls _).mono ?_); rintro e w6 ⟨rfl, hb6⟩))
      go_ret
      exact ⟨rfl, HB9.out.trans (hb6.mono HB9.out.size)⟩
end Go.Proofs.Ytneebjlpeekmbaa
