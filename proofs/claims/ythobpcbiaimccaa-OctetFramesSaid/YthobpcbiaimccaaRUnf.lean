/- The reference's Unframe, by plain lists. Conditions: bytes are bytes. -/
import Derived.Test.YthobpcbiaimccaaFrame
import Derived.Test.YthobpcbiaimccaaStr
import Derived.Deep.RegionWith
namespace Go.Proofs.Ythobpcbiaimccaa
open Go.RowKit Go.Proofs.YthobpcbiaimccaaW.PrintWords Go.Proofs.YthobpcbiaimccaaW.PrintLast Go.Proofs.YthobpcbiaimccaaW.PrintMore PRef
set_option linter.unusedVariables false
set_option linter.unusedSimpArgs false

/-- The reference's word for what Unframe tells. -/
def whyOf (e : Nat) : Nat := if e = 0 then 0 else if e = 8 then 1 else if e = 4 then 2 else 3
def RUnfPost (w : World) (l : List Int) (e : Ending) (w' : World) : Prop :=
  ∃ v k, e = .returned (.tuple #[v, .int .i64 k, .int .i64 (whyOf (unf l))]) ∧ (unf l = 0 → k = Crc.num (l.take 4) + 8 ∧ OwnB w' w.heap.size v (dataL l)) ∧ Below w.heap.size w w'
theorem runf_bad {w w' : World} {l : List Int} (c : Int) (hc : ((whyOf (unf l) : Nat) : Int) = c) (h0 : unf l ≠ 0) (hb : Below w.heap.size w w') : RUnfPost w l (.returned (.tuple #[.slice none 0 0, .int .i64 0, .int .i64 c])) w' :=
  ⟨_, _, by rw [hc], fun h => absurd h h0, hb⟩

theorem num4 (l : List Int) (hb : IsBytes l) (hl : 4 ≤ l.length) : ((Crc.num (l.take 4) : Nat) : Int) = rd l 0 + 256 * rd l 1 + 65536 * rd l 2 + 16777216 * rd l 3 := by
  match l, hl with
  | a :: b :: c :: d :: t, _ =>
    have h0 := hb a (by simp)
    have h1 := hb b (by simp)
    have h2 := hb c (by simp)
    have h3 := hb d (by simp)
    show _ = a + 256 * b + 65536 * c + 16777216 * d
    simp only [List.take_succ_cons, List.take_zero, Crc.num]
    omega

theorem rfour_calls (n : Nat) (w : World) (hn : n < 4294967296) :
    Calls Try.prog 62 #[.int .u32 n] w fun e w' => ∃ A c, e = .returned (.slice A 4 c) ∧ Hid (ReadsInt w' .u8 A 4 (fourL n)) ∧ Below w.heap.size w w' :=
  (lamellaref01_four.calls n _ w (four_f n hn)).mono fun e w' ⟨v, h1, h2, h3⟩ => by
    obtain ⟨A, c, rfl, hc, hr⟩ := (OwnB.of_R h2).reads
    exact ⟨A, c, h1, Lib.hid hr, h3⟩
theorem fourL_num (n : Nat) (h : n < 4294967296) : Crc.num (fourL n) = n := by
  simp only [fourL, Crc.num, Int.toNat_natCast]
  omega
theorem num_fourL (l : List Int) (hb : IsBytes l) (hl : l.length = 4) : fourL (Crc.num l) = l := by
  match l, hl with
  | [a, b, c, d], _ =>
    have h0 := hb a (by simp)
    have h1 := hb b (by simp)
    have h2 := hb c (by simp)
    have h3 := hb d (by simp)
    obtain ⟨a, rfl⟩ := Int.eq_ofNat_of_zero_le h0.1
    obtain ⟨b, rfl⟩ := Int.eq_ofNat_of_zero_le h1.1
    obtain ⟨c, rfl⟩ := Int.eq_ofNat_of_zero_le h2.1
    obtain ⟨d, rfl⟩ := Int.eq_ofNat_of_zero_le h3.1
    simp only [fourL, Crc.num, Int.toNat_natCast]
    congr 1
    · omega
    · congr 1
      · omega
      · congr 1
        · omega
        · congr 1
          omega

set_option maxRecDepth 100000 in
set_option maxHeartbeats 4000000 in
theorem runframe_calls (A : Option Addr) (c : Nat) (l : List Int) (w : World) (hr : ReadsInt w .u8 A l.length l) (hc : l.length ≤ c) (hb : IsBytes l) :
    Calls Try.prog 39 #[.slice A l.length c] w (RUnfPost w l) := by
  have hll := hr.2.1
  have HR := Lib.hid hr
  have HB := Lib.hid hb
  clear hr hb
  by_cases h0 : l.length = 0
  · have hu : unf l = 8 := by unfold unf; rw [if_pos h0]
    have HU := Lib.hid hu
    have h0b : ((l.length : Int) == 0) = true := by rw [h0]; rfl
    clear hu h0
    go_enter Try.func39, Try.ntmps39
    go_wp2_with fail
    go_ret3
    exact runf_bad 1 (by rw [HU.out]; rfl) (by rw [HU.out]; omega) (Below.refl _ _)
  · have h0b : ((l.length : Int) == 0) = false := by rw [beq_eq_false_iff_ne]; omega
    by_cases h4 : l.length < 4
    · have hu : unf l = 4 := by unfold unf; rw [if_neg h0, if_pos h4]
      have HU := Lib.hid hu
      have h4b : decide ((l.length : Int) < 4) = true := by simp; omega
      clear hu h0 h4
      go_enter Try.func39, Try.ntmps39
      go_wp2_with fail
      go_ret3
      exact runf_bad 2 (by rw [HU.out]; rfl) (by rw [HU.out]; omega) (Below.refl _ _)
    · have h4b : decide ((l.length : Int) < 4) = false := by simp; omega
      have hN := Crc.num_lt (l.take 4) (HB.out.take 4).lt
      have h4l : (l.take 4).length = 4 := by rw [List.length_take]; omega
      rw [h4l] at hN
      have hn4 := num4 l HB.out (by omega)
      obtain ⟨N, hNe⟩ : ∃ N, N = Crc.num (l.take 4) := ⟨_, rfl⟩
      rw [← hNe] at hN hn4
      have HN := Lib.hid hNe
      clear hNe h4l
      obtain ⟨ad, rfl, hc0⟩ := HR.out.at_ 0 (by omega) (by omega)
      obtain ⟨_, e1, hc1⟩ := HR.out.at_ 1 (by omega) (by omega)
      obtain rfl := Option.some.inj e1
      obtain ⟨_, e2, hc2⟩ := HR.out.at_ 2 (by omega) (by omega)
      obtain rfl := Option.some.inj e2
      obtain ⟨_, e3, hc3⟩ := HR.out.at_ 3 (by omega) (by omega)
      obtain rfl := Option.some.inj e3
      have ea : ad.add (0 : Int).toNat = ad := by simp [Addr.add]
      rw [ea] at hc0
      clear ea
      obtain ⟨ab, ao, asp⟩ := ad
      have hsp : asp = none := by simpa using World.cell?_spot hc0
      subst hsp
      change w.cell? ⟨ab, ao + 1, none⟩ = _ at hc1
      change w.cell? ⟨ab, ao + 2, none⟩ = _ at hc2
      change w.cell? ⟨ab, ao + 3, none⟩ = _ at hc3
      have hb0 := HB.out.getD 0
      have hb1 := HB.out.getD 1
      have hb2 := HB.out.getD 2
      have hb3 := HB.out.getD 3
      change 0 ≤ rd l 0 ∧ rd l 0 < 256 at hb0
      change 0 ≤ rd l 1 ∧ rd l 1 < 256 at hb1
      change 0 ≤ rd l 2 ∧ rd l 2 < 256 at hb2
      change 0 ≤ rd l 3 ∧ rd l 3 < 256 at hb3
      generalize rd l 0 = z0 at hc0 hn4 hb0
      generalize rd l 1 = z1 at hc1 hn4 hb1
      generalize rd l 2 = z2 at hc2 hn4 hb2
      generalize rd l 3 = z3 at hc3 hn4 hb3
      have s0 : IntKind.i64.wrap z0 = z0 := IntWalk.i64_in _ (by omega)
      have s1 : IntKind.i64.wrap z1 = z1 := IntWalk.i64_in _ (by omega)
      have s2 : IntKind.i64.wrap z2 = z2 := IntWalk.i64_in _ (by omega)
      have s3 : IntKind.i64.wrap z3 = z3 := IntWalk.i64_in _ (by omega)
      have t1 : IntKind.i64.wrap (256 * z1) = 256 * z1 := IntWalk.i64_in _ (by omega)
      have t2 : IntKind.i64.wrap (65536 * z2) = 65536 * z2 := IntWalk.i64_in _ (by omega)
      have t3 : IntKind.i64.wrap (16777216 * z3) = 16777216 * z3 := IntWalk.i64_in _ (by omega)
      have u1 : IntKind.i64.wrap (z0 + 256 * z1) = z0 + 256 * z1 := IntWalk.i64_in _ (by omega)
      have u2 : IntKind.i64.wrap (z0 + 256 * z1 + 65536 * z2) = z0 + 256 * z1 + 65536 * z2 := IntWalk.i64_in _ (by omega)
      have u3 : IntKind.i64.wrap (z0 + 256 * z1 + 65536 * z2 + 16777216 * z3) = (N : Int) := by rw [hn4]; exact IntWalk.i64_in _ (by omega)
      clear hb0 hb1 hb2 hb3 hn4
      have hlt0 : 0 < l.length := by omega
      have hlt1 : (1 : Int) < (l.length : Int) := by omega
      have hlt2 : (2 : Int) < (l.length : Int) := by omega
      have hlt3 : (3 : Int) < (l.length : Int) := by omega
      have hkap : (N : Int) < 4294967296 := by omega
      by_cases hbad : N > 1048576 ∨ l.length < N + 8
      · have hu : unf l = 4 := by unfold unf; rw [if_neg h0, if_neg h4, ← HN.out, if_pos hbad]
        have HU := Lib.hid hu
        clear hu h0 h4
        by_cases hbig : N > 1048576
        · have hbb : decide (1048576 < (N : Int)) = true := by simp; omega
          clear hbad hbig
          go_enter Try.func39, Try.ntmps39
          go_wp2_with fail
          go_quiet (fail)
          clear s0 s1 s2 s3 t1 t2 t3 u1 u2 u3
          go_wp2_with fail
          go_ret3
          exact runf_bad 2 (by rw [HU.out]; rfl) (by rw [HU.out]; omega) (pw_below_drewN (Below.refl _ _) _)
        · have hbb : decide (1048576 < (N : Int)) = false := by simp; omega
          have hbc : decide ((l.length : Int) < (N : Int) + 8) = true := by simp; omega
          clear hbad hbig
          go_enter Try.func39, Try.ntmps39
          go_wp2_with fail
          go_quiet (fail)
          clear s0 s1 s2 s3 t1 t2 t3 u1 u2 u3
          go_wp2_with fail
          go_ret3
          exact runf_bad 2 (by rw [HU.out]; rfl) (by rw [HU.out]; omega) (pw_below_drewN (Below.refl _ _) _)
      · have hbb : decide (1048576 < (N : Int)) = false := by simp; omega
        have hbc : decide ((l.length : Int) < (N : Int) + 8) = false := by simp; omega
        obtain ⟨i0, hi, hzz⟩ := Option.map_eq_some_iff.1 info5
        have hsz : i0.size = 1 := by simp only [Prod.mk.injEq] at hzz; exact hzz.2.1
        have hN2 : N + 8 ≤ l.length := by omega
        have hN1 : N ≤ 1048576 := by omega
        have v4 : IntKind.i64.wrap ((N : Int) + 4) = (N : Int) + 4 := IntWalk.i64_in _ (by omega)
        have v8 : IntKind.i64.wrap ((N : Int) + 8) = (N : Int) + 8 := IntWalk.i64_in _ (by omega)
        have hwl : (l.take (4 + N)).length = 4 + N := by rw [List.length_take]; omega
        have htl : ((l.drop (4 + N)).take 4).length = 4 := by rw [List.length_take, List.length_drop]; omega
        have hcut2 := cut_to (P := Try.prog) 31 5 .i64 Try.underlying31 hi (some ⟨ab, ao, none⟩) l.length c ((N : Int) + 4) (by omega) (by omega) hc
        rw [show ((N : Int) + 4).toNat = (l.take (4 + N)).length from by omega] at hcut2
        obtain ⟨A2, hcut3, hrd3, _⟩ := print_mid_int (P := Try.prog) (k := .u8) 31 5 Try.underlying31 hi hsz (some ⟨ab, ao, none⟩) c l ((N : Int) + 4) ((N : Int) + 8) (by omega) (by omega) (by omega) hc
        obtain ⟨A3, hcut4, hrd4, _⟩ := print_mid_int (P := Try.prog) (k := .u8) 31 5 Try.underlying31 hi hsz (some ⟨ab, ao, none⟩) c l 4 ((N : Int) + 4) (by omega) (by omega) (by omega) hc
        have em : (l.take ((N : Int) + 8).toNat).drop ((N : Int) + 4).toNat = (l.drop (4 + N)).take 4 := by
          rw [show ((N : Int) + 8).toNat = 4 + N + 4 from by omega, show ((N : Int) + 4).toNat = 4 + N from by omega, List.take_drop]
        have em2 : (l.take ((N : Int) + 4).toNat).drop (4 : Int).toNat = dataL l := by
          rw [show ((N : Int) + 4).toNat = 4 + N from by omega]
          unfold dataL
          rw [← HN.out]
          rfl
        rw [em] at hcut3 hrd3
        rw [em2] at hcut4 hrd4
        have HRW : Hid (ReadsInt w .u8 (some ⟨ab, ao, none⟩) (l.take (4 + N)).length (l.take (4 + N))) := Lib.hid (by rw [hwl]; exact HR.out.take_ (4 + N) (by omega))
        have HRT := Lib.hid (hrd3 w HR.out)
        have HRD := Lib.hid (hrd4 w HR.out)
        have HBW := Lib.hid (HB.out.take (4 + N))
        have HBT := Lib.hid ((HB.out.drop (4 + N)).take 4)
        have HQ : Hid (unf l = if Crc.num ((l.drop (4 + N)).take 4) ≠ Crc.more 0 (l.take (4 + N)) then 5 else 0) := Lib.hid (by unfold unf; rw [if_neg h0, if_neg h4, ← HN.out, if_neg hbad])
        have hdl : (dataL l).length = N := by unfold dataL; rw [← HN.out, List.length_drop, hwl]; omega
        have hwc : (l.take (4 + N)).length ≤ c := by omega
        have hw4 : (l.take (4 + N)).length < 4611686018427387904 := by omega
        clear h0 h4 hbad hi hsz em em2 hrd3 hrd4 hzz
        generalize l.take (4 + N) = wl at hcut2 HRW HBW HQ hwl hwc hw4
        generalize (l.drop (4 + N)).take 4 = t4 at hcut3 HRT HBT HQ htl
        have HTL := Lib.hid htl
        have HDL := Lib.hid hdl
        have HW4 := Lib.hid hw4
        clear hwl htl hdl hw4
        obtain ⟨m, hm⟩ : ∃ m, m = Crc.more 0 wl := ⟨_, rfl⟩
        have hml := Crc.more_lt 0 wl
        rw [← hm] at hml
        have HQ2 := HQ.out
        rw [← hm] at HQ2
        have HM := Lib.hid hm
        clear hm HQ
        have HQ := Lib.hid HQ2
        clear HQ2
        by_cases hs : Crc.num t4 = m
        · have hqs : ((strOfNums (fourL m)).toList == (strOfNums t4).toList) = true := by
            rw [str_eq _ _ (fourL_bytes m) HBT.out, decide_eq_true_iff, ← hs]
            exact num_fourL t4 HBT.out HTL.out
          have hu : unf l = 0 := by rw [HQ.out, if_neg (by simpa using hs)]
          have HU := Lib.hid hu
          clear hu HQ hs
          go_enter Try.func39, Try.ntmps39
          go_wp2_with fail
          go_quiet (fail)
          clear s0 s1 s2 s3 t1 t2 t3 u1 u2 u3
          go_wp2_with fail
          have HB1 : Hid (Below w.heap.size w (w.drewN nq)) := Lib.hid (pw_below_drewN (Below.refl _ _) _)
          have HBc : Hid (Below w.heap.size w (w.drewN nq).drew) := Lib.hid (below_drew HB1.out)
          generalize w.drewN nq = w1 at HB1 HBc ⊢
          have cvt := string_of_reads (P := Try.prog) (src := 31) (dst := 9) (c := c - ((N : Int) + 4).toNat) Try.underlying31 Try.underlying5 Try.underlying9 (HRT.out.below HBc.out)
          go_region_with (first | (go_at_call 23; refine (rcrc_calls _ _ wl _ (HRW.out.below HBc.out) hwc HBW.out HW4.out).mono ?_; rintro e wx ⟨rfl, hbx⟩; rw [← HM.out]; have HBn := Lib.hid (HBc.out.trans (hbx.mono HBc.out.size)); clear hbx HBc; have HBc := HBn; clear HBn; have cvt2 := string_of_reads (P := Try.prog) (src := 31) (dst := 9) (c := c - ((N : Int) + 4).toNat) Try.underlying31 Try.underlying5 Try.underlying9 (HRT.out.below HBc.out)) | (go_at_call 62; refine (rfour_calls m _ hml).mono ?_; rintro e wx ⟨Ax, cx, rfl, HRx, hbx⟩; have HBn := Lib.hid (HBc.out.trans (hbx.mono HBc.out.size)); clear hbx HBc; have HBc := HBn; clear HBn; have cvx := string_of_reads (P := Try.prog) (src := 31) (dst := 9) (c := cx) Try.underlying31 Try.underlying5 Try.underlying9 HRx.out; have cvt3 := string_of_reads (P := Try.prog) (src := 31) (dst := 9) (c := c - ((N : Int) + 4).toNat) Try.underlying31 Try.underlying5 Try.underlying9 (HRT.out.below HBc.out)))
          all_goals
            (try clear cvt); (try clear cvt2); (try clear cvt3); (try clear cvx); clear v4 v8 hcut2 hcut3 hc0 hc1 hc2 hc3 hlt0 hlt1 hlt2 hlt3 e1 e2 e3 hbb hbc hkap hN hN2 hwc hml hqs hll hc h0b h4b
            simp only [Exit.then]
            go_wp2_with (at_builtin; refine print_append_row (w0 := w) w.heap.size rfl (.tmp 58) (.tmp 62) 31 5 .u8 1 rfl Try.underlying31 info5 (by decide) _ [] (dataL l) A3 (dataL l).length _ rfl rfl (own_empty _ w.heap.size HBc.out.size) (HRD.out.below (HBc.out.alloc HBc.out.size _)) (HBc.out.alloc HBc.out.size _) (by have := HBc.out.size; simp; omega) (by have := HDL.out; simp; omega) ?_; intro v4 w4 hown hB hg hat; clear hg hat; rw [List.nil_append] at hown; have G := Lib.hid (show OwnB w4 w.heap.size v4 (dataL l) from hown); have GB := Lib.hid hB; clear hown hB)
            go_ret3
            exact ⟨_, _, by rw [HU.out]; rfl, fun _ => ⟨by rw [← HN.out], G.out⟩, GB.out⟩
        · have hqs : ((strOfNums (fourL m)).toList == (strOfNums t4).toList) = false := by
            rw [str_eq _ _ (fourL_bytes m) HBT.out, decide_eq_false_iff_not]
            intro h
            exact hs (by rw [← h, fourL_num m hml])
          have hu : unf l = 5 := by rw [HQ.out, if_pos hs]
          have HU := Lib.hid hu
          clear hu HQ hs
          go_enter Try.func39, Try.ntmps39
          go_wp2_with fail
          go_quiet (fail)
          clear s0 s1 s2 s3 t1 t2 t3 u1 u2 u3
          go_wp2_with fail
          have HB1 : Hid (Below w.heap.size w (w.drewN nq)) := Lib.hid (pw_below_drewN (Below.refl _ _) _)
          have HBc : Hid (Below w.heap.size w (w.drewN nq).drew) := Lib.hid (below_drew HB1.out)
          generalize w.drewN nq = w1 at HB1 HBc ⊢
          have cvt := string_of_reads (P := Try.prog) (src := 31) (dst := 9) (c := c - ((N : Int) + 4).toNat) Try.underlying31 Try.underlying5 Try.underlying9 (HRT.out.below HBc.out)
          go_region_with (first | (go_at_call 23; refine (rcrc_calls _ _ wl _ (HRW.out.below HBc.out) hwc HBW.out HW4.out).mono ?_; rintro e wx ⟨rfl, hbx⟩; rw [← HM.out]; have HBn := Lib.hid (HBc.out.trans (hbx.mono HBc.out.size)); clear hbx HBc; have HBc := HBn; clear HBn; have cvt2 := string_of_reads (P := Try.prog) (src := 31) (dst := 9) (c := c - ((N : Int) + 4).toNat) Try.underlying31 Try.underlying5 Try.underlying9 (HRT.out.below HBc.out)) | (go_at_call 62; refine (rfour_calls m _ hml).mono ?_; rintro e wx ⟨Ax, cx, rfl, HRx, hbx⟩; have HBn := Lib.hid (HBc.out.trans (hbx.mono HBc.out.size)); clear hbx HBc; have HBc := HBn; clear HBn; have cvx := string_of_reads (P := Try.prog) (src := 31) (dst := 9) (c := cx) Try.underlying31 Try.underlying5 Try.underlying9 HRx.out; have cvt3 := string_of_reads (P := Try.prog) (src := 31) (dst := 9) (c := c - ((N : Int) + 4).toNat) Try.underlying31 Try.underlying5 Try.underlying9 (HRT.out.below HBc.out)))
          all_goals
            (try clear cvt); (try clear cvt2); (try clear cvt3); (try clear cvx); clear v4 v8 hcut2 hcut3 hcut4 hc0 hc1 hc2 hc3 hlt0 hlt1 hlt2 hlt3 e1 e2 e3 hbb hbc hkap hN hN2 hwc hml hqs hll hc h0b h4b
            simp only [Exit.then]
            go_wp2_with fail
            go_ret3
            exact runf_bad 3 (by rw [HU.out]; rfl) (by rw [HU.out]; omega) HBc.out

end Go.Proofs.Ythobpcbiaimccaa
