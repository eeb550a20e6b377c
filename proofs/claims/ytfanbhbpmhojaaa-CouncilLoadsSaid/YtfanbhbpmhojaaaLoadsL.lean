/- The walk of the law CouncilLoads: it returns true, and writes nothing that was there. Conditions: the kinds' ranges. -/
import Derived.Test.YtfanbhbpmhojaaaLoV
import Derived.Test.YtfanbhbpmhojaaaLo4
import Derived.Test.YtfanbhbpmhojaaaLoadsR
namespace Go.Proofs.Ytfanbhbpmhojaaa
open Go.RowKit Go.Proofs.YtfanbhbpmhojaaaW.PrintWords Go.Proofs.YtfanbhbpmhojaaaW.PrintLast Go.Proofs.YtfanbhbpmhojaaaW.PrintMore PRef
attribute [local go_sem] max2_int min2_int max_two min_two
set_option linter.unusedVariables false
set_option linter.unusedSimpArgs false

theorem isNode_not (a : Int) (h : ¬ (0 ≤ a ∧ a < 7)) : council_isNode.f a = some false := by
  unfold council_isNode.f
  by_cases h0 : a ≥ 0
  · rw [if_pos h0, decide_eq_false (by omega)]
  · rw [if_neg h0]
theorem R_row {w : World} {base : Nat} {v : Value} {l : List Int} (h : Kd.R (Kd.int .i64) 3 w base (fun _ => True) v l) : ∃ A c, v = .slice A l.length c ∧ l.length ≤ c ∧ Kd.C (Kd.int .i64) w A l.length l := by
  obtain ⟨A, c, rfl⟩ := Kd.R_slice h
  obtain ⟨_, hc, hr⟩ := Kd.R_reads' h
  exact ⟨A, c, rfl, hc, hr⟩

theorem load_ok (self : Int) (A : Option Addr) (c : Nat) (xs : List Int) (w : World) (h0 : 0 ≤ self) (h7 : self < 7) (hr : ReadsInt w .u8 A xs.length xs) (hc : xs.length ≤ c) (hb : IsBytes xs) (hl : xs.length ≤ 60000) (hok : ((staR xs (some 0)).2 = some xs.length ∧ mayL (staR xs (some 0)).1)) :
    Calls Try.prog 18 #[.int .i64 self, .slice A xs.length c] w fun e w' => ∃ g A9 c9, e = .returned (.tuple #[.pointer (some ⟨g, 0, none⟩), .int .i64 0]) ∧ w.heap.size ≤ g ∧ Co w' g (St.load self (staR xs (some 0)).1.term (staR xs (some 0)).1.vote (staR xs (some 0)).1.idx (staR xs (some 0)).1.past (staR xs (some 0)).1.vot (staR xs (some 0)).1.text A9 c9 (staR xs (some 0)).1.log (staR xs (some 0)).1.idx (staR xs (some 0)).1.idx) ∧ Below w.heap.size w w' :=
  (load_calls self A c xs w h0 h7 hr hc hb (by omega)).mono fun e w' ⟨hb, h⟩ => by
    rcases h with ⟨_, _, g, A9, c9, h1, h2, h3⟩ | ⟨hn, _⟩
    · exact ⟨g, A9, c9, h1, h2, h3, hb⟩
    · exact absurd hok hn
theorem load_bad (self : Int) (A : Option Addr) (c : Nat) (xs : List Int) (w : World) (h0 : 0 ≤ self) (h7 : self < 7) (hr : ReadsInt w .u8 A xs.length xs) (hc : xs.length ≤ c) (hb : IsBytes xs) (hl : xs.length ≤ 60000) (hno : ¬ ((staR xs (some 0)).2 = some xs.length ∧ mayL (staR xs (some 0)).1)) :
    Calls Try.prog 18 #[.int .i64 self, .slice A xs.length c] w fun e w' => e = .returned (.tuple #[.pointer none, .int .i64 4]) ∧ Below w.heap.size w w' :=
  (load_calls self A c xs w h0 h7 hr hc hb (by omega)).mono fun e w' ⟨hb, h⟩ => by
    rcases h with ⟨h1, h2, _⟩ | ⟨_, h1⟩
    · exact absurd ⟨h1, h2⟩ hno
    · exact ⟨h1, hb⟩
theorem read_yes (A : Option Addr) (c : Nat) (xs : List Int) (w : World) (hr : ReadsInt w .u8 A xs.length xs) (hc : xs.length ≤ c) (hb : IsBytes xs) (hl : xs.length ≤ 60000) (hok : ((staR xs (some 0)).2 = some xs.length ∧ mayL (staR xs (some 0)).1)) :
    Calls Try.prog 19 #[.slice A xs.length c] w fun e w' => ∃ A9 c9, e = .returned (.tuple #[.agg #[.int .i64 (staR xs (some 0)).1.term, .int .i64 (staR xs (some 0)).1.vote, .int .i64 (staR xs (some 0)).1.idx, .int .i64 (staR xs (some 0)).1.past, .string (staR xs (some 0)).1.vot, .string (staR xs (some 0)).1.text, .slice A9 (staR xs (some 0)).1.log.length c9], .bool true]) ∧ InE w' A9 c9 (staR xs (some 0)).1.log ∧ Below w.heap.size w w' :=
  (ref_read_calls A c xs w hr hc hb hl).mono fun e w' ⟨hb, x, A9, c9, b, h1, h2, h3⟩ => by
    have hbt : b = true := h2.2 ⟨hok.1, hok.2, sta_len xs (some 0)⟩
    subst hbt
    obtain ⟨hx, hi⟩ := h3 rfl
    subst hx
    exact ⟨A9, c9, h1, hi, hb⟩
theorem read_any (A : Option Addr) (c : Nat) (xs : List Int) (w : World) (hr : ReadsInt w .u8 A xs.length xs) (hc : xs.length ≤ c) (hb : IsBytes xs) (hl : xs.length ≤ 60000) :
    Calls Try.prog 19 #[.slice A xs.length c] w fun e w' => ∃ (x : Sta) (A9 : Option Addr) (c9 : Nat) (b : Bool), e = .returned (.tuple #[.agg #[.int .i64 x.term, .int .i64 x.vote, .int .i64 x.idx, .int .i64 x.past, .string x.vot, .string x.text, .slice A9 x.log.length c9], .bool b]) ∧ Below w.heap.size w w' :=
  (ref_read_calls A c xs w hr hc hb hl).mono fun e w' ⟨hb, x, A9, c9, b, h1, _⟩ => ⟨x, A9, c9, b, h1, hb⟩
theorem read_no (A : Option Addr) (c : Nat) (xs : List Int) (w : World) (hr : ReadsInt w .u8 A xs.length xs) (hc : xs.length ≤ c) (hb : IsBytes xs) (hl : xs.length ≤ 60000) (hno : ¬ ((staR xs (some 0)).2 = some xs.length ∧ mayL (staR xs (some 0)).1)) :
    Calls Try.prog 19 #[.slice A xs.length c] w fun e w' => ∃ (x : Sta) (A9 : Option Addr) (c9 : Nat), e = .returned (.tuple #[.agg #[.int .i64 x.term, .int .i64 x.vote, .int .i64 x.idx, .int .i64 x.past, .string x.vot, .string x.text, .slice A9 x.log.length c9], .bool false]) ∧ Below w.heap.size w w' :=
  (ref_read_calls A c xs w hr hc hb hl).mono fun e w' ⟨hb, x, A9, c9, b, h1, h2, _⟩ => by
    have hbt : b = false := by
      cases b
      · rfl
      · exact absurd ⟨(h2.1 rfl).1, (h2.1 rfl).2.1⟩ hno
    subst hbt
    exact ⟨x, A9, c9, h1, hb⟩

set_option maxRecDepth 100000 in
set_option maxHeartbeats 4000000 in
theorem loads_law (self : Int) (A : Option Addr) (m c : Nat) (zs : List Int) (w : World) (hr : ReadsInt w .u8 A m zs) (hc : m ≤ c) (hb : IsBytes zs) :
    Calls Try.prog 4 #[.slice A m c, .int .i64 self] w fun e w' => e = .returned (.bool true) ∧ Below w.heap.size w w' := by
  have hml := hr.2.1
  obtain ⟨xs, hxs⟩ : ∃ xs, xs = zs.take 5000 := ⟨_, rfl⟩
  have hxl : xs.length ≤ 5000 := by rw [hxs, List.length_take]; omega
  have HIB : Hid (IsBytes xs) := Lib.hid (by rw [hxs]; exact hb.take 5000)
  have hlc : xs.length ≤ c := by rw [hxs, List.length_take, hr.1]; omega
  have HC := Lib.hid hlc
  by_cases hbig : 5000 < m
  · have HR : Hid (ReadsInt w .u8 A xs.length xs) := Lib.hid (by
      have := hr.take_ 5000 (by omega)
      rw [← hxs] at this
      exact reads_len this)
    have hx5 : xs.length = 5000 := by rw [hxs, List.length_take, hr.1]; omega
    obtain ⟨i0, hi0, hzz⟩ := Option.map_eq_some_iff.1 PRef.info5
    have hsz : i0.size = 1 := by simp only [Prod.mk.injEq] at hzz; exact hzz.2.1
    have hcut := cut_to (P := Try.prog) 43 5 .i64 Try.underlying43 hi0 A m c (5000 : Int) (by omega) (by omega) hc
    rw [show (5000 : Int).toNat = 5000 from rfl, ← hx5] at hcut
    have hbb : decide ((5000 : Int) < (m : Int)) = true := decide_eq_true (by omega)
    clear hr hb hxs hzz hsz hi0 hx5 hlc
    go_enter Try.func4, Try.ntmps4
    go_upto_region 3 with fail
    by_cases hs : 0 ≤ self ∧ self < 7
    · have hs0b : decide (self < 0) = false := decide_eq_false (by omega)
      have hs7b : decide (7 ≤ self) = false := decide_eq_false (by omega)
      by_cases hok : ((staR xs (some 0)).2 = some xs.length ∧ mayL (staR xs (some 0)).1)
      · have HLD := Lib.hid (load_ok self A c xs w hs.1 hs.2 HR.out HC.out HIB.out (by omega) hok)
        have HOK := Lib.hid hok
        have HRD := fun W (hb : Below w.heap.size w W) => Lib.hid (read_yes A c xs W (HR.out.below hb) HC.out HIB.out (by omega) hok)
        have HUQ := Lib.hid (sta_uniq HIB.out (by omega) hok.1)
        have HLN := Lib.hid (sta_len xs (some 0))
        have HSZ := Lib.hid (sta_size xs (some 0))
        clear hok hs
        obtain ⟨x, hx⟩ : ∃ x, x = (staR xs (some 0)).1 := ⟨_, rfl⟩
        rw [← hx] at HLD HRD HUQ HOK HLN HSZ
        clear hx
        go_upto_region 4 with ((with_reducible refine HLD.out.mono ?_); rintro e w1 ⟨g, A9, c9, rfl, hg, hco, hb⟩; have HC1 := Lib.hid hco; have HB1 := Lib.hid hb; clear hco hb hg)
        go_upto_region 5 with ((with_reducible refine (HRD w1 HB1.out).out.mono ?_); rintro e w2 ⟨A8, c8, rfl, hin, hb⟩; have HIN := Lib.hid hin; have HC2 := Lib.hid (HC1.out.below hb); have HB2 := Lib.hid (HB1.out.trans (hb.mono HB1.out.size)); clear hin hb)
        have hbx := (Below.refl w2.heap.size w2).alloc (Nat.le_refl _) (.cells #[.int .i64 x.term, .int .i64 x.vote, .int .i64 x.idx, .int .i64 x.past, .string x.vot, .string x.text, .slice A8 x.log.length c8] 47)
        have hk := blk_new w2 (.cells #[.int .i64 x.term, .int .i64 x.vote, .int .i64 x.idx, .int .i64 x.past, .string x.vot, .string x.text, .slice A8 x.log.length c8] 47)
        have HC3 := Lib.hid (HC2.out.below hbx)
        have HB3 := Lib.hid (HB2.out.trans (hbx.mono HB2.out.size))
        have HI3 := Lib.hid (And.intro (Kd.C_below HIN.out.1 hbx) HIN.out.2)
        clear HLD HRD HC1 HB1 HC2 HB2 HIN hbx
        generalize w2.alloc (.cells #[.int .i64 x.term, .int .i64 x.vote, .int .i64 x.idx, .int .i64 x.past, .string x.vot, .string x.text, .slice A8 x.log.length c8] 47) = w3 at HC3 HB3 HI3 hk ⊢
        have e0 : w3.cell? ⟨w2.heap.size, 0, none⟩ = some (.int .i64 x.term) := by rw [blk_cell hk]; rfl
        have e1 : w3.cell? ⟨w2.heap.size, 1, none⟩ = some (.int .i64 x.vote) := by rw [blk_cell hk]; rfl
        have e2 : w3.cell? ⟨w2.heap.size, 2, none⟩ = some (.int .i64 x.idx) := by rw [blk_cell hk]; rfl
        have e3 : w3.cell? ⟨w2.heap.size, 3, none⟩ = some (.int .i64 x.past) := by rw [blk_cell hk]; rfl
        have e4 : w3.cell? ⟨w2.heap.size, 4, none⟩ = some (.string x.vot) := by rw [blk_cell hk]; rfl
        have e5 : w3.cell? ⟨w2.heap.size, 5, none⟩ = some (.string x.text) := by rw [blk_cell hk]; rfl
        have e6 : w3.cell? ⟨w2.heap.size, 6, none⟩ = some (.slice A8 x.log.length c8) := by rw [blk_cell hk]; rfl
        have HK3 := Lib.hid hk
        clear hk
        have hx0 : 0 ≤ x.idx := HOK.out.2.2.2.2.2.2.1
        have hx1 : x.idx ≤ 1099511627776 := HOK.out.2.2.2.2.2.2.2.1
        obtain ⟨r2, hl2⟩ := last_f x.term x.vote x.idx x.past x.vot x.text x.log hx0 hx1 HLN.out
        have HLA := Lib.hid (lamellaref10_Last.calls x.term x.vote x.idx x.past x.vot x.text A8 c8 x.log _ _ w3 HI3.out.1 HI3.out.2 hl2)
        clear hl2
        have hcl : ∀ W, Below w3.heap.size w3 W → W.heap[w2.heap.size]? = some (.cells #[.int .i64 x.term, .int .i64 x.vote, .int .i64 x.idx, .int .i64 x.past, .string x.vot, .string x.text, .slice A8 x.log.length c8] 47 (0, 0)) := fun W hb => blk_below HK3.out hb
        have HCL := Lib.hid hcl
        clear hcl
        go_upto_region 10 with ((with_reducible refine HLA.out.mono ?_); rintro e w4 ⟨rfl, hb⟩; have HB4 := Lib.hid hb; clear hb)
        clear e0 e1 e2 e3 e4 e5 e6 HLA
        have e0 : w4.cell? ⟨w2.heap.size, 0, none⟩ = some (.int .i64 x.term) := by rw [blk_cell (HCL.out w4 HB4.out)]; rfl
        have e1 : w4.cell? ⟨w2.heap.size, 1, none⟩ = some (.int .i64 x.vote) := by rw [blk_cell (HCL.out w4 HB4.out)]; rfl
        have e2 : w4.cell? ⟨w2.heap.size, 2, none⟩ = some (.int .i64 x.idx) := by rw [blk_cell (HCL.out w4 HB4.out)]; rfl
        have e3 : w4.cell? ⟨w2.heap.size, 3, none⟩ = some (.int .i64 x.past) := by rw [blk_cell (HCL.out w4 HB4.out)]; rfl
        have e4 : w4.cell? ⟨w2.heap.size, 4, none⟩ = some (.string x.vot) := by rw [blk_cell (HCL.out w4 HB4.out)]; rfl
        have e5 : w4.cell? ⟨w2.heap.size, 5, none⟩ = some (.string x.text) := by rw [blk_cell (HCL.out w4 HB4.out)]; rfl
        have e6 : w4.cell? ⟨w2.heap.size, 6, none⟩ = some (.slice A8 x.log.length c8) := by rw [blk_cell (HCL.out w4 HB4.out)]; rfl
        have HNO := Lib.hid (lamellaref10_Now.calls 5000 x.term x.vote x.idx x.past x.vot x.text A8 c8 x.log _ w4 (Kd.C_below HI3.out.1 HB4.out) HI3.out.2 (now_f x.term x.vote x.idx x.past x.vot x.text x.log HLN.out))
        have hnv : (nowV x.vot x.log).size ≤ 9223372036854775807 := nowV_size x.vot x.log (Nat.le_trans HSZ.out.1 (by omega)) (fun y hy => Nat.le_trans (HSZ.out.2 y hy) (by omega))
        obtain ⟨nv, hnve⟩ : ∃ nv, nv = nowV x.vot x.log := ⟨_, rfl⟩
        rw [← hnve] at HNO hnv
        have HNV := Lib.hid hnve
        have HVO := fun W => Lib.hid (lamellaref10_Voters.calls 10 nv _ _ W (vref_f nv hnv 10 (by omega)))
        clear hnve hnv
        go_upto_region 11 with (first | ((with_reducible refine HNO.out.mono ?_); rintro e w5 ⟨rfl, hb⟩; have HB5 := Lib.hid (HB4.out.trans (hb.mono HB4.out.size)); clear hb) | ((with_reducible refine (HVO _).out.mono ?_); rintro e w6 ⟨vv, rfl, ho, hb⟩; have HO6 := Lib.hid ho; have HB6 := Lib.hid (HB5.out.trans (hb.mono HB5.out.size)); clear ho hb))
        obtain ⟨Av, cv, rfl, hcv, hrv⟩ := R_row HO6.out
        have HRV := Lib.hid hrv
        have HCV := Lib.hid hcv
        clear e0 e1 e2 e3 e4 e5 e6 HNO HVO HO6 hrv hcv
        obtain ⟨t, ht⟩ := rtext_m (votV nv) (by have := votV_len nv; omega)
        have HTX := Lib.hid ht
        clear ht
        have HC6 := Lib.hid (HC3.out.below HB6.out)
        have e0 : w6.cell? ⟨w2.heap.size, 0, none⟩ = some (.int .i64 x.term) := by rw [blk_cell (HCL.out w6 HB6.out)]; rfl
        have e2 : w6.cell? ⟨w2.heap.size, 2, none⟩ = some (.int .i64 x.idx) := by rw [blk_cell (HCL.out w6 HB6.out)]; rfl
        have h06 : ReadsInt w6 .u8 A xs.length xs := HR.out.below (HB3.out.trans (HB6.out.mono HB3.out.size))
        have hdr : ∀ w', Below w6.drew.heap.size w6.drew w' → Below w6.heap.size w6 w' := fun w' hb => (pw_below_drewN (Below.refl w6.heap.size w6) 1).trans hb
        have HDR := Lib.hid hdr
        have HB7 := Lib.hid (HB3.out.trans (HB6.out.mono HB3.out.size))
        clear hdr
        refine loads_last _ _ _ _ _ _ _ _ _ _ _ _ _ _ _ _ _ _ _ _ _ _ _ _ _ _ _ _ _ _ _ _ _ _ _ _ _ _ _ _ _ _ _ _ _ _ _ _ _ _ _ _ _ _ _ _ _ _ _ _ _ _ _ _ _ _ _ _ _ _ _ _ _ _ _ _ _ _ _ _ _ _ _ _ _ _ _ _ _ _ _ _ _ _ _ _ _ _ _ _ _ _ _ _ _ _ g w2.heap.size w6 _ xs A Av xs.length c (votV nv).length cv x.term x.idx (x.idx + x.log.length) t (fun A1 n1 c1 W => n1 = (votV nv).length ∧ n1 ≤ c1 ∧ Kd.C (Kd.int .i64) W A1 (votV nv).length (votV nv)) (fun _ _ _ _ _ h => h) h06 e0 e2 ?_ ?_ ?_ ?_ ?_ ?_ ?_ ?_ ?_ ?_
        · intro w' hb
          have h := encode_calls (HC6.out.below (HDR.out w' hb)) HUQ.out.2
          rw [show St.sta (St.load self x.term x.vote x.idx x.past x.vot x.text A9 c9 x.log x.idx x.idx) = x from rfl, HUQ.out.1] at h
          exact h
        · intro w' hb
          exact (term_calls (HC6.out.below (HDR.out w' hb))).mono fun e w'' h => ⟨h.1, by rw [h.2]; exact Below.refl _ _⟩
        · intro w' hb
          exact (last_calls (HC6.out.below (HDR.out w' hb))).mono fun e w'' h => ⟨h.1, by obtain ⟨m, hm⟩ := h.2; rw [hm]; exact pw_below_drewN (Below.refl _ _) m⟩
        · intro w' hb
          exact (told_calls (HC6.out.below (HDR.out w' hb))).mono fun e w'' h => ⟨h.1, by rw [h.2]; exact Below.refl _ _⟩
        · intro w' hb
          refine (cvoters_calls (HC6.out.below (HDR.out w' hb))).mono ?_
          rintro e w'' ⟨v, rfl, ho, hbb⟩
          rw [show St.voters (St.load self x.term x.vote x.idx x.past x.vot x.text A9 c9 x.log x.idx x.idx) = votV nv from by rw [HNV.out]; rfl] at ho
          obtain ⟨A1, c1, rfl, h1, h2⟩ := R_row ho
          exact ⟨A1, _, c1, rfl, ⟨rfl, h1, h2⟩, hbb⟩
        · rintro A1 n1 c1 w' ⟨rfl, h1, h2⟩
          exact lamellaref10_Text.calls _ A1 c1 (votV nv) t w' h2 h1 HTX.out
        · intro w' hb
          exact lamellaref10_Text.calls _ Av cv (votV nv) t w' (Kd.C_below HRV.out (HDR.out w' hb)) HCV.out HTX.out
        · intro w' hb
          exact (leads_calls (HC6.out.below (HDR.out w' hb))).mono fun e w'' h => ⟨h.1, by rw [h.2]; exact Below.refl _ _⟩
        · intro w' hb
          exact lives_calls w'
        · intro w7 _ _ _ _ _ hb
          have HBl := Lib.hid (HB7.out.trans ((HDR.out w7 hb).mono HB7.out.size))
          clear hb
          (try simp only [Exit.then])
          go_wp2_with fail
          go_ret
          exact ⟨by rfl, HBl.out⟩
      · have HLD := Lib.hid (load_bad self A c xs w hs.1 hs.2 HR.out HC.out HIB.out (by omega) hok)
        have HRD := fun W (hb : Below w.heap.size w W) => Lib.hid (read_no A c xs W (HR.out.below hb) HC.out HIB.out (by omega) hok)
        clear hok hs
        go_upto_region 4 with ((with_reducible refine HLD.out.mono ?_); rintro e w1 ⟨rfl, hb⟩; have HB1 := Lib.hid hb; clear hb)
        go_upto_region 5 with ((with_reducible refine (HRD w1 HB1.out).out.mono ?_); rintro e w2 ⟨x, A8, c8, rfl, hb⟩; have HB2 := Lib.hid (HB1.out.trans (hb.mono HB1.out.size)); clear hb)
        have HB3 := Lib.hid (HB2.out.alloc HB2.out.size (.cells #[.int .i64 x.term, .int .i64 x.vote, .int .i64 x.idx, .int .i64 x.past, .string x.vot, .string x.text, .slice A8 x.log.length c8] 47))
        generalize w2.alloc (.cells #[.int .i64 x.term, .int .i64 x.vote, .int .i64 x.idx, .int .i64 x.past, .string x.vot, .string x.text, .slice A8 x.log.length c8] 47) = w3 at HB3 ⊢
        go_wp2_with ((with_reducible refine (lives_calls _).mono ?_); rintro e wl ⟨rfl, hb⟩; have HBl := Lib.hid (HB3.out.trans (hb.mono HB3.out.size)); clear hb)
        go_ret
        exact ⟨by rfl, HBl.out⟩
    · have HLD := Lib.hid (load_self self A c xs.length w (isNode_not self hs))
      have HRD := fun W (hb : Below w.heap.size w W) => Lib.hid (read_any A c xs W (HR.out.below hb) HC.out HIB.out (by omega))
      go_upto_region 4 with ((with_reducible refine HLD.out.mono ?_); rintro e w1 ⟨rfl, hb⟩; have HB1 := Lib.hid hb; clear hb)
      go_upto_region 5 with ((with_reducible refine (HRD w1 HB1.out).out.mono ?_); rintro e w2 ⟨x, A8, c8, b, rfl, hb⟩; have HB2 := Lib.hid (HB1.out.trans (hb.mono HB1.out.size)); clear hb)
      have HB3 := Lib.hid (HB2.out.alloc HB2.out.size (.cells #[.int .i64 x.term, .int .i64 x.vote, .int .i64 x.idx, .int .i64 x.past, .string x.vot, .string x.text, .slice A8 x.log.length c8] 47))
      generalize w2.alloc (.cells #[.int .i64 x.term, .int .i64 x.vote, .int .i64 x.idx, .int .i64 x.past, .string x.vot, .string x.text, .slice A8 x.log.length c8] 47) = w3 at HB3 ⊢
      by_cases hs0 : self < 0
      · have hs0b : decide (self < 0) = true := decide_eq_true hs0
        clear hs
        go_wp2_with ((with_reducible refine (lives_calls _).mono ?_); rintro e wl ⟨rfl, hb⟩; have HBl := Lib.hid (HB3.out.trans (hb.mono HB3.out.size)); clear hb)
        go_ret
        exact ⟨by rfl, HBl.out⟩
      · have hs0b : decide (self < 0) = false := decide_eq_false hs0
        have hs7b : decide (7 ≤ self) = true := decide_eq_true (by omega)
        clear hs
        go_wp2_with ((with_reducible refine (lives_calls _).mono ?_); rintro e wl ⟨rfl, hb⟩; have HBl := Lib.hid (HB3.out.trans (hb.mono HB3.out.size)); clear hb)
        go_ret
        exact ⟨by rfl, HBl.out⟩
  · have hz : xs = zs := by rw [hxs, List.take_of_length_le (by rw [hr.1]; omega)]
    have hbb : decide ((5000 : Int) < (m : Int)) = false := decide_eq_false (by omega)
    rw [← hz] at hr
    have hm : m = xs.length := hr.1.symm
    subst hm
    have HR := Lib.hid hr
    clear hr hb hxs hlc hz
    go_enter Try.func4, Try.ntmps4
    go_upto_region 3 with fail
    by_cases hs : 0 ≤ self ∧ self < 7
    · have hs0b : decide (self < 0) = false := decide_eq_false (by omega)
      have hs7b : decide (7 ≤ self) = false := decide_eq_false (by omega)
      by_cases hok : ((staR xs (some 0)).2 = some xs.length ∧ mayL (staR xs (some 0)).1)
      · have HLD := Lib.hid (load_ok self A c xs w hs.1 hs.2 HR.out HC.out HIB.out (by omega) hok)
        have HOK := Lib.hid hok
        have HRD := fun W (hb : Below w.heap.size w W) => Lib.hid (read_yes A c xs W (HR.out.below hb) HC.out HIB.out (by omega) hok)
        have HUQ := Lib.hid (sta_uniq HIB.out (by omega) hok.1)
        have HLN := Lib.hid (sta_len xs (some 0))
        have HSZ := Lib.hid (sta_size xs (some 0))
        clear hok hs
        obtain ⟨x, hx⟩ : ∃ x, x = (staR xs (some 0)).1 := ⟨_, rfl⟩
        rw [← hx] at HLD HRD HUQ HOK HLN HSZ
        clear hx
        go_upto_region 4 with ((with_reducible refine HLD.out.mono ?_); rintro e w1 ⟨g, A9, c9, rfl, hg, hco, hb⟩; have HC1 := Lib.hid hco; have HB1 := Lib.hid hb; clear hco hb hg)
        go_upto_region 5 with ((with_reducible refine (HRD w1 HB1.out).out.mono ?_); rintro e w2 ⟨A8, c8, rfl, hin, hb⟩; have HIN := Lib.hid hin; have HC2 := Lib.hid (HC1.out.below hb); have HB2 := Lib.hid (HB1.out.trans (hb.mono HB1.out.size)); clear hin hb)
        have hbx := (Below.refl w2.heap.size w2).alloc (Nat.le_refl _) (.cells #[.int .i64 x.term, .int .i64 x.vote, .int .i64 x.idx, .int .i64 x.past, .string x.vot, .string x.text, .slice A8 x.log.length c8] 47)
        have hk := blk_new w2 (.cells #[.int .i64 x.term, .int .i64 x.vote, .int .i64 x.idx, .int .i64 x.past, .string x.vot, .string x.text, .slice A8 x.log.length c8] 47)
        have HC3 := Lib.hid (HC2.out.below hbx)
        have HB3 := Lib.hid (HB2.out.trans (hbx.mono HB2.out.size))
        have HI3 := Lib.hid (And.intro (Kd.C_below HIN.out.1 hbx) HIN.out.2)
        clear HLD HRD HC1 HB1 HC2 HB2 HIN hbx
        generalize w2.alloc (.cells #[.int .i64 x.term, .int .i64 x.vote, .int .i64 x.idx, .int .i64 x.past, .string x.vot, .string x.text, .slice A8 x.log.length c8] 47) = w3 at HC3 HB3 HI3 hk ⊢
        have e0 : w3.cell? ⟨w2.heap.size, 0, none⟩ = some (.int .i64 x.term) := by rw [blk_cell hk]; rfl
        have e1 : w3.cell? ⟨w2.heap.size, 1, none⟩ = some (.int .i64 x.vote) := by rw [blk_cell hk]; rfl
        have e2 : w3.cell? ⟨w2.heap.size, 2, none⟩ = some (.int .i64 x.idx) := by rw [blk_cell hk]; rfl
        have e3 : w3.cell? ⟨w2.heap.size, 3, none⟩ = some (.int .i64 x.past) := by rw [blk_cell hk]; rfl
        have e4 : w3.cell? ⟨w2.heap.size, 4, none⟩ = some (.string x.vot) := by rw [blk_cell hk]; rfl
        have e5 : w3.cell? ⟨w2.heap.size, 5, none⟩ = some (.string x.text) := by rw [blk_cell hk]; rfl
        have e6 : w3.cell? ⟨w2.heap.size, 6, none⟩ = some (.slice A8 x.log.length c8) := by rw [blk_cell hk]; rfl
        have HK3 := Lib.hid hk
        clear hk
        have hx0 : 0 ≤ x.idx := HOK.out.2.2.2.2.2.2.1
        have hx1 : x.idx ≤ 1099511627776 := HOK.out.2.2.2.2.2.2.2.1
        obtain ⟨r2, hl2⟩ := last_f x.term x.vote x.idx x.past x.vot x.text x.log hx0 hx1 HLN.out
        have HLA := Lib.hid (lamellaref10_Last.calls x.term x.vote x.idx x.past x.vot x.text A8 c8 x.log _ _ w3 HI3.out.1 HI3.out.2 hl2)
        clear hl2
        have hcl : ∀ W, Below w3.heap.size w3 W → W.heap[w2.heap.size]? = some (.cells #[.int .i64 x.term, .int .i64 x.vote, .int .i64 x.idx, .int .i64 x.past, .string x.vot, .string x.text, .slice A8 x.log.length c8] 47 (0, 0)) := fun W hb => blk_below HK3.out hb
        have HCL := Lib.hid hcl
        clear hcl
        go_upto_region 10 with ((with_reducible refine HLA.out.mono ?_); rintro e w4 ⟨rfl, hb⟩; have HB4 := Lib.hid hb; clear hb)
        clear e0 e1 e2 e3 e4 e5 e6 HLA
        have e0 : w4.cell? ⟨w2.heap.size, 0, none⟩ = some (.int .i64 x.term) := by rw [blk_cell (HCL.out w4 HB4.out)]; rfl
        have e1 : w4.cell? ⟨w2.heap.size, 1, none⟩ = some (.int .i64 x.vote) := by rw [blk_cell (HCL.out w4 HB4.out)]; rfl
        have e2 : w4.cell? ⟨w2.heap.size, 2, none⟩ = some (.int .i64 x.idx) := by rw [blk_cell (HCL.out w4 HB4.out)]; rfl
        have e3 : w4.cell? ⟨w2.heap.size, 3, none⟩ = some (.int .i64 x.past) := by rw [blk_cell (HCL.out w4 HB4.out)]; rfl
        have e4 : w4.cell? ⟨w2.heap.size, 4, none⟩ = some (.string x.vot) := by rw [blk_cell (HCL.out w4 HB4.out)]; rfl
        have e5 : w4.cell? ⟨w2.heap.size, 5, none⟩ = some (.string x.text) := by rw [blk_cell (HCL.out w4 HB4.out)]; rfl
        have e6 : w4.cell? ⟨w2.heap.size, 6, none⟩ = some (.slice A8 x.log.length c8) := by rw [blk_cell (HCL.out w4 HB4.out)]; rfl
        have HNO := Lib.hid (lamellaref10_Now.calls 5000 x.term x.vote x.idx x.past x.vot x.text A8 c8 x.log _ w4 (Kd.C_below HI3.out.1 HB4.out) HI3.out.2 (now_f x.term x.vote x.idx x.past x.vot x.text x.log HLN.out))
        have hnv : (nowV x.vot x.log).size ≤ 9223372036854775807 := nowV_size x.vot x.log (Nat.le_trans HSZ.out.1 (by omega)) (fun y hy => Nat.le_trans (HSZ.out.2 y hy) (by omega))
        obtain ⟨nv, hnve⟩ : ∃ nv, nv = nowV x.vot x.log := ⟨_, rfl⟩
        rw [← hnve] at HNO hnv
        have HNV := Lib.hid hnve
        have HVO := fun W => Lib.hid (lamellaref10_Voters.calls 10 nv _ _ W (vref_f nv hnv 10 (by omega)))
        clear hnve hnv
        go_upto_region 11 with (first | ((with_reducible refine HNO.out.mono ?_); rintro e w5 ⟨rfl, hb⟩; have HB5 := Lib.hid (HB4.out.trans (hb.mono HB4.out.size)); clear hb) | ((with_reducible refine (HVO _).out.mono ?_); rintro e w6 ⟨vv, rfl, ho, hb⟩; have HO6 := Lib.hid ho; have HB6 := Lib.hid (HB5.out.trans (hb.mono HB5.out.size)); clear ho hb))
        obtain ⟨Av, cv, rfl, hcv, hrv⟩ := R_row HO6.out
        have HRV := Lib.hid hrv
        have HCV := Lib.hid hcv
        clear e0 e1 e2 e3 e4 e5 e6 HNO HVO HO6 hrv hcv
        obtain ⟨t, ht⟩ := rtext_m (votV nv) (by have := votV_len nv; omega)
        have HTX := Lib.hid ht
        clear ht
        have HC6 := Lib.hid (HC3.out.below HB6.out)
        have e0 : w6.cell? ⟨w2.heap.size, 0, none⟩ = some (.int .i64 x.term) := by rw [blk_cell (HCL.out w6 HB6.out)]; rfl
        have e2 : w6.cell? ⟨w2.heap.size, 2, none⟩ = some (.int .i64 x.idx) := by rw [blk_cell (HCL.out w6 HB6.out)]; rfl
        have h06 : ReadsInt w6 .u8 A xs.length xs := HR.out.below (HB3.out.trans (HB6.out.mono HB3.out.size))
        have hdr : ∀ w', Below w6.drew.heap.size w6.drew w' → Below w6.heap.size w6 w' := fun w' hb => (pw_below_drewN (Below.refl w6.heap.size w6) 1).trans hb
        have HDR := Lib.hid hdr
        have HB7 := Lib.hid (HB3.out.trans (HB6.out.mono HB3.out.size))
        clear hdr
        refine loads_last _ _ _ _ _ _ _ _ _ _ _ _ _ _ _ _ _ _ _ _ _ _ _ _ _ _ _ _ _ _ _ _ _ _ _ _ _ _ _ _ _ _ _ _ _ _ _ _ _ _ _ _ _ _ _ _ _ _ _ _ _ _ _ _ _ _ _ _ _ _ _ _ _ _ _ _ _ _ _ _ _ _ _ _ _ _ _ _ _ _ _ _ _ _ _ _ _ _ _ _ _ _ _ _ _ _ g w2.heap.size w6 _ xs A Av xs.length c (votV nv).length cv x.term x.idx (x.idx + x.log.length) t (fun A1 n1 c1 W => n1 = (votV nv).length ∧ n1 ≤ c1 ∧ Kd.C (Kd.int .i64) W A1 (votV nv).length (votV nv)) (fun _ _ _ _ _ h => h) h06 e0 e2 ?_ ?_ ?_ ?_ ?_ ?_ ?_ ?_ ?_ ?_
        · intro w' hb
          have h := encode_calls (HC6.out.below (HDR.out w' hb)) HUQ.out.2
          rw [show St.sta (St.load self x.term x.vote x.idx x.past x.vot x.text A9 c9 x.log x.idx x.idx) = x from rfl, HUQ.out.1] at h
          exact h
        · intro w' hb
          exact (term_calls (HC6.out.below (HDR.out w' hb))).mono fun e w'' h => ⟨h.1, by rw [h.2]; exact Below.refl _ _⟩
        · intro w' hb
          exact (last_calls (HC6.out.below (HDR.out w' hb))).mono fun e w'' h => ⟨h.1, by obtain ⟨m, hm⟩ := h.2; rw [hm]; exact pw_below_drewN (Below.refl _ _) m⟩
        · intro w' hb
          exact (told_calls (HC6.out.below (HDR.out w' hb))).mono fun e w'' h => ⟨h.1, by rw [h.2]; exact Below.refl _ _⟩
        · intro w' hb
          refine (cvoters_calls (HC6.out.below (HDR.out w' hb))).mono ?_
          rintro e w'' ⟨v, rfl, ho, hbb⟩
          rw [show St.voters (St.load self x.term x.vote x.idx x.past x.vot x.text A9 c9 x.log x.idx x.idx) = votV nv from by rw [HNV.out]; rfl] at ho
          obtain ⟨A1, c1, rfl, h1, h2⟩ := R_row ho
          exact ⟨A1, _, c1, rfl, ⟨rfl, h1, h2⟩, hbb⟩
        · rintro A1 n1 c1 w' ⟨rfl, h1, h2⟩
          exact lamellaref10_Text.calls _ A1 c1 (votV nv) t w' h2 h1 HTX.out
        · intro w' hb
          exact lamellaref10_Text.calls _ Av cv (votV nv) t w' (Kd.C_below HRV.out (HDR.out w' hb)) HCV.out HTX.out
        · intro w' hb
          exact (leads_calls (HC6.out.below (HDR.out w' hb))).mono fun e w'' h => ⟨h.1, by rw [h.2]; exact Below.refl _ _⟩
        · intro w' hb
          exact lives_calls w'
        · intro w7 _ _ _ _ _ hb
          have HBl := Lib.hid (HB7.out.trans ((HDR.out w7 hb).mono HB7.out.size))
          clear hb
          (try simp only [Exit.then])
          go_wp2_with fail
          go_ret
          exact ⟨by rfl, HBl.out⟩
      · have HLD := Lib.hid (load_bad self A c xs w hs.1 hs.2 HR.out HC.out HIB.out (by omega) hok)
        have HRD := fun W (hb : Below w.heap.size w W) => Lib.hid (read_no A c xs W (HR.out.below hb) HC.out HIB.out (by omega) hok)
        clear hok hs
        go_upto_region 4 with ((with_reducible refine HLD.out.mono ?_); rintro e w1 ⟨rfl, hb⟩; have HB1 := Lib.hid hb; clear hb)
        go_upto_region 5 with ((with_reducible refine (HRD w1 HB1.out).out.mono ?_); rintro e w2 ⟨x, A8, c8, rfl, hb⟩; have HB2 := Lib.hid (HB1.out.trans (hb.mono HB1.out.size)); clear hb)
        have HB3 := Lib.hid (HB2.out.alloc HB2.out.size (.cells #[.int .i64 x.term, .int .i64 x.vote, .int .i64 x.idx, .int .i64 x.past, .string x.vot, .string x.text, .slice A8 x.log.length c8] 47))
        generalize w2.alloc (.cells #[.int .i64 x.term, .int .i64 x.vote, .int .i64 x.idx, .int .i64 x.past, .string x.vot, .string x.text, .slice A8 x.log.length c8] 47) = w3 at HB3 ⊢
        go_wp2_with ((with_reducible refine (lives_calls _).mono ?_); rintro e wl ⟨rfl, hb⟩; have HBl := Lib.hid (HB3.out.trans (hb.mono HB3.out.size)); clear hb)
        go_ret
        exact ⟨by rfl, HBl.out⟩
    · have HLD := Lib.hid (load_self self A c xs.length w (isNode_not self hs))
      have HRD := fun W (hb : Below w.heap.size w W) => Lib.hid (read_any A c xs W (HR.out.below hb) HC.out HIB.out (by omega))
      go_upto_region 4 with ((with_reducible refine HLD.out.mono ?_); rintro e w1 ⟨rfl, hb⟩; have HB1 := Lib.hid hb; clear hb)
      go_upto_region 5 with ((with_reducible refine (HRD w1 HB1.out).out.mono ?_); rintro e w2 ⟨x, A8, c8, b, rfl, hb⟩; have HB2 := Lib.hid (HB1.out.trans (hb.mono HB1.out.size)); clear hb)
      have HB3 := Lib.hid (HB2.out.alloc HB2.out.size (.cells #[.int .i64 x.term, .int .i64 x.vote, .int .i64 x.idx, .int .i64 x.past, .string x.vot, .string x.text, .slice A8 x.log.length c8] 47))
      generalize w2.alloc (.cells #[.int .i64 x.term, .int .i64 x.vote, .int .i64 x.idx, .int .i64 x.past, .string x.vot, .string x.text, .slice A8 x.log.length c8] 47) = w3 at HB3 ⊢
      by_cases hs0 : self < 0
      · have hs0b : decide (self < 0) = true := decide_eq_true hs0
        clear hs
        go_wp2_with ((with_reducible refine (lives_calls _).mono ?_); rintro e wl ⟨rfl, hb⟩; have HBl := Lib.hid (HB3.out.trans (hb.mono HB3.out.size)); clear hb)
        go_ret
        exact ⟨by rfl, HBl.out⟩
      · have hs0b : decide (self < 0) = false := decide_eq_false hs0
        have hs7b : decide (7 ≤ self) = true := decide_eq_true (by omega)
        clear hs
        go_wp2_with ((with_reducible refine (lives_calls _).mono ?_); rintro e wl ⟨rfl, hb⟩; have HBl := Lib.hid (HB3.out.trans (hb.mono HB3.out.size)); clear hb)
        go_ret
        exact ⟨by rfl, HBl.out⟩

theorem loads_row (self : Int) (A : Option Addr) (n c : Nat) (zs : List Int) (w : World) (h : (A = none ∧ n = 0 ∧ c = 0 ∧ zs = []) ∨ ∃ x, A = some x ∧ n ≤ c ∧ c ≤ maxLen ∧ zs.length = c ∧ (∀ i, i < zs.length → w.cell? (x.add i) = some (.int .u8 (zs.getD i 0))) ∧ ∀ n ∈ zs, (Lit.int .u8 n).wf = true) :
    Calls Try.prog 4 #[.slice A n c, .int .i64 self] w fun e w' => e = .returned (.bool true) ∧ Below w.heap.size w w' := by
  obtain ⟨h1, h2, h3, h4, h5⟩ := reads_row h
  exact loads_law self A n c (zs.take n) w h1 h2 (isBytes_wf h5)

end Go.Proofs.Ytfanbhbpmhojaaa
