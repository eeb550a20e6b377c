/- The reference's Vote. Conditions: those typed. Printed by wip/tools/mkHrD.py. -/
import Derived.Test.YtfanbhbpmhojaaaHrX
import Derived.Test.YtfanbhbpmhojaaaLo3
import Derived.Test.YtfanbhbpmhojaaaWGuard
import Derived.Deep.DeepCutAuto
namespace Go.Proofs.Ytfanbhbpmhojaaa
open Go.RowKit Go.Proofs.YtfanbhbpmhojaaaW.PrintWords Go.Proofs.YtfanbhbpmhojaaaW.PrintLast Go.Proofs.YtfanbhbpmhojaaaW.PrintMore PRef
set_option linter.unusedVariables false
set_option linter.unusedSimpArgs false

/-- A state's last term. -/
def lastT (x : Sta) : Int := if x.log.length = 0 then x.past else (x.log.getD (x.log.length - 1) z39).f0
def vT (x : Sta) (tm : Int) : Int := if x.term < tm then tm else x.term
def vV (x : Sta) (tm : Int) : Int := if x.term < tm then -1 else x.vote
def vOk (x : Sta) (fr tm ix ps : Int) : Bool := ((tm == vT x tm) && (vV x tm == -1 || vV x tm == fr)) && (decide (lastT x < ps) || ((ps == lastT x) && decide (x.idx + x.log.length ≤ ix)))
def vSta (x : Sta) (fr tm ix ps : Int) : Sta := { x with term := vT x tm, vote := if vOk x fr tm ix ps then fr else vV x tm }
def vKeep (x : Sta) (fr tm ix ps : Int) : Bool := decide (x.term < tm) || (vOk x fr tm ix ps && (vV x tm != fr))
def staC (x : Sta) (A : Option Addr) (c : Nat) : Array Value := #[.int .i64 x.term, .int .i64 x.vote, .int .i64 x.idx, .int .i64 x.past, .string x.vot, .string x.text, .slice A x.log.length c]
theorem inf47s : (Try.prog.info? 47).map (·.size) = some 7 := by kernel_rfl
theorem lastT_f (t v i p : Int) (vo tx : ByteArray) (l : List S39) (h0 : 0 ≤ i) (h1 : i ≤ 1099511627776) (hl : l.length ≤ 4096) (t' v' : Int) : lamellaref10_Last.f t v i p vo tx l = some (i + l.length, lastT ⟨t', v', i, p, vo, tx, l⟩) := by
  unfold lamellaref10_Last.f lastT
  dsimp only
  by_cases h : l.length = 0
  · rw [if_pos (by omega), if_pos h, h]
    simp
  · rw [if_neg (by omega), if_neg h, IntWalk.wrap64_in _ (by omega), if_pos (by omega), if_pos (by omega), IntWalk.wrap64_in (i + l.length) (by omega)]
    have e : ((l.length : Int) - 1) = ((l.length - 1 : Nat) : Int) := by omega
    rw [e]
    unfold rd_T39
    rw [Int.toNat_natCast]

set_option maxRecDepth 100000 in
set_option maxHeartbeats 4000000 in
theorem vote_calls (w : World) (A : Option Addr) (c : Nat) (x : Sta) (hr : Kd.C k39 w A x.log.length x.log) (hc : x.log.length ≤ c) (hi0 : 0 ≤ x.idx) (hi1 : x.idx ≤ 1099511627776) (hll : x.log.length ≤ 4096) {cs : Array Value} {fr tt tm ix ps cm : Int} (hm : IsML cs 11 fr tt tm ix ps cm) :
    Calls Try.prog 32 #[.agg (staC x A c), .agg cs] w fun e w' => e = .returned (.tuple #[.agg (staC (vSta x fr tm ix ps) A c), .bool (vKeep x fr tm ix ps), .bool (vOk x fr tm ix ps)]) ∧ Below w.heap.size w w' := by
  obtain ⟨x0, x1, x2, x3, x4, x5, x6⟩ := x
  dsimp only at hr hc hi0 hi1 hll
  unfold staC
  dsimp only [vSta]
  generalize hg1 : vKeep ⟨x0, x1, x2, x3, x4, x5, x6⟩ fr tm ix ps = rk
  generalize hg2 : (if vOk ⟨x0, x1, x2, x3, x4, x5, x6⟩ fr tm ix ps = true then fr else vV ⟨x0, x1, x2, x3, x4, x5, x6⟩ tm) = rv
  generalize hg3 : vT ⟨x0, x1, x2, x3, x4, x5, x6⟩ tm = rt
  generalize hg4 : vOk ⟨x0, x1, x2, x3, x4, x5, x6⟩ fr tm ix ps = ro
  have HG := Lib.hid (And.intro hg1 (And.intro hg2 (And.intro hg3 hg4)))
  clear hg1 hg2 hg3 hg4
  have HI := Lib.hid (And.intro hi0 hi1)
  have HLL := Lib.hid hll
  have HR := Lib.hid hr
  have HCP := Lib.hid hc
  have HM := Lib.hid hm
  obtain ⟨lt, hlt⟩ : ∃ lt, lt = lastT ⟨x0, x1, x2, x3, x4, x5, x6⟩ := ⟨_, rfl⟩
  obtain ⟨li, hli⟩ : ∃ li, li = x2 + (x6.length : Int) := ⟨_, rfl⟩
  have HLT := Lib.hid hlt
  have HLI := Lib.hid hli
  have HLA : Hid (∀ wx, Below w.heap.size w wx → ∀ t v, Calls Try.prog 20 #[.agg #[.int .i64 t, .int .i64 v, .int .i64 x2, .int .i64 x3, .string x4, .string x5, .slice A x6.length c]] wx fun e w' => e = .returned (.tuple #[.int .i64 li, .int .i64 lt]) ∧ Below wx.heap.size wx w') := Lib.hid (fun wx hb t v => by
    rw [hlt, hli]
    exact lamellaref10_Last.calls t v x2 x3 x4 x5 A c x6 _ _ wx (Kd.C_below hr hb) hc (lastT_f t v x2 x3 x4 x5 x6 hi0 hi1 hll x0 x1))
  have hb1 := (Below.refl w.heap.size w).alloc (Nat.le_refl _) (.cells #[.int .i64 x0, .int .i64 x1, .int .i64 x2, .int .i64 x3, .string x4, .string x5, .slice A x6.length c] 47)
  have hb2 := hb1.alloc hb1.size (.cells cs 70)
  have hb3 := hb2.alloc hb2.size (.cells #[.int .i64 0, .int .i64 0, .int .i64 0, .int .i64 0, .string ⟨#[]⟩, .string ⟨#[]⟩, .slice none 0 0] 47)
  have HB := Lib.hid hb3
  have hs1 : (w.alloc (.cells #[.int .i64 x0, .int .i64 x1, .int .i64 x2, .int .i64 x3, .string x4, .string x5, .slice A x6.length c] 47)).heap.size = w.heap.size + 1 := by simp
  have hs2 : ((w.alloc (.cells #[.int .i64 x0, .int .i64 x1, .int .i64 x2, .int .i64 x3, .string x4, .string x5, .slice A x6.length c] 47)).alloc (.cells cs 70)).heap.size = w.heap.size + 2 := by simp
  have HS1 := Lib.hid hs1
  have HS2 := Lib.hid hs2
  clear hb1 hb2 hb3 hs1 hs2 hr hc hi0 hi1 hll hm hlt hli
  go_enter Try.func32, Try.ntmps32
  go_upto_region 2 with fail
  have HKS : Hid ((((w.alloc (.cells #[.int .i64 x0, .int .i64 x1, .int .i64 x2, .int .i64 x3, .string x4, .string x5, .slice A x6.length c] 47)).alloc (.cells cs 70)).alloc (.cells #[.int .i64 0, .int .i64 0, .int .i64 0, .int .i64 0, .string ⟨#[]⟩, .string ⟨#[]⟩, .slice none 0 0] 47)).heap[w.heap.size]? = some (.cells #[.int .i64 x0, .int .i64 x1, .int .i64 x2, .int .i64 x3, .string x4, .string x5, .slice A x6.length c] 47 (0, 0))) := Lib.hid (blk_below (blk_below (blk_new _ _) ((Below.refl _ _).alloc (Nat.le_refl _) _)) ((Below.refl _ _).alloc (Nat.le_refl _) _))
  have HKM : Hid ((((w.alloc (.cells #[.int .i64 x0, .int .i64 x1, .int .i64 x2, .int .i64 x3, .string x4, .string x5, .slice A x6.length c] 47)).alloc (.cells cs 70)).alloc (.cells #[.int .i64 0, .int .i64 0, .int .i64 0, .int .i64 0, .string ⟨#[]⟩, .string ⟨#[]⟩, .slice none 0 0] 47)).heap[w.heap.size + 1]? = some (.cells cs 70 (0, 0))) := Lib.hid (by rw [← HS1.out]; exact blk_below (blk_new _ _) ((Below.refl _ _).alloc (Nat.le_refl _) _))
  have HKR : Hid ((((w.alloc (.cells #[.int .i64 x0, .int .i64 x1, .int .i64 x2, .int .i64 x3, .string x4, .string x5, .slice A x6.length c] 47)).alloc (.cells cs 70)).alloc (.cells #[.int .i64 0, .int .i64 0, .int .i64 0, .int .i64 0, .string ⟨#[]⟩, .string ⟨#[]⟩, .slice none 0 0] 47)).heap[w.heap.size + 2]? = some (.cells #[.int .i64 0, .int .i64 0, .int .i64 0, .int .i64 0, .string ⟨#[]⟩, .string ⟨#[]⟩, .slice none 0 0] 47 (0, 0))) := Lib.hid (by rw [← HS2.out]; exact blk_new _ _)
  clear HS1 HS2
  generalize ((w.alloc (.cells #[.int .i64 x0, .int .i64 x1, .int .i64 x2, .int .i64 x3, .string x4, .string x5, .slice A x6.length c] 47)).alloc (.cells cs 70)).alloc (.cells #[.int .i64 0, .int .i64 0, .int .i64 0, .int .i64 0, .string ⟨#[]⟩, .string ⟨#[]⟩, .slice none 0 0] 47) = w3 at HKS HKM HKR HB ⊢
  have s0 : w3.cell? ⟨w.heap.size, 0, none⟩ = some (.int .i64 x0) := by rw [blk_cell HKS.out]; rfl
  have s1 : w3.cell? ⟨w.heap.size, 1, none⟩ = some (.int .i64 x1) := by rw [blk_cell HKS.out]; rfl
  have f0 := blk_frozen HKS.out 0
  have f1 := blk_frozen HKS.out 1
  have m21 : w3.cell? ⟨w.heap.size + 1, 21, none⟩ = some (.int .i64 tm) := by rw [blk_cell HKM.out]; exact HM.out.c21
  by_cases ht : x0 < tm
  · have htb : decide (x0 < tm) = true := decide_eq_true ht
    have HT1 : Hid (vT ⟨x0, x1, x2, x3, x4, x5, x6⟩ tm = tm) := Lib.hid (by unfold vT; rw [if_pos ht])
    have HV1 : Hid (vV ⟨x0, x1, x2, x3, x4, x5, x6⟩ tm = -1) := Lib.hid (by unfold vV; rw [if_pos ht])
    have HK1 : Hid (decide (x0 < tm) = true) := Lib.hid htb
    clear ht
    go_upto_region 6 with fail
    have HKSa : Hid (((w3.setCell ⟨w.heap.size, 0, none⟩ (.int .i64 tm)).setCell ⟨w.heap.size, 1, none⟩ (.int .i64 (-1))).heap[w.heap.size]? = some (.cells #[.int .i64 tm, .int .i64 (-1), .int .i64 x2, .int .i64 x3, .string x4, .string x5, .slice A x6.length c] 47 (0, 0))) := Lib.hid (blk_set (blk_set HKS.out 0 (.int .i64 tm)) 1 (.int .i64 (-1)))
    have hch := ((Chg.refl (fun k => k = w.heap.size) w3).setCell (p := ⟨w.heap.size, 0, none⟩) (.inl (by rfl)) (.int .i64 tm)).setCell (p := ⟨w.heap.size, 1, none⟩) (.inl (by rfl)) (.int .i64 (-1))
    have HKMa := Lib.hid (hch.get HKM.out (by show ¬ w.heap.size + 1 = w.heap.size; omega))
    have HKRa := Lib.hid (hch.get HKR.out (by show ¬ w.heap.size + 2 = w.heap.size; omega))
    have HBa : Hid (Below w.heap.size w ((w3.setCell ⟨w.heap.size, 0, none⟩ (.int .i64 tm)).setCell ⟨w.heap.size, 1, none⟩ (.int .i64 (-1)))) := Lib.hid (below_set (below_set HB.out (Nat.le_refl _)) (Nat.le_refl _))
    clear hch s0 s1 f0 f1 m21 HKS HKM HKR HB htb
    generalize (w3.setCell ⟨w.heap.size, 0, none⟩ (.int .i64 tm)).setCell ⟨w.heap.size, 1, none⟩ (.int .i64 (-1)) = wa at HKSa HKMa HKRa HBa ⊢
    obtain ⟨t1, ht1⟩ : ∃ t1, t1 = tm := ⟨_, rfl⟩
    obtain ⟨v1, hv1⟩ : ∃ v1 : Int, v1 = -1 := ⟨_, rfl⟩
    have HKSb : Hid (wa.heap[w.heap.size]? = some (.cells #[.int .i64 t1, .int .i64 v1, .int .i64 x2, .int .i64 x3, .string x4, .string x5, .slice A x6.length c] 47 (0, 0))) := Lib.hid (by rw [ht1, hv1]; exact HKSa.out)
    have HT2 : Hid (vT ⟨x0, x1, x2, x3, x4, x5, x6⟩ tm = t1) := Lib.hid (by rw [ht1]; exact HT1.out)
    have HV2 : Hid (vV ⟨x0, x1, x2, x3, x4, x5, x6⟩ tm = v1) := Lib.hid (by rw [hv1]; exact HV1.out)
    clear HKSa HT1 HV1 ht1 hv1
    have HKSa := HKSb
    have HT1 := HT2
    have HV1 := HV2
    clear HKSb HT2 HV2
    go_upto_region 7 with (first | (refine wpList_load_row rfl 47 (.tmp 2) rfl w.heap.size rfl 47 #[.int .i64 t1, .int .i64 v1, .int .i64 x2, .int .i64 x3, .string x4, .string x5, .slice A x6.length c] (0, 0) _ HKSa.out Try.underlying47 rfl inf47s ?_) | ((with_reducible refine (HLA.out _ HBa.out t1 v1).mono ?_); rintro e wl ⟨rfl, hb⟩; have HKSl := Lib.hid (blk_below HKSa.out hb); have HKMl := Lib.hid (blk_below HKMa.out hb); have HKRl := Lib.hid (blk_below HKRa.out hb); have HBl := Lib.hid (HBa.out.trans (hb.mono HBa.out.size)); clear hb))
    clear HKSa HKMa HKRa HBa HLA
    have s0 : wl.cell? ⟨w.heap.size, 0, none⟩ = some (.int .i64 t1) := by rw [blk_cell HKSl.out]; rfl
    have s1 : wl.cell? ⟨w.heap.size, 1, none⟩ = some (.int .i64 v1) := by rw [blk_cell HKSl.out]; rfl
    have f1 := blk_frozen HKSl.out 1
    have m21 : wl.cell? ⟨w.heap.size + 1, 21, none⟩ = some (.int .i64 tm) := by rw [blk_cell HKMl.out]; exact HM.out.c21
    have m1 : wl.cell? ⟨w.heap.size + 1, 1, none⟩ = some (.int .i64 fr) := by rw [blk_cell HKMl.out]; exact HM.out.c1
    have m23 : wl.cell? ⟨w.heap.size + 1, 23, none⟩ = some (.int .i64 ps) := by rw [blk_cell HKMl.out]; exact HM.out.c23
    have m22 : wl.cell? ⟨w.heap.size + 1, 22, none⟩ = some (.int .i64 ix) := by rw [blk_cell HKMl.out]; exact HM.out.c22
    obtain ⟨ok, hok⟩ : ∃ ok, ok = vOk ⟨x0, x1, x2, x3, x4, x5, x6⟩ fr tm ix ps := ⟨_, rfl⟩
    have HOK : Hid (ok = (((tm == t1) && (v1 == -1 || v1 == fr)) && (decide (lt < ps) || ((ps == lt) && decide (li ≤ ix))))) := Lib.hid (by rw [hok, HLT.out, HLI.out]; unfold vOk; rw [HT1.out, HV1.out])
    have HOQ := Lib.hid hok
    clear hok
    go_cut [10] (fun v wx => v = .bool ok ∧ Hid (wx = wl))
    case first =>
      by_cases q1 : tm = t1
      · have q1b : (tm == t1) = true := by simp [q1]
        have q1d : decide (tm = t1) = true := by simp [q1]
        have q1H := Lib.hid q1b
        clear q1
        by_cases q2 : v1 = -1
        · have q2b : (v1 == -1) = true := by simp [q2]
          have q2d : decide (v1 = -1) = true := by simp [q2]
          have q2H := Lib.hid q2b
          clear q2
          by_cases q4 : lt < ps
          · have q4b : (decide (lt < ps)) = true := by simp [q4]
            have q4d : decide (lt < ps) = true := by simp [q4]
            have q4H := Lib.hid q4b
            clear q4
            go_wp2_with fail
            go_meet
            exact ⟨congrArg Value.bool (by rw [HOK.out]; simp only [q1H.out, q2H.out, q4H.out]; (first | rfl | decide)), Lib.hid (by first | rfl | trivial)⟩
          · have q4b : (decide (lt < ps)) = false := by simp [q4]
            have q4d : decide (lt < ps) = false := by simp [q4]
            have q4H := Lib.hid q4b
            clear q4
            by_cases q5 : ps = lt
            · have q5b : (ps == lt) = true := by simp [q5]
              have q5d : decide (ps = lt) = true := by simp [q5]
              have q5H := Lib.hid q5b
              clear q5
              by_cases q6 : li ≤ ix
              · have q6b : (decide (li ≤ ix)) = true := by simp [q6]
                have q6d : decide (li ≤ ix) = true := by simp [q6]
                have q6H := Lib.hid q6b
                clear q6
                go_wp2_with fail
                go_meet
                exact ⟨congrArg Value.bool (by rw [HOK.out]; simp only [q1H.out, q2H.out, q4H.out, q5H.out, q6H.out]; (first | rfl | decide)), Lib.hid (by first | rfl | trivial)⟩
              · have q6b : (decide (li ≤ ix)) = false := by simp [q6]
                have q6d : decide (li ≤ ix) = false := by simp [q6]
                have q6H := Lib.hid q6b
                clear q6
                go_wp2_with fail
                go_meet
                exact ⟨congrArg Value.bool (by rw [HOK.out]; simp only [q1H.out, q2H.out, q4H.out, q5H.out, q6H.out]; (first | rfl | decide)), Lib.hid (by first | rfl | trivial)⟩
            · have q5b : (ps == lt) = false := by simp [q5]
              have q5d : decide (ps = lt) = false := by simp [q5]
              have q5H := Lib.hid q5b
              clear q5
              go_wp2_with fail
              go_meet
              exact ⟨congrArg Value.bool (by rw [HOK.out]; simp only [q1H.out, q2H.out, q4H.out, q5H.out]; (first | rfl | decide)), Lib.hid (by first | rfl | trivial)⟩
        · have q2b : (v1 == -1) = false := by simp [q2]
          have q2d : decide (v1 = -1) = false := by simp [q2]
          have q2H := Lib.hid q2b
          clear q2
          by_cases q3 : v1 = fr
          · have q3b : (v1 == fr) = true := by simp [q3]
            have q3d : decide (v1 = fr) = true := by simp [q3]
            have q3H := Lib.hid q3b
            clear q3
            by_cases q4 : lt < ps
            · have q4b : (decide (lt < ps)) = true := by simp [q4]
              have q4d : decide (lt < ps) = true := by simp [q4]
              have q4H := Lib.hid q4b
              clear q4
              go_wp2_with fail
              go_meet
              exact ⟨congrArg Value.bool (by rw [HOK.out]; simp only [q1H.out, q2H.out, q3H.out, q4H.out]; (first | rfl | decide)), Lib.hid (by first | rfl | trivial)⟩
            · have q4b : (decide (lt < ps)) = false := by simp [q4]
              have q4d : decide (lt < ps) = false := by simp [q4]
              have q4H := Lib.hid q4b
              clear q4
              by_cases q5 : ps = lt
              · have q5b : (ps == lt) = true := by simp [q5]
                have q5d : decide (ps = lt) = true := by simp [q5]
                have q5H := Lib.hid q5b
                clear q5
                by_cases q6 : li ≤ ix
                · have q6b : (decide (li ≤ ix)) = true := by simp [q6]
                  have q6d : decide (li ≤ ix) = true := by simp [q6]
                  have q6H := Lib.hid q6b
                  clear q6
                  go_wp2_with fail
                  go_meet
                  exact ⟨congrArg Value.bool (by rw [HOK.out]; simp only [q1H.out, q2H.out, q3H.out, q4H.out, q5H.out, q6H.out]; (first | rfl | decide)), Lib.hid (by first | rfl | trivial)⟩
                · have q6b : (decide (li ≤ ix)) = false := by simp [q6]
                  have q6d : decide (li ≤ ix) = false := by simp [q6]
                  have q6H := Lib.hid q6b
                  clear q6
                  go_wp2_with fail
                  go_meet
                  exact ⟨congrArg Value.bool (by rw [HOK.out]; simp only [q1H.out, q2H.out, q3H.out, q4H.out, q5H.out, q6H.out]; (first | rfl | decide)), Lib.hid (by first | rfl | trivial)⟩
              · have q5b : (ps == lt) = false := by simp [q5]
                have q5d : decide (ps = lt) = false := by simp [q5]
                have q5H := Lib.hid q5b
                clear q5
                go_wp2_with fail
                go_meet
                exact ⟨congrArg Value.bool (by rw [HOK.out]; simp only [q1H.out, q2H.out, q3H.out, q4H.out, q5H.out]; (first | rfl | decide)), Lib.hid (by first | rfl | trivial)⟩
          · have q3b : (v1 == fr) = false := by simp [q3]
            have q3d : decide (v1 = fr) = false := by simp [q3]
            have q3H := Lib.hid q3b
            clear q3
            go_wp2_with fail
            go_meet
            exact ⟨congrArg Value.bool (by rw [HOK.out]; simp only [q1H.out, q2H.out, q3H.out]; (first | rfl | decide)), Lib.hid (by first | rfl | trivial)⟩
      · have q1b : (tm == t1) = false := by simp [q1]
        have q1d : decide (tm = t1) = false := by simp [q1]
        have q1H := Lib.hid q1b
        clear q1
        go_wp2_with fail
        go_meet
        exact ⟨congrArg Value.bool (by rw [HOK.out]; simp only [q1H.out]; (first | rfl | decide)), Lib.hid (by first | rfl | trivial)⟩
    case rest =>
    obtain ⟨rfl, HWC⟩ := hcut
    obtain rfl := HWC.out
    clear HWC HOK
    cases ok
    case false =>
      have HKSe := HKSl
      have HKRe := HKRl
      have HBe := HBl
      go_wp2_with (first | (refine wpList_load_row rfl 47 (.tmp 2) rfl w.heap.size rfl 47 #[.int .i64 t1, .int .i64 v1, .int .i64 x2, .int .i64 x3, .string x4, .string x5, .slice A x6.length c] (0, 0) _ HKSe.out Try.underlying47 rfl inf47s ?_) | (refine wpList_store_row rfl 47 (.tmp 4) (.tmp 71) rfl (w.heap.size + 2) #[.int .i64 t1, .int .i64 v1, .int .i64 x2, .int .i64 x3, .string x4, .string x5, .slice A x6.length c] rfl rfl 47 _ HKRe.out inf47s rfl (by simp [Value.oneCell']) ?_))
      (try simp only [Exit.inBlock, Exit.then])
      refine bodyPost_ret (results_ctt rfl _ _ (w.heap.size + 2) 47 _ (0, 0) _ rfl (setRow_heap _ _ _ _ _ _ HKRe.out) Try.underlying47 rfl inf47s) rfl ?_
      refine ⟨?_, below_row HBe.out (Nat.le_add_right _ _)⟩
      have e0 : vKeep ⟨x0, x1, x2, x3, x4, x5, x6⟩ fr tm ix ps = (true || (false && (v1 != fr))) := by unfold vKeep; rw [HV1.out, ← HOQ.out]; dsimp only; rw [HK1.out]
      obtain ⟨g1, g2, g3, g4⟩ := HG.out
      rw [← g1, ← g2, ← g3, ← g4, e0, HT1.out, ← HOQ.out]
      rw [if_neg (by decide), HV1.out]
      rfl
    case true =>
      by_cases hv : v1 = fr
      · have hvb : (v1 != fr) = false := by simp [hv]
        have hvd : (v1 == fr) = true := by simp [hv]
        have HV := Lib.hid hv
        have HVB := Lib.hid hvb
        clear hv
        have HKSe := HKSl
        have HKRe := HKRl
        have HBe := HBl
        go_wp2_with (first | (refine wpList_load_row rfl 47 (.tmp 2) rfl w.heap.size rfl 47 #[.int .i64 t1, .int .i64 v1, .int .i64 x2, .int .i64 x3, .string x4, .string x5, .slice A x6.length c] (0, 0) _ HKSe.out Try.underlying47 rfl inf47s ?_) | (refine wpList_store_row rfl 47 (.tmp 4) (.tmp 71) rfl (w.heap.size + 2) #[.int .i64 t1, .int .i64 v1, .int .i64 x2, .int .i64 x3, .string x4, .string x5, .slice A x6.length c] rfl rfl 47 _ HKRe.out inf47s rfl (by simp [Value.oneCell']) ?_))
        (try simp only [Exit.inBlock, Exit.then])
        refine bodyPost_ret (results_ctt rfl _ _ (w.heap.size + 2) 47 _ (0, 0) _ rfl (setRow_heap _ _ _ _ _ _ HKRe.out) Try.underlying47 rfl inf47s) rfl ?_
        refine ⟨?_, below_row HBe.out (Nat.le_add_right _ _)⟩
        have e0 : vKeep ⟨x0, x1, x2, x3, x4, x5, x6⟩ fr tm ix ps = (true || (true && false)) := by unfold vKeep; rw [HV1.out, ← HOQ.out]; dsimp only; rw [HK1.out]; rw [HVB.out]
        obtain ⟨g1, g2, g3, g4⟩ := HG.out
        rw [← g1, ← g2, ← g3, ← g4, e0, HT1.out, ← HOQ.out]
        rw [if_pos rfl]
        (try rw [HV.out])
        rfl
      · have hvb : (v1 != fr) = true := by simp [hv]
        have hvd : (v1 == fr) = false := by simp [hv]
        have HV := Lib.hid hv
        have HVB := Lib.hid hvb
        clear hv
        have HKSe := Lib.hid (blk_set HKSl.out 1 (.int .i64 fr))
        have HKRe : Hid ((wc.setCell ⟨w.heap.size, 1, none⟩ (.int .i64 fr)).heap[w.heap.size + 2]? = some (.cells #[.int .i64 0, .int .i64 0, .int .i64 0, .int .i64 0, .string ⟨#[]⟩, .string ⟨#[]⟩, .slice none 0 0] 47 (0, 0))) := Lib.hid (((Chg.refl (fun k => k = w.heap.size) wc).setCell (p := ⟨w.heap.size, 1, none⟩) (.inl (by rfl)) (.int .i64 fr)).get HKRl.out (by show ¬ w.heap.size + 2 = w.heap.size; omega))
        have HBe : Hid (Below w.heap.size w (wc.setCell ⟨w.heap.size, 1, none⟩ (.int .i64 fr))) := Lib.hid (below_set HBl.out (Nat.le_refl _))
        go_wp2_with (first | (refine wpList_load_row rfl 47 (.tmp 2) rfl w.heap.size rfl 47 #[.int .i64 t1, .int .i64 fr, .int .i64 x2, .int .i64 x3, .string x4, .string x5, .slice A x6.length c] (0, 0) _ HKSe.out Try.underlying47 rfl inf47s ?_) | (refine wpList_store_row rfl 47 (.tmp 4) (.tmp 71) rfl (w.heap.size + 2) #[.int .i64 t1, .int .i64 fr, .int .i64 x2, .int .i64 x3, .string x4, .string x5, .slice A x6.length c] rfl rfl 47 _ HKRe.out inf47s rfl (by simp [Value.oneCell']) ?_))
        (try simp only [Exit.inBlock, Exit.then])
        refine bodyPost_ret (results_ctt rfl _ _ (w.heap.size + 2) 47 _ (0, 0) _ rfl (setRow_heap _ _ _ _ _ _ HKRe.out) Try.underlying47 rfl inf47s) rfl ?_
        refine ⟨?_, below_row HBe.out (Nat.le_add_right _ _)⟩
        have e0 : vKeep ⟨x0, x1, x2, x3, x4, x5, x6⟩ fr tm ix ps = (true || (true && true)) := by unfold vKeep; rw [HV1.out, ← HOQ.out]; dsimp only; rw [HK1.out]; rw [HVB.out]
        obtain ⟨g1, g2, g3, g4⟩ := HG.out
        rw [← g1, ← g2, ← g3, ← g4, e0, HT1.out, ← HOQ.out]
        rw [if_pos rfl]
        rfl
  · have htb : decide (x0 < tm) = false := decide_eq_false ht
    have HT1 : Hid (vT ⟨x0, x1, x2, x3, x4, x5, x6⟩ tm = x0) := Lib.hid (by unfold vT; rw [if_neg ht])
    have HV1 : Hid (vV ⟨x0, x1, x2, x3, x4, x5, x6⟩ tm = x1) := Lib.hid (by unfold vV; rw [if_neg ht])
    have HK1 : Hid (decide (x0 < tm) = false) := Lib.hid htb
    clear ht
    go_upto_region 6 with fail
    have HKSa := HKS
    have HKMa := HKM
    have HKRa := HKR
    have HBa := HB
    clear s0 s1 f0 f1 m21 HKS HKM HKR HB htb
    obtain ⟨t1, ht1⟩ : ∃ t1, t1 = x0 := ⟨_, rfl⟩
    obtain ⟨v1, hv1⟩ : ∃ v1 : Int, v1 = x1 := ⟨_, rfl⟩
    rw [← ht1, ← hv1] at HKSa
    have HT2 : Hid (vT ⟨x0, x1, x2, x3, x4, x5, x6⟩ tm = t1) := Lib.hid (by rw [ht1]; exact HT1.out)
    have HV2 : Hid (vV ⟨x0, x1, x2, x3, x4, x5, x6⟩ tm = v1) := Lib.hid (by rw [hv1]; exact HV1.out)
    clear HT1 HV1 ht1 hv1
    have HT1 := HT2
    have HV1 := HV2
    clear HT2 HV2
    go_upto_region 7 with (first | (refine wpList_load_row rfl 47 (.tmp 2) rfl w.heap.size rfl 47 #[.int .i64 t1, .int .i64 v1, .int .i64 x2, .int .i64 x3, .string x4, .string x5, .slice A x6.length c] (0, 0) _ HKSa.out Try.underlying47 rfl inf47s ?_) | ((with_reducible refine (HLA.out _ HBa.out t1 v1).mono ?_); rintro e wl ⟨rfl, hb⟩; have HKSl := Lib.hid (blk_below HKSa.out hb); have HKMl := Lib.hid (blk_below HKMa.out hb); have HKRl := Lib.hid (blk_below HKRa.out hb); have HBl := Lib.hid (HBa.out.trans (hb.mono HBa.out.size)); clear hb))
    clear HKSa HKMa HKRa HBa HLA
    have s0 : wl.cell? ⟨w.heap.size, 0, none⟩ = some (.int .i64 t1) := by rw [blk_cell HKSl.out]; rfl
    have s1 : wl.cell? ⟨w.heap.size, 1, none⟩ = some (.int .i64 v1) := by rw [blk_cell HKSl.out]; rfl
    have f1 := blk_frozen HKSl.out 1
    have m21 : wl.cell? ⟨w.heap.size + 1, 21, none⟩ = some (.int .i64 tm) := by rw [blk_cell HKMl.out]; exact HM.out.c21
    have m1 : wl.cell? ⟨w.heap.size + 1, 1, none⟩ = some (.int .i64 fr) := by rw [blk_cell HKMl.out]; exact HM.out.c1
    have m23 : wl.cell? ⟨w.heap.size + 1, 23, none⟩ = some (.int .i64 ps) := by rw [blk_cell HKMl.out]; exact HM.out.c23
    have m22 : wl.cell? ⟨w.heap.size + 1, 22, none⟩ = some (.int .i64 ix) := by rw [blk_cell HKMl.out]; exact HM.out.c22
    obtain ⟨ok, hok⟩ : ∃ ok, ok = vOk ⟨x0, x1, x2, x3, x4, x5, x6⟩ fr tm ix ps := ⟨_, rfl⟩
    have HOK : Hid (ok = (((tm == t1) && (v1 == -1 || v1 == fr)) && (decide (lt < ps) || ((ps == lt) && decide (li ≤ ix))))) := Lib.hid (by rw [hok, HLT.out, HLI.out]; unfold vOk; rw [HT1.out, HV1.out])
    have HOQ := Lib.hid hok
    clear hok
    go_cut [10] (fun v wx => v = .bool ok ∧ Hid (wx = wl))
    case first =>
      by_cases q1 : tm = t1
      · have q1b : (tm == t1) = true := by simp [q1]
        have q1d : decide (tm = t1) = true := by simp [q1]
        have q1H := Lib.hid q1b
        clear q1
        by_cases q2 : v1 = -1
        · have q2b : (v1 == -1) = true := by simp [q2]
          have q2d : decide (v1 = -1) = true := by simp [q2]
          have q2H := Lib.hid q2b
          clear q2
          by_cases q4 : lt < ps
          · have q4b : (decide (lt < ps)) = true := by simp [q4]
            have q4d : decide (lt < ps) = true := by simp [q4]
            have q4H := Lib.hid q4b
            clear q4
            go_wp2_with fail
            go_meet
            exact ⟨congrArg Value.bool (by rw [HOK.out]; simp only [q1H.out, q2H.out, q4H.out]; (first | rfl | decide)), Lib.hid (by first | rfl | trivial)⟩
          · have q4b : (decide (lt < ps)) = false := by simp [q4]
            have q4d : decide (lt < ps) = false := by simp [q4]
            have q4H := Lib.hid q4b
            clear q4
            by_cases q5 : ps = lt
            · have q5b : (ps == lt) = true := by simp [q5]
              have q5d : decide (ps = lt) = true := by simp [q5]
              have q5H := Lib.hid q5b
              clear q5
              by_cases q6 : li ≤ ix
              · have q6b : (decide (li ≤ ix)) = true := by simp [q6]
                have q6d : decide (li ≤ ix) = true := by simp [q6]
                have q6H := Lib.hid q6b
                clear q6
                go_wp2_with fail
                go_meet
                exact ⟨congrArg Value.bool (by rw [HOK.out]; simp only [q1H.out, q2H.out, q4H.out, q5H.out, q6H.out]; (first | rfl | decide)), Lib.hid (by first | rfl | trivial)⟩
              · have q6b : (decide (li ≤ ix)) = false := by simp [q6]
                have q6d : decide (li ≤ ix) = false := by simp [q6]
                have q6H := Lib.hid q6b
                clear q6
                go_wp2_with fail
                go_meet
                exact ⟨congrArg Value.bool (by rw [HOK.out]; simp only [q1H.out, q2H.out, q4H.out, q5H.out, q6H.out]; (first | rfl | decide)), Lib.hid (by first | rfl | trivial)⟩
            · have q5b : (ps == lt) = false := by simp [q5]
              have q5d : decide (ps = lt) = false := by simp [q5]
              have q5H := Lib.hid q5b
              clear q5
              go_wp2_with fail
              go_meet
              exact ⟨congrArg Value.bool (by rw [HOK.out]; simp only [q1H.out, q2H.out, q4H.out, q5H.out]; (first | rfl | decide)), Lib.hid (by first | rfl | trivial)⟩
        · have q2b : (v1 == -1) = false := by simp [q2]
          have q2d : decide (v1 = -1) = false := by simp [q2]
          have q2H := Lib.hid q2b
          clear q2
          by_cases q3 : v1 = fr
          · have q3b : (v1 == fr) = true := by simp [q3]
            have q3d : decide (v1 = fr) = true := by simp [q3]
            have q3H := Lib.hid q3b
            clear q3
            by_cases q4 : lt < ps
            · have q4b : (decide (lt < ps)) = true := by simp [q4]
              have q4d : decide (lt < ps) = true := by simp [q4]
              have q4H := Lib.hid q4b
              clear q4
              go_wp2_with fail
              go_meet
              exact ⟨congrArg Value.bool (by rw [HOK.out]; simp only [q1H.out, q2H.out, q3H.out, q4H.out]; (first | rfl | decide)), Lib.hid (by first | rfl | trivial)⟩
            · have q4b : (decide (lt < ps)) = false := by simp [q4]
              have q4d : decide (lt < ps) = false := by simp [q4]
              have q4H := Lib.hid q4b
              clear q4
              by_cases q5 : ps = lt
              · have q5b : (ps == lt) = true := by simp [q5]
                have q5d : decide (ps = lt) = true := by simp [q5]
                have q5H := Lib.hid q5b
                clear q5
                by_cases q6 : li ≤ ix
                · have q6b : (decide (li ≤ ix)) = true := by simp [q6]
                  have q6d : decide (li ≤ ix) = true := by simp [q6]
                  have q6H := Lib.hid q6b
                  clear q6
                  go_wp2_with fail
                  go_meet
                  exact ⟨congrArg Value.bool (by rw [HOK.out]; simp only [q1H.out, q2H.out, q3H.out, q4H.out, q5H.out, q6H.out]; (first | rfl | decide)), Lib.hid (by first | rfl | trivial)⟩
                · have q6b : (decide (li ≤ ix)) = false := by simp [q6]
                  have q6d : decide (li ≤ ix) = false := by simp [q6]
                  have q6H := Lib.hid q6b
                  clear q6
                  go_wp2_with fail
                  go_meet
                  exact ⟨congrArg Value.bool (by rw [HOK.out]; simp only [q1H.out, q2H.out, q3H.out, q4H.out, q5H.out, q6H.out]; (first | rfl | decide)), Lib.hid (by first | rfl | trivial)⟩
              · have q5b : (ps == lt) = false := by simp [q5]
                have q5d : decide (ps = lt) = false := by simp [q5]
                have q5H := Lib.hid q5b
                clear q5
                go_wp2_with fail
                go_meet
                exact ⟨congrArg Value.bool (by rw [HOK.out]; simp only [q1H.out, q2H.out, q3H.out, q4H.out, q5H.out]; (first | rfl | decide)), Lib.hid (by first | rfl | trivial)⟩
          · have q3b : (v1 == fr) = false := by simp [q3]
            have q3d : decide (v1 = fr) = false := by simp [q3]
            have q3H := Lib.hid q3b
            clear q3
            go_wp2_with fail
            go_meet
            exact ⟨congrArg Value.bool (by rw [HOK.out]; simp only [q1H.out, q2H.out, q3H.out]; (first | rfl | decide)), Lib.hid (by first | rfl | trivial)⟩
      · have q1b : (tm == t1) = false := by simp [q1]
        have q1d : decide (tm = t1) = false := by simp [q1]
        have q1H := Lib.hid q1b
        clear q1
        go_wp2_with fail
        go_meet
        exact ⟨congrArg Value.bool (by rw [HOK.out]; simp only [q1H.out]; (first | rfl | decide)), Lib.hid (by first | rfl | trivial)⟩
    case rest =>
    obtain ⟨rfl, HWC⟩ := hcut
    obtain rfl := HWC.out
    clear HWC HOK
    cases ok
    case false =>
      have HKSe := HKSl
      have HKRe := HKRl
      have HBe := HBl
      go_wp2_with (first | (refine wpList_load_row rfl 47 (.tmp 2) rfl w.heap.size rfl 47 #[.int .i64 t1, .int .i64 v1, .int .i64 x2, .int .i64 x3, .string x4, .string x5, .slice A x6.length c] (0, 0) _ HKSe.out Try.underlying47 rfl inf47s ?_) | (refine wpList_store_row rfl 47 (.tmp 4) (.tmp 71) rfl (w.heap.size + 2) #[.int .i64 t1, .int .i64 v1, .int .i64 x2, .int .i64 x3, .string x4, .string x5, .slice A x6.length c] rfl rfl 47 _ HKRe.out inf47s rfl (by simp [Value.oneCell']) ?_))
      (try simp only [Exit.inBlock, Exit.then])
      refine bodyPost_ret (results_ctt rfl _ _ (w.heap.size + 2) 47 _ (0, 0) _ rfl (setRow_heap _ _ _ _ _ _ HKRe.out) Try.underlying47 rfl inf47s) rfl ?_
      refine ⟨?_, below_row HBe.out (Nat.le_add_right _ _)⟩
      have e0 : vKeep ⟨x0, x1, x2, x3, x4, x5, x6⟩ fr tm ix ps = (false || (false && (v1 != fr))) := by unfold vKeep; rw [HV1.out, ← HOQ.out]; dsimp only; rw [HK1.out]
      obtain ⟨g1, g2, g3, g4⟩ := HG.out
      rw [← g1, ← g2, ← g3, ← g4, e0, HT1.out, ← HOQ.out]
      rw [if_neg (by decide), HV1.out]
      rfl
    case true =>
      by_cases hv : v1 = fr
      · have hvb : (v1 != fr) = false := by simp [hv]
        have hvd : (v1 == fr) = true := by simp [hv]
        have HV := Lib.hid hv
        have HVB := Lib.hid hvb
        clear hv
        have HKSe := HKSl
        have HKRe := HKRl
        have HBe := HBl
        go_wp2_with (first | (refine wpList_load_row rfl 47 (.tmp 2) rfl w.heap.size rfl 47 #[.int .i64 t1, .int .i64 v1, .int .i64 x2, .int .i64 x3, .string x4, .string x5, .slice A x6.length c] (0, 0) _ HKSe.out Try.underlying47 rfl inf47s ?_) | (refine wpList_store_row rfl 47 (.tmp 4) (.tmp 71) rfl (w.heap.size + 2) #[.int .i64 t1, .int .i64 v1, .int .i64 x2, .int .i64 x3, .string x4, .string x5, .slice A x6.length c] rfl rfl 47 _ HKRe.out inf47s rfl (by simp [Value.oneCell']) ?_))
        (try simp only [Exit.inBlock, Exit.then])
        refine bodyPost_ret (results_ctt rfl _ _ (w.heap.size + 2) 47 _ (0, 0) _ rfl (setRow_heap _ _ _ _ _ _ HKRe.out) Try.underlying47 rfl inf47s) rfl ?_
        refine ⟨?_, below_row HBe.out (Nat.le_add_right _ _)⟩
        have e0 : vKeep ⟨x0, x1, x2, x3, x4, x5, x6⟩ fr tm ix ps = (false || (true && false)) := by unfold vKeep; rw [HV1.out, ← HOQ.out]; dsimp only; rw [HK1.out]; rw [HVB.out]
        obtain ⟨g1, g2, g3, g4⟩ := HG.out
        rw [← g1, ← g2, ← g3, ← g4, e0, HT1.out, ← HOQ.out]
        rw [if_pos rfl]
        (try rw [HV.out])
        rfl
      · have hvb : (v1 != fr) = true := by simp [hv]
        have hvd : (v1 == fr) = false := by simp [hv]
        have HV := Lib.hid hv
        have HVB := Lib.hid hvb
        clear hv
        have HKSe := Lib.hid (blk_set HKSl.out 1 (.int .i64 fr))
        have HKRe : Hid ((wc.setCell ⟨w.heap.size, 1, none⟩ (.int .i64 fr)).heap[w.heap.size + 2]? = some (.cells #[.int .i64 0, .int .i64 0, .int .i64 0, .int .i64 0, .string ⟨#[]⟩, .string ⟨#[]⟩, .slice none 0 0] 47 (0, 0))) := Lib.hid (((Chg.refl (fun k => k = w.heap.size) wc).setCell (p := ⟨w.heap.size, 1, none⟩) (.inl (by rfl)) (.int .i64 fr)).get HKRl.out (by show ¬ w.heap.size + 2 = w.heap.size; omega))
        have HBe : Hid (Below w.heap.size w (wc.setCell ⟨w.heap.size, 1, none⟩ (.int .i64 fr))) := Lib.hid (below_set HBl.out (Nat.le_refl _))
        go_wp2_with (first | (refine wpList_load_row rfl 47 (.tmp 2) rfl w.heap.size rfl 47 #[.int .i64 t1, .int .i64 fr, .int .i64 x2, .int .i64 x3, .string x4, .string x5, .slice A x6.length c] (0, 0) _ HKSe.out Try.underlying47 rfl inf47s ?_) | (refine wpList_store_row rfl 47 (.tmp 4) (.tmp 71) rfl (w.heap.size + 2) #[.int .i64 t1, .int .i64 fr, .int .i64 x2, .int .i64 x3, .string x4, .string x5, .slice A x6.length c] rfl rfl 47 _ HKRe.out inf47s rfl (by simp [Value.oneCell']) ?_))
        (try simp only [Exit.inBlock, Exit.then])
        refine bodyPost_ret (results_ctt rfl _ _ (w.heap.size + 2) 47 _ (0, 0) _ rfl (setRow_heap _ _ _ _ _ _ HKRe.out) Try.underlying47 rfl inf47s) rfl ?_
        refine ⟨?_, below_row HBe.out (Nat.le_add_right _ _)⟩
        have e0 : vKeep ⟨x0, x1, x2, x3, x4, x5, x6⟩ fr tm ix ps = (false || (true && true)) := by unfold vKeep; rw [HV1.out, ← HOQ.out]; dsimp only; rw [HK1.out]; rw [HVB.out]
        obtain ⟨g1, g2, g3, g4⟩ := HG.out
        rw [← g1, ← g2, ← g3, ← g4, e0, HT1.out, ← HOQ.out]
        rw [if_pos rfl]
        rfl

end Go.Proofs.Ytfanbhbpmhojaaa
