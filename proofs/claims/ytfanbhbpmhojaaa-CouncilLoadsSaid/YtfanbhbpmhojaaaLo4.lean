/- The reference's Read: the state of which bytes are the code. Conditions: bytes are bytes, and not too many. -/
import Derived.Test.YtfanbhbpmhojaaaMayV
import Derived.Test.YtfanbhbpmhojaaaRdR
namespace Go.Proofs.Ytfanbhbpmhojaaa
open Go.RowKit Go.Proofs.YtfanbhbpmhojaaaW.PrintWords Go.Proofs.YtfanbhbpmhojaaaW.PrintLast Go.Proofs.YtfanbhbpmhojaaaW.PrintMore PRef
attribute [local go_sem] max2_int min2_int max_two min_two
set_option linter.unusedVariables false
set_option linter.unusedSimpArgs false

theorem row_setRow {w : World} {A : Option Addr} {l : List S39} {b : Nat} {cs : Array Value} (h : Kd.C k39 w A l.length l) (hf : ∀ ad, A = some ad → ad.block ≠ b) : Kd.C k39 (w.setRow b cs) A l.length l := row_chg h hf (chg_setRow w b cs)
theorem sta_size (xs : List Int) (s : Option Nat) : (staR xs s).1.vot.size ≤ xs.length ∧ ∀ y ∈ (staR xs s).1.log, y.f2.size ≤ xs.length := ⟨textS_size xs _, getR_size xs _⟩
theorem ret_sta {fn : Func} {p q : Tmp} (h : fn.results = #[.cell p 47, .tmp q]) (tmps : Array Value) (w : World) (g : Nat) (t : TypeId) (cs : Array Value)
    (hp : tmps.getD p undef = .pointer (some ⟨g, 0, none⟩)) (hg : w.heap[g]? = some (.cells cs t (0, 0))) (hi : (Try.prog.info? 47).map (·.size) = some cs.size) :
    (results fn tmps).run Try.prog w = .ok (.tuple #[.agg cs, tmps.getD q undef]) w := by
  rw [results_cell_tmp h, hp]
  simp [asAddr, Result.andThen, run_loadVar_row w g t 47 cs (0, 0) _ hg Try.underlying47 rfl hi]
def staV (x : Sta) (A : Option Addr) (c : Nat) : Array Value := #[.int .i64 x.term, .int .i64 x.vote, .int .i64 x.idx, .int .i64 x.past, .string x.vot, .string x.text, .slice A x.log.length c]
def ReadP (xs : List Int) (w : World) (e : Ending) (w' : World) : Prop :=
  Below w.heap.size w w' ∧ ∃ x A c b, e = .returned (.tuple #[.agg (staV x A c), .bool b]) ∧ (b = true ↔ (staR xs (some 0)).2 = some xs.length ∧ mayS (staR xs (some 0)).1) ∧
    (b = true → x = (staR xs (some 0)).1 ∧ InE w' A c x.log)
theorem readP_bad {xs : List Int} {w w' : World} {x : Sta} {A : Option Addr} {c : Nat} (h : (staR xs (some 0)).2 ≠ some xs.length) (hb : Below w.heap.size w w') : ReadP xs w (.returned (.tuple #[.agg (staV x A c), .bool false])) w' :=
  ⟨hb, x, A, c, false, rfl, ⟨fun hh => (by cases hh), fun hh => absurd hh.1 h⟩, fun hh => (by cases hh)⟩
theorem readP_bad0 {xs : List Int} {w w' : World} (h : (staR xs (some 0)).2 ≠ some xs.length) (hb : Below w.heap.size w w') : ReadP xs w (.returned (.tuple #[.agg #[.int .i64 0, .int .i64 0, .int .i64 0, .int .i64 0, .string ⟨#[]⟩, .string ⟨#[]⟩, .slice none 0 0], .bool false])) w' := readP_bad (x := ⟨0, 0, 0, 0, ⟨#[]⟩, ⟨#[]⟩, []⟩) (A := none) (c := 0) h hb

set_option maxRecDepth 100000 in
set_option maxHeartbeats 4000000 in
theorem ref_read_calls (A : Option Addr) (c : Nat) (xs : List Int) (w : World) (hr : ReadsInt w .u8 A xs.length xs) (hc : xs.length ≤ c) (hb : IsBytes xs) (hl : xs.length ≤ 60000) :
    Calls Try.prog 19 #[.slice A xs.length c] w fun e w' => ReadP xs w e w' := by
  have HR := Lib.hid hr
  have HC := Lib.hid hc
  have HIB := Lib.hid hb
  have HT := Lib.hid (two_new w #[.int .i64 0, .int .i64 0, .int .i64 0, .int .i64 0, .string ⟨#[]⟩, .string ⟨#[]⟩, .slice none 0 0] #[.slice A xs.length c, .bool false] 47 112)
  have hs2 : ((w.alloc (.cells #[.int .i64 0, .int .i64 0, .int .i64 0, .int .i64 0, .string ⟨#[]⟩, .string ⟨#[]⟩, .slice none 0 0] 47)).alloc (.cells #[.slice A xs.length c, .bool false] 112)).heap.size = w.heap.size + 2 := by simp
  clear hr hc hb
  go_enter Try.func19, Try.ntmps19
  go_upto_region 2 with fail
  generalize (w.alloc (.cells #[.int .i64 0, .int .i64 0, .int .i64 0, .int .i64 0, .string ⟨#[]⟩, .string ⟨#[]⟩, .slice none 0 0] 47)).alloc (.cells #[.slice A xs.length c, .bool false] 112) = w2 at HT hs2 ⊢
  have HG2 : Hid (Rg w w2 (w.heap.size + 1) xs (some 0)) := Lib.hid ⟨⟨⟨A, c, HT.out.2.2, HR.out, HC.out⟩, Nat.le_succ _, HT.out.1, HIB.out⟩, Nat.zero_le _⟩
  have HK2 := Lib.hid HT.out.2.1
  clear HT
  go_wp2_with fail
  ((with_reducible refine (rgint_calls HG2.out).mono ?_); rintro e wa ⟨v1, s1, rfl, HS1, hg, hc⟩; have HGa := Lib.hid hg; have HKa := Lib.hid (hc.get HK2.out (by omega)); have hza := hc.size; clear hg hc HG2 HK2)
  go_wp2_with fail
  ((with_reducible refine (rgint_calls HGa.out).mono ?_); rintro e wb ⟨v2, s2, rfl, HS2, hg, hc⟩; have HGb := Lib.hid hg; have HKb := Lib.hid (hc.get HKa.out (by omega)); have hzb := hc.size; clear hg hc HGa HKa)
  go_wp2_with fail
  ((with_reducible refine (rgint_calls HGb.out).mono ?_); rintro e wc ⟨v3, s3, rfl, HS3, hg, hc⟩; have HGc := Lib.hid hg; have HKc := Lib.hid (hc.get HKb.out (by omega)); have hzc := hc.size; clear hg hc HGb HKb)
  go_wp2_with fail
  ((with_reducible refine (rgint_calls HGc.out).mono ?_); rintro e wd ⟨v4, s4, rfl, HS4, hg, hc⟩; have HGd := Lib.hid hg; have HKd := Lib.hid (hc.get HKc.out (by omega)); have hzd := hc.size; clear hg hc HGc HKc)
  go_upto_region 3 with fail
  have hk := blk_new wd (.cells #[.int .i64 v1, .int .i64 v2, .int .i64 v3, .int .i64 v4, .string ⟨#[]⟩, .string ⟨#[]⟩, .slice none 0 0] 47)
  have hbx := (Below.refl wd.heap.size wd).alloc (Nat.le_refl _) (.cells #[.int .i64 v1, .int .i64 v2, .int .i64 v3, .int .i64 v4, .string ⟨#[]⟩, .string ⟨#[]⟩, .slice none 0 0] 47)
  have HG3 := Lib.hid (HGd.out.below hbx)
  have HK3 := Lib.hid (blk_below HKd.out hbx)
  have H53 := Lib.hid hk
  have hz3 : wd.heap.size < (wd.alloc (.cells #[.int .i64 v1, .int .i64 v2, .int .i64 v3, .int .i64 v4, .string ⟨#[]⟩, .string ⟨#[]⟩, .slice none 0 0] 47)).heap.size := by simp
  clear hk hbx
  generalize wd.alloc (.cells #[.int .i64 v1, .int .i64 v2, .int .i64 v3, .int .i64 v4, .string ⟨#[]⟩, .string ⟨#[]⟩, .slice none 0 0] 47) = w3 at HG3 HK3 H53 hz3 ⊢
  have HB5 : Hid (w.heap.size + 2 ≤ wd.heap.size) := Lib.hid (by omega)
  clear hza hzb hzc hzd HGd HKd
  go_wp2_with fail
  ((with_reducible refine (rgtext_calls HG3.out).mono ?_); rintro e we ⟨vo, s5, rfl, HS5, hg, hc⟩; have HGe := Lib.hid hg; have HKe := Lib.hid (hc.get HK3.out (by omega)); have H5e := Lib.hid (hc.get H53.out (by have := HB5.out; omega)); have hze := hc.size; clear hg hc HG3 HK3 H53)
  have z4 : we.cell? ⟨wd.heap.size, 4, none⟩ = some (.string ⟨#[]⟩) := by rw [blk_cell H5e.out]; rfl
  have f4 := blk_frozen H5e.out 4
  go_upto_region 4 with fail
  have hch : Chg (fun k => k = wd.heap.size) we (we.setCell ⟨wd.heap.size, 4, none⟩ (.string vo)) := (Chg.refl (fun k => k = wd.heap.size) we).setCell (p := ⟨wd.heap.size, 4, none⟩) (.inl (by rfl)) _
  have HGf := Lib.hid (HGe.out.move hch (by have := HB5.out; omega) (fun k hk => by have := HB5.out; omega))
  have HKf := Lib.hid (hch.get HKe.out (by have := HB5.out; omega))
  have H5f : Hid ((we.setCell ⟨wd.heap.size, 4, none⟩ (.string vo)).heap[wd.heap.size]? = some (.cells #[.int .i64 v1, .int .i64 v2, .int .i64 v3, .int .i64 v4, .string vo, .string ⟨#[]⟩, .slice none 0 0] 47 (0, 0))) := Lib.hid (blk_set H5e.out 4 (.string vo))
  have hzf := hch.size
  clear hch z4 f4 HGe HKe H5e
  generalize we.setCell ⟨wd.heap.size, 4, none⟩ (.string vo) = wf at HGf HKf H5f hzf ⊢
  go_wp2_with fail
  ((with_reducible refine (rgtext_calls HGf.out).mono ?_); rintro e wg ⟨tx, s6, rfl, HS6, hg, hc⟩; have HGg := Lib.hid hg; have HKg := Lib.hid (hc.get HKf.out (by omega)); have H5g := Lib.hid (hc.get H5f.out (by have := HB5.out; omega)); have hzg := hc.size; clear hg hc HGf HKf H5f)
  have z5 : wg.cell? ⟨wd.heap.size, 5, none⟩ = some (.string ⟨#[]⟩) := by rw [blk_cell H5g.out]; rfl
  have f5 := blk_frozen H5g.out 5
  go_upto_region 5 with fail
  have hch : Chg (fun k => k = wd.heap.size) wg (wg.setCell ⟨wd.heap.size, 5, none⟩ (.string tx)) := (Chg.refl (fun k => k = wd.heap.size) wg).setCell (p := ⟨wd.heap.size, 5, none⟩) (.inl (by rfl)) _
  have HGh := Lib.hid (HGg.out.move hch (by have := HB5.out; omega) (fun k hk => by have := HB5.out; omega))
  have HKh := Lib.hid (hch.get HKg.out (by have := HB5.out; omega))
  have H5h : Hid ((wg.setCell ⟨wd.heap.size, 5, none⟩ (.string tx)).heap[wd.heap.size]? = some (.cells #[.int .i64 v1, .int .i64 v2, .int .i64 v3, .int .i64 v4, .string vo, .string tx, .slice none 0 0] 47 (0, 0))) := Lib.hid (blk_set H5g.out 5 (.string tx))
  have hzh := hch.size
  clear hch z5 f5 HGg HKg H5g
  generalize wg.setCell ⟨wd.heap.size, 5, none⟩ (.string tx) = wh at HGh HKh H5h hzh ⊢
  have hzw : wd.heap.size < wh.heap.size := by omega
  clear hz3 hze hzf hzg hzh
  have HSB : Hid (∀ hh : (numR xs s6).2 = none ∨ 4096 < (numR xs s6).1, (staR xs (some 0)).2 = none) := Lib.hid (fun hh => sta_bad HS1.out HS2.out HS3.out HS4.out HS5.out HS6.out hh)
  cases s6 with
  | none =>
    obtain ⟨a, HRf⟩ := HGh.out
    obtain ⟨⟨A1, c1, h1, h2, h3⟩, h4, h5, h6⟩ := HRf
    have hby := h6.drop a
    obtain ⟨ys, hys⟩ : ∃ ys, ys = xs.drop a := ⟨_, rfl⟩
    rw [← hys] at h1 h2 h3 hby
    clear hys
    have hc0 : wh.cell? ⟨w.heap.size + 1, 0, none⟩ = some (.slice A1 ys.length c1) := by rw [blk_cell h1]; rfl
    have HK1 := Lib.hid h1
    have HTK := Lib.hid (rtakenum_calls A1 c1 ys wh (h2.below h5) h3 hby)
    have HB5w := Lib.hid h5
    clear h1 h2 h3 h4 h5 h6 hby
    generalize takeV ys = tv at HTK
    go_wp2_with (first | ((with_reducible refine HTK.out.mono ?_); rintro e wi ⟨rfl, hb⟩; have HBi := Lib.hid hb; have HKi := Lib.hid (blk_below HKh.out hb); have hc1 : wi.cell? ⟨w.heap.size + 1, 1, none⟩ = some (.bool true) := (by rw [blk_cell (blk_below HK1.out hb)]; rfl); clear hb) | (refine wpList_store_row rfl 47 (.tmp 2) (.tmp 48) rfl w.heap.size #[.int .i64 0, .int .i64 0, .int .i64 0, .int .i64 0, .string ⟨#[]⟩, .string ⟨#[]⟩, .slice none 0 0] rfl rfl 47 _ HKi.out inf47 rfl (by simp [Value.oneCell']) ?_))
    (try simp only [Exit.inBlock, Exit.then])
    refine bodyPost_ret (ret_sta rfl _ _ w.heap.size 47 _ rfl (setRow_heap _ _ _ _ _ _ HKi.out) inf47) rfl ?_
    exact readP_bad0 (by rw [HSB.out (.inl (by rfl))]; simp) (below_row (HB5w.out.trans (HBi.out.mono HB5w.out.size)) (Nat.le_refl _))
  | some a =>
    obtain ⟨HRf, hale⟩ := HGh.out
    have H1 := Lib.hid HRf
    have hal : a ≤ xs.length := hale
    obtain ⟨⟨A1, c1, h1, h2, h3⟩, h4, h5, h6⟩ := HRf
    have hby := h6.drop a
    obtain ⟨ys, hys⟩ : ∃ ys, ys = xs.drop a := ⟨_, rfl⟩
    have hyl : ys.length = xs.length - a := by rw [hys, List.length_drop]
    have HYL := Lib.hid hyl
    clear hyl
    have hnx : numR xs (some a) = ((numR ys (some 0)).1, sh a (numR ys (some 0)).2) := by rw [hys]; exact shN xs a (some 0)
    rw [← hys] at h1 h2 h3 hby
    have HYS := Lib.hid hys
    have hpos := numR_pos2 ys
    have hlt := numR_lt ys (some 0)
    have HTV := Lib.hid (takeV_numR ys)
    obtain ⟨p, hp⟩ : ∃ p, p = numR ys (some 0) := ⟨_, rfl⟩
    rw [← hp] at hpos hlt HTV hnx
    clear hp hys
    obtain ⟨n, s⟩ := p
    dsimp only at hpos hlt hnx
    have hc0 : wh.cell? ⟨w.heap.size + 1, 0, none⟩ = some (.slice A1 ys.length c1) := by rw [blk_cell h1]; rfl
    have HK1 := Lib.hid h1
    have HTK := Lib.hid (rtakenum_calls A1 c1 ys wh (h2.below h5) h3 hby)
    rw [HTV.out] at HTK
    have HB5w := Lib.hid h5
    have HR0 := Lib.hid h2
    have HC1 := Lib.hid h3
    clear h1 h2 h4 h5 h6 hby HTV
    have HNX := Lib.hid hnx
    have hlen : ys.length ≤ c1 := h3
    clear hnx h3
    cases s with
    | none =>
      go_wp2_with (first | ((with_reducible refine HTK.out.mono ?_); rintro e wi ⟨rfl, hb⟩; have HBi := Lib.hid hb; have HKi := Lib.hid (blk_below HKh.out hb); have hc1 : wi.cell? ⟨w.heap.size + 1, 1, none⟩ = some (.bool false) := (by rw [blk_cell (blk_below HK1.out hb)]; rfl); have hp0 : posR (n, (none : Option Nat)) = 0 := rfl; clear hb) | (refine wpList_store_row rfl 47 (.tmp 2) (.tmp 48) rfl w.heap.size #[.int .i64 0, .int .i64 0, .int .i64 0, .int .i64 0, .string ⟨#[]⟩, .string ⟨#[]⟩, .slice none 0 0] rfl rfl 47 _ HKi.out inf47 rfl (by simp [Value.oneCell']) ?_))
      (try simp only [Exit.inBlock, Exit.then])
      refine bodyPost_ret (ret_sta rfl _ _ w.heap.size 47 _ rfl (setRow_heap _ _ _ _ _ _ HKi.out) inf47) rfl ?_
      exact readP_bad0 (by rw [HSB.out (.inl (by rw [HNX.out]; rfl))]; simp) (below_row (HB5w.out.trans (HBi.out.mono HB5w.out.size)) (Nat.le_refl _))
    | some kk =>
      obtain ⟨hk0, hkl⟩ := hpos kk rfl
      have HTK : Hid (Calls Try.prog 59 #[.slice A1 ys.length c1] wh fun e w' => e = .returned (.tuple #[.int .u64 n, .int .i64 kk]) ∧ Below wh.heap.size wh w') := HTK
      have hkz : ((kk : Int) == 0) = false := by rw [beq_eq_false_iff_ne]; omega
      clear hpos
      by_cases hbig : 4096 < n
      · have hbb : decide ((4096 : Int) < (n : Int)) = true := decide_eq_true (by omega)
        go_wp2_with (first | ((with_reducible refine HTK.out.mono ?_); rintro e wi ⟨rfl, hb⟩; have HBi := Lib.hid hb; have HKi := Lib.hid (blk_below HKh.out hb); have hc1 : wi.cell? ⟨w.heap.size + 1, 1, none⟩ = some (.bool false) := (by rw [blk_cell (blk_below HK1.out hb)]; rfl); clear hb) | (refine wpList_store_row rfl 47 (.tmp 2) (.tmp 48) rfl w.heap.size #[.int .i64 0, .int .i64 0, .int .i64 0, .int .i64 0, .string ⟨#[]⟩, .string ⟨#[]⟩, .slice none 0 0] rfl rfl 47 _ HKi.out inf47 rfl (by simp [Value.oneCell']) ?_))
        (try simp only [Exit.inBlock, Exit.then])
        refine bodyPost_ret (ret_sta rfl _ _ w.heap.size 47 _ rfl (setRow_heap _ _ _ _ _ _ HKi.out) inf47) rfl ?_
        exact readP_bad0 (by rw [HSB.out (.inr (by rw [HNX.out]; exact hbig))]; simp) (below_row (HB5w.out.trans (HBi.out.mono HB5w.out.size)) (Nat.le_refl _))
      have hbb : decide ((4096 : Int) < (n : Int)) = false := decide_eq_false (by omega)
      go_upto_region 8 with ((with_reducible refine HTK.out.mono ?_); rintro e wi ⟨rfl, hb⟩; have HBi := Lib.hid hb; have HKi := Lib.hid (blk_below HKh.out hb); have H5i := Lib.hid (blk_below H5h.out hb); have HB1 := Lib.hid (blk_below HK1.out hb); have hc1 : wi.cell? ⟨w.heap.size + 1, 1, none⟩ = some (.bool false) := (by rw [blk_cell (blk_below HK1.out hb)]; rfl); have hc2 : wi.cell? ⟨w.heap.size + 1, 0, none⟩ = some (.slice A1 ys.length c1) := (by rw [blk_cell (blk_below HK1.out hb)]; rfl); have hf2 := blk_frozen (blk_below HK1.out hb) 0; have hzi := hb.size; clear hb)
      obtain ⟨i0, hi0, hzz⟩ := Option.map_eq_some_iff.1 PRef.info5
      have hsz : i0.size = 1 := by simp only [Prod.mk.injEq] at hzz; exact hzz.2.1
      have hcut := cut_from (P := Try.prog) 43 5 .i64 Try.underlying43 hi0 1 hsz A1 ys.length c1 (kk : Int) (by omega) (by omega)
      have hrd := HR0.out.drop_ kk hkl HC1.out
      rw [Int.toNat_natCast, Nat.mul_one] at hcut
      generalize (if c1 = kk then A1 else A1.map fun x => x.add kk) = A2 at hcut hrd
      have HRD := Lib.hid hrd
      clear hrd hzz hsz hi0 hc1 HTK HK1
      go_upto_region 10 with fail
      have hl2 : (xs.drop (a + kk)).length = ys.length - kk := by rw [List.length_drop, HYL.out]; omega
      have hdd : ys.drop kk = xs.drop (a + kk) := by rw [HYS.out, List.drop_drop]
      have hch : Chg (fun k => k = w.heap.size + 1) wi (wi.setCell ⟨w.heap.size + 1, 0, none⟩ (.slice A2 (ys.length - kk) (c1 - kk))) := (Chg.refl (fun k => k = w.heap.size + 1) wi).setCell (p := ⟨w.heap.size + 1, 0, none⟩) (.inl (by rfl)) _
      have HGj : Hid (Rg w (wi.setCell ⟨w.heap.size + 1, 0, none⟩ (.slice A2 (ys.length - kk) (c1 - kk))) (w.heap.size + 1) xs (some (a + kk))) := Lib.hid (by
        refine ⟨(H1.out.below HBi.out).set (A := A2) (c := c1 - kk) ?_ ?_ ?_ hch, by have := HYL.out; omega⟩
        · rw [hl2]; exact blk_set HB1.out 0 _
        · rw [hl2, ← hdd]; exact HRD.out
        · rw [hl2]; have := HC1.out; omega)
      have HKj := Lib.hid (hch.get HKi.out (by omega))
      have H5j := Lib.hid (hch.get H5i.out (by have := HB5.out; omega))
      have hzj : wd.heap.size < (wi.setCell ⟨w.heap.size + 1, 0, none⟩ (.slice A2 (ys.length - kk) (c1 - kk))).heap.size := by have := hch.size; omega
      have HNA : Hid (numR xs (some a) = (n, some (a + kk)) ∧ a + kk ≤ xs.length) := Lib.hid ⟨HNX.out, by have := HYL.out; omega⟩
      clear hch hcut hc2 hf2 hl2 hdd HRD HKi H5i HB1 HR0 HC1 H1 HNX HYS hkz hbb
      generalize wi.setCell ⟨w.heap.size + 1, 0, none⟩ (.slice A2 (ys.length - kk) (c1 - kk)) = wj at HGj HKj H5j hzj ⊢
      have HST : Hid (∀ l u, Stp (loopR (entR xs) n (some (a + kk))) l u → (staR xs (some 0)).2 = u ∧ (u ≠ none → (staR xs (some 0)).1 = ⟨v1, v2, v3, v4, vo, tx, l⟩)) := Lib.hid (fun l u h => sta_read HS1.out HS2.out HS3.out HS4.out HS5.out HS6.out (get_loop HIB.out hl HNA.out.1 HNA.out.2 (by omega) h))
      go_wp2_with fail
      go_loopw [8] (fun vi wr => ∃ (i : Nat) (l : List S39) (u : Option Nat) (B : Option Addr) (d : Nat), vi = .int .u64 i ∧ i ≤ n ∧ l.length = i ∧ Hid (Lst (entR xs) (loopR (entR xs) n (some (a + kk))) l (n - i) u) ∧ Hid (Rg w wr (w.heap.size + 1) xs u) ∧ Hid (wr.heap[w.heap.size]? = some (.cells #[.int .i64 0, .int .i64 0, .int .i64 0, .int .i64 0, .string ⟨#[]⟩, .string ⟨#[]⟩, .slice none 0 0] 47 (0, 0))) ∧ Hid (wr.heap[wd.heap.size]? = some (.cells (staV ⟨v1, v2, v3, v4, vo, tx, l⟩ B d) 47 (0, 0))) ∧ Hid (OwnE wr wj.heap.size (.slice B l.length d) l) ∧ wj.heap.size ≤ wr.heap.size) (fun vi _ => n - (intOf vi).toNat)
      case atStart => exact ⟨0, [], some (a + kk), none, 0, rfl, by omega, rfl, Lib.hid (Lst.start _ _ _), HGj, HKj, H5j, Lib.hid (OwnRow.none_ _ _ _ _ _), Nat.le_refl _⟩
      case round =>
      clear HGj HKj H5j
      obtain ⟨i, l, u, B, d, rfl, hi, hll, HLS, HRG, HKr, H5r, HO, hzr⟩ := hrel
      subst hll
      cases u with
      | none =>
        have hb1 : wr.cell? ⟨w.heap.size + 1, 1, none⟩ = some (.bool true) := HRG.out.bad
        obtain ⟨A3, n3, c3, hb0, _⟩ := HRG.out.at0
        have HNO : Hid ((staR xs (some 0)).2 ≠ some xs.length) := Lib.hid (by rw [(HST.out l none (HLS.out.stop (.inr rfl))).1]; simp)
        have HBL := Lib.hid HRG.out.bel
        by_cases hlt : l.length < n
        all_goals
          first | (have hltb : decide ((l.length : Int) < (n : Int)) = true := decide_eq_true (by omega)) | (have hltb : decide ((l.length : Int) < (n : Int)) = false := decide_eq_false (by omega))
          go_upto_region 15 with fail
          refine read_bad _ _ _ _ _ _ _ _ _ _ _ _ _ _ _ _ _ _ _ _ _ _ _ _ _ _ _ _ _ _ _ _ _ _ _ _ _ _ _ _ _ _ _ _ _ _ _ _ _ _ _ _ _ _ _ _ _ _ _ _ _ _ _ _ _ _ _ _ _ _ _ _ _ _ _ _ _ _ _ _ _ _ _ _ _ _ _ _ _ _ _ _ _ _ _ _ _ _ _ (w.heap.size + 1) wd.heap.size w.heap.size wr _ (staV ⟨v1, v2, v3, v4, vo, tx, l⟩ B d) #[.int .i64 0, .int .i64 0, .int .i64 0, .int .i64 0, .string ⟨#[]⟩, .string ⟨#[]⟩, .slice none 0 0] A3 n3 c3 (fun _ _ _ _ _ h => h) H5r.out HKr.out hb1 hb0 rfl rfl (by simp [staV, Value.oneCell']) ?_
          (try simp only [Exit.then])
          go_wp2_with fail
          (try simp only [Exit.inBlock, Exit.then])
          refine bodyPost_ret (ret_sta rfl _ _ w.heap.size 47 _ rfl (setRow_heap _ _ _ _ _ _ HKr.out) inf47) rfl ?_
          exact readP_bad HNO.out (below_row (HBL.out.trans ((below_drew (Below.refl _ _)).mono HBL.out.size)) (Nat.le_refl _))
      | some b =>
        have hb1 : wr.cell? ⟨w.heap.size + 1, 1, none⟩ = some (.bool false) := HRG.out.bad
        have HBL := Lib.hid HRG.out.bel
        by_cases hlt : l.length < n
        · have hltb : decide ((l.length : Int) < (n : Int)) = true := decide_eq_true (by omega)
          go_upto_region 12 with fail
          clear hb1
          go_wp2_with fail
          ((with_reducible refine (rgint_calls HRG.out).mono ?_); rintro e wk ⟨x1, t1, rfl, HT1, hg, hc⟩; have HGk := Lib.hid hg; have HKk := Lib.hid (hc.get HKr.out (by omega)); have H5k := Lib.hid (hc.get H5r.out (by have := HB5.out; omega)); have HOk := Lib.hid (show OwnE wk wj.heap.size (.slice B l.length d) l from orow_move HO.out (fun k hk => hc.block k (orow_lt HO.out k hk) (by have := orow_base HO.out k hk; have := HB5.out; omega))); have hzk := hc.size; clear hg hc)
          go_wp2_with fail
          ((with_reducible refine (rgint_calls HGk.out).mono ?_); rintro e wl ⟨x2, t2, rfl, HT2, hg, hc⟩; have HGl := Lib.hid hg; have HKl := Lib.hid (hc.get HKk.out (by omega)); have H5l := Lib.hid (hc.get H5k.out (by have := HB5.out; omega)); have HOl := Lib.hid (show OwnE wl wj.heap.size (.slice B l.length d) l from orow_move HOk.out (fun k hk => hc.block k (orow_lt HOk.out k hk) (by have := orow_base HOk.out k hk; have := HB5.out; omega))); have hzl := hc.size; clear hg hc HGk HKk H5k HOk)
          go_upto_region 13 with fail
          have hbx := (Below.refl wl.heap.size wl).alloc (Nat.le_refl _) (.cells #[.int .i64 x1, .int .i64 x2, .string ⟨#[]⟩] 39)
          have HGm := Lib.hid (HGl.out.below hbx)
          have HKm := Lib.hid (blk_below HKl.out hbx)
          have H5m := Lib.hid (blk_below H5l.out hbx)
          have H9m := Lib.hid (blk_new wl (.cells #[.int .i64 x1, .int .i64 x2, .string ⟨#[]⟩] 39))
          have HOm := Lib.hid (show OwnE (wl.alloc (.cells #[.int .i64 x1, .int .i64 x2, .string ⟨#[]⟩] 39)) wj.heap.size (.slice B l.length d) l from orow_move HOl.out (fun k hk => hbx.block k (orow_lt HOl.out k hk)))
          have hzm : wl.heap.size < (wl.alloc (.cells #[.int .i64 x1, .int .i64 x2, .string ⟨#[]⟩] 39)).heap.size := by simp
          have HOL : Hid (∀ k, (Value.slice B l.length d).ownBlock = some k → k < wl.heap.size) := Lib.hid (orow_lt HOl.out)
          clear hbx HGl HKl H5l HOl
          generalize wl.alloc (.cells #[.int .i64 x1, .int .i64 x2, .string ⟨#[]⟩] 39) = wm at HGm HKm H5m H9m HOm hzm ⊢
          go_wp2_with fail
          ((with_reducible refine (rgtext_calls HGm.out).mono ?_); rintro e wn ⟨x3, t3, rfl, HT3, hg, hc⟩; have HGn := Lib.hid hg; have HKn := Lib.hid (hc.get HKm.out (by omega)); have H5n := Lib.hid (hc.get H5m.out (by have := HB5.out; omega)); have H9n := Lib.hid (hc.get H9m.out (by have := HB5.out; omega)); have HOn := Lib.hid (show OwnE wn wj.heap.size (.slice B l.length d) l from orow_move HOm.out (fun k hk => hc.block k (orow_lt HOm.out k hk) (by have := orow_base HOm.out k hk; have := HB5.out; omega))); have hzn := hc.size; clear hg hc HGm HKm H5m H9m HOm)
          have y2 : wn.cell? ⟨wl.heap.size, 2, none⟩ = some (.string ⟨#[]⟩) := by rw [blk_cell H9n.out]; rfl
          have g2 := blk_frozen H9n.out 2
          go_upto_region 14 with fail
          have hch : Chg (fun k => k = wl.heap.size) wn (wn.setCell ⟨wl.heap.size, 2, none⟩ (.string x3)) := (Chg.refl (fun k => k = wl.heap.size) wn).setCell (p := ⟨wl.heap.size, 2, none⟩) (.inl (by rfl)) _
          have HGo := Lib.hid (HGn.out.move hch (by have := HB5.out; omega) (fun k hk => by have := HB5.out; omega))
          have HKo := Lib.hid (hch.get HKn.out (by have := HB5.out; omega))
          have H5o := Lib.hid (hch.get H5n.out (by have := HB5.out; omega))
          have H9o : Hid ((wn.setCell ⟨wl.heap.size, 2, none⟩ (.string x3)).heap[wl.heap.size]? = some (.cells #[.int .i64 x1, .int .i64 x2, .string x3] 39 (0, 0))) := Lib.hid (blk_set H9n.out 2 (.string x3))
          have HOo := Lib.hid (show OwnE (wn.setCell ⟨wl.heap.size, 2, none⟩ (.string x3)) wj.heap.size (.slice B l.length d) l from orow_move HOn.out (fun k hk => hch.block k (orow_lt HOn.out k hk) (by have := HOL.out k hk; omega)))
          have hzo := hch.size
          clear hch y2 g2 HGn HKn H5n H9n HOn
          generalize wn.setCell ⟨wl.heap.size, 2, none⟩ (.string x3) = wo at HGo HKo H5o H9o HOo hzo ⊢
          have HTE : Hid (Stp (entR xs (some b)) ⟨x1, x2, x3⟩ t3) := Lib.hid (stp_ent HT1.out HT2.out HT3.out)
          have y0 : wo.cell? ⟨wl.heap.size, 0, none⟩ = some (.int .i64 x1) := by rw [blk_cell H9o.out]; rfl
          have y1 : wo.cell? ⟨wl.heap.size, 1, none⟩ = some (.int .i64 x2) := by rw [blk_cell H9o.out]; rfl
          have y2 : wo.cell? ⟨wl.heap.size, 2, none⟩ = some (.string x3) := by rw [blk_cell H9o.out]; rfl
          have y6 : wo.cell? ⟨wd.heap.size, 6, none⟩ = some (.slice B l.length d) := by rw [blk_cell H5o.out]; rfl
          have hwo : wd.heap.size < wo.heap.size := by omega
          have HZO : Hid (wj.heap.size ≤ wo.heap.size) := Lib.hid (by omega)
          have hwl : wl.heap.size < wo.heap.size := by omega
          clear HT1 HT2 HT3 HRG HKr H5r HO
          go_wp2_with ((with_reducible refine gate_builtin (b := .append) (xs := #[.tmp 79, .tmp 81]) rfl ?_); at_builtin; refine OwnRow.append (w0 := wo) wj.heap.size rfl (.tmp 79) (.tmp 81) 45 39 (.agg #[.int .i64 0, .int .i64 0, .string ⟨#[]⟩]) 3 32 rfl Try.underlying45 zinfo39 rfl (by decide) (by decide) _ l (⟨x1, x2, x3⟩ : S39) [.int .i64 x1, .int .i64 x2, .string x3] rfl rfl rfl rfl (by simp [Value.oneCell']) HOo.out (Below.refl _ _) HZO.out ?hl ?_; (case hl => omega); intro v1a wp hown hB hg hat; have HOp := Lib.hid hown; have hcg : Chg (fun k => wj.heap.size ≤ k) wo wp := (Chg.of_grown hg (fun k hk => orow_base HOo.out k hk)); have HCG := Lib.hid hcg; have H5p := Lib.hid (hcg.get H5o.out (by omega)); have HKp := Lib.hid (hcg.get HKo.out (by have := HB5.out; omega)); have HGp := Lib.hid (HGo.out.move hcg (by have := HB5.out; omega) (fun k hk => by have := HB5.out; omega)); have hzp := hcg.size; obtain ⟨B1, d1, hv1a, hin1⟩ := OwnE.reads hown; have y7 : wp.cell? ⟨wd.heap.size, 6, none⟩ = some (.slice B l.length d) := (by rw [blk_cell H5p.out]; rfl); have g7 := blk_frozen H5p.out 6; clear hown hB hg hat hcg hin1; subst hv1a)
          have hch2 : Chg (fun k => k = wd.heap.size) wp (wp.setCell ⟨wd.heap.size, 6, none⟩ (.slice B1 (l.length + 1) d1)) := (Chg.refl (fun k => k = wd.heap.size) wp).setCell (p := ⟨wd.heap.size, 6, none⟩) (.inl (by rfl)) _
          have HC2 := Lib.hid hch2
          clear hch2
          go_roundw
          case measure => simp [intOf]; omega
          case rel =>
            refine ⟨l.length + 1, l ++ [⟨x1, x2, x3⟩], t3, B1, d1, by go_num, by omega, by simp, Lib.hid (Lst.step (m := n - (l.length + 1)) (by have := HLS.out; rw [show n - l.length = n - (l.length + 1) + 1 from by omega] at this; exact this) HTE.out), Lib.hid (HGp.out.move HC2.out (by have := HB5.out; omega) (fun k hk => by have := HB5.out; omega)), Lib.hid (HC2.out.get HKp.out (by have := HB5.out; omega)), Lib.hid ?_, Lib.hid ?_, ?_⟩
            · have h := blk_set H5p.out 6 (.slice B1 (l.length + 1) d1)
              unfold staV
              dsimp only
              rw [show (l ++ [(⟨x1, x2, x3⟩ : S39)]).length = l.length + 1 from by simp]
              exact h
            · exact orow_move HOp.out (fun k hk => HC2.out.block k (orow_lt HOp.out k hk) (by have := orow_base HOp.out k hk; omega))
            · have := HC2.out.size
              have := HZO.out
              omega
        · have hltb : decide ((l.length : Int) < (n : Int)) = false := decide_eq_false (by omega)
          have hS := HST.out l (some b) (HLS.out.stop (.inl (by omega)))
          have HS := Lib.hid hS
          obtain ⟨A3, n3, c3, hb0, hn3⟩ := HRG.out.at0
          obtain ⟨hn3, hbl⟩ := hn3 b rfl
          have hbl2 : b ≤ xs.length := hbl
          have HBB := Lib.hid hbl2
          have HN3 := Lib.hid hn3
          clear hS hn3
          obtain ⟨B1, d1, hv1, hin⟩ := OwnE.reads HO.out
          cases hv1
          have HIN := Lib.hid hin
          clear hin
          go_upto_region 15 with fail
          by_cases hz : n3 = 0
          · have hzb : ((n3 : Int) == 0) = true := by rw [beq_iff_eq]; omega
            have hst := HS.out.2 (by simp)
            have hsz := sta_size xs (some 0)
            rw [hst] at hsz
            obtain ⟨bm, hm1, hm2⟩ := may_f ⟨v1, v2, v3, v4, vo, tx, l⟩ (Nat.le_trans hsz.1 (by omega)) (fun y hy => Nat.le_trans (hsz.2 y hy) (by omega))
            have HM := Lib.hid hm2
            have HSZ := Lib.hid hst
            clear hm2 hst hsz
            have hd3 : ∀ w', Below wr.drew.heap.size wr.drew w' → Below wr.heap.size wr w' := fun w' hb => (pw_below_drewN (Below.refl wr.heap.size wr) 1).trans hb
            refine read_may _ _ _ _ _ _ _ _ _ _ _ _ _ _ _ _ _ _ _ _ _ _ _ _ _ _ _ _ _ _ _ _ _ _ _ _ _ _ _ _ _ _ _ _ _ _ _ _ _ _ _ _ _ _ _ _ _ _ _ _ _ _ _ _ _ _ _ _ _ _ _ _ _ _ _ _ _ _ _ _ _ _ _ _ _ _ _ _ _ _ _ _ _ _ _ _ _ _ _ (w.heap.size + 1) wd.heap.size w.heap.size wr _ (staV ⟨v1, v2, v3, v4, vo, tx, l⟩ B d) #[.int .i64 0, .int .i64 0, .int .i64 0, .int .i64 0, .string ⟨#[]⟩, .string ⟨#[]⟩, .slice none 0 0] A3 n3 c3 (fun _ _ _ _ _ h => h) H5r.out HKr.out hb1 hb0 rfl rfl (by simp [staV, Value.oneCell']) hzb (fun bb => bb = bm) (fun w' hb => (lamellaref10_May.calls 5000 v1 v2 v3 v4 vo tx B d l bm w' (Kd.C_below HIN.out.1 (hd3 w' hb)) HIN.out.2 hm1).mono (fun e w'' h => ⟨bm, h.1, rfl, h.2⟩)) ?_
            rintro wz bb rfl hb
            have HBz := Lib.hid (hd3 wz hb)
            have HKz := Lib.hid (blk_below HKr.out HBz.out)
            have HIz : Hid (InE wz B d l) := Lib.hid ⟨Kd.C_below HIN.out.1 HBz.out, HIN.out.2⟩
            clear hb hd3 hm1
            (try simp only [Exit.then])
            go_wp2_with fail
            (try simp only [Exit.inBlock, Exit.then])
            refine bodyPost_ret (ret_sta rfl _ _ w.heap.size 47 _ rfl (setRow_heap _ _ _ _ _ _ HKz.out) inf47) rfl ?_
            refine ⟨below_row (HBL.out.trans (HBz.out.mono HBL.out.size)) (Nat.le_refl _), _, _, _, _, rfl, ?_, fun _ => ?_⟩
            · rw [HM.out, HSZ.out, HS.out.1]
              exact ⟨fun h => ⟨by congr 1; have := HN3.out; have := HBB.out; omega, h⟩, fun h => h.2⟩
            · refine ⟨HSZ.out.symm, row_setRow HIz.out.1 ?_, HIz.out.2⟩
              intro ad hA
              subst hA
              have h1 := orow_base HO.out ad.block rfl
              have h2 := HB5.out
              omega
          · have hzb : ((n3 : Int) == 0) = false := by rw [beq_eq_false_iff_ne]; omega
            refine read_left _ _ _ _ _ _ _ _ _ _ _ _ _ _ _ _ _ _ _ _ _ _ _ _ _ _ _ _ _ _ _ _ _ _ _ _ _ _ _ _ _ _ _ _ _ _ _ _ _ _ _ _ _ _ _ _ _ _ _ _ _ _ _ _ _ _ _ _ _ _ _ _ _ _ _ _ _ _ _ _ _ _ _ _ _ _ _ _ _ _ _ _ _ _ _ _ _ _ _ (w.heap.size + 1) wd.heap.size w.heap.size wr _ (staV ⟨v1, v2, v3, v4, vo, tx, l⟩ B d) #[.int .i64 0, .int .i64 0, .int .i64 0, .int .i64 0, .string ⟨#[]⟩, .string ⟨#[]⟩, .slice none 0 0] A3 n3 c3 (fun _ _ _ _ _ h => h) H5r.out HKr.out hb1 hb0 rfl rfl (by simp [staV, Value.oneCell']) hzb ?_
            (try simp only [Exit.then])
            go_wp2_with fail
            (try simp only [Exit.inBlock, Exit.then])
            refine bodyPost_ret (ret_sta rfl _ _ w.heap.size 47 _ rfl (setRow_heap _ _ _ _ _ _ HKr.out) inf47) rfl ?_
            exact readP_bad (by rw [HS.out.1]; intro h; injection h with h; have := HN3.out; have := HBB.out; omega) (below_row (HBL.out.trans ((below_drew (Below.refl _ _)).mono HBL.out.size)) (Nat.le_refl _))

end Go.Proofs.Ytfanbhbpmhojaaa
