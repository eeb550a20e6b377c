/- mail.Decode, by plain lists. Conditions: bytes are bytes. -/
import Derived.Test.YtneebjlpeekmbaaTakA
import Derived.Laws.ResultCell
namespace Go.Proofs.Ytneebjlpeekmbaa
open Go.RowKit Go.Proofs.YtneebjlpeekmbaaW.PrintWords Go.Proofs.YtneebjlpeekmbaaW.PrintLast Go.Proofs.YtneebjlpeekmbaaW.PrintMore PRef
set_option linter.unusedVariables false
set_option linter.unusedSimpArgs false

theorem fillv_eq : ∀ (vs : List Value) (cs : Array Value) (off : Nat) (h : off + vs.length ≤ cs.size), fillv cs off vs = (cs.toList.take off ++ vs ++ cs.toList.drop (off + vs.length)).toArray
  | [], cs, off, h => by simp [fillv]
  | v :: vs, cs, off, h => by
    rw [List.length_cons] at h
    show fillv _ (off + 1) vs = _
    rw [fillv_eq vs _ _ (by rw [Array.size_setIfInBounds]; omega), Array.toList_setIfInBounds]
    have h1 : (cs.toList.set off v).take (off + 1) = cs.toList.take off ++ [v] := by
      rw [List.take_add_one, List.take_set_of_le (Nat.le_refl _), List.getElem?_set_self (by simpa using (show off < cs.size by omega))]
      rfl
    have h2 : (cs.toList.set off v).drop (off + 1 + vs.length) = cs.toList.drop (off + (v :: vs).length) := by
      rw [List.drop_set_of_lt (by omega), List.length_cons]
      congr 1
      omega
    rw [h1, h2]
    simp
def mail0 : Mail := ⟨0, 0, 0, 0, inst0, false, 0, 0, 0, 0, 0, [], ⟨#[]⟩⟩
/-- The mail with which bytes begin. -/
def mailR (xs : List Int) (s : Option Nat) : Mail × Option Nat :=
  let p := intsR xs 4 s
  let i := instR xs p.2
  let b := boolR xs i.2
  let q := intsR xs 5 b.2
  let es := getR xs (entR xs) q.2
  let t := textS xs es.2
  (⟨p.1.getD 0 0, p.1.getD 1 0, p.1.getD 2 0, p.1.getD 3 0, i.1, b.1, q.1.getD 0 0, q.1.getD 1 0, q.1.getD 2 0, q.1.getD 3 0, q.1.getD 4 0, es.1, t.1⟩, t.2)
/-- Decode's error. -/
def decE (l : List Int) : Nat :=
  if unf l = 8 then 4 else if unf l ≠ 0 then unf l else if Crc.num (l.take 4) + 8 ≠ l.length then 4 else if (mailR (dataL l) (some 0)).2 = some (dataL l).length then 0 else 4
def decM (l : List Int) : Mail := if decE l = 0 then (mailR (dataL l) (some 0)).1 else mail0
def DecPost (w : World) (l : List Int) (e : Ending) (w' : World) : Prop :=
  ∃ A1 c1 A2 c2 A3 c3, e = .returned (.tuple #[.agg #[.int .i64 (decM l).kind, .int .i64 (decM l).mfrom, .int .i64 (decM l).mto, .int .i64 (decM l).shard, .int .i64 (decM l).inst.lead, .int .i64 (decM l).inst.index, .int .i64 (decM l).inst.bn, .int .i64 (decM l).inst.bnode, .int .i64 (decM l).inst.vn, .int .i64 (decM l).inst.vnode, .int .i64 (decM l).inst.status, .bool (decM l).inst.same, .int .i64 (decM l).inst.cmd.op, .int .i64 (decM l).inst.cmd.client, .int .i64 (decM l).inst.cmd.seq, .int .i64 (decM l).inst.cmd.cfrom, .int .i64 (decM l).inst.cmd.cto, .slice A1 (decM l).inst.cmd.data.length c1, .int .i64 (decM l).inst.iseq, .slice A2 (decM l).inst.deps.length c2, .bool (decM l).ok, .int .i64 (decM l).term, .int .i64 (decM l).mindex, .int .i64 (decM l).past, .int .i64 (decM l).commit, .int .i64 (decM l).epoch, .slice A3 (decM l).entries.length c3, .string (decM l).text], .int .i64 (decE l)]) ∧ InC w' A1 c1 (decM l).inst.cmd.data ∧ InR w' A2 c2 (decM l).inst.deps ∧ InE w' A3 c3 (decM l).entries ∧ Below w.heap.size w w'
theorem inC_nil (w : World) : InC w none 0 [] := ⟨⟨rfl, by simp, fun h => absurd h (by simp)⟩, Nat.le_refl _⟩
theorem inR_nil (w : World) : InR w none 0 [] := ⟨⟨rfl, by simp, fun h => absurd h (by simp)⟩, Nat.le_refl _⟩
theorem inE_nil (w : World) : InE w none 0 [] := ⟨⟨rfl, by simp, fun h => absurd h (by simp)⟩, Nat.le_refl _⟩
theorem decPost_zero {w w' : World} {l : List Int} (k : Int) (hk : ((decE l : Nat) : Int) = k) (h0 : decE l ≠ 0) (hb : Below w.heap.size w w') : DecPost w l (.returned (.tuple #[.agg #[.int .i64 0, .int .i64 0, .int .i64 0, .int .i64 0, .int .i64 0, .int .i64 0, .int .i64 0, .int .i64 0, .int .i64 0, .int .i64 0, .int .i64 0, .bool false, .int .i64 0, .int .i64 0, .int .i64 0, .int .i64 0, .int .i64 0, .slice none 0 0, .int .i64 0, .slice none 0 0, .bool false, .int .i64 0, .int .i64 0, .int .i64 0, .int .i64 0, .int .i64 0, .slice none 0 0, .string ⟨#[]⟩], .int .i64 k])) w' := by
  have hm : decM l = mail0 := by unfold decM; rw [if_neg h0]
  refine ⟨none, 0, none, 0, none, 0, ?_, ?_, ?_, ?_, hb⟩
  · rw [hm, hk]; rfl
  · rw [hm]; exact inC_nil _
  · rw [hm]; exact inR_nil _
  · rw [hm]; exact inE_nil _
theorem inf34b : (Try.prog.info? 34).map (·.size) = some 28 := by kernel_rfl
theorem ret_cell2 {fn : Func} {p q : Tmp} (h : fn.results = #[.cell p 34, .tmp q]) (tmps : Array Value) (w : World) (g : Nat) (t : TypeId) (cs : Array Value)
    (hp : tmps.getD p undef = .pointer (some ⟨g, 0, none⟩)) (hg : w.heap[g]? = some (.cells cs t (0, 0))) (hi : (Try.prog.info? 34).map (·.size) = some cs.size) :
    (results fn tmps).run Try.prog w = .ok (.tuple #[.agg cs, tmps.getD q undef]) w := by
  rw [results_cell_tmp h, hp]
  simp [asAddr, Result.andThen, run_loadVar_row w g t 34 cs (0, 0) _ hg Try.underlying34 rfl hi]
theorem unframe0 (A : Option Addr) (n c : Nat) (l : List Int) (w : World) (hr : ReadsInt w .u8 A n l) (hc : n ≤ c) (hb : IsBytes l) :
    Calls Try.prog 32 #[.slice A n c, .int .i64 0] w (UnfPost w l 0) := by
  have := unframe_calls A n c 0 l w hr hc hb (Nat.zero_le _)
  rw [List.drop_zero] at this
  exact this

theorem below_row {w w1 : World} {b : Nat} {cs : Array Value} (h : Below w.heap.size w w1) (hb : w.heap.size ≤ b) : Below w.heap.size w (w1.setRow b cs) :=
  h.trans ((chg_setRow w1 b cs).below h.size (fun i hi hk => by omega))

set_option maxRecDepth 100000 in
set_option maxHeartbeats 8000000 in
theorem decode_calls (A : Option Addr) (n c : Nat) (l : List Int) (w : World) (hr : ReadsInt w .u8 A n l) (hc : n ≤ c) (hb : IsBytes l) :
    Calls Try.prog 14 #[.slice A n c] w (DecPost w l) := by
  have hln := hr.1
  have hl63 := hr.2.1
  have HR := Lib.hid hr
  have HX := Lib.hid hb
  have HBb := Lib.hid ((Below.refl w.heap.size w).alloc (Nat.le_refl _) (.cells #[.int .i64 0, .int .i64 0, .int .i64 0, .int .i64 0, .int .i64 0, .int .i64 0, .int .i64 0, .int .i64 0, .int .i64 0, .int .i64 0, .int .i64 0, .bool false, .int .i64 0, .int .i64 0, .int .i64 0, .int .i64 0, .int .i64 0, .slice none 0 0, .int .i64 0, .slice none 0 0, .bool false, .int .i64 0, .int .i64 0, .int .i64 0, .int .i64 0, .int .i64 0, .slice none 0 0, .string ⟨#[]⟩] 34))
  have HBK := Lib.hid (blk_new w (.cells #[.int .i64 0, .int .i64 0, .int .i64 0, .int .i64 0, .int .i64 0, .int .i64 0, .int .i64 0, .int .i64 0, .int .i64 0, .int .i64 0, .int .i64 0, .bool false, .int .i64 0, .int .i64 0, .int .i64 0, .int .i64 0, .int .i64 0, .slice none 0 0, .int .i64 0, .slice none 0 0, .bool false, .int .i64 0, .int .i64 0, .int .i64 0, .int .i64 0, .int .i64 0, .slice none 0 0, .string ⟨#[]⟩] 34))
  clear hr hb
  have hu34 := Try.underlying34
  have hu31 := Try.underlying31
  go_enter Try.func14, Try.ntmps14
  go_wp2_with fail
  generalize w.alloc (.cells #[.int .i64 0, .int .i64 0, .int .i64 0, .int .i64 0, .int .i64 0, .int .i64 0, .int .i64 0, .int .i64 0, .int .i64 0, .int .i64 0, .int .i64 0, .bool false, .int .i64 0, .int .i64 0, .int .i64 0, .int .i64 0, .int .i64 0, .slice none 0 0, .int .i64 0, .slice none 0 0, .bool false, .int .i64 0, .int .i64 0, .int .i64 0, .int .i64 0, .int .i64 0, .slice none 0 0, .string ⟨#[]⟩] 34) = w1 at HBK HBb ⊢
  ((with_reducible refine (unframe0 A n c l w1 (HR.out.below HBb.out) hc HX.out).mono ?_); rintro e w2 ⟨v, k, rfl, hbad, hgood, hb⟩)
  have HB2 := Lib.hid (HBb.out.trans (hb.mono HBb.out.size))
  have HBK2 := Lib.hid (blk_below HBK.out hb)
  clear HBK
  by_cases h8 : unf l = 8
  · have hde : decE l = 4 := by unfold decE; rw [if_pos h8]
    obtain ⟨rfl, rfl⟩ := hbad (by omega)
    have HDE := Lib.hid hde
    rw [h8]
    clear hbad hgood hde h8 hb
    go_wp2_with (refine wpList_store_row rfl 34 (.tmp 2) (.tmp 32) rfl w.heap.size #[.int .i64 0, .int .i64 0, .int .i64 0, .int .i64 0, .int .i64 0, .int .i64 0, .int .i64 0, .int .i64 0, .int .i64 0, .int .i64 0, .int .i64 0, .bool false, .int .i64 0, .int .i64 0, .int .i64 0, .int .i64 0, .int .i64 0, .slice none 0 0, .int .i64 0, .slice none 0 0, .bool false, .int .i64 0, .int .i64 0, .int .i64 0, .int .i64 0, .int .i64 0, .slice none 0 0, .string ⟨#[]⟩] rfl rfl 34 _ HBK2.out inf34b rfl (by simp [Value.oneCell']) ?_)
    (try simp only [Exit.inBlock, Exit.then])
    refine bodyPost_ret (ret_cell2 rfl _ _ w.heap.size 34 _ rfl (setRow_heap _ _ _ _ _ _ HBK2.out) inf34b) rfl ?_
    exact decPost_zero 4 (by rw [HDE.out]; rfl) (by rw [HDE.out]; decide) (below_row HB2.out (Nat.le_refl _))
  · by_cases h0 : unf l = 0
    · obtain ⟨hk, ho⟩ := hgood h0
      by_cases hnx : Crc.num (l.take 4) + 8 = l.length
      · have hlen : (dataL l).length ≤ 4294967296 := by
          have h1 := Crc.num_lt (l.take 4) (HX.out.take 4).lt
          have h2 : (l.take 4).length ≤ 4 := by rw [List.length_take]; omega
          have h3 : (256 : Nat) ^ (l.take 4).length ≤ 256 ^ 4 := Nat.pow_le_pow_right (by decide) h2
          unfold dataL
          rw [List.length_drop, List.length_take]
          omega
        have hdb : IsBytes (dataL l) := by unfold dataL; exact (HX.out.take _).drop _
        have hcr : decE l = if (mailR (dataL l) (some 0)).2 = some (dataL l).length then 0 else 4 := by
          unfold decE; rw [if_neg h8, if_neg (by omega), if_neg (by omega)]
        have hcr1 : (mailR (dataL l) (some 0)).2 = some (dataL l).length → decE l = 0 := fun h => by rw [hcr, if_pos h]
        have hcr2 : (mailR (dataL l) (some 0)).2 ≠ some (dataL l).length → decE l = 4 := fun h => by rw [hcr, if_neg h]
        have hdm : decM l = if decE l = 0 then (mailR (dataL l) (some 0)).1 else mail0 := rfl
        clear hcr
        obtain ⟨A', c', rfl, hd1, hrd⟩ := ho.reads
        obtain ⟨DL, hDL⟩ : ∃ DL, DL = dataL l := ⟨_, rfl⟩
        rw [← hDL] at hlen hdb hcr1 hcr2 hdm hd1 hrd ⊢
        obtain ⟨M, hM⟩ : ∃ M, M = mailR DL (some 0) := ⟨_, rfl⟩
        rw [← hM] at hcr1 hcr2 hdm
        have HC1 := Lib.hid hcr1
        have HC2 := Lib.hid hcr2
        have HDM := Lib.hid hdm
        clear hcr1 hcr2 hdm
        have HRD := Lib.hid hrd
        have HDB := Lib.hid hdb
        obtain rfl : k = (n : Int) := by omega
        rw [h0]
        clear hbad hgood h8 h0 hnx ho hrd hdb hb hDL
        go_wp2_with fail
        ((with_reducible refine (reader_new _ _ _ _ HRD.out hd1 HDB.out (by omega)).mono ?_); rintro e wE ⟨g, A1, c1, rfl, hg, HRE, HBE⟩)
        obtain ⟨base, hbase⟩ : ∃ base, base = w2.heap.size := ⟨_, rfl⟩
        rw [← hbase] at HRE
        have HBKE := Lib.hid (blk_below HBK2.out HBE.out)
        have hrb : w.heap.size < w2.heap.size := blk_lt HBK2.out
        have hrg : w.heap.size < g := by omega
        have HB3 := Lib.hid (HB2.out.trans (HBE.out.mono HB2.out.size))
        have hrE : w.heap.size < wE.heap.size := blk_lt HBKE.out
        have HT0 := Lib.hid (Ts.begin HRE.out ((Below.refl wE.heap.size wE).alloc (Nat.le_refl _) (.cells #[.int .i64 0, .int .i64 0, .int .i64 0, .int .i64 0, .int .i64 0, .int .i64 0, .int .i64 0, .int .i64 0, .int .i64 0, .int .i64 0, .int .i64 0, .bool false, .int .i64 0, .int .i64 0, .int .i64 0, .int .i64 0, .int .i64 0, .slice none 0 0, .int .i64 0, .slice none 0 0, .bool false, .int .i64 0, .int .i64 0, .int .i64 0, .int .i64 0, .int .i64 0, .slice none 0 0, .string ⟨#[]⟩] 34)) (blk_new wE (.cells #[.int .i64 0, .int .i64 0, .int .i64 0, .int .i64 0, .int .i64 0, .int .i64 0, .int .i64 0, .int .i64 0, .int .i64 0, .int .i64 0, .int .i64 0, .bool false, .int .i64 0, .int .i64 0, .int .i64 0, .int .i64 0, .int .i64 0, .slice none 0 0, .int .i64 0, .slice none 0 0, .bool false, .int .i64 0, .int .i64 0, .int .i64 0, .int .i64 0, .int .i64 0, .slice none 0 0, .string ⟨#[]⟩] 34)) (Nat.le_refl _))
        unfold mailR at hM
        clear HBE HBK2 HB2 hbase
        go_upto_region 8 with fail
        generalize wE.alloc (.cells #[.int .i64 0, .int .i64 0, .int .i64 0, .int .i64 0, .int .i64 0, .int .i64 0, .int .i64 0, .int .i64 0, .int .i64 0, .int .i64 0, .int .i64 0, .bool false, .int .i64 0, .int .i64 0, .int .i64 0, .int .i64 0, .int .i64 0, .slice none 0 0, .int .i64 0, .slice none 0 0, .bool false, .int .i64 0, .int .i64 0, .int .i64 0, .int .i64 0, .int .i64 0, .slice none 0 0, .string ⟨#[]⟩] 34) = w3 at HT0 ⊢
        go_wp2_with fail
        have hp4 := blk_new w3 (.cells #[.pointer (some ⟨wE.heap.size, 0, none⟩), .pointer (some ⟨wE.heap.size, 1, none⟩), .pointer (some ⟨wE.heap.size, 2, none⟩), .pointer (some ⟨wE.heap.size, 3, none⟩)] 78)
        have HP4 := Lib.hid hp4
        have HT4 := Lib.hid (HT0.out.below ((Below.refl w3.heap.size w3).alloc (Nat.le_refl _) (.cells #[.pointer (some ⟨wE.heap.size, 0, none⟩), .pointer (some ⟨wE.heap.size, 1, none⟩), .pointer (some ⟨wE.heap.size, 2, none⟩), .pointer (some ⟨wE.heap.size, 3, none⟩)] 78)))
        have HN4 : Hid (w3.heap.size ≠ g ∧ w3.heap.size ≠ wE.heap.size) := Lib.hid ⟨by have := HT0.out.chg.size; have := HT0.out.glt; omega, by have := blk_lt HT0.out.blk; omega⟩
        clear hp4
        generalize w3.alloc (.cells #[.pointer (some ⟨wE.heap.size, 0, none⟩), .pointer (some ⟨wE.heap.size, 1, none⟩), .pointer (some ⟨wE.heap.size, 2, none⟩), .pointer (some ⟨wE.heap.size, 3, none⟩)] 78) = w4 at HP4 HT4 ⊢
        go_loopw [46] (fun vi wr => ∃ i : Nat, vi = .int .i64 i ∧ i ≤ 4 ∧ Hid (Ts wE wr base g A1 c1 DL (intsR DL i (some 0)).2 wE.heap.size 34 (fill #[.int .i64 0, .int .i64 0, .int .i64 0, .int .i64 0, .int .i64 0, .int .i64 0, .int .i64 0, .int .i64 0, .int .i64 0, .int .i64 0, .int .i64 0, .bool false, .int .i64 0, .int .i64 0, .int .i64 0, .int .i64 0, .int .i64 0, .slice none 0 0, .int .i64 0, .slice none 0 0, .bool false, .int .i64 0, .int .i64 0, .int .i64 0, .int .i64 0, .int .i64 0, .slice none 0 0, .string ⟨#[]⟩] 0 (intsR DL i (some 0)).1)) ∧ Hid (wr.heap[w3.heap.size]? = some (.cells #[.pointer (some ⟨wE.heap.size, 0, none⟩), .pointer (some ⟨wE.heap.size, 1, none⟩), .pointer (some ⟨wE.heap.size, 2, none⟩), .pointer (some ⟨wE.heap.size, 3, none⟩)] 78 (0, 0)))) (fun vi _ => 4 - (intOf vi).toNat)
        case atStart => exact ⟨0, rfl, by omega, HT4, HP4⟩
        case round =>
        obtain ⟨i, rfl, hi, HT, HP⟩ := hrel
        by_cases hlt : i < 4
        · have hptr : wr.cell? ⟨w3.heap.size, i, none⟩ = some (.pointer (some ⟨wE.heap.size, i, none⟩)) := by
            rw [blk_cell HP.out]
            have : i = 0 ∨ i = 1 ∨ i = 2 ∨ i = 3 := by omega
            rcases this with rfl | rfl | rfl | rfl <;> rfl
          go_wp2_with fail
          ((with_reducible refine (rdint_calls HT.out.rd).mono ?_); rintro e wq ⟨rfl, hr, hc⟩)
          have HTq := Lib.hid (HT.out.read hr hc)
          have HPq := Lib.hid (hc.get HP.out HN4.out.1)
          have hfz := HTq.out.frozen (i)
          obtain ⟨X, hX⟩ : ∃ X, (fill #[.int .i64 0, .int .i64 0, .int .i64 0, .int .i64 0, .int .i64 0, .int .i64 0, .int .i64 0, .int .i64 0, .int .i64 0, .int .i64 0, .int .i64 0, .bool false, .int .i64 0, .int .i64 0, .int .i64 0, .int .i64 0, .int .i64 0, .slice none 0 0, .int .i64 0, .slice none 0 0, .bool false, .int .i64 0, .int .i64 0, .int .i64 0, .int .i64 0, .int .i64 0, .slice none 0 0, .string ⟨#[]⟩] 0 (intsR DL i (some 0)).1)[i]? = some X := ⟨_, Array.getElem?_eq_getElem (by rw [fill_size]; show i < 28; omega)⟩
          have hcl := HTq.out.cell (i)
          rw [hX] at hcl
          clear hr hc hX
          go_wp2_with fail
          go_roundw
          case measure => simp [intOf]; omega
          case rel =>
            refine ⟨i + 1, by go_num, by omega, Lib.hid ?_, Lib.hid (blk_far HPq.out HN4.out.2 _)⟩
            have := HTq.out.put (i) (.int .i64 (intR DL (intsR DL i (some 0)).2).1)
            rw [intsR_succ, fill_snoc, intsR_len]
            rw [Nat.zero_add]
            exact this
        obtain rfl : i = 4 := by omega
        have HT4 := HT
        clear hlt hi HT HP HP4 HN4
        obtain ⟨v1, v2, v3, v4, s1, hi1⟩ : ∃ v1 v2 v3 v4 s1, intsR DL 4 (some 0) = ([v1, v2, v3, v4], s1) := ⟨_, _, _, _, _, rfl⟩
        have HT5 := HT4.out
        rw [hi1] at HT5 hM
        dsimp only at HT5 hM
        have HT5 : Hid (Ts wE wr base g A1 c1 DL s1 wE.heap.size 34 #[.int .i64 v1, .int .i64 v2, .int .i64 v3, .int .i64 v4, .int .i64 0, .int .i64 0, .int .i64 0, .int .i64 0, .int .i64 0, .int .i64 0, .int .i64 0, .bool false, .int .i64 0, .int .i64 0, .int .i64 0, .int .i64 0, .int .i64 0, .slice none 0 0, .int .i64 0, .slice none 0 0, .bool false, .int .i64 0, .int .i64 0, .int .i64 0, .int .i64 0, .int .i64 0, .slice none 0 0, .string ⟨#[]⟩]) := Lib.hid HT5
        clear hi1 HT4
        obtain ⟨p, hp⟩ : ∃ p, p = instR DL s1 := ⟨_, rfl⟩
        rw [← hp] at hM
        have HIM := Lib.hid hp
        clear hp
        obtain ⟨im, s2⟩ := p
        dsimp only at hM
        obtain ⟨p, hp⟩ : ∃ p, p = boolR DL s2 := ⟨_, rfl⟩
        rw [← hp] at hM
        have HBO := Lib.hid hp
        clear hp
        obtain ⟨b1, s3⟩ := p
        dsimp only at hM
        obtain ⟨v5, v6, v7, v8, v9, s4, hi2⟩ : ∃ v5 v6 v7 v8 v9 s4, intsR DL 5 s3 = ([v5, v6, v7, v8, v9], s4) := ⟨_, _, _, _, _, _, rfl⟩
        rw [hi2] at hM
        have HI2 := Lib.hid hi2
        clear hi2
        dsimp only at hM
        obtain ⟨p, hp⟩ : ∃ p, p = getR DL (entR DL) s4 := ⟨_, rfl⟩
        rw [← hp] at hM
        have HEN := Lib.hid hp
        clear hp
        obtain ⟨D, s5⟩ := p
        dsimp only at hM
        obtain ⟨p, hp⟩ : ∃ p, p = textS DL s5 := ⟨_, rfl⟩
        rw [← hp] at hM
        have HTX := Lib.hid hp
        clear hp
        obtain ⟨t1, s6⟩ := p
        dsimp only at hM
        have HM := Lib.hid hM
        clear hM
        go_wp2_with fail
        ((with_reducible refine (takeinst_calls HT5.out.rd).mono ?_); rw [← HIM.out]; rintro e w5 ⟨x1, x2, rfl, ho1, ho2, hr, hc⟩)
        have hbs : wE.heap.size ≤ wr.heap.size := HT5.out.chg.size
        have hbl : wE.heap.size < wr.heap.size := blk_lt HT5.out.blk
        have hgl := HT5.out.glt
        have HOS6 := Lib.hid (show OwnS w5 wE.heap.size x1 im.cmd.data from own_base_mono ho1 hbs)
        have HOR6 := Lib.hid (show OwnR w5 wE.heap.size x2 im.deps from orow_base_mono ho2 hbs)
        have HNS : Hid (some g ≠ x1.ownBlock ∧ some wE.heap.size ≠ x1.ownBlock ∧ some w.heap.size ≠ x1.ownBlock) := Lib.hid ⟨fun hk => by have := own_base ho1 _ hk.symm; omega, fun hk => by have := own_base ho1 _ hk.symm; omega, fun hk => by have := own_base ho1 _ hk.symm; omega⟩
        have HNR : Hid (some g ≠ x2.ownBlock ∧ some wE.heap.size ≠ x2.ownBlock ∧ some w.heap.size ≠ x2.ownBlock) := Lib.hid ⟨fun hk => by have := orow_base ho2 _ hk.symm; omega, fun hk => by have := orow_base ho2 _ hk.symm; omega, fun hk => by have := orow_base ho2 _ hk.symm; omega⟩
        have HT6 := Lib.hid (HT5.out.read hr hc)
        clear ho1 ho2 hr hc HT5
        obtain ⟨B, d, rfl⟩ := own_slice HOS6.out
        obtain ⟨B2, d2, rfl, _⟩ := OwnRow.slice_ HOR6.out
        go_upto_region 14 with (refine wpList_store_mid rfl 31 (.tmp 57) (.tmp 56) rfl wE.heap.size 4 #[.int .i64 im.lead, .int .i64 im.index, .int .i64 im.bn, .int .i64 im.bnode, .int .i64 im.vn, .int .i64 im.vnode, .int .i64 im.status, .bool im.same, .int .i64 im.cmd.op, .int .i64 im.cmd.client, .int .i64 im.cmd.seq, .int .i64 im.cmd.cfrom, .int .i64 im.cmd.cto, .slice B im.cmd.data.length d, .int .i64 im.iseq, .slice B2 im.deps.length d2] rfl rfl (there_blk HT6.out.blk 4 16 (by show 20 ≤ 28; omega)) inf31 (by simp [Value.oneCell']) ?_)
        have HT7 : Hid (Ts wE (w5.setCells wE.heap.size 4 [.int .i64 im.lead, .int .i64 im.index, .int .i64 im.bn, .int .i64 im.bnode, .int .i64 im.vn, .int .i64 im.vnode, .int .i64 im.status, .bool im.same, .int .i64 im.cmd.op, .int .i64 im.cmd.client, .int .i64 im.cmd.seq, .int .i64 im.cmd.cfrom, .int .i64 im.cmd.cto, .slice B im.cmd.data.length d, .int .i64 im.iseq, .slice B2 im.deps.length d2]) base g A1 c1 DL s2 wE.heap.size 34 #[.int .i64 v1, .int .i64 v2, .int .i64 v3, .int .i64 v4, .int .i64 im.lead, .int .i64 im.index, .int .i64 im.bn, .int .i64 im.bnode, .int .i64 im.vn, .int .i64 im.vnode, .int .i64 im.status, .bool im.same, .int .i64 im.cmd.op, .int .i64 im.cmd.client, .int .i64 im.cmd.seq, .int .i64 im.cmd.cfrom, .int .i64 im.cmd.cto, .slice B im.cmd.data.length d, .int .i64 im.iseq, .slice B2 im.deps.length d2, .bool false, .int .i64 0, .int .i64 0, .int .i64 0, .int .i64 0, .int .i64 0, .slice none 0 0, .string ⟨#[]⟩]) := Lib.hid (by have := HT6.out.puts [.int .i64 im.lead, .int .i64 im.index, .int .i64 im.bn, .int .i64 im.bnode, .int .i64 im.vn, .int .i64 im.vnode, .int .i64 im.status, .bool im.same, .int .i64 im.cmd.op, .int .i64 im.cmd.client, .int .i64 im.cmd.seq, .int .i64 im.cmd.cfrom, .int .i64 im.cmd.cto, .slice B im.cmd.data.length d, .int .i64 im.iseq, .slice B2 im.deps.length d2] 4; rw [fillv_eq _ _ _ (by show 20 ≤ 28; omega)] at this; exact this)
        have HOS7 := Lib.hid (show OwnS (w5.setCells wE.heap.size 4 [.int .i64 im.lead, .int .i64 im.index, .int .i64 im.bn, .int .i64 im.bnode, .int .i64 im.vn, .int .i64 im.vnode, .int .i64 im.status, .bool im.same, .int .i64 im.cmd.op, .int .i64 im.cmd.client, .int .i64 im.cmd.seq, .int .i64 im.cmd.cfrom, .int .i64 im.cmd.cto, .slice B im.cmd.data.length d, .int .i64 im.iseq, .slice B2 im.deps.length d2]) wE.heap.size (.slice B im.cmd.data.length d) im.cmd.data from carry HOS6.out (chg_setCells _ _ _ _) HNS.out.2.1)
        have HOR7 := Lib.hid (show OwnR (w5.setCells wE.heap.size 4 [.int .i64 im.lead, .int .i64 im.index, .int .i64 im.bn, .int .i64 im.bnode, .int .i64 im.vn, .int .i64 im.vnode, .int .i64 im.status, .bool im.same, .int .i64 im.cmd.op, .int .i64 im.cmd.client, .int .i64 im.cmd.seq, .int .i64 im.cmd.cfrom, .int .i64 im.cmd.cto, .slice B im.cmd.data.length d, .int .i64 im.iseq, .slice B2 im.deps.length d2]) wE.heap.size (.slice B2 im.deps.length d2) im.deps from carryO HOR6.out (chg_setCells _ _ _ _) HNR.out.2.1)
        clear HOS6 HOR6 HT6
        generalize w5.setCells wE.heap.size 4 [.int .i64 im.lead, .int .i64 im.index, .int .i64 im.bn, .int .i64 im.bnode, .int .i64 im.vn, .int .i64 im.vnode, .int .i64 im.status, .bool im.same, .int .i64 im.cmd.op, .int .i64 im.cmd.client, .int .i64 im.cmd.seq, .int .i64 im.cmd.cfrom, .int .i64 im.cmd.cto, .slice B im.cmd.data.length d, .int .i64 im.iseq, .slice B2 im.deps.length d2] = w6 at HT7 HOS7 HOR7 ⊢
        go_wp2_with fail
        ((with_reducible refine (rdbool_calls HT7.out.rd).mono ?_); rw [← HBO.out]; rintro e w7 ⟨rfl, hr, hc⟩)
        have HT8 := Lib.hid (HT7.out.read hr hc)
        have HOS8 := Lib.hid (show OwnS w7 wE.heap.size (.slice B im.cmd.data.length d) im.cmd.data from carry HOS7.out hc HNS.out.1)
        have HOR8 := Lib.hid (show OwnR w7 wE.heap.size (.slice B2 im.deps.length d2) im.deps from carryO HOR7.out hc HNR.out.1)
        clear hr hc HT7 HOS7 HOR7
        have hcl := HT8.out.cell 20
        have hfz := HT8.out.frozen 20
        rw [show (#[Value.int .i64 v1, .int .i64 v2, .int .i64 v3, .int .i64 v4, .int .i64 im.lead, .int .i64 im.index, .int .i64 im.bn, .int .i64 im.bnode, .int .i64 im.vn, .int .i64 im.vnode, .int .i64 im.status, .bool im.same, .int .i64 im.cmd.op, .int .i64 im.cmd.client, .int .i64 im.cmd.seq, .int .i64 im.cmd.cfrom, .int .i64 im.cmd.cto, .slice B im.cmd.data.length d, .int .i64 im.iseq, .slice B2 im.deps.length d2, .bool false, .int .i64 0, .int .i64 0, .int .i64 0, .int .i64 0, .int .i64 0, .slice none 0 0, .string ⟨#[]⟩])[20]? = some (Value.bool false) from rfl] at hcl
        go_upto_region 15 with fail
        have HT9 : Hid (Ts wE (w7.setCell ⟨wE.heap.size, 20, none⟩ (.bool b1)) base g A1 c1 DL s3 wE.heap.size 34 #[.int .i64 v1, .int .i64 v2, .int .i64 v3, .int .i64 v4, .int .i64 im.lead, .int .i64 im.index, .int .i64 im.bn, .int .i64 im.bnode, .int .i64 im.vn, .int .i64 im.vnode, .int .i64 im.status, .bool im.same, .int .i64 im.cmd.op, .int .i64 im.cmd.client, .int .i64 im.cmd.seq, .int .i64 im.cmd.cfrom, .int .i64 im.cmd.cto, .slice B im.cmd.data.length d, .int .i64 im.iseq, .slice B2 im.deps.length d2, .bool b1, .int .i64 0, .int .i64 0, .int .i64 0, .int .i64 0, .int .i64 0, .slice none 0 0, .string ⟨#[]⟩]) := Lib.hid (HT8.out.put 20 (.bool b1))
        have HOS9 := Lib.hid (show OwnS (w7.setCell ⟨wE.heap.size, 20, none⟩ (.bool b1)) wE.heap.size (.slice B im.cmd.data.length d) im.cmd.data from carry HOS8.out ((Chg.refl (fun k => k = wE.heap.size) w7).setCell (.inl rfl) _) HNS.out.2.1)
        have HOR9 := Lib.hid (show OwnR (w7.setCell ⟨wE.heap.size, 20, none⟩ (.bool b1)) wE.heap.size (.slice B2 im.deps.length d2) im.deps from carryO HOR8.out ((Chg.refl (fun k => k = wE.heap.size) w7).setCell (.inl rfl) _) HNR.out.2.1)
        clear hcl hfz HT8 HOS8 HOR8
        generalize w7.setCell ⟨wE.heap.size, 20, none⟩ (.bool b1) = w8 at HT9 HOS9 HOR9 ⊢
        go_wp2_with fail
        have hp10 := blk_new w8 (.cells #[.pointer (some ⟨wE.heap.size, 21, none⟩), .pointer (some ⟨wE.heap.size, 22, none⟩), .pointer (some ⟨wE.heap.size, 23, none⟩), .pointer (some ⟨wE.heap.size, 24, none⟩), .pointer (some ⟨wE.heap.size, 25, none⟩)] 78)
        have HP10 := Lib.hid hp10
        have HT10 := Lib.hid (HT9.out.below ((Below.refl w8.heap.size w8).alloc (Nat.le_refl _) (.cells #[.pointer (some ⟨wE.heap.size, 21, none⟩), .pointer (some ⟨wE.heap.size, 22, none⟩), .pointer (some ⟨wE.heap.size, 23, none⟩), .pointer (some ⟨wE.heap.size, 24, none⟩), .pointer (some ⟨wE.heap.size, 25, none⟩)] 78)))
        have HN10 : Hid (w8.heap.size ≠ g ∧ w8.heap.size ≠ wE.heap.size) := Lib.hid ⟨by have := HT9.out.chg.size; have := HT9.out.glt; omega, by have := blk_lt HT9.out.blk; omega⟩
        clear hp10
        have HOS10 := Lib.hid (show OwnS (w8.alloc (.cells #[.pointer (some ⟨wE.heap.size, 21, none⟩), .pointer (some ⟨wE.heap.size, 22, none⟩), .pointer (some ⟨wE.heap.size, 23, none⟩), .pointer (some ⟨wE.heap.size, 24, none⟩), .pointer (some ⟨wE.heap.size, 25, none⟩)] 78)) wE.heap.size (.slice B im.cmd.data.length d) im.cmd.data from pw_own_below HOS9.out ((Below.refl w8.heap.size w8).alloc (Nat.le_refl _) _))
        have HOR10 := Lib.hid (show OwnR (w8.alloc (.cells #[.pointer (some ⟨wE.heap.size, 21, none⟩), .pointer (some ⟨wE.heap.size, 22, none⟩), .pointer (some ⟨wE.heap.size, 23, none⟩), .pointer (some ⟨wE.heap.size, 24, none⟩), .pointer (some ⟨wE.heap.size, 25, none⟩)] 78)) wE.heap.size (.slice B2 im.deps.length d2) im.deps from carryO HOR9.out (Chg.of_same ((Below.refl w8.heap.size w8).alloc (Nat.le_refl _) _) (fun k => k = g)) HNR.out.1)
        clear HOS9 HOR9
        generalize w8.alloc (.cells #[.pointer (some ⟨wE.heap.size, 21, none⟩), .pointer (some ⟨wE.heap.size, 22, none⟩), .pointer (some ⟨wE.heap.size, 23, none⟩), .pointer (some ⟨wE.heap.size, 24, none⟩), .pointer (some ⟨wE.heap.size, 25, none⟩)] 78) = w9 at HP10 HT10 HOS10 HOR10 ⊢
        go_loopw [68] (fun vi wr => ∃ i : Nat, vi = .int .i64 i ∧ i ≤ 5 ∧ Hid (Ts wE wr base g A1 c1 DL (intsR DL i s3).2 wE.heap.size 34 (fill #[.int .i64 v1, .int .i64 v2, .int .i64 v3, .int .i64 v4, .int .i64 im.lead, .int .i64 im.index, .int .i64 im.bn, .int .i64 im.bnode, .int .i64 im.vn, .int .i64 im.vnode, .int .i64 im.status, .bool im.same, .int .i64 im.cmd.op, .int .i64 im.cmd.client, .int .i64 im.cmd.seq, .int .i64 im.cmd.cfrom, .int .i64 im.cmd.cto, .slice B im.cmd.data.length d, .int .i64 im.iseq, .slice B2 im.deps.length d2, .bool b1, .int .i64 0, .int .i64 0, .int .i64 0, .int .i64 0, .int .i64 0, .slice none 0 0, .string ⟨#[]⟩] 21 (intsR DL i s3).1)) ∧ Hid (wr.heap[w8.heap.size]? = some (.cells #[.pointer (some ⟨wE.heap.size, 21, none⟩), .pointer (some ⟨wE.heap.size, 22, none⟩), .pointer (some ⟨wE.heap.size, 23, none⟩), .pointer (some ⟨wE.heap.size, 24, none⟩), .pointer (some ⟨wE.heap.size, 25, none⟩)] 78 (0, 0))) ∧ Hid (OwnS wr wE.heap.size (.slice B im.cmd.data.length d) im.cmd.data) ∧ Hid (OwnR wr wE.heap.size (.slice B2 im.deps.length d2) im.deps)) (fun vi _ => 5 - (intOf vi).toNat)
        case atStart => exact ⟨0, rfl, by omega, HT10, HP10, HOS10, HOR10⟩
        case round =>
        obtain ⟨i, rfl, hi, HT, HP, HOSi, HORi⟩ := hrel
        by_cases hlt : i < 5
        · have hptr : wr.cell? ⟨w8.heap.size, i, none⟩ = some (.pointer (some ⟨wE.heap.size, 21 + i, none⟩)) := by
            rw [blk_cell HP.out]
            have : i = 0 ∨ i = 1 ∨ i = 2 ∨ i = 3 ∨ i = 4 := by omega
            rcases this with rfl | rfl | rfl | rfl | rfl <;> rfl
          go_wp2_with fail
          ((with_reducible refine (rdint_calls HT.out.rd).mono ?_); rintro e wq ⟨rfl, hr, hc⟩)
          have HTq := Lib.hid (HT.out.read hr hc)
          have HPq := Lib.hid (hc.get HP.out HN10.out.1)
          have HOSq := Lib.hid (show OwnS wq wE.heap.size (.slice B im.cmd.data.length d) im.cmd.data from carry HOSi.out hc HNS.out.1)
          have HORq := Lib.hid (show OwnR wq wE.heap.size (.slice B2 im.deps.length d2) im.deps from carryO HORi.out hc HNR.out.1)
          have hfz := HTq.out.frozen (21 + i)
          obtain ⟨X, hX⟩ : ∃ X, (fill #[.int .i64 v1, .int .i64 v2, .int .i64 v3, .int .i64 v4, .int .i64 im.lead, .int .i64 im.index, .int .i64 im.bn, .int .i64 im.bnode, .int .i64 im.vn, .int .i64 im.vnode, .int .i64 im.status, .bool im.same, .int .i64 im.cmd.op, .int .i64 im.cmd.client, .int .i64 im.cmd.seq, .int .i64 im.cmd.cfrom, .int .i64 im.cmd.cto, .slice B im.cmd.data.length d, .int .i64 im.iseq, .slice B2 im.deps.length d2, .bool b1, .int .i64 0, .int .i64 0, .int .i64 0, .int .i64 0, .int .i64 0, .slice none 0 0, .string ⟨#[]⟩] 21 (intsR DL i s3).1)[21 + i]? = some X := ⟨_, Array.getElem?_eq_getElem (by rw [fill_size]; show 21 + i < 28; omega)⟩
          have hcl := HTq.out.cell (21 + i)
          rw [hX] at hcl
          clear hr hc hX
          go_wp2_with fail
          go_roundw
          case measure => simp [intOf]; omega
          case rel =>
            refine ⟨i + 1, by go_num, by omega, Lib.hid ?_, Lib.hid (blk_far HPq.out HN10.out.2 _), Lib.hid (own_setCell HOSq.out HNS.out.2.1 _), Lib.hid (carryO HORq.out ((Chg.refl (fun k => k = wE.heap.size) wq).setCell (.inl rfl) _) HNR.out.2.1)⟩
            have := HTq.out.put (21 + i) (.int .i64 (intR DL (intsR DL i s3).2).1)
            rw [intsR_succ, fill_snoc, intsR_len]
            skip
            exact this
        obtain rfl : i = 5 := by omega
        have HT10 := HT
        have HOS11 := HOSi
        have HOR11 := HORi
        clear hlt hi HT HP HP10 HN10 HOSi HORi HOS10 HOR10
        have HT11 := HT10.out
        rw [HI2.out] at HT11
        have HT11 : Hid (Ts wE wr base g A1 c1 DL s4 wE.heap.size 34 #[.int .i64 v1, .int .i64 v2, .int .i64 v3, .int .i64 v4, .int .i64 im.lead, .int .i64 im.index, .int .i64 im.bn, .int .i64 im.bnode, .int .i64 im.vn, .int .i64 im.vnode, .int .i64 im.status, .bool im.same, .int .i64 im.cmd.op, .int .i64 im.cmd.client, .int .i64 im.cmd.seq, .int .i64 im.cmd.cfrom, .int .i64 im.cmd.cto, .slice B im.cmd.data.length d, .int .i64 im.iseq, .slice B2 im.deps.length d2, .bool b1, .int .i64 v5, .int .i64 v6, .int .i64 v7, .int .i64 v8, .int .i64 v9, .slice none 0 0, .string ⟨#[]⟩]) := Lib.hid HT11
        clear HT10
        go_wp2_with fail
        ((with_reducible refine (getent_calls HT11.out.rd).mono ?_); rw [← HEN.out]; rintro e w11 ⟨x3, rfl, ho3, hr, hc⟩)
        have hbs : wE.heap.size ≤ wr.heap.size := HT11.out.chg.size
        have hbl : wE.heap.size < wr.heap.size := blk_lt HT11.out.blk
        have HOE12 := Lib.hid (show OwnE w11 wE.heap.size x3 D from orow_base_mono ho3 hbs)
        have HNE : Hid (some g ≠ x3.ownBlock ∧ some wE.heap.size ≠ x3.ownBlock ∧ some w.heap.size ≠ x3.ownBlock) := Lib.hid ⟨fun hk => by have := orow_base ho3 _ hk.symm; omega, fun hk => by have := orow_base ho3 _ hk.symm; omega, fun hk => by have := orow_base ho3 _ hk.symm; omega⟩
        clear ho3
        obtain ⟨B3, d3, rfl, _⟩ := OwnRow.slice_ HOE12.out
        have HT12 := Lib.hid (HT11.out.read hr hc)
        have HOS12 := Lib.hid (show OwnS w11 wE.heap.size (.slice B im.cmd.data.length d) im.cmd.data from carry HOS11.out hc HNS.out.1)
        have HOR12 := Lib.hid (show OwnR w11 wE.heap.size (.slice B2 im.deps.length d2) im.deps from carryO HOR11.out hc HNR.out.1)
        clear hr hc HT11 HOS11 HOR11
        have hcl := HT12.out.cell 26
        have hfz := HT12.out.frozen 26
        rw [show (#[Value.int .i64 v1, .int .i64 v2, .int .i64 v3, .int .i64 v4, .int .i64 im.lead, .int .i64 im.index, .int .i64 im.bn, .int .i64 im.bnode, .int .i64 im.vn, .int .i64 im.vnode, .int .i64 im.status, .bool im.same, .int .i64 im.cmd.op, .int .i64 im.cmd.client, .int .i64 im.cmd.seq, .int .i64 im.cmd.cfrom, .int .i64 im.cmd.cto, .slice B im.cmd.data.length d, .int .i64 im.iseq, .slice B2 im.deps.length d2, .bool b1, .int .i64 v5, .int .i64 v6, .int .i64 v7, .int .i64 v8, .int .i64 v9, .slice none 0 0, .string ⟨#[]⟩])[26]? = some (Value.slice none 0 0) from rfl] at hcl
        go_upto_region 21 with fail
        have HT13 : Hid (Ts wE (w11.setCell ⟨wE.heap.size, 26, none⟩ (.slice B3 D.length d3)) base g A1 c1 DL s5 wE.heap.size 34 #[.int .i64 v1, .int .i64 v2, .int .i64 v3, .int .i64 v4, .int .i64 im.lead, .int .i64 im.index, .int .i64 im.bn, .int .i64 im.bnode, .int .i64 im.vn, .int .i64 im.vnode, .int .i64 im.status, .bool im.same, .int .i64 im.cmd.op, .int .i64 im.cmd.client, .int .i64 im.cmd.seq, .int .i64 im.cmd.cfrom, .int .i64 im.cmd.cto, .slice B im.cmd.data.length d, .int .i64 im.iseq, .slice B2 im.deps.length d2, .bool b1, .int .i64 v5, .int .i64 v6, .int .i64 v7, .int .i64 v8, .int .i64 v9, .slice B3 D.length d3, .string ⟨#[]⟩]) := Lib.hid (HT12.out.put 26 (.slice B3 D.length d3))
        have HOS13 := Lib.hid (show OwnS (w11.setCell ⟨wE.heap.size, 26, none⟩ (.slice B3 D.length d3)) wE.heap.size (.slice B im.cmd.data.length d) im.cmd.data from carry HOS12.out ((Chg.refl (fun k => k = wE.heap.size) w11).setCell (.inl rfl) _) HNS.out.2.1)
        have HOR13 := Lib.hid (show OwnR (w11.setCell ⟨wE.heap.size, 26, none⟩ (.slice B3 D.length d3)) wE.heap.size (.slice B2 im.deps.length d2) im.deps from carryO HOR12.out ((Chg.refl (fun k => k = wE.heap.size) w11).setCell (.inl rfl) _) HNR.out.2.1)
        have HOE13 := Lib.hid (show OwnE (w11.setCell ⟨wE.heap.size, 26, none⟩ (.slice B3 D.length d3)) wE.heap.size (.slice B3 D.length d3) D from carryO HOE12.out ((Chg.refl (fun k => k = wE.heap.size) w11).setCell (.inl rfl) _) HNE.out.2.1)
        clear hcl hfz HT12 HOS12 HOR12 HOE12
        generalize w11.setCell ⟨wE.heap.size, 26, none⟩ (.slice B3 D.length d3) = w12 at HT13 HOS13 HOR13 HOE13 ⊢
        go_wp2_with fail
        ((with_reducible refine (rdtextS_calls HT13.out.rd).mono ?_); rw [← HTX.out]; rintro e w13 ⟨rfl, hr, hc⟩)
        have HT14 := Lib.hid (HT13.out.read hr hc)
        have HOS14 := Lib.hid (show OwnS w13 wE.heap.size (.slice B im.cmd.data.length d) im.cmd.data from carry HOS13.out hc HNS.out.1)
        have HOR14 := Lib.hid (show OwnR w13 wE.heap.size (.slice B2 im.deps.length d2) im.deps from carryO HOR13.out hc HNR.out.1)
        have HOE14 := Lib.hid (show OwnE w13 wE.heap.size (.slice B3 D.length d3) D from carryO HOE13.out hc HNE.out.1)
        clear hr hc HT13 HOS13 HOR13 HOE13
        have hcl := HT14.out.cell 27
        have hfz := HT14.out.frozen 27
        rw [show (#[Value.int .i64 v1, .int .i64 v2, .int .i64 v3, .int .i64 v4, .int .i64 im.lead, .int .i64 im.index, .int .i64 im.bn, .int .i64 im.bnode, .int .i64 im.vn, .int .i64 im.vnode, .int .i64 im.status, .bool im.same, .int .i64 im.cmd.op, .int .i64 im.cmd.client, .int .i64 im.cmd.seq, .int .i64 im.cmd.cfrom, .int .i64 im.cmd.cto, .slice B im.cmd.data.length d, .int .i64 im.iseq, .slice B2 im.deps.length d2, .bool b1, .int .i64 v5, .int .i64 v6, .int .i64 v7, .int .i64 v8, .int .i64 v9, .slice B3 D.length d3, .string ⟨#[]⟩])[27]? = some (Value.string ⟨#[]⟩) from rfl] at hcl
        go_upto_region 22 with fail
        have HT15 : Hid (Ts wE (w13.setCell ⟨wE.heap.size, 27, none⟩ (.string t1)) base g A1 c1 DL s6 wE.heap.size 34 #[.int .i64 v1, .int .i64 v2, .int .i64 v3, .int .i64 v4, .int .i64 im.lead, .int .i64 im.index, .int .i64 im.bn, .int .i64 im.bnode, .int .i64 im.vn, .int .i64 im.vnode, .int .i64 im.status, .bool im.same, .int .i64 im.cmd.op, .int .i64 im.cmd.client, .int .i64 im.cmd.seq, .int .i64 im.cmd.cfrom, .int .i64 im.cmd.cto, .slice B im.cmd.data.length d, .int .i64 im.iseq, .slice B2 im.deps.length d2, .bool b1, .int .i64 v5, .int .i64 v6, .int .i64 v7, .int .i64 v8, .int .i64 v9, .slice B3 D.length d3, .string t1]) := Lib.hid (HT14.out.put 27 (.string t1))
        have HOS15 := Lib.hid (show OwnS (w13.setCell ⟨wE.heap.size, 27, none⟩ (.string t1)) wE.heap.size (.slice B im.cmd.data.length d) im.cmd.data from carry HOS14.out ((Chg.refl (fun k => k = wE.heap.size) w13).setCell (.inl rfl) _) HNS.out.2.1)
        have HOR15 := Lib.hid (show OwnR (w13.setCell ⟨wE.heap.size, 27, none⟩ (.string t1)) wE.heap.size (.slice B2 im.deps.length d2) im.deps from carryO HOR14.out ((Chg.refl (fun k => k = wE.heap.size) w13).setCell (.inl rfl) _) HNR.out.2.1)
        have HOE15 := Lib.hid (show OwnE (w13.setCell ⟨wE.heap.size, 27, none⟩ (.string t1)) wE.heap.size (.slice B3 D.length d3) D from carryO HOE14.out ((Chg.refl (fun k => k = wE.heap.size) w13).setCell (.inl rfl) _) HNE.out.2.1)
        clear hcl hfz HT14 HOS14 HOR14 HOE14
        generalize w13.setCell ⟨wE.heap.size, 27, none⟩ (.string t1) = w14 at HT15 HOS15 HOR15 HOE15 ⊢
        go_wp2_with fail
        ((with_reducible refine (end_calls HT15.out.rd).mono ?_); rintro e w15 ⟨rfl, hb⟩)
        have HT16 := Lib.hid (HT15.out.below hb)
        have hc : Chg (fun k => k = g) w14 w15 := Chg.of_same hb _
        have HOS16 := Lib.hid (show OwnS w15 wE.heap.size (.slice B im.cmd.data.length d) im.cmd.data from carry HOS15.out hc HNS.out.1)
        have HOR16 := Lib.hid (show OwnR w15 wE.heap.size (.slice B2 im.deps.length d2) im.deps from carryO HOR15.out hc HNR.out.1)
        have HOE16 := Lib.hid (show OwnE w15 wE.heap.size (.slice B3 D.length d3) D from carryO HOE15.out hc HNE.out.1)
        have HBK16 := Lib.hid (HT16.out.chg.get HBKE.out (show ¬ w.heap.size = g by omega))
        have HB16 := Lib.hid (HB3.out.trans (HT16.out.chg.below (Nat.le_of_lt hrE) (fun i hi hk => by omega) : Below w.heap.size wE w15))
        clear hb hc HT15 HOS15 HOR15 HOE15
        by_cases hs : s6 = some DL.length
        · have hd : decide (s6 = some DL.length) = true := decide_eq_true hs
          rw [hd]
          have hde : decE l = 0 := HC1.out (by rw [HM.out]; exact hs)
          have hdm := HDM.out
          rw [if_pos hde, HM.out] at hdm
          have HDE := Lib.hid hde
          have HDM2 := Lib.hid hdm
          clear hd hs hde hdm
          go_wp2_with (first | (refine wpList_load_row rfl 34 (.tmp 8) rfl wE.heap.size rfl 34 _ (0, 0) _ HT16.out.blk Try.underlying34 rfl inf34b ?_) | (refine wpList_store_row rfl 34 (.tmp 2) (.tmp 87) rfl w.heap.size #[.int .i64 v1, .int .i64 v2, .int .i64 v3, .int .i64 v4, .int .i64 im.lead, .int .i64 im.index, .int .i64 im.bn, .int .i64 im.bnode, .int .i64 im.vn, .int .i64 im.vnode, .int .i64 im.status, .bool im.same, .int .i64 im.cmd.op, .int .i64 im.cmd.client, .int .i64 im.cmd.seq, .int .i64 im.cmd.cfrom, .int .i64 im.cmd.cto, .slice B im.cmd.data.length d, .int .i64 im.iseq, .slice B2 im.deps.length d2, .bool b1, .int .i64 v5, .int .i64 v6, .int .i64 v7, .int .i64 v8, .int .i64 v9, .slice B3 D.length d3, .string t1] rfl rfl 34 _ HBK16.out inf34b rfl (by simp [Value.oneCell']) ?_))
          (try simp only [Exit.inBlock, Exit.then])
          refine bodyPost_ret (ret_cell2 rfl _ _ w.heap.size 34 _ rfl (setRow_heap _ _ _ _ _ _ HBK16.out) inf34b) rfl ?_
          have q1 : OwnS (w15.setRow w.heap.size #[.int .i64 v1, .int .i64 v2, .int .i64 v3, .int .i64 v4, .int .i64 im.lead, .int .i64 im.index, .int .i64 im.bn, .int .i64 im.bnode, .int .i64 im.vn, .int .i64 im.vnode, .int .i64 im.status, .bool im.same, .int .i64 im.cmd.op, .int .i64 im.cmd.client, .int .i64 im.cmd.seq, .int .i64 im.cmd.cfrom, .int .i64 im.cmd.cto, .slice B im.cmd.data.length d, .int .i64 im.iseq, .slice B2 im.deps.length d2, .bool b1, .int .i64 v5, .int .i64 v6, .int .i64 v7, .int .i64 v8, .int .i64 v9, .slice B3 D.length d3, .string t1]) wE.heap.size (.slice B im.cmd.data.length d) im.cmd.data := carry HOS16.out (chg_setRow _ _ _) HNS.out.2.2
          have q2 : OwnR (w15.setRow w.heap.size #[.int .i64 v1, .int .i64 v2, .int .i64 v3, .int .i64 v4, .int .i64 im.lead, .int .i64 im.index, .int .i64 im.bn, .int .i64 im.bnode, .int .i64 im.vn, .int .i64 im.vnode, .int .i64 im.status, .bool im.same, .int .i64 im.cmd.op, .int .i64 im.cmd.client, .int .i64 im.cmd.seq, .int .i64 im.cmd.cfrom, .int .i64 im.cmd.cto, .slice B im.cmd.data.length d, .int .i64 im.iseq, .slice B2 im.deps.length d2, .bool b1, .int .i64 v5, .int .i64 v6, .int .i64 v7, .int .i64 v8, .int .i64 v9, .slice B3 D.length d3, .string t1]) wE.heap.size (.slice B2 im.deps.length d2) im.deps := carryO HOR16.out (chg_setRow _ _ _) HNR.out.2.2
          have q3 : OwnE (w15.setRow w.heap.size #[.int .i64 v1, .int .i64 v2, .int .i64 v3, .int .i64 v4, .int .i64 im.lead, .int .i64 im.index, .int .i64 im.bn, .int .i64 im.bnode, .int .i64 im.vn, .int .i64 im.vnode, .int .i64 im.status, .bool im.same, .int .i64 im.cmd.op, .int .i64 im.cmd.client, .int .i64 im.cmd.seq, .int .i64 im.cmd.cfrom, .int .i64 im.cmd.cto, .slice B im.cmd.data.length d, .int .i64 im.iseq, .slice B2 im.deps.length d2, .bool b1, .int .i64 v5, .int .i64 v6, .int .i64 v7, .int .i64 v8, .int .i64 v9, .slice B3 D.length d3, .string t1]) wE.heap.size (.slice B3 D.length d3) D := carryO HOE16.out (chg_setRow _ _ _) HNE.out.2.2
          obtain ⟨a1, e1, h1, r1⟩ := q1.readsC
          obtain ⟨a2, e2, h2, r2⟩ := q2.reads
          obtain ⟨a3, e3, h3, r3⟩ := q3.reads
          injection h1 with h1a h1b h1c
          injection h2 with h2a h2b h2c
          injection h3 with h3a h3b h3c
          subst h1a h1c h2a h2c h3a h3c
          refine ⟨B, d, B2, d2, B3, d3, ?_, ?_, ?_, ?_, below_row HB16.out (Nat.le_refl _)⟩
          · rw [HDM2.out, HDE.out]; rfl
          · rw [HDM2.out]; exact r1
          · rw [HDM2.out]; exact r2
          · rw [HDM2.out]; exact r3
        · have hd : decide (s6 = some DL.length) = false := decide_eq_false hs
          rw [hd]
          have hde : decE l = 4 := HC2.out (by rw [HM.out]; exact hs)
          have HDE := Lib.hid hde
          clear hd hs hde
          go_wp2_with (refine wpList_store_row rfl 34 (.tmp 2) (.tmp 86) rfl w.heap.size #[.int .i64 0, .int .i64 0, .int .i64 0, .int .i64 0, .int .i64 0, .int .i64 0, .int .i64 0, .int .i64 0, .int .i64 0, .int .i64 0, .int .i64 0, .bool false, .int .i64 0, .int .i64 0, .int .i64 0, .int .i64 0, .int .i64 0, .slice none 0 0, .int .i64 0, .slice none 0 0, .bool false, .int .i64 0, .int .i64 0, .int .i64 0, .int .i64 0, .int .i64 0, .slice none 0 0, .string ⟨#[]⟩] rfl rfl 34 _ HBK16.out inf34b rfl (by simp [Value.oneCell']) ?_)
          (try simp only [Exit.inBlock, Exit.then])
          refine bodyPost_ret (ret_cell2 rfl _ _ w.heap.size 34 _ rfl (setRow_heap _ _ _ _ _ _ HBK16.out) inf34b) rfl ?_
          exact decPost_zero 4 (by rw [HDE.out]; rfl) (by rw [HDE.out]; decide) (below_row HB16.out (Nat.le_refl _))
      · have hde : decE l = 4 := by unfold decE; rw [if_neg h8, if_neg (by omega), if_pos hnx]
        have HDE := Lib.hid hde
        have hkb : (k == (n : Int)) = false := by rw [beq_eq_false_iff_ne]; omega
        rw [h0]
        clear hbad hgood hde h8 hb h0 hk ho hnx
        go_wp2_with (refine wpList_store_row rfl 34 (.tmp 2) (.tmp 32) rfl w.heap.size #[.int .i64 0, .int .i64 0, .int .i64 0, .int .i64 0, .int .i64 0, .int .i64 0, .int .i64 0, .int .i64 0, .int .i64 0, .int .i64 0, .int .i64 0, .bool false, .int .i64 0, .int .i64 0, .int .i64 0, .int .i64 0, .int .i64 0, .slice none 0 0, .int .i64 0, .slice none 0 0, .bool false, .int .i64 0, .int .i64 0, .int .i64 0, .int .i64 0, .int .i64 0, .slice none 0 0, .string ⟨#[]⟩] rfl rfl 34 _ HBK2.out inf34b rfl (by simp [Value.oneCell']) ?_)
        (try simp only [Exit.inBlock, Exit.then])
        refine bodyPost_ret (ret_cell2 rfl _ _ w.heap.size 34 _ rfl (setRow_heap _ _ _ _ _ _ HBK2.out) inf34b) rfl ?_
        exact decPost_zero 4 (by rw [HDE.out]; rfl) (by rw [HDE.out]; decide) (below_row HB2.out (Nat.le_refl _))
    · have hde : decE l = unf l := by unfold decE; rw [if_neg h8, if_pos h0]
      obtain ⟨rfl, rfl⟩ := hbad h0
      have HDE := Lib.hid hde
      have H0 := Lib.hid h0
      obtain ⟨q, hq⟩ : ∃ q, q = unf l := ⟨_, rfl⟩
      rw [← hq] at h0 h8 ⊢
      have HQ := Lib.hid hq
      have hb8 : ((q : Int) == 8) = false := by rw [beq_eq_false_iff_ne]; omega
      have hb0 : ((q : Int) == 0) = false := by rw [beq_eq_false_iff_ne]; omega
      clear hbad hgood hde h8 hb h0 hq
      go_wp2_with (refine wpList_store_row rfl 34 (.tmp 2) (.tmp 36) rfl w.heap.size #[.int .i64 0, .int .i64 0, .int .i64 0, .int .i64 0, .int .i64 0, .int .i64 0, .int .i64 0, .int .i64 0, .int .i64 0, .int .i64 0, .int .i64 0, .bool false, .int .i64 0, .int .i64 0, .int .i64 0, .int .i64 0, .int .i64 0, .slice none 0 0, .int .i64 0, .slice none 0 0, .bool false, .int .i64 0, .int .i64 0, .int .i64 0, .int .i64 0, .int .i64 0, .slice none 0 0, .string ⟨#[]⟩] rfl rfl 34 _ HBK2.out inf34b rfl (by simp [Value.oneCell']) ?_)
      (try simp only [Exit.inBlock, Exit.then])
      refine bodyPost_ret (ret_cell2 rfl _ _ w.heap.size 34 _ rfl (setRow_heap _ _ _ _ _ _ HBK2.out) inf34b) rfl ?_
      exact decPost_zero q (by rw [HDE.out, HQ.out]) (by rw [HDE.out]; exact H0.out) (below_row HB2.out (Nat.le_refl _))

end Go.Proofs.Ytneebjlpeekmbaa
