/- How an instance is taken from a Reader. Conditions: bytes are bytes. -/
import Derived.Test.YtneebjlpeekmbaaTakC
import Derived.Deep.MidRow
namespace Go.Proofs.Ytneebjlpeekmbaa
open Go.RowKit Go.Proofs.YtneebjlpeekmbaaW.PrintWords Go.Proofs.YtneebjlpeekmbaaW.PrintLast Go.Proofs.YtneebjlpeekmbaaW.PrintMore PRef
set_option linter.unusedVariables false
set_option linter.unusedSimpArgs false

/-- Cells from off on, overwritten. -/
def fillv (cs : Array Value) (off : Nat) : List Value → Array Value
  | [] => cs
  | v :: vs => fillv (cs.setIfInBounds off v) (off + 1) vs
theorem Ts.puts {w base g A c xs s b t} : ∀ (vs : List Value) (o : Nat) {wr : World} {cs : Array Value} (h : Ts w wr base g A c xs s b t cs), Ts w (wr.setCells b o vs) base g A c xs s b t (fillv cs o vs)
  | [], _, _, _, h => h
  | v :: vs, o, _, _, h => Ts.puts vs (o + 1) (h.put o v)
theorem chg_setCells (b : Nat) : ∀ (vs : List Value) (o : Nat) (w : World), Chg (fun k => k = b) w (w.setCells b o vs)
  | [], _, w => Chg.refl _ w
  | v :: vs, o, w => ((Chg.refl (fun k => k = b) w).setCell (p := ⟨b, o, none⟩) (.inl rfl) v).trans (chg_setCells b vs (o + 1) _) (fun _ _ h => h)
theorem carry {w1 w2 : World} {base x n size : Nat} {e : TypeId} {v : Value} {l : List Value} (ho : w1.ownsRow base e size v n l) (hc : Chg (fun k => k = x) w1 w2) (hne : some x ≠ v.ownBlock) : w2.ownsRow base e size v n l :=
  own_move ho (fun k hk => hc.block k (own_lt ho k hk) (fun he => hne (by rw [hk, he])))
theorem carryO {α : Type} {R : α → List Value → Prop} {w1 w2 : World} {base x size : Nat} {e : TypeId} {v : Value} {l : List α} (ho : OwnRow R e size w1 base v l) (hc : Chg (fun k => k = x) w1 w2) (hne : some x ≠ v.ownBlock) : OwnRow R e size w2 base v l :=
  orow_move ho (fun k hk => hc.block k (orow_lt ho k hk) (fun he => hne (by rw [hk, he])))
theorem orow_base_mono {α : Type} {R : α → List Value → Prop} {w1 : World} {b0 b1 size : Nat} {e : TypeId} {v : Value} {l : List α} (ho : OwnRow R e size w1 b1 v l) (hb : b0 ≤ b1) : OwnRow R e size w1 b0 v l := by
  obtain ⟨inner, h, hr⟩ := ho
  exact ⟨inner, own_base_mono h hb, hr⟩
theorem chg_setRow (w : World) (b : Nat) (cs : Array Value) : Chg (fun k => k = b) w (w.setRow b cs) := ⟨rfl, rfl, rfl, by rw [setRow_size]; exact Nat.le_refl _, fun i hi hn => setRow_other w b i cs hn⟩
theorem there_blk {w : World} {b : Nat} {t : TypeId} {cs : Array Value} (h : w.heap[b]? = some (.cells cs t (0, 0))) (o n : Nat) (hn : o + n ≤ cs.size) : w.there b o n := fun j hj => ⟨by rw [blk_cell h, Array.getElem?_eq_getElem (by omega)]; rfl, blk_frozen h _⟩

def inst0 : Inst := ⟨0, 0, 0, 0, 0, 0, 0, false, cmd0, 0, []⟩
def instR (xs : List Int) (s : Option Nat) : Inst × Option Nat :=
  let p := intsR xs 7 s
  let b := boolR xs p.2
  let c := cmdR xs b.2
  let q := intR xs c.2
  let d := getR xs (refR xs) q.2
  if d.2 = none then (inst0, none) else (⟨p.1.getD 0 0, p.1.getD 1 0, p.1.getD 2 0, p.1.getD 3 0, p.1.getD 4 0, p.1.getD 5 0, p.1.getD 6 0, b.1, c.1, q.1, d.1⟩, d.2)
theorem inf31 : (Try.prog.info? 31).map (·.size) = some 16 := by kernel_rfl

set_option maxRecDepth 100000 in
set_option maxHeartbeats 4000000 in
theorem takeinst_calls {w : World} {base g : Nat} {A : Option Addr} {c : Nat} {xs : List Int} {s : Option Nat} (h : Rd w base g A c xs s) :
    Calls Try.prog 35 #[.pointer (some ⟨g, 0, none⟩)] w fun e w' => ∃ u1 u2, e = .returned (.agg #[.int .i64 (instR xs s).1.lead, .int .i64 (instR xs s).1.index, .int .i64 (instR xs s).1.bn, .int .i64 (instR xs s).1.bnode, .int .i64 (instR xs s).1.vn, .int .i64 (instR xs s).1.vnode, .int .i64 (instR xs s).1.status, .bool (instR xs s).1.same, .int .i64 (instR xs s).1.cmd.op, .int .i64 (instR xs s).1.cmd.client, .int .i64 (instR xs s).1.cmd.seq, .int .i64 (instR xs s).1.cmd.cfrom, .int .i64 (instR xs s).1.cmd.cto, u1, .int .i64 (instR xs s).1.iseq, u2]) ∧ OwnS w' w.heap.size u1 (instR xs s).1.cmd.data ∧ OwnR w' w.heap.size u2 (instR xs s).1.deps ∧ Rd w' base g A c xs (instR xs s).2 ∧ Chg (fun k => k = g) w w' := by
  have HT := Lib.hid (Ts.begin h ((Below.refl w.heap.size w).alloc (Nat.le_refl _) (.cells #[.int .i64 0, .int .i64 0, .int .i64 0, .int .i64 0, .int .i64 0, .int .i64 0, .int .i64 0, .bool false, .int .i64 0, .int .i64 0, .int .i64 0, .int .i64 0, .int .i64 0, .slice none 0 0, .int .i64 0, .slice none 0 0] 31)) (blk_new w (.cells #[.int .i64 0, .int .i64 0, .int .i64 0, .int .i64 0, .int .i64 0, .int .i64 0, .int .i64 0, .bool false, .int .i64 0, .int .i64 0, .int .i64 0, .int .i64 0, .int .i64 0, .slice none 0 0, .int .i64 0, .slice none 0 0] 31)) (Nat.le_refl _))
  clear h
  generalize hCR : instR xs s = cr
  have HCR := Lib.hid hCR
  clear hCR
  unfold instR at HCR
  have hu31 := Try.underlying31
  have hu23 := Try.underlying23
  have hu25 := Try.underlying25
  go_enter Try.func35, Try.ntmps35
  go_upto_region 1 with fail
  generalize w.alloc (.cells #[.int .i64 0, .int .i64 0, .int .i64 0, .int .i64 0, .int .i64 0, .int .i64 0, .int .i64 0, .bool false, .int .i64 0, .int .i64 0, .int .i64 0, .int .i64 0, .int .i64 0, .slice none 0 0, .int .i64 0, .slice none 0 0] 31) = w1 at HT ⊢
  go_wp2_with fail
  have hp3 := blk_new w1 (.cells #[.pointer (some ⟨w.heap.size, 0, none⟩), .pointer (some ⟨w.heap.size, 1, none⟩), .pointer (some ⟨w.heap.size, 2, none⟩), .pointer (some ⟨w.heap.size, 3, none⟩), .pointer (some ⟨w.heap.size, 4, none⟩), .pointer (some ⟨w.heap.size, 5, none⟩), .pointer (some ⟨w.heap.size, 6, none⟩)] 78)
  have HP3 := Lib.hid hp3
  have HT3 := Lib.hid (HT.out.below ((Below.refl w1.heap.size w1).alloc (Nat.le_refl _) (.cells #[.pointer (some ⟨w.heap.size, 0, none⟩), .pointer (some ⟨w.heap.size, 1, none⟩), .pointer (some ⟨w.heap.size, 2, none⟩), .pointer (some ⟨w.heap.size, 3, none⟩), .pointer (some ⟨w.heap.size, 4, none⟩), .pointer (some ⟨w.heap.size, 5, none⟩), .pointer (some ⟨w.heap.size, 6, none⟩)] 78)))
  have HN3 : Hid (w1.heap.size ≠ g ∧ w1.heap.size ≠ w.heap.size) := Lib.hid ⟨by have := HT.out.chg.size; have := HT.out.glt; omega, by have := blk_lt HT.out.blk; omega⟩
  clear hp3
  generalize w1.alloc (.cells #[.pointer (some ⟨w.heap.size, 0, none⟩), .pointer (some ⟨w.heap.size, 1, none⟩), .pointer (some ⟨w.heap.size, 2, none⟩), .pointer (some ⟨w.heap.size, 3, none⟩), .pointer (some ⟨w.heap.size, 4, none⟩), .pointer (some ⟨w.heap.size, 5, none⟩), .pointer (some ⟨w.heap.size, 6, none⟩)] 78) = w3 at HP3 HT3 ⊢
  go_loopw [20] (fun vi wr => ∃ i : Nat, vi = .int .i64 i ∧ i ≤ 7 ∧ Hid (Ts w wr base g A c xs (intsR xs i s).2 w.heap.size 31 (fill #[.int .i64 0, .int .i64 0, .int .i64 0, .int .i64 0, .int .i64 0, .int .i64 0, .int .i64 0, .bool false, .int .i64 0, .int .i64 0, .int .i64 0, .int .i64 0, .int .i64 0, .slice none 0 0, .int .i64 0, .slice none 0 0] 0 (intsR xs i s).1)) ∧ Hid (wr.heap[w1.heap.size]? = some (.cells #[.pointer (some ⟨w.heap.size, 0, none⟩), .pointer (some ⟨w.heap.size, 1, none⟩), .pointer (some ⟨w.heap.size, 2, none⟩), .pointer (some ⟨w.heap.size, 3, none⟩), .pointer (some ⟨w.heap.size, 4, none⟩), .pointer (some ⟨w.heap.size, 5, none⟩), .pointer (some ⟨w.heap.size, 6, none⟩)] 78 (0, 0)))) (fun vi _ => 7 - (intOf vi).toNat)
  case atStart => exact ⟨0, rfl, by omega, HT3, HP3⟩
  case round =>
  obtain ⟨i, rfl, hi, HT, HP⟩ := hrel
  by_cases hlt : i < 7
  · have hptr : wr.cell? ⟨w1.heap.size, i, none⟩ = some (.pointer (some ⟨w.heap.size, i, none⟩)) := by
      rw [blk_cell HP.out]
      have : i = 0 ∨ i = 1 ∨ i = 2 ∨ i = 3 ∨ i = 4 ∨ i = 5 ∨ i = 6 := by omega
      rcases this with rfl | rfl | rfl | rfl | rfl | rfl | rfl <;> rfl
    go_wp2_with fail
    ((with_reducible refine (rdint_calls HT.out.rd).mono ?_); rintro e wq ⟨rfl, hr, hc⟩)
    have HTq := Lib.hid (HT.out.read hr hc)
    have HPq := Lib.hid (hc.get HP.out HN3.out.1)
    have hfz := HTq.out.frozen (i)
    obtain ⟨X, hX⟩ : ∃ X, (fill #[.int .i64 0, .int .i64 0, .int .i64 0, .int .i64 0, .int .i64 0, .int .i64 0, .int .i64 0, .bool false, .int .i64 0, .int .i64 0, .int .i64 0, .int .i64 0, .int .i64 0, .slice none 0 0, .int .i64 0, .slice none 0 0] 0 (intsR xs i s).1)[i]? = some X := ⟨_, Array.getElem?_eq_getElem (by rw [fill_size]; show i < 16; omega)⟩
    have hcl := HTq.out.cell (i)
    rw [hX] at hcl
    clear hr hc hX
    go_wp2_with fail
    go_roundw
    case measure => simp [intOf]; omega
    case rel =>
      refine ⟨i + 1, by go_num, by omega, Lib.hid ?_, Lib.hid (blk_far HPq.out HN3.out.2 _)⟩
      have := HTq.out.put (i) (.int .i64 (intR xs (intsR xs i s).2).1)
      rw [intsR_succ, fill_snoc, intsR_len]
      rw [Nat.zero_add]
      exact this
  obtain rfl : i = 7 := by omega
  have HT3 := HT
  clear hlt hi HT HP HP3 HN3
  obtain ⟨v1, v2, v3, v4, v5, v6, v7, s5, hi5⟩ : ∃ v1 v2 v3 v4 v5 v6 v7 s5, intsR xs 7 s = ([v1, v2, v3, v4, v5, v6, v7], s5) := ⟨_, _, _, _, _, _, _, _, rfl⟩
  have HT4 := HT3.out
  have hcr := HCR.out
  rw [hi5] at HT4 hcr
  dsimp only at HT4 hcr
  have HT4 : Hid (Ts w wr base g A c xs s5 w.heap.size 31 #[.int .i64 v1, .int .i64 v2, .int .i64 v3, .int .i64 v4, .int .i64 v5, .int .i64 v6, .int .i64 v7, .bool false, .int .i64 0, .int .i64 0, .int .i64 0, .int .i64 0, .int .i64 0, .slice none 0 0, .int .i64 0, .slice none 0 0]) := Lib.hid HT4
  obtain ⟨p, hp⟩ : ∃ p, p = boolR xs s5 := ⟨_, rfl⟩
  rw [← hp] at hcr
  have HBO := Lib.hid hp
  clear hp hi5 HT3
  obtain ⟨b1, s6⟩ := p
  dsimp only at hcr
  obtain ⟨p, hp⟩ : ∃ p, p = cmdR xs s6 := ⟨_, rfl⟩
  rw [← hp] at hcr
  have HCM := Lib.hid hp
  clear hp
  obtain ⟨cm, s7⟩ := p
  dsimp only at hcr
  obtain ⟨p, hp⟩ : ∃ p, p = intR xs s7 := ⟨_, rfl⟩
  rw [← hp] at hcr
  have HQ := Lib.hid hp
  clear hp
  obtain ⟨q1, s8⟩ := p
  dsimp only at hcr
  obtain ⟨p, hp⟩ : ∃ p, p = getR xs (refR xs) s8 := ⟨_, rfl⟩
  rw [← hp] at hcr
  have HD := Lib.hid hp
  clear hp
  obtain ⟨D, s9⟩ := p
  dsimp only at hcr
  have HCR := Lib.hid hcr
  clear hcr
  go_wp2_with fail
  ((with_reducible refine (rdbool_calls HT4.out.rd).mono ?_); rw [← HBO.out]; rintro e w5 ⟨rfl, hr, hc⟩)
  have HT5 := Lib.hid (HT4.out.read hr hc)
  have hcl := HT5.out.cell 7
  have hfz := HT5.out.frozen 7
  rw [show (#[Value.int .i64 v1, .int .i64 v2, .int .i64 v3, .int .i64 v4, .int .i64 v5, .int .i64 v6, .int .i64 v7, .bool false, .int .i64 0, .int .i64 0, .int .i64 0, .int .i64 0, .int .i64 0, .slice none 0 0, .int .i64 0, .slice none 0 0])[7]? = some (Value.bool false) from rfl] at hcl
  clear hr hc HT4
  go_upto_region 7 with fail
  have HT6 : Hid (Ts w (w5.setCell ⟨w.heap.size, 7, none⟩ (.bool b1)) base g A c xs s6 w.heap.size 31 #[.int .i64 v1, .int .i64 v2, .int .i64 v3, .int .i64 v4, .int .i64 v5, .int .i64 v6, .int .i64 v7, .bool b1, .int .i64 0, .int .i64 0, .int .i64 0, .int .i64 0, .int .i64 0, .slice none 0 0, .int .i64 0, .slice none 0 0]) := Lib.hid (HT5.out.put 7 (.bool b1))
  clear hcl hfz HT5
  generalize w5.setCell ⟨w.heap.size, 7, none⟩ (.bool b1) = w6 at HT6 ⊢
  go_wp2_with fail
  ((with_reducible refine (takecmd_calls HT6.out.rd).mono ?_); rw [← HCM.out]; rintro e w7 ⟨v, rfl, ho, hr, hc⟩)
  have HT7 := Lib.hid (HT6.out.read hr hc)
  have hbs : w.heap.size ≤ w6.heap.size := HT6.out.chg.size
  have hbl : w.heap.size < w6.heap.size := blk_lt HT6.out.blk
  have hne : some w.heap.size ≠ v.ownBlock := fun hk => by have := own_base ho _ hk.symm; omega
  have HO := Lib.hid (show OwnS w7 w.heap.size v cm.data from own_base_mono ho hbs)
  have hneg : some g ≠ v.ownBlock := fun hk => by have := own_base ho _ hk.symm; have := HT6.out.glt; omega
  have HNE := Lib.hid hne
  have HNEG := Lib.hid hneg
  clear ho hr hc HT6 hne hneg
  obtain ⟨B, d, rfl⟩ := own_slice HO.out
  go_upto_region 8 with (refine wpList_store_mid rfl 28 (.tmp 34) (.tmp 33) rfl w.heap.size 8 #[.int .i64 cm.op, .int .i64 cm.client, .int .i64 cm.seq, .int .i64 cm.cfrom, .int .i64 cm.cto, .slice B cm.data.length d] rfl rfl (there_blk HT7.out.blk 8 6 (by show 14 ≤ 16; omega)) inf28 (by simp [Value.oneCell']) ?_)
  have HT8 : Hid (Ts w (w7.setCells w.heap.size 8 [.int .i64 cm.op, .int .i64 cm.client, .int .i64 cm.seq, .int .i64 cm.cfrom, .int .i64 cm.cto, .slice B cm.data.length d]) base g A c xs s7 w.heap.size 31 #[.int .i64 v1, .int .i64 v2, .int .i64 v3, .int .i64 v4, .int .i64 v5, .int .i64 v6, .int .i64 v7, .bool b1, .int .i64 cm.op, .int .i64 cm.client, .int .i64 cm.seq, .int .i64 cm.cfrom, .int .i64 cm.cto, .slice B cm.data.length d, .int .i64 0, .slice none 0 0]) := Lib.hid (HT7.out.puts [.int .i64 cm.op, .int .i64 cm.client, .int .i64 cm.seq, .int .i64 cm.cfrom, .int .i64 cm.cto, .slice B cm.data.length d] 8)
  have HO8 := Lib.hid (show OwnS (w7.setCells w.heap.size 8 [.int .i64 cm.op, .int .i64 cm.client, .int .i64 cm.seq, .int .i64 cm.cfrom, .int .i64 cm.cto, .slice B cm.data.length d]) w.heap.size (.slice B cm.data.length d) cm.data from carry HO.out (chg_setCells _ _ _ _) HNE.out)
  clear HO HT7
  generalize w7.setCells w.heap.size 8 [.int .i64 cm.op, .int .i64 cm.client, .int .i64 cm.seq, .int .i64 cm.cfrom, .int .i64 cm.cto, .slice B cm.data.length d] = w8 at HT8 HO8 ⊢
  go_wp2_with fail
  ((with_reducible refine (rdint_calls HT8.out.rd).mono ?_); rw [← HQ.out]; rintro e w9 ⟨rfl, hr, hc⟩)
  have HT9 := Lib.hid (HT8.out.read hr hc)
  have HO9 := Lib.hid (show OwnS w9 w.heap.size (.slice B cm.data.length d) cm.data from carry HO8.out hc HNEG.out)
  have hcl := HT9.out.cell 14
  have hfz := HT9.out.frozen 14
  rw [show (#[Value.int .i64 v1, .int .i64 v2, .int .i64 v3, .int .i64 v4, .int .i64 v5, .int .i64 v6, .int .i64 v7, .bool b1, .int .i64 cm.op, .int .i64 cm.client, .int .i64 cm.seq, .int .i64 cm.cfrom, .int .i64 cm.cto, .slice B cm.data.length d, .int .i64 0, .slice none 0 0])[14]? = some (Value.int .i64 0) from rfl] at hcl
  clear hr hc HT8 HO8
  go_upto_region 9 with fail
  have HT10 : Hid (Ts w (w9.setCell ⟨w.heap.size, 14, none⟩ (.int .i64 q1)) base g A c xs s8 w.heap.size 31 #[.int .i64 v1, .int .i64 v2, .int .i64 v3, .int .i64 v4, .int .i64 v5, .int .i64 v6, .int .i64 v7, .bool b1, .int .i64 cm.op, .int .i64 cm.client, .int .i64 cm.seq, .int .i64 cm.cfrom, .int .i64 cm.cto, .slice B cm.data.length d, .int .i64 q1, .slice none 0 0]) := Lib.hid (HT9.out.put 14 (.int .i64 q1))
  have HO10 := Lib.hid (show OwnS (w9.setCell ⟨w.heap.size, 14, none⟩ (.int .i64 q1)) w.heap.size (.slice B cm.data.length d) cm.data from own_setCell HO9.out HNE.out _)
  clear hcl hfz HT9 HO9
  generalize w9.setCell ⟨w.heap.size, 14, none⟩ (.int .i64 q1) = w10 at HT10 HO10 ⊢
  go_wp2_with fail
  ((with_reducible refine (getref_calls HT10.out.rd).mono ?_); rw [← HD.out]; rintro e w11 ⟨v, rfl, ho, hr, hc⟩)
  have HT11 := Lib.hid (HT10.out.read hr hc)
  have HO11 := Lib.hid (show OwnS w11 w.heap.size (.slice B cm.data.length d) cm.data from carry HO10.out hc HNEG.out)
  have hbs : w.heap.size ≤ w10.heap.size := HT10.out.chg.size
  have hbl : w.heap.size < w10.heap.size := blk_lt HT10.out.blk
  have hne : some w.heap.size ≠ v.ownBlock := fun hk => by have := orow_base ho _ hk.symm; omega
  have HP := Lib.hid (show OwnR w11 w.heap.size v D from orow_base_mono ho hbs)
  have HNP := Lib.hid hne
  have hcl := HT11.out.cell 15
  have hfz := HT11.out.frozen 15
  rw [show (#[Value.int .i64 v1, .int .i64 v2, .int .i64 v3, .int .i64 v4, .int .i64 v5, .int .i64 v6, .int .i64 v7, .bool b1, .int .i64 cm.op, .int .i64 cm.client, .int .i64 cm.seq, .int .i64 cm.cfrom, .int .i64 cm.cto, .slice B cm.data.length d, .int .i64 q1, .slice none 0 0])[15]? = some (Value.slice none 0 0) from rfl] at hcl
  clear ho hr hc HT10 HO10 hne
  obtain ⟨B2, d2, rfl, _⟩ := OwnRow.slice_ HP.out
  go_upto_region 10 with fail
  have HT12 : Hid (Ts w (w11.setCell ⟨w.heap.size, 15, none⟩ (.slice B2 D.length d2)) base g A c xs s9 w.heap.size 31 #[.int .i64 v1, .int .i64 v2, .int .i64 v3, .int .i64 v4, .int .i64 v5, .int .i64 v6, .int .i64 v7, .bool b1, .int .i64 cm.op, .int .i64 cm.client, .int .i64 cm.seq, .int .i64 cm.cfrom, .int .i64 cm.cto, .slice B cm.data.length d, .int .i64 q1, .slice B2 D.length d2]) := Lib.hid (HT11.out.put 15 (.slice B2 D.length d2))
  have HO12 := Lib.hid (show OwnS (w11.setCell ⟨w.heap.size, 15, none⟩ (.slice B2 D.length d2)) w.heap.size (.slice B cm.data.length d) cm.data from own_setCell HO11.out HNE.out _)
  have HP12 := Lib.hid (show OwnR (w11.setCell ⟨w.heap.size, 15, none⟩ (.slice B2 D.length d2)) w.heap.size (.slice B2 D.length d2) D from carryO HP.out ((Chg.refl (fun k => k = w.heap.size) w11).setCell (.inl rfl) _) HNP.out)
  clear hcl hfz HT11 HO11 HP
  generalize w11.setCell ⟨w.heap.size, 15, none⟩ (.slice B2 D.length d2) = w12 at HT12 HO12 HP12 ⊢
  cases s9 with
  | none =>
    go_wp2_with (first | ((with_reducible refine (bad_calls HT12.out.rd).mono ?_); rintro e w' ⟨rfl, rfl⟩) | (refine wpList_store_row rfl 31 (.tmp 2) (.tmp 43) rfl w.heap.size #[.int .i64 0, .int .i64 0, .int .i64 0, .int .i64 0, .int .i64 0, .int .i64 0, .int .i64 0, .bool false, .int .i64 0, .int .i64 0, .int .i64 0, .int .i64 0, .int .i64 0, .slice none 0 0, .int .i64 0, .slice none 0 0] rfl rfl 31 _ HT12.out.blk inf31 rfl (by simp [Value.oneCell']) ?_))
    have HT13 := HT12.out.row #[.int .i64 0, .int .i64 0, .int .i64 0, .int .i64 0, .int .i64 0, .int .i64 0, .int .i64 0, .bool false, .int .i64 0, .int .i64 0, .int .i64 0, .int .i64 0, .int .i64 0, .slice none 0 0, .int .i64 0, .slice none 0 0]
    (try simp only [Exit.inBlock, Exit.then])
    refine bodyPost_ret (results_cell_row rfl _ _ w.heap.size 31 _ (0, 0) _ rfl HT13.blk Try.underlying31 rfl inf31) rfl ?_
    obtain rfl : cr = (inst0, none) := by rw [← HCR.out]; simp
    exact ⟨_, _, rfl, own_nil _ _ _ _, OwnRow.none_ _ _ _ _ _, HT13.rd, HT13.chg⟩
  | some a =>
    go_wp2_with (first | ((with_reducible refine (bad_calls HT12.out.rd).mono ?_); rintro e w' ⟨rfl, rfl⟩) | (refine wpList_load_row rfl 31 (.tmp 2) rfl w.heap.size rfl 31 _ (0, 0) _ HT12.out.blk Try.underlying31 rfl inf31 ?_) | (refine wpList_store_row rfl 31 (.tmp 2) (.tmp 44) rfl w.heap.size #[.int .i64 v1, .int .i64 v2, .int .i64 v3, .int .i64 v4, .int .i64 v5, .int .i64 v6, .int .i64 v7, .bool b1, .int .i64 cm.op, .int .i64 cm.client, .int .i64 cm.seq, .int .i64 cm.cfrom, .int .i64 cm.cto, .slice B cm.data.length d, .int .i64 q1, .slice B2 D.length d2] rfl rfl 31 _ HT12.out.blk inf31 rfl (by simp [Value.oneCell']) ?_))
    have HT13 := HT12.out.row #[.int .i64 v1, .int .i64 v2, .int .i64 v3, .int .i64 v4, .int .i64 v5, .int .i64 v6, .int .i64 v7, .bool b1, .int .i64 cm.op, .int .i64 cm.client, .int .i64 cm.seq, .int .i64 cm.cfrom, .int .i64 cm.cto, .slice B cm.data.length d, .int .i64 q1, .slice B2 D.length d2]
    (try simp only [Exit.inBlock, Exit.then])
    refine bodyPost_ret (results_cell_row rfl _ _ w.heap.size 31 _ (0, 0) _ rfl HT13.blk Try.underlying31 rfl inf31) rfl ?_
    obtain rfl : cr = (⟨v1, v2, v3, v4, v5, v6, v7, b1, cm, q1, D⟩, some a) := by rw [← HCR.out]; simp
    exact ⟨_, _, rfl, carry HO12.out (chg_setRow _ _ _) HNE.out, carryO HP12.out (chg_setRow _ _ _) HNP.out, HT13.rd, HT13.chg⟩

end Go.Proofs.Ytneebjlpeekmbaa
