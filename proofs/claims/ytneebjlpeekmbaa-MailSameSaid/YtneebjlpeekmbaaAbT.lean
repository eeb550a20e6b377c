/- A mail as one aggregate that no walk opens, and what is called with one. No conditions beyond those typed. -/
import Derived.Test.YtneebjlpeekmbaaSame15
import Derived.Test.YtneebjlpeekmbaaLive
import Derived.Test.YtneebjlpeekmbaaTurn
namespace Go.Proofs.Ytneebjlpeekmbaa
open Go.RowKit Go.Proofs.YtneebjlpeekmbaaW.PrintWords Go.Proofs.YtneebjlpeekmbaaW.PrintLast Go.Proofs.YtneebjlpeekmbaaW.PrintMore PRef
set_option linter.unusedVariables false
set_option linter.unusedSimpArgs false

/-- cs are the cells of the mail x, in the world w. -/
def InM (w : World) (cs : Array Value) (x : Mail) : Prop := ∃ A1 c1 A2 c2 A3 c3, cs = #[.int .i64 x.kind, .int .i64 x.mfrom, .int .i64 x.mto, .int .i64 x.shard, .int .i64 x.inst.lead, .int .i64 x.inst.index, .int .i64 x.inst.bn, .int .i64 x.inst.bnode, .int .i64 x.inst.vn, .int .i64 x.inst.vnode, .int .i64 x.inst.status, .bool x.inst.same, .int .i64 x.inst.cmd.op, .int .i64 x.inst.cmd.client, .int .i64 x.inst.cmd.seq, .int .i64 x.inst.cmd.cfrom, .int .i64 x.inst.cmd.cto, .slice A1 x.inst.cmd.data.length c1, .int .i64 x.inst.iseq, .slice A2 x.inst.deps.length c2, .bool x.ok, .int .i64 x.term, .int .i64 x.mindex, .int .i64 x.past, .int .i64 x.commit, .int .i64 x.epoch, .slice A3 x.entries.length c3, .string x.text] ∧ InC w A1 c1 x.inst.cmd.data ∧ InR w A2 c2 x.inst.deps ∧ InE w A3 c3 x.entries
theorem InM.below {w w1 : World} {cs : Array Value} {x : Mail} (h : InM w cs x) (hb : Below w.heap.size w w1) : InM w1 cs x := by
  obtain ⟨A1, c1, A2, c2, A3, c3, h, h1, h2, h3⟩ := h
  exact ⟨A1, c1, A2, c2, A3, c3, h, ⟨Kd.C_below h1.1 hb, h1.2⟩, ⟨Kd.C_below h2.1 hb, h2.2⟩, ⟨Kd.C_below h3.1 hb, h3.2⟩⟩
theorem InM.size {w : World} {cs : Array Value} {x : Mail} (h : InM w cs x) : cs.size = 28 := by
  obtain ⟨A1, c1, A2, c2, A3, c3, rfl, _⟩ := h
  rfl
theorem InM.info {w : World} {cs : Array Value} {x : Mail} (h : InM w cs x) : (Try.prog.info? 34).map (·.size) = some cs.size := by rw [h.size]; exact inf34b
set_option maxRecDepth 100000 in
theorem InM.one {w : World} {cs : Array Value} {x : Mail} (h : InM w cs x) : (cs.all fun x => x.oneCell') = true := by
  obtain ⟨A1, c1, A2, c2, A3, c3, rfl, _⟩ := h
  simp [Value.oneCell']
def zeroM : Array Value := #[.int .i64 0, .int .i64 0, .int .i64 0, .int .i64 0, .int .i64 0, .int .i64 0, .int .i64 0, .int .i64 0, .int .i64 0, .int .i64 0, .int .i64 0, .bool false, .int .i64 0, .int .i64 0, .int .i64 0, .int .i64 0, .int .i64 0, .slice none 0 0, .int .i64 0, .slice none 0 0, .bool false, .int .i64 0, .int .i64 0, .int .i64 0, .int .i64 0, .int .i64 0, .slice none 0 0, .string ⟨#[]⟩]
theorem inM_zero (w : World) : InM w zeroM mail0 := ⟨none, 0, none, 0, none, 0, rfl, inC_nil w, inR_nil w, inE_nil w⟩

section
variable {w : World} {cs : Array Value} {x : Mail}
theorem enc_ok_m (h : InM w cs x) (hx : MayOk x) (hi : MailI x) (hl : (encMail x).length ≤ 1048576) : Calls Try.prog 12 #[.agg cs] w fun e w' => ∃ g d, e = .returned (.tuple #[.slice (some ⟨g, 0, none⟩) ((encMail x).length + 8) d, .int .i64 0]) ∧ (encMail x).length + 8 ≤ d ∧ w.heap.size ≤ g ∧ Hid (w'.ownsRow w.heap.size 5 1 (.slice (some ⟨g, 0, none⟩) ((encMail x).length + 8) d) ((encMail x).length + 8) (nums .u8 (frameL (encMail x)))) ∧ Below w.heap.size w w' := by
  obtain ⟨A1, c1, A2, c2, A3, c3, rfl, h1, h2, h3⟩ := h
  refine (encode_calls w A1 A2 A3 c1 c2 c3 x h1 h2 h3 hx hi).mono ?_
  rintro e w' ⟨⟨v, rfl, ho, _⟩, hb⟩
  have h2 := ho hl
  unfold OwnB at h2
  rw [frameL_length] at h2
  obtain ⟨g, d, rfl, hg, _⟩ := h2.form (by omega)
  exact ⟨g, d, by rw [if_pos hl], own_le h2, hg, Lib.hid h2, hb⟩
theorem dec_m (A : Option Addr) (n c : Nat) (l : List Int) (hr : ReadsInt w .u8 A n l) (hc : n ≤ c) (hb : IsBytes l) : Calls Try.prog 14 #[.slice A n c] w fun e w' => ∃ ds, e = .returned (.tuple #[.agg ds, .int .i64 (decE l)]) ∧ Hid (InM w' ds (decM l)) ∧ Below w.heap.size w w' := by
  refine (decode_calls A n c l w hr hc hb).mono ?_
  rintro e w' ⟨A1, c1, A2, c2, A3, c3, rfl, h1, h2, h3, hb⟩
  exact ⟨_, rfl, Lib.hid ⟨A1, c1, A2, c2, A3, c3, rfl, h1, h2, h3⟩, hb⟩
theorem same15_m {ds : Array Value} (h : InM w cs x) (k : InM w ds x) : Calls Try.prog 17 #[.agg cs, .agg ds] w fun e w' => e = .returned (.bool true) ∧ Below w.heap.size w w' := by
  obtain ⟨A1, c1, A2, c2, A3, c3, rfl, h1, h2, h3⟩ := h
  obtain ⟨B1, d1, B2, d2, B3, d3, rfl, k1, k2, k3⟩ := k
  exact mailsame15_true x h1 h2 h3 k1 k2 k3
theorem same15_z (h : InM w cs mail0) : Calls Try.prog 17 #[.agg cs, .agg #[.int .i64 0, .int .i64 0, .int .i64 0, .int .i64 0, .int .i64 0, .int .i64 0, .int .i64 0, .int .i64 0, .int .i64 0, .int .i64 0, .int .i64 0, .bool false, .int .i64 0, .int .i64 0, .int .i64 0, .int .i64 0, .int .i64 0, .slice none 0 0, .int .i64 0, .slice none 0 0, .bool false, .int .i64 0, .int .i64 0, .int .i64 0, .int .i64 0, .int .i64 0, .slice none 0 0, .string ⟨#[]⟩]] w fun e w' => e = .returned (.bool true) ∧ Below w.heap.size w w' := same15_m h (inM_zero w)
theorem same15_y (h : InM w cs mail0) : Calls Try.prog 17 #[.agg #[.int .i64 0, .int .i64 0, .int .i64 0, .int .i64 0, .int .i64 0, .int .i64 0, .int .i64 0, .int .i64 0, .int .i64 0, .int .i64 0, .int .i64 0, .bool false, .int .i64 0, .int .i64 0, .int .i64 0, .int .i64 0, .int .i64 0, .slice none 0 0, .int .i64 0, .slice none 0 0, .bool false, .int .i64 0, .int .i64 0, .int .i64 0, .int .i64 0, .int .i64 0, .slice none 0 0, .string ⟨#[]⟩], .agg cs] w fun e w' => e = .returned (.bool true) ∧ Below w.heap.size w w' := same15_m (inM_zero w) h
end

theorem decE_take (us : List Int) (hx : IsBytes us) (hl : us.length ≤ 1048576) (k : Nat) (hk : k < us.length + 8) : decE ((frameL us).take k) = 4 := by
  unfold decE
  rw [unf_take us hx hl k hk]
  by_cases h : k = 0
  · rw [if_pos h, if_pos rfl]
  · rw [if_neg h, if_neg (by decide), if_pos (by decide)]
theorem decE_turned (l : List Int) (h : unf l = 5) : decE l = 5 := by
  unfold decE
  rw [h, if_neg (by decide), if_pos (by decide)]
theorem decM_bad (l : List Int) (h : decE l ≠ 0) : decM l = mail0 := by unfold decM; rw [if_neg h]
end Go.Proofs.Ytneebjlpeekmbaa
