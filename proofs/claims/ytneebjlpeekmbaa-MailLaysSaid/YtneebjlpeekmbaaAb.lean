/- A mail as one aggregate that no walk opens, and what is called with one. No conditions beyond those typed. -/
import Derived.Test.YtneebjlpeekmbaaAbT
import Derived.Test.YtneebjlpeekmbaaLitA
import Derived.Test.YtneebjlpeekmbaaMay15
namespace Go.Proofs.Ytneebjlpeekmbaa
open Go.RowKit Go.Proofs.YtneebjlpeekmbaaW.PrintWords Go.Proofs.YtneebjlpeekmbaaW.PrintLast Go.Proofs.YtneebjlpeekmbaaW.PrintMore PRef
set_option linter.unusedVariables false
set_option linter.unusedSimpArgs false

section
variable {w : World} {cs : Array Value} {x : Mail}
theorem light_m (h : InM w cs x) (ht : x.text.size ≤ 9223372036854775807) : Calls Try.prog 10 #[.agg cs] w fun e w' => ∃ b, e = .returned (.bool b) ∧ Hid (b = true → LightOk x) ∧ Below w.heap.size w w' := by
  obtain ⟨A1, c1, A2, c2, A3, c3, rfl, h1, h2, h3⟩ := h
  exact light_calls w A1 A2 A3 c1 c2 c3 x h1 h2 h3 ht
theorem may_m (h : InM w cs x) (r : Bool) (hr : r = true ↔ MayOk x) : Calls Try.prog 13 #[.agg cs] w fun e w' => e = .returned (.bool r) ∧ Below w.heap.size w w' := by
  obtain ⟨A1, c1, A2, c2, A3, c3, rfl, h1, h2, h3⟩ := h
  exact may15_calls w A1 A2 A3 c1 c2 c3 x r hr h1 h2 h3
theorem may_t (h : InM w cs x) (hx : MayOk x) : Calls Try.prog 13 #[.agg cs] w fun e w' => e = .returned (.bool true) ∧ Below w.heap.size w w' := may_m h true ⟨fun _ => hx, fun _ => rfl⟩
theorem may_f_ (h : InM w cs x) (hx : ¬ MayOk x) : Calls Try.prog 13 #[.agg cs] w fun e w' => e = .returned (.bool false) ∧ Below w.heap.size w w' := may_m h false ⟨fun h => (by cases h), fun h => absurd h hx⟩
theorem enc_bad_m (h : InM w cs x) (hx : ¬ MayOk x) : Calls Try.prog 12 #[.agg cs] w fun e w' => e = .returned (.tuple #[.slice none 0 0, .int .i64 1]) ∧ Below w.heap.size w w' := by
  obtain ⟨A1, c1, A2, c2, A3, c3, rfl, h1, h2, h3⟩ := h
  exact encode_bad w A1 A2 A3 c1 c2 c3 x h1 h2 h3 hx
theorem encInt_le (n : Int) (h : I64 n) : (encInt n).length ≤ 11 := by
  unfold encInt
  obtain ⟨h0, h1⟩ := h
  split
  · rw [List.length_cons]; have := encNum_length (-n - 1).toNat (by omega); omega
  · rw [List.length_cons]; have := encNum_length n.toNat (by omega); omega
theorem light_len (x : Mail) (hx : LightOk x) (hi : MailI x) (hm : MayOk x) : (encMail x).length ≤ 1048576 := by
  obtain ⟨⟨⟨d1, d2⟩, d3⟩, e1, e2⟩ := hx
  have hI := hi.inst
  have q1 : (encAll encText x.inst.cmd.data).length ≤ sizes x.inst.cmd.data + 10 * x.inst.cmd.data.length := by
    have hd := hm.data.2
    generalize x.inst.cmd.data = l at hd
    induction l with
    | nil => simp [encAll, sizes]
    | cons a l ih =>
      have := ih (fun s hs => hd s (List.mem_cons_of_mem _ hs))
      have ha := hd a List.mem_cons_self
      have e : encAll encText (a :: l) = encText a ++ encAll encText l := rfl
      have e2 : sizes (a :: l) = a.size + sizes l := by simp [sizes]
      have el : (encText a).length ≤ a.size + 10 := by
        unfold encText
        rw [List.length_append, bytesOf_length]
        have := encNum_length a.size (by omega)
        omega
      rw [e, e2, List.length_append, List.length_cons]
      omega
  have q3 : (encAll encEnt x.entries).length ≤ sizesE x.entries + 32 * x.entries.length := by
    have hd := hm.entries.2
    have hf := hi.entries
    generalize x.entries = l at hd hf
    induction l with
    | nil => simp [encAll, sizesE]
    | cons a l ih =>
      have := ih (fun s hs => hd s (List.mem_cons_of_mem _ hs)) (fun s hs => hf s (List.mem_cons_of_mem _ hs))
      have ha := hd a List.mem_cons_self
      have hb := hf a List.mem_cons_self
      have e : encAll encEnt (a :: l) = encEnt a ++ encAll encEnt l := rfl
      have e2 : sizesE (a :: l) = a.f2.size + sizesE l := by simp [sizesE]
      have el : (encEnt a).length ≤ a.f2.size + 32 := by
        unfold encEnt encText
        rw [List.length_append, List.length_append, List.length_append, bytesOf_length]
        have := encNum_length a.f2.size (by omega)
        have := encInt_le a.f0 hb.1
        have := encInt_le a.f1 hb.2
        omega
      rw [e, e2, List.length_append, List.length_cons]
      omega
  have q4 := encAll_le encRef x.inst.deps 22 (fun r hr => encRef_length r (hI.deps r hr).1 (hI.deps r hr).2)
  have i4 : ∀ l : List Int, (∀ z ∈ l, I64 z) → (encAll encInt l).length ≤ 11 * l.length := fun l hl => encAll_le encInt l 11 (fun z hz => encInt_le z (hl z hz))
  have p1 := i4 [x.kind, x.mfrom, x.mto, x.shard] (by simp only [List.mem_cons, List.not_mem_nil, or_false]; rintro z (rfl | rfl | rfl | rfl); exact hi.kind; exact hi.mfrom; exact hi.mto; exact hi.shard)
  have p2 := i4 [x.inst.lead, x.inst.index, x.inst.bn, x.inst.bnode, x.inst.vn, x.inst.vnode, x.inst.status] (by simp only [List.mem_cons, List.not_mem_nil, or_false]; rintro z (rfl | rfl | rfl | rfl | rfl | rfl | rfl); exact hI.lead; exact hI.index; exact hI.bn; exact hI.bnode; exact hI.vn; exact hI.vnode; exact hI.status)
  have p3 := i4 [x.inst.cmd.client, x.inst.cmd.seq, x.inst.cmd.cfrom, x.inst.cmd.cto] (by simp only [List.mem_cons, List.not_mem_nil, or_false]; rintro z (rfl | rfl | rfl | rfl); exact hI.client; exact hI.seq; exact hI.cfrom; exact hI.cto)
  have p4 := i4 [x.term, x.mindex, x.past, x.commit, x.epoch] (by simp only [List.mem_cons, List.not_mem_nil, or_false]; rintro z (rfl | rfl | rfl | rfl | rfl); exact hi.term; exact hi.mindex; exact hi.past; exact hi.commit; exact hi.epoch)
  have p5 := encInt_le x.inst.iseq hI.iseq
  have n1 := encNum_length x.inst.cmd.data.length (by have := hm.data.1; omega)
  have n2 := encNum_length x.inst.deps.length (by have := hm.deps; omega)
  have n3 := encNum_length x.entries.length (by have := hm.entries.1; omega)
  have n4 := encNum_length x.text.size (by omega)
  have t1 : (encText x.text).length ≤ x.text.size + 10 := by
    unfold encText
    rw [List.length_append, bytesOf_length]
    omega
  unfold encMail encInst encCmd
  simp only [List.length_append, List.length_cons, List.length_nil] at p1 p2 p3 p4 ⊢
  omega
end
end Go.Proofs.Ytneebjlpeekmbaa
