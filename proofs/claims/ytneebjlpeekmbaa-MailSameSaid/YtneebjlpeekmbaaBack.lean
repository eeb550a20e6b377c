/- Plain lists: a mail that was laid is taken again. No program in sight. -/
import Derived.Test.YtneebjlpeekmbaaDec
import Derived.Test.YtneebjlpeekmbaaRTake
namespace Go.Proofs.Ytneebjlpeekmbaa
open Go.RowKit Go.Proofs.YtneebjlpeekmbaaW.PrintWords Go.Proofs.YtneebjlpeekmbaaW.PrintLast Go.Proofs.YtneebjlpeekmbaaW.PrintMore PRef
set_option linter.unusedVariables false
set_option linter.unusedSimpArgs false
theorem drop_more {xs p r : List Int} {a : Nat} (h : xs.drop a = p ++ r) : xs.drop (a + p.length) = r := by
  rw [← List.drop_drop, h, List.drop_append_of_le_length (Nat.le_refl _), List.drop_of_length_le (Nat.le_refl _), List.nil_append]
theorem numR_eq (xs : List Int) (a : Nat) : numR xs (some a) = match takeNum 0 true (xs.drop a) with | none => (0, none) | some (m, k) => (m, some (a + k)) := rfl
theorem numR_at {xs r : List Int} {a m : Nat} (hm : m < 18446744073709551616) (h : xs.drop a = encNum m ++ r) : numR xs (some a) = (m, some (a + (encNum m).length)) := by
  rw [numR_eq, h, takeNum_back m _ hm]
theorem byteR_at {xs r : List Int} {a : Nat} {c : Int} (h : xs.drop a = c :: r) : byteR xs (some a) = (c, some (a + 1)) ∧ xs.drop (a + 1) = r := by
  have hlt : a < xs.length := by
    rcases Nat.lt_or_ge a xs.length with h1 | h1
    · exact h1
    · rw [List.drop_of_length_le h1] at h; cases h
  rw [List.drop_eq_getElem_cons hlt] at h
  injection h with h1 h2
  refine ⟨?_, h2⟩
  simp only [byteR, if_pos hlt]
  rw [List.getD_eq_getElem?_getD, List.getElem?_eq_getElem hlt, Option.getD_some, h1]
theorem intR_at {xs r : List Int} {a : Nat} {z : Int} (h0 : -9223372036854775808 ≤ z) (h1 : z ≤ 9223372036854775807) (h : xs.drop a = encInt z ++ r) : intR xs (some a) = (z, some (a + (encInt z).length)) := by
  unfold encInt at h ⊢
  by_cases hz : z < 0
  · rw [if_pos hz] at h ⊢
    obtain ⟨hb, hd⟩ := byteR_at (r := encNum (-z - 1).toNat ++ r) h
    have hn := numR_at (by omega) hd
    unfold intR
    rw [hb]
    dsimp only
    rw [hn]
    dsimp only
    rw [if_neg (by omega), if_pos rfl, List.length_cons]
    congr 1
    · omega
    · congr 1; omega
  · rw [if_neg hz] at h ⊢
    obtain ⟨hb, hd⟩ := byteR_at (r := encNum z.toNat ++ r) h
    have hn := numR_at (by omega) hd
    unfold intR
    rw [hb]
    dsimp only
    rw [hn]
    dsimp only
    rw [if_neg (by omega), if_neg (by omega), List.length_cons]
    congr 1
    · omega
    · congr 1; omega
theorem textS_at {xs r : List Int} {a : Nat} {s : ByteArray} (hs : s.size ≤ 1048576) (h : xs.drop a = encText s ++ r) : textS xs (some a) = (s, some (a + (encText s).length)) := by
  unfold encText at h ⊢
  rw [List.append_assoc] at h
  have hn := numR_at (by omega) h
  have hd := drop_more h
  have hl : (xs.drop (a + (encNum s.size).length)).length = s.size + r.length := by rw [hd, List.length_append, bytesOf_length]
  rw [List.length_drop] at hl
  have ht : textR xs (some a) = (bytesOf s, some (a + (encNum s.size).length + s.size)) := by
    unfold textR
    rw [hn]
    dsimp only
    rw [if_neg (by omega), hd]
    congr 1
    rw [List.take_append_of_le_length (by rw [bytesOf_length]; exact Nat.le_refl _), List.take_of_length_le (by rw [bytesOf_length]; exact Nat.le_refl _)]
  unfold textS
  rw [ht, strOfNums_bytes, List.length_append, bytesOf_length, Nat.add_assoc]

theorem loopR_at {α : Type} {xs : List Int} (each : Option Nat → α × Option Nat) (f : α → List Int) : ∀ (l : List α) (a : Nat) (r : List Int), xs.drop a = encAll f l ++ r → (∀ x ∈ l, ∀ a r, xs.drop a = f x ++ r → each (some a) = (x, some (a + (f x).length))) → loopR each l.length (some a) = (l, some (a + (encAll f l).length))
  | [], a, r, h, he => by simp [loopR, encAll]
  | x :: l, a, r, h, he => by
    have e : encAll f (x :: l) = f x ++ encAll f l := by simp [encAll]
    rw [e, List.append_assoc] at h
    have h1 := he x (by simp) a _ h
    have h2 := loopR_at each f l (a + (f x).length) r (drop_more h) (fun y hy => he y (by simp [hy]))
    rw [List.length_cons, loopR_some, h1]
    dsimp only
    rw [h2, e, List.length_append, Nat.add_assoc]
theorem getR_at {α : Type} {xs : List Int} (each : Option Nat → α × Option Nat) (f : α → List Int) (l : List α) (a : Nat) (r : List Int) (hl : l.length ≤ 4096) (h : xs.drop a = encNum l.length ++ encAll f l ++ r) (he : ∀ x ∈ l, ∀ a r, xs.drop a = f x ++ r → each (some a) = (x, some (a + (f x).length))) (hf : ∀ x ∈ l, 0 < (f x).length) :
    getR xs each (some a) = (l, some (a + (encNum l.length ++ encAll f l).length)) := by
  rw [List.append_assoc] at h
  have hn := numR_at (by omega) h
  have hd := drop_more h
  have hge : l.length ≤ (encAll f l).length := by
    clear hn hd h he hl
    induction l with
    | nil => simp
    | cons x l ih =>
      have h1 := hf x (by simp)
      have h2 := ih (fun y hy => hf y (by simp [hy]))
      have e : encAll f (x :: l) = f x ++ encAll f l := by simp [encAll]
      rw [e, List.length_append, List.length_cons]
      omega
  have hlen : (xs.drop (a + (encNum l.length).length)).length = (encAll f l).length + r.length := by rw [hd, List.length_append]
  rw [List.length_drop] at hlen
  unfold getR
  rw [hn]
  dsimp only
  rw [if_neg (show ¬ (4096 < l.length ∨ leftR xs (some (a + (encNum l.length).length)) < l.length) from by unfold leftR; rw [Option.getD_some]; omega), loopR_at each f l _ r hd he, if_neg (by simp), List.length_append, Nat.add_assoc]

/-! ### beginnings -/
theorem fourL_num' (n : Nat) (h : n < 4294967296) : Crc.num (fourL n) = n := by
  simp only [fourL, Crc.num, Int.toNat_natCast]
  omega
/-- A frame, whatever stands behind it, is one, with its own data. -/
theorem frame_unf (x rest : List Int) (hx : IsBytes x) (hl : x.length ≤ 1048576) : unf (frameL x ++ rest) = 0 ∧ dataL (frameL x ++ rest) = x ∧ Crc.num ((frameL x ++ rest).take 4) = x.length := by
  have e1 : (frameL x ++ rest).take 4 = fourL x.length := by
    unfold frameL
    rw [List.append_assoc, List.append_assoc, List.take_append_of_le_length (by rw [fourL_length]; omega), List.take_of_length_le (by rw [fourL_length]; omega)]
  have e2 : Crc.num ((frameL x ++ rest).take 4) = x.length := by rw [e1, fourL_num' _ (by omega)]
  have e3 : (frameL x ++ rest).take (4 + x.length) = fourL x.length ++ x := by
    unfold frameL
    rw [List.append_assoc, List.take_append_of_le_length (by rw [List.length_append, fourL_length]; omega), List.take_of_length_le (by rw [List.length_append, fourL_length]; omega)]
  have e4 : (frameL x ++ rest).drop (4 + x.length) = fourL (Crc.more 0 (fourL x.length ++ x)) ++ rest := by
    unfold frameL
    rw [List.append_assoc, List.drop_append_of_le_length (by rw [List.length_append, fourL_length]; omega), List.drop_of_length_le (by rw [List.length_append, fourL_length]; omega)]
    rfl
  have e5 : ((frameL x ++ rest).drop (4 + x.length)).take 4 = fourL (Crc.more 0 (fourL x.length ++ x)) := by
    rw [e4, List.take_append_of_le_length (by rw [fourL_length]; omega), List.take_of_length_le (by rw [fourL_length]; omega)]
  have hlen : (frameL x ++ rest).length = x.length + 8 + rest.length := by rw [List.length_append, frameL_length]
  refine ⟨?_, ?_, e2⟩
  · unfold unf
    rw [e2, e3, e5, fourL_num' _ (Crc.more_lt _ _), if_neg (by omega), if_neg (by omega), if_neg (by omega), if_neg (by simp)]
  · unfold dataL
    rw [e2, e3, List.drop_append_of_le_length (by rw [fourL_length]; omega), List.drop_of_length_le (by rw [fourL_length]; omega)]
    rfl

theorem frameL_bytes (x : List Int) (h : IsBytes x) : IsBytes (frameL x) := ((fourL_bytes _).append h).append (fourL_bytes _)

theorem intsR_take {xs r : List Int} {a : Nat} (l : List Int) (hl : ∀ z ∈ l, I64 z) (h : xs.drop a = encAll encInt l ++ r) : ∀ k, k ≤ l.length → intsR xs k (some a) = (l.take k, some (a + (encAll encInt (l.take k)).length))
  | 0, _ => by simp [intsR, encAll]
  | k + 1, hk => by
    have ih := intsR_take l hl h k (by omega)
    have hs := encAll_snoc encInt l k 0 (by omega)
    have hz := hl (l.getD k 0) (by rw [List.getD_eq_getElem?_getD, List.getElem?_eq_getElem (by omega)]; exact List.getElem_mem _)
    have hsplit : encAll encInt l = encAll encInt (l.take k) ++ encAll encInt (l.drop k) := by
      unfold encAll
      rw [← List.flatten_append, ← List.map_append, List.take_append_drop]
    have hdk : encAll encInt (l.drop k) = encInt (l.getD k 0) ++ encAll encInt (l.drop (k + 1)) := by
      have e : l.drop k = l.getD k 0 :: l.drop (k + 1) := by
        rw [List.drop_eq_getElem_cons (by omega), List.getD_eq_getElem?_getD, List.getElem?_eq_getElem (by omega)]
        rfl
      rw [e]
      unfold encAll
      rw [List.map_cons, List.flatten_cons]
    rw [hsplit, List.append_assoc] at h
    have hd := drop_more h
    rw [hdk, List.append_assoc] at hd
    have h1 := intR_at hz.1 hz.2 hd
    rw [intsR_succ, ih]
    dsimp only
    rw [h1]
    dsimp only
    rw [hs, List.length_append, Nat.add_assoc, take_snocD l k (by omega)]
theorem intsR_at {xs r : List Int} {a : Nat} (l : List Int) (hl : ∀ z ∈ l, I64 z) (h : xs.drop a = encAll encInt l ++ r) : intsR xs l.length (some a) = (l, some (a + (encAll encInt l).length)) := by
  have := intsR_take l hl h l.length (Nat.le_refl _)
  rw [List.take_of_length_le (Nat.le_refl _)] at this
  exact this
theorem boolR_at {xs r : List Int} {a : Nat} {b : Bool} (h : xs.drop a = (if b = true then 1 else 0) :: r) : boolR xs (some a) = (b, some (a + 1)) ∧ xs.drop (a + 1) = r := by
  obtain ⟨h1, h2⟩ := byteR_at h
  refine ⟨?_, h2⟩
  unfold boolR
  rw [h1]
  cases b <;> rfl
theorem refR_at {xs r : List Int} {a : Nat} (x : S23) (h0 : I64 x.f0) (h1 : I64 x.f1) (h : xs.drop a = encRef x ++ r) : refR xs (some a) = (x, some (a + (encRef x).length)) := by
  unfold encRef at h ⊢
  rw [List.append_assoc] at h
  have e1 := intR_at h0.1 h0.2 h
  have e2 := intR_at h1.1 h1.2 (drop_more h)
  unfold refR
  rw [e1]
  dsimp only
  rw [e2, List.length_append, Nat.add_assoc]
theorem entR_at {xs r : List Int} {a : Nat} (x : S60) (h0 : I64 x.f0) (h1 : I64 x.f1) (h2 : x.f2.size ≤ 1048576) (h : xs.drop a = encEnt x ++ r) : entR xs (some a) = (x, some (a + (encEnt x).length)) := by
  unfold encEnt at h ⊢
  rw [List.append_assoc, List.append_assoc] at h
  have e1 := intR_at h0.1 h0.2 h
  have hd := drop_more h
  have e2 := intR_at h1.1 h1.2 hd
  have e3 := textS_at h2 (drop_more hd)
  unfold entR
  rw [e1]
  dsimp only
  rw [e2]
  dsimp only
  rw [e3, List.length_append, List.length_append, Nat.add_assoc, Nat.add_assoc, Nat.add_assoc]
theorem encNum_pos (n : Nat) : 0 < (encNum n).length := by
  unfold encNum
  simp
theorem encInt_pos (z : Int) : 0 < (encInt z).length := by
  unfold encInt
  split <;> simp
theorem encText_pos (s : ByteArray) : 0 < (encText s).length := by
  unfold encText
  rw [List.length_append]
  have := encNum_pos s.size
  omega
structure CmdR (c : Cmd) : Prop where
  op : 0 ≤ c.op ∧ c.op ≤ 255
  client : I64 c.client
  seq : I64 c.seq
  cfrom : I64 c.cfrom
  cto : I64 c.cto
  data : c.data.length ≤ 4096 ∧ ∀ x ∈ c.data, x.size ≤ 1048576
theorem cmdR_at {xs r : List Int} {a : Nat} (x : Cmd) (hx : CmdR x) (h : xs.drop a = encCmd x ++ r) : cmdR xs (some a) = (x, some (a + (encCmd x).length)) := by
  obtain ⟨x0, x1, x2, x3, x4, x5⟩ := x
  obtain ⟨h0, h1, h2, h3, h4, h5⟩ := hx
  unfold encCmd at h ⊢
  dsimp only at h0 h1 h2 h3 h4 h5 h ⊢
  obtain ⟨e0, hd⟩ := byteR_at (by rw [List.cons_append] at h; exact h)
  rw [List.append_assoc] at hd
  have e1 := intsR_at [x1, x2, x3, x4] (by simp only [List.mem_cons, List.not_mem_nil, or_false]; rintro z (rfl | rfl | rfl | rfl) <;> assumption) hd
  have hd2 := drop_more hd
  have e2 := getR_at (textS xs) encText x5 _ r h5.1 hd2 (fun s hs a r h => textS_at (h5.2 s hs) h) (fun s _ => encText_pos s)
  unfold cmdR
  rw [e0]
  dsimp only
  rw [show ([x1, x2, x3, x4] : List Int).length = 4 from rfl] at e1
  rw [e1]
  dsimp only
  rw [e2]
  dsimp only
  rw [if_neg (by simp)]
  simp only [List.length_cons, List.length_append]
  congr 1
  congr 1
  omega
structure InstR (x : Inst) : Prop where
  ints : ∀ z ∈ [x.lead, x.index, x.bn, x.bnode, x.vn, x.vnode, x.status], I64 z
  cmd : CmdR x.cmd
  iseq : I64 x.iseq
  deps : x.deps.length ≤ 4096 ∧ ∀ r ∈ x.deps, I64 r.f0 ∧ I64 r.f1
theorem instR_at {xs r : List Int} {a : Nat} (x : Inst) (hx : InstR x) (h : xs.drop a = encInst x ++ r) : instR xs (some a) = (x, some (a + (encInst x).length)) := by
  obtain ⟨x0, x1, x2, x3, x4, x5, x6, x7, x8, x9, x10⟩ := x
  obtain ⟨h0, h8, h9, h10⟩ := hx
  unfold encInst at h ⊢
  dsimp only at h0 h8 h9 h10 h ⊢
  rw [List.append_assoc] at h
  have e1 := intsR_at _ h0 h
  have hd := drop_more h
  rw [List.cons_append] at hd
  obtain ⟨e2, hd2⟩ := boolR_at hd
  rw [List.append_assoc] at hd2
  have e3 := cmdR_at x8 h8 hd2
  have hd3 := drop_more hd2
  rw [List.append_assoc] at hd3
  have e4 := intR_at h9.1 h9.2 hd3
  have hd4 := drop_more hd3
  have e5 := getR_at (refR xs) encRef x10 _ r h10.1 hd4 (fun s hs a r h => refR_at s (h10.2 s hs).1 (h10.2 s hs).2 h) (fun s _ => by unfold encRef; rw [List.length_append]; have := encInt_pos s.f0; omega)
  unfold instR
  rw [show ([x0, x1, x2, x3, x4, x5, x6] : List Int).length = 7 from rfl] at e1
  rw [e1]
  dsimp only
  rw [e2]
  dsimp only
  rw [e3]
  dsimp only
  rw [e4]
  dsimp only
  rw [e5]
  dsimp only
  rw [if_neg (by simp)]
  simp only [List.length_cons, List.length_append]
  congr 1
  congr 1
  omega
theorem instR_of (x : Mail) (h : MailI x) (k : MayOk x) : InstR x.inst :=
  ⟨by simp only [List.mem_cons, List.not_mem_nil, or_false]; rintro z (rfl | rfl | rfl | rfl | rfl | rfl | rfl); exact h.inst.lead; exact h.inst.index; exact h.inst.bn; exact h.inst.bnode; exact h.inst.vn; exact h.inst.vnode; exact h.inst.status,
   ⟨k.op, h.inst.client, h.inst.seq, h.inst.cfrom, h.inst.cto, k.data⟩, h.inst.iseq, k.deps, h.inst.deps⟩
/-- A mail that was laid is taken again. -/
theorem mailR_at (x : Mail) (h : MailI x) (k : MayOk x) : mailR (encMail x) (some 0) = (x, some (encMail x).length) := by
  have hi := instR_of x h k
  generalize hxs : encMail x = xs
  have hh : xs.drop 0 = encMail x ++ [] := by rw [← hxs]; simp
  have hl : xs.length = (encMail x).length := by rw [hxs]
  rw [hl]
  clear hl
  unfold encMail at hh ⊢
  obtain ⟨m0, m1, m2, m3, m4, m5, m6, m7, m8, m9, m10, m11, m12⟩ := x
  obtain ⟨k1, k2, k3, k4, k5⟩ := k
  obtain ⟨i0, i1, i2, i3, i4, i6, i7, i8, i9, i10, i11⟩ := h
  dsimp only at hh hi k2 k5 i0 i1 i2 i3 i6 i7 i8 i9 i10 i11 ⊢
  clear hxs k1 k3 k4 i4
  rw [List.append_nil] at hh
  have e1 := intsR_at [m0, m1, m2, m3] (by simp only [List.mem_cons, List.not_mem_nil, or_false]; rintro z (rfl | rfl | rfl | rfl) <;> assumption) hh
  have hd := drop_more hh
  have e2 := instR_at m4 hi hd
  have hd2 := drop_more hd
  obtain ⟨e3, hd3⟩ := boolR_at hd2
  have e4 := intsR_at [m6, m7, m8, m9, m10] (by simp only [List.mem_cons, List.not_mem_nil, or_false]; rintro z (rfl | rfl | rfl | rfl | rfl) <;> assumption) hd3
  have hd4 := drop_more hd3
  have e5 := getR_at (entR xs) encEnt m11 _ _ k5.1 (hd4.trans (List.append_assoc _ _ _).symm) (fun s hs a r h => entR_at s (i11 s hs).1 (i11 s hs).2 (k5.2 s hs) h) (fun s _ => by unfold encEnt; rw [List.length_append, List.length_append]; have := encInt_pos s.f0; omega)
  have hd5 := drop_more (hd4.trans (List.append_assoc _ _ _).symm)
  have e6 := textS_at (r := []) k2 (by rw [List.append_nil]; exact hd5)
  unfold mailR
  rw [show ([m0, m1, m2, m3] : List Int).length = 4 from rfl] at e1
  rw [show ([m6, m7, m8, m9, m10] : List Int).length = 5 from rfl] at e4
  rw [e1]
  dsimp only
  rw [e2]
  dsimp only
  rw [e3]
  dsimp only
  rw [e4]
  dsimp only
  rw [e5]
  dsimp only
  rw [e6]
  simp only [List.length_cons, List.length_append]
  congr 1
  congr 1
  omega
/-- A frame of a mail that was laid is that mail. -/
theorem dec_enc (x : Mail) (h : MailI x) (k : MayOk x) (hl : (encMail x).length ≤ 1048576) : decE (frameL (encMail x)) = 0 ∧ decM (frameL (encMail x)) = x := by
  obtain ⟨u1, u2, u3⟩ := frame_unf (encMail x) [] (encMail_bytes x k.op) hl
  rw [List.append_nil] at u1 u2 u3
  have hr := mailR_at x h k
  have h0 : decE (frameL (encMail x)) = 0 := by
    unfold decE
    rw [u1, u2, u3, frameL_length, hr]
    simp
  refine ⟨h0, ?_⟩
  unfold decM
  rw [if_pos h0, u2, hr]

end Go.Proofs.Ytneebjlpeekmbaa
