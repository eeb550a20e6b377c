/- council.Voters, by plain lists: the bytes of a text that rise and lie below 7. Conditions: none besides the text's size as any text has it. -/
import Derived.Test.YtfanbhbpmhojaaaRefA
import Derived.Test.YtfanbhbpmhojaaaBase
import Derived.Deep.LoopGhost
import Derived.Lib.Small
namespace Go.Proofs.Ytfanbhbpmhojaaa
open Go.RowKit Go.Proofs.YtfanbhbpmhojaaaW.PrintWords Go.Proofs.YtfanbhbpmhojaaaW.PrintLast Go.Proofs.YtfanbhbpmhojaaaW.PrintMore PRef
set_option linter.unusedVariables false
set_option linter.unusedSimpArgs false

/-- Byte i of a row of voters is below 7 and above the one ahead. -/
def okV (l : List Int) (i : Nat) : Prop := l.getD i 0 < 7 ∧ (i = 0 ∨ l.getD (i - 1) 0 < l.getD i 0)
instance (l : List Int) (i : Nat) : Decidable (okV l i) := by unfold okV; infer_instance
/-- The voters of a text; none: it names none. -/
def votV (s : ByteArray) : List Int := if ∀ i, i < (bytesOf s).length → okV (bytesOf s) i then bytesOf s else []

theorem bytesOf_nonneg (s : ByteArray) : ∀ i, 0 ≤ (bytesOf s).getD i 0 := by
  intro i
  have h := rd_bytesOf s (i : Int)
  have := (bt_range s (i : Int)).1
  unfold rd at h
  rw [Int.toNat_natCast] at h
  omega
theorem okV_ge (s : ByteArray) : ∀ i, (∀ j, j ≤ i → okV (bytesOf s) j) → (i : Int) ≤ (bytesOf s).getD i 0
  | 0, h => by have := bytesOf_nonneg s 0; omega
  | i + 1, h => by
    have ih := okV_ge s i (fun j hj => h j (by omega))
    rcases (h (i + 1) (Nat.le_refl _)).2 with h0 | h1
    · omega
    · simp only [Nat.add_sub_cancel] at h1
      omega
theorem okV_le (s : ByteArray) (i : Nat) (h : ∀ j, j < i → okV (bytesOf s) j) : i ≤ 7 := by
  by_cases h0 : i = 0
  · omega
  · have h1 := okV_ge s (i - 1) (fun j hj => h j (by omega))
    have h2 := (h (i - 1) (by omega)).1
    omega
theorem votV_len (s : ByteArray) : (votV s).length ≤ 7 := by
  unfold votV
  split
  · rename_i h; exact okV_le s _ h
  · simp

theorem take_snoc' (l : List Int) (i : Nat) (h : i < l.length) : l.take i ++ [l.getD i 0] = l.take (i + 1) := by
  rw [List.take_add_one, List.getElem?_eq_getElem h, List.getD_eq_getElem?_getD, List.getElem?_eq_getElem h]; rfl

set_option maxRecDepth 100000 in
set_option maxHeartbeats 1000000 in
theorem voters_calls (s : ByteArray) (w : World) (hs : s.size ≤ 9223372036854775807) :
    Calls Try.prog 27 #[.string s] w fun e w' => ∃ v, e = .returned (.tuple #[v, .bool (decide (0 < (votV s).length))]) ∧ Kd.R (Kd.int .i64) 3 w' w.heap.size (fun _ => True) v (votV s) ∧ Below w.heap.size w w' := by
  have kb := fun W => print_bytes (P := Try.prog) 9 43 5 Try.underlying9 Try.underlying43 Try.underlying5 s W
  have hlen := bytesOf_length s
  have HV : Hid (∀ l, votV s = l → votV s = l) := Lib.hid fun _ h => h
  obtain ⟨V, hV⟩ : ∃ V, V = votV s := ⟨_, rfl⟩
  rw [← hV]
  have HVV := Lib.hid hV
  clear hV
  go_enter Try.func27, Try.ntmps27
  go_wp2_with fail
  have HR := Lib.hid (bytes_reads w 5 s hs)
  have HB := Lib.hid (bytes_below (Below.refl w.heap.size w) (Nat.le_refl _) 5 s)
  generalize Lib.bytesWorld w 5 s = w1 at HR HB ⊢
  generalize grownCap w s.size 0 5 = gc
  clear kb
  generalize (some ⟨w.heap.size, 0, none⟩ : Option Addr) = A at HR ⊢
  go_loopw [2, 9] (fun v vi wr => ∃ (i : Nat), vi = .int .i64 i ∧ i ≤ s.size ∧ Hid (∀ j, j < i → okV (bytesOf s) j) ∧ Hid (Kd.R (Kd.int .i64) 3 wr w1.heap.size (fun _ => True) v ((bytesOf s).take i)) ∧ Hid (Below w1.heap.size w1 wr)) (fun _ vi _ => s.size - (intOf vi).toNat)
  case atStart => exact ⟨0, rfl, by omega, Lib.hid (fun j hj => absurd hj (by omega)), Lib.hid (Kd.R_nil _ _ _ _ _), Lib.hid (Below.refl _ _)⟩
  case round =>
  obtain ⟨i, rfl, hi, HK, HO, HBr⟩ := hrel
  have hWalk : ∀ z : Int, True := fun _ => trivial
  by_cases hlt : i < s.size
  · have HRr : Hid (ReadsInt wr .u8 A s.size (bytesOf s)) := Lib.hid (HR.out.below HBr.out)
    obtain ⟨ad, rfl, hcell⟩ := HRr.out.at_ (i : Int) (by omega) (by omega)
    rw [show rd (bytesOf s) (i : Int) = (bytesOf s).getD i 0 from by unfold rd; rw [Int.toNat_natCast], Int.toNat_natCast] at hcell
    have hz0 := bytesOf_nonneg s i
    have hz1 : (bytesOf s).getD i 0 ≤ 255 := by
      have h := rd_bytesOf s (i : Int)
      have := (bt_range s (i : Int)).2
      unfold rd at h
      rw [Int.toNat_natCast] at h
      omega
    obtain ⟨z, hz⟩ : ∃ z, z = (bytesOf s).getD i 0 := ⟨_, rfl⟩
    have HZ := Lib.hid hz
    rw [← hz] at hcell hz0 hz1
    clear hz
    by_cases h7 : z < 7
    · have h7b : decide (7 ≤ z) = false := decide_eq_false (by omega)
      by_cases hi0 : i = 0
      · have hib : decide (0 < (i : Int)) = false := decide_eq_false (by omega)
        have hib2 : decide (0 < i) = false := decide_eq_false (by omega)
        have hok : okV (bytesOf s) i := by
          have := HZ.out
          exact ⟨by omega, .inl hi0⟩
        obtain ⟨Bo, co, hv⟩ := Kd.R_slice HO.out
        have HTK : Hid ((bytesOf s).take i ++ [z] = (bytesOf s).take (i + 1)) := Lib.hid (by rw [HZ.out]; exact take_snoc' (bytesOf s) i (by omega))
        have HK1 : Hid (∀ j, j < i + 1 → okV (bytesOf s) j) := Lib.hid (fun j hj => by
          by_cases h : j = i
          · subst h; exact hok
          · exact HK.out j (by omega))
        have hle7 := okV_le s i HK.out
        have HL : Hid (((bytesOf s).take i).length ≤ 7 ∧ ((bytesOf s).take i).length = i) := Lib.hid (by rw [List.length_take]; omega)
        clear hok
        generalize (bytesOf s).take i = l at HO HTK HL hv ⊢
        subst hv
        have HI0 := Lib.hid hi0
        clear hi0
        go_wp2_with ((with_reducible refine gate_builtin (b := .append) (xs := #[.tmp 29, .tmp 32]) rfl ?_); at_builtin; refine Kd.R_append (Kd.int .i64) (w0 := w1) w1.heap.size rfl (.tmp 29) (.tmp 32) 28 3 (.int .i64 0) 8 rfl Try.underlying28 info3 rfl (by decide) (by omega) (.slice Bo l.length co) l z [.int .i64 z] (fun _ => True) (fun _ => False) rfl rfl ?aP (fun _ hk => hk.elim) ?aF ?aO ?aB ?aS ?aL ?_; (case aP => exact rfl); (case aB => exact (by repeat (first | (with_reducible first | exact HBr.out | apply below_alloc | apply pw_below_drewN | apply below_drew1) | exact HBr.out))); (case aF => exact (fun _ _ => trivial)); (case aO => exact (by (with_reducible repeat (first | apply Kd.R_alloc | apply Kd.R_drewN | apply Kd.R_drew)); exact HO.out)); (case aS => exact (below_size (by repeat (first | (with_reducible first | exact HBr.out | apply below_alloc | apply pw_below_drewN | apply below_drew1) | exact HBr.out)))); (case aL => have := HL.out.1; omega); intro v5 w5 ho hb hg hat; have HB5 := Lib.hid hb; have HO5 := Lib.hid ho; clear ho hb hg hat)
        go_roundw
        case measure => simp [intOf]; omega
        case rel => exact ⟨i + 1, by go_num, by omega, HK1, by rw [HTK.out] at HO5; exact HO5, HB5⟩
      · have hib : decide (0 < (i : Int)) = true := decide_eq_true (by omega)
        have hib2 : decide (0 < i) = true := decide_eq_true (by omega)
        have HBT : Hid (bt s ((i : Int) - 1) = (bytesOf s).getD (i - 1) 0) := Lib.hid (by rw [← rd_bytesOf]; unfold rd; congr 1; omega)
        obtain ⟨j, hj⟩ : ∃ j, (i : Int) - 1 = j := ⟨_, rfl⟩
        have p4 : 0 ≤ j := by omega
        have q4 : j < (s.size : Int) := by omega
        rw [hj] at HBT
        have hx4 := bt_at s j
        by_cases hp : bt s j < z
        · have hpb : decide (z ≤ bt s j) = false := decide_eq_false (by omega)
          have hok : okV (bytesOf s) i := by
            have := HZ.out
            exact ⟨by omega, Or.inr (by rw [← HBT.out, ← HZ.out]; exact hp)⟩
          obtain ⟨Bo, co, hv⟩ := Kd.R_slice HO.out
          have HTK : Hid ((bytesOf s).take i ++ [z] = (bytesOf s).take (i + 1)) := Lib.hid (by rw [HZ.out]; exact take_snoc' (bytesOf s) i (by omega))
          have HK1 : Hid (∀ j, j < i + 1 → okV (bytesOf s) j) := Lib.hid (fun j hj => by
            by_cases h : j = i
            · subst h; exact hok
            · exact HK.out j (by omega))
          have hle7 := okV_le s i HK.out
          have HL : Hid (((bytesOf s).take i).length ≤ 7 ∧ ((bytesOf s).take i).length = i) := Lib.hid (by rw [List.length_take]; omega)
          clear hok
          generalize (bytesOf s).take i = l at HO HTK HL hv ⊢
          subst hv

          have HP := Lib.hid hp
          clear hp
          go_wp2_with ((with_reducible refine gate_builtin (b := .append) (xs := #[.tmp 29, .tmp 32]) rfl ?_); at_builtin; refine Kd.R_append (Kd.int .i64) (w0 := w1) w1.heap.size rfl (.tmp 29) (.tmp 32) 28 3 (.int .i64 0) 8 rfl Try.underlying28 info3 rfl (by decide) (by omega) (.slice Bo l.length co) l z [.int .i64 z] (fun _ => True) (fun _ => False) rfl rfl ?aP (fun _ hk => hk.elim) ?aF ?aO ?aB ?aS ?aL ?_; (case aP => exact rfl); (case aB => exact (by repeat (first | (with_reducible first | exact HBr.out | apply below_alloc | apply pw_below_drewN | apply below_drew1) | exact HBr.out))); (case aF => exact (fun _ _ => trivial)); (case aO => exact (by (with_reducible repeat (first | apply Kd.R_alloc | apply Kd.R_drewN | apply Kd.R_drew)); exact HO.out)); (case aS => exact (below_size (by repeat (first | (with_reducible first | exact HBr.out | apply below_alloc | apply pw_below_drewN | apply below_drew1) | exact HBr.out)))); (case aL => have := HL.out.1; omega); intro v5 w5 ho hb hg hat; have HB5 := Lib.hid hb; have HO5 := Lib.hid ho; clear ho hb hg hat)
          go_roundw
          case measure => simp [intOf]; omega
          case rel => exact ⟨i + 1, by go_num, by omega, HK1, by rw [HTK.out] at HO5; exact HO5, HB5⟩
        · have hpb : decide (z ≤ bt s j) = true := decide_eq_true (by omega)
          have hno : V = [] := by
            have h1 := HVV.out
            rw [h1]
            unfold votV
            rw [if_neg]
            intro hall
            rcases (hall i (by omega)).2 with h0 | h1
            · exact hi0 h0
            · rw [← HBT.out, ← HZ.out] at h1; exact hp h1
          have HP := Lib.hid hp
          clear hp
          go_wp2_with fail
          go_ret2
          subst hno
          exact ⟨_, rfl, Kd.R_nil _ _ _ _ _, HB.out.trans (HBr.out.mono HB.out.size)⟩
    · have h7b : decide (7 ≤ z) = true := decide_eq_true (by omega)
      have hno : V = [] := by
        have h1 := HVV.out
        rw [h1]
        unfold votV
        rw [if_neg]
        intro hall
        have := (hall i (by omega)).1
        rw [← HZ.out] at this
        exact h7 this
      go_wp2_with fail
      go_ret2
      subst hno
      exact ⟨_, rfl, Kd.R_nil _ _ _ _ _, HB.out.trans (HBr.out.mono HB.out.size)⟩
  · have hall : V = (bytesOf s).take i := by
      rw [HVV.out]
      unfold votV
      rw [if_pos (fun j hj => HK.out j (by omega)), List.take_of_length_le (by omega)]
    obtain ⟨Bo, co, hv⟩ := Kd.R_slice HO.out
    rw [← hall] at hv HO
    subst hv
    have HO2 := Lib.hid (Kd.R_lower HO.out HB.out.size)
    have HA := Lib.hid hall
    clear hall
    go_wp2_with fail
    go_ret2
    exact ⟨_, rfl, HO2.out, HB.out.trans (HBr.out.mono HB.out.size)⟩

end Go.Proofs.Ytfanbhbpmhojaaa
