/- The walk of the law OctetLimits: it returns true, and writes nothing that was there. Conditions: the kind's range. -/
import Derived.Test.YthobpcbiaimccaaNil
import Derived.Test.YthobpcbiaimccaaFrame
import Derived.Test.YthobpcbiaimccaaLawTurnedW
namespace Go.Proofs.Ythobpcbiaimccaa
open Go.RowKit Go.Proofs.YthobpcbiaimccaaW.PrintWords Go.Proofs.YthobpcbiaimccaaW.PrintLast Go.Proofs.YthobpcbiaimccaaW.PrintMore PRef
set_option linter.unusedVariables false
set_option linter.unusedSimpArgs false

set_option maxRecDepth 100000 in
set_option maxHeartbeats 4000000 in
theorem limits_law (n_ : Int) (w : World) (h0 : -9223372036854775808 ≤ n_) (h1 : n_ ≤ 9223372036854775807) :
    Calls Try.prog 15 #[.int .i64 n_] w fun e w' => e = .returned (.bool true) ∧ Below w.heap.size w w' := by
  obtain ⟨n, hm⟩ : ∃ n : Nat, max 0 (min n_ 1048581) = (n : Int) := ⟨(max 0 (min n_ 1048581)).toNat, by omega⟩
  have hn5 : n ≤ 1048581 := by omega
  have HM := Lib.hid hm
  clear hm
  go_enter Try.func15, Try.ntmps15
  go_upto_region 2 with fail
  rw [HM.out]
  clear h0 h1
  have hmk := print_make (P := Try.prog) 31 5 .u8 1 Try.underlying31 info5 (by decide) n (by omega)
  have HOm := Lib.hid (own_made w w.heap.size 5 .u8 n (Nat.le_refl _) (by omega))
  have HBm := Lib.hid ((Below.refl w.heap.size w).alloc (Nat.le_refl _) (.cells (madeCells #[.int .u8 0] n) 5))
  obtain ⟨zs, hzs⟩ : ∃ zs : List Int, zs = List.replicate n 0 := ⟨_, rfl⟩
  have hzl : zs.length = n := by rw [hzs]; simp
  have HZB : Hid (IsBytes zs) := Lib.hid (by rw [hzs]; exact fun x hx => by rw [(List.mem_replicate.1 hx).2]; decide)
  rw [← hzs] at HOm
  clear hzs
  subst hzl
  go_wp2_with fail
  clear hmk
  generalize w.alloc (.cells (madeCells #[.int .u8 0] zs.length) 5) = w1 at HOm HBm ⊢
  have HRm := Lib.hid (own_reads' HOm.out)
  by_cases hok : zs.length ≤ 1048576
  · ((with_reducible refine (frame_own _ _ zs _ HRm.out (Nat.le_refl _) HZB.out hok).mono ?_); rintro e w2 ⟨g, d, rfl, hd, hg, _, hb⟩)
    have HB2 := Lib.hid (HBm.out.trans (hb.mono HBm.out.size))
    clear hb hg
    go_wp2_with (first | ((with_reducible refine (nbad _).mono ?_); rintro e w' ⟨rfl, rfl⟩) | ((with_reducible refine (nend _).mono ?_); rintro e w' ⟨rfl, rfl⟩) | ((with_reducible refine (nleft _).mono ?_); rintro e w' ⟨rfl, rfl⟩) | ((with_reducible refine (nnum _).mono ?_); rintro e w' ⟨rfl, rfl⟩) | ((with_reducible refine (nint _).mono ?_); rintro e w' ⟨rfl, rfl⟩) | ((with_reducible refine (nbyte _).mono ?_); rintro e w' ⟨rfl, rfl⟩) | ((with_reducible refine (nbool _).mono ?_); rintro e w' ⟨rfl, rfl⟩) | ((with_reducible refine (ntext _).mono ?_); rintro e w' ⟨rfl, rfl⟩) | ((with_reducible refine (nget _).mono ?_); rintro e w' ⟨rfl, rfl⟩) | ((with_reducible refine (lives_calls _).mono ?_); rintro e w6 ⟨rfl, hb6⟩))
    go_ret
    exact ⟨rfl, HB2.out.trans (hb6.mono HB2.out.size)⟩
  · ((with_reducible refine (frame_big _ _ _ _ (by omega)).mono ?_); rintro e w' ⟨rfl, rfl⟩)
    go_wp2_with (first | ((with_reducible refine (nbad _).mono ?_); rintro e w' ⟨rfl, rfl⟩) | ((with_reducible refine (nend _).mono ?_); rintro e w' ⟨rfl, rfl⟩) | ((with_reducible refine (nleft _).mono ?_); rintro e w' ⟨rfl, rfl⟩) | ((with_reducible refine (nnum _).mono ?_); rintro e w' ⟨rfl, rfl⟩) | ((with_reducible refine (nint _).mono ?_); rintro e w' ⟨rfl, rfl⟩) | ((with_reducible refine (nbyte _).mono ?_); rintro e w' ⟨rfl, rfl⟩) | ((with_reducible refine (nbool _).mono ?_); rintro e w' ⟨rfl, rfl⟩) | ((with_reducible refine (ntext _).mono ?_); rintro e w' ⟨rfl, rfl⟩) | ((with_reducible refine (nget _).mono ?_); rintro e w' ⟨rfl, rfl⟩) | ((with_reducible refine (lives_calls _).mono ?_); rintro e w6 ⟨rfl, hb6⟩))
    go_ret
    exact ⟨rfl, HBm.out.trans (hb6.mono HBm.out.size)⟩

end Go.Proofs.Ythobpcbiaimccaa
