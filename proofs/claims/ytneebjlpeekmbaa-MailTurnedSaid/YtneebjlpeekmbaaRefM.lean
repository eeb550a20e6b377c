/- Contracts of functions of the references and of small functions, each by the Lean function that the kit's print.sh printed for it (cut out of the printed texts by a program, wip/tools/cut_print.py). Conditions: the typed hypotheses. -/
import Derived.Test.YtneebjlpeekmbaaProg
import Derived.Below
import Derived.Deep.Draws
import Derived.Deep.AppendLies
import Derived.Maps.AppendAt
import Derived.OwnWalk
import Derived.Laws.BytesArg
import Derived.Laws.MakeOwn
import Derived.Laws.OwnMore
import Derived.Deep.OwnRows
import Derived.Tactics
import Derived.Lib.ConvBytes
import Derived.Laws.Slices
import Derived.WalkKit
import Derived.KernelRfl
import Derived.RowKit3
import Derived.Deep.LoopGhost
import Derived.Deep.QuietTactic
import Derived.BigQuiet
import Derived.WideLaws
import Derived.Deep.DeepCutAuto
import Derived.Deep.CutBlock
import Derived.Deep.RegionHeld3
import Derived.Laws.Rows
import Derived.Lib.AppendStr
import Derived.ArgAppend
import Derived.Laws.IdiomCopy
import Derived.OrdersHeld
import Derived.Laws.BitsLemmas
import Derived.RowKit
import Derived.Test.YtneebjlpeekmbaaWWords
import Derived.Test.YtneebjlpeekmbaaWLast
import Derived.Test.YtneebjlpeekmbaaWQPut
import Derived.Test.YtneebjlpeekmbaaWApart
import Derived.Test.YtneebjlpeekmbaaWArr
import Derived.Test.YtneebjlpeekmbaaWZeros
import Derived.Test.YtneebjlpeekmbaaWFoot
import Derived.Test.YtneebjlpeekmbaaWKept
import Derived.Test.YtneebjlpeekmbaaWShare
import Derived.Test.YtneebjlpeekmbaaWN
import Derived.Test.YtneebjlpeekmbaaWRepsOne
import Derived.Test.YtneebjlpeekmbaaWGuard
import Derived.Test.YtneebjlpeekmbaaWNEv
import Derived.Test.YtneebjlpeekmbaaWMore
import Derived.Test.YtneebjlpeekmbaaRefA
namespace Go.Proofs.Ytneebjlpeekmbaa.PRef
open Go.RowKit Go.Proofs.YtneebjlpeekmbaaW.PrintWords Go.Proofs.YtneebjlpeekmbaaW.PrintLast Go.Proofs.YtneebjlpeekmbaaW.PrintMore
attribute [local go_sem] max2_int min2_int max_two min_two max_three min_three max_four min_four
set_option linter.unusedVariables false
set_option linter.unusedSimpArgs false

/-! ### lamellaref15_May: function 13 -/
mutual
def lamellaref15_May.j0 : Nat → Bool → Int → Int → Int → Int → Int → Int → Int → Int → Int → Int → Int → Bool → Int → Int → Int → Int → Int → List ByteArray → Int → List (S23) → Bool → Int → Int → Int → Int → Int → List (S60) → ByteArray → Int → Int → Int → Int → Int → List ByteArray → Option (Bool)
  | 0, _, _, _, _, _, _, _, _, _, _, _, _, _, _, _, _, _, _, _, _, _, _, _, _, _, _, _, _, _, _, _, _, _, _, _ => none
  | k + 1, x4, x181000, x181001, x181002, x181003, x181004, x181005, x181006, x181007, x181008, x181009, x181010, x181011, x181012, x181013, x181014, x181015, x181016, x181017, x181018, x181019, x181020, x181021, x181022, x181023, x181024, x181025, x181026, x181027, x182000, x182001, x182002, x182003, x182004, x182005 => lamellaref15_May.l0 k x4 x182005 (x182005.length : Int) 0 x181000 x181001 x181002 x181003 x181004 x181005 x181006 x181007 x181008 x181009 x181010 x181011 x181012 x181013 x181014 x181015 x181016 x181017 x181018 x181019 x181020 x181021 x181022 x181023 x181024 x181025 x181026 x181027
def lamellaref15_May.l0 : Nat → Bool → List ByteArray → Int → Int → Int → Int → Int → Int → Int → Int → Int → Int → Int → Int → Int → Bool → Int → Int → Int → Int → Int → List ByteArray → Int → List (S23) → Bool → Int → Int → Int → Int → Int → List (S60) → ByteArray → Option (Bool)
  | 0, _, _, _, _, _, _, _, _, _, _, _, _, _, _, _, _, _, _, _, _, _, _, _, _, _, _, _, _, _, _, _, _ => none
  | k + 1, x4, x46, x47, x48, x181000, x181001, x181002, x181003, x181004, x181005, x181006, x181007, x181008, x181009, x181010, x181011, x181012, x181013, x181014, x181015, x181016, x181017, x181018, x181019, x181020, x181021, x181022, x181023, x181024, x181025, x181026, x181027 => if x48 < x47 then (if 0 ≤ x48 then (if x48 < (x46.length : Int) then (if x4 = true then (lamellaref15_May.l0 k (decide (((rdOf ByteArray.empty x46 x48).size : Int) ≤ 1048576)) x46 x47 (wrap64 (x48 + 1)) x181000 x181001 x181002 x181003 x181004 x181005 x181006 x181007 x181008 x181009 x181010 x181011 x181012 x181013 x181014 x181015 x181016 x181017 x181018 x181019 x181020 x181021 x181022 x181023 x181024 x181025 x181026 x181027) else (lamellaref15_May.l0 k false x46 x47 (wrap64 (x48 + 1)) x181000 x181001 x181002 x181003 x181004 x181005 x181006 x181007 x181008 x181009 x181010 x181011 x181012 x181013 x181014 x181015 x181016 x181017 x181018 x181019 x181020 x181021 x181022 x181023 x181024 x181025 x181026 x181027)) else (none)) else (none)) else (lamellaref15_May.l1 k x4 x181026 (x181026.length : Int) 0)
def lamellaref15_May.l1 : Nat → Bool → List (S60) → Int → Int → Option (Bool)
  | 0, _, _, _, _ => none
  | k + 1, x4, x60, x61, x62 => if x62 < x61 then (if 0 ≤ x62 then (if x62 < (x60.length : Int) then (if x4 = true then (lamellaref15_May.l1 k (decide ((((rd_T60 x60 x62).f2).size : Int) ≤ 1048576)) x60 x61 (wrap64 (x62 + 1))) else (lamellaref15_May.l1 k false x60 x61 (wrap64 (x62 + 1)))) else (none)) else (none)) else (some x4)
end
def lamellaref15_May.f (k : Nat) (a0_0 : Int) (a0_1 : Int) (a0_2 : Int) (a0_3 : Int) (a0_4 : Int) (a0_5 : Int) (a0_6 : Int) (a0_7 : Int) (a0_8 : Int) (a0_9 : Int) (a0_10 : Int) (a0_11 : Bool) (a0_12 : Int) (a0_13 : Int) (a0_14 : Int) (a0_15 : Int) (a0_16 : Int) (l0_17 : List ByteArray) (a0_18 : Int) (l0_19 : List (S23)) (a0_20 : Bool) (a0_21 : Int) (a0_22 : Int) (a0_23 : Int) (a0_24 : Int) (a0_25 : Int) (l0_26 : List (S60)) (a0_27 : ByteArray) : Option (Bool) := if a0_12 ≥ 0 then (if a0_12 < 256 then (if (a0_27.size : Int) ≤ 1048576 then (if (l0_17.length : Int) ≤ 4096 then (if (l0_19.length : Int) ≤ 4096 then (lamellaref15_May.j0 k (decide ((l0_26.length : Int) ≤ 4096)) a0_0 a0_1 a0_2 a0_3 a0_4 a0_5 a0_6 a0_7 a0_8 a0_9 a0_10 a0_11 a0_12 a0_13 a0_14 a0_15 a0_16 l0_17 a0_18 l0_19 a0_20 a0_21 a0_22 a0_23 a0_24 a0_25 l0_26 a0_27 a0_12 a0_13 a0_14 a0_15 a0_16 l0_17) else (lamellaref15_May.j0 k false a0_0 a0_1 a0_2 a0_3 a0_4 a0_5 a0_6 a0_7 a0_8 a0_9 a0_10 a0_11 a0_12 a0_13 a0_14 a0_15 a0_16 l0_17 a0_18 l0_19 a0_20 a0_21 a0_22 a0_23 a0_24 a0_25 l0_26 a0_27 a0_12 a0_13 a0_14 a0_15 a0_16 l0_17)) else (lamellaref15_May.j0 k false a0_0 a0_1 a0_2 a0_3 a0_4 a0_5 a0_6 a0_7 a0_8 a0_9 a0_10 a0_11 a0_12 a0_13 a0_14 a0_15 a0_16 l0_17 a0_18 l0_19 a0_20 a0_21 a0_22 a0_23 a0_24 a0_25 l0_26 a0_27 a0_12 a0_13 a0_14 a0_15 a0_16 l0_17)) else (lamellaref15_May.j0 k false a0_0 a0_1 a0_2 a0_3 a0_4 a0_5 a0_6 a0_7 a0_8 a0_9 a0_10 a0_11 a0_12 a0_13 a0_14 a0_15 a0_16 l0_17 a0_18 l0_19 a0_20 a0_21 a0_22 a0_23 a0_24 a0_25 l0_26 a0_27 a0_12 a0_13 a0_14 a0_15 a0_16 l0_17)) else (lamellaref15_May.j0 k false a0_0 a0_1 a0_2 a0_3 a0_4 a0_5 a0_6 a0_7 a0_8 a0_9 a0_10 a0_11 a0_12 a0_13 a0_14 a0_15 a0_16 l0_17 a0_18 l0_19 a0_20 a0_21 a0_22 a0_23 a0_24 a0_25 l0_26 a0_27 a0_12 a0_13 a0_14 a0_15 a0_16 l0_17)) else (lamellaref15_May.j0 k false a0_0 a0_1 a0_2 a0_3 a0_4 a0_5 a0_6 a0_7 a0_8 a0_9 a0_10 a0_11 a0_12 a0_13 a0_14 a0_15 a0_16 l0_17 a0_18 l0_19 a0_20 a0_21 a0_22 a0_23 a0_24 a0_25 l0_26 a0_27 a0_12 a0_13 a0_14 a0_15 a0_16 l0_17)
set_option maxHeartbeats 8000000 in
set_option maxRecDepth 100000 in
theorem lamellaref15_May.calls (k : Nat) (a0_0 : Int) (a0_1 : Int) (a0_2 : Int) (a0_3 : Int) (a0_4 : Int) (a0_5 : Int) (a0_6 : Int) (a0_7 : Int) (a0_8 : Int) (a0_9 : Int) (a0_10 : Int) (a0_11 : Bool) (a0_12 : Int) (a0_13 : Int) (a0_14 : Int) (a0_15 : Int) (a0_16 : Int) (A0_17 : Option Addr) (c0_17 : Nat) (l0_17 : List ByteArray) (a0_18 : Int) (A0_19 : Option Addr) (c0_19 : Nat) (l0_19 : List (S23)) (a0_20 : Bool) (a0_21 : Int) (a0_22 : Int) (a0_23 : Int) (a0_24 : Int) (a0_25 : Int) (A0_26 : Option Addr) (c0_26 : Nat) (l0_26 : List (S60)) (a0_27 : ByteArray) (r : Bool) (w : World) (hr0_17 : Kd.C Kd.string w A0_17 l0_17.length l0_17) (hc0_17 : l0_17.length ≤ c0_17) (hr0_19 : Kd.C k23 w A0_19 l0_19.length l0_19) (hc0_19 : l0_19.length ≤ c0_19) (hr0_26 : Kd.C k60 w A0_26 l0_26.length l0_26) (hc0_26 : l0_26.length ≤ c0_26) (h : lamellaref15_May.f k a0_0 a0_1 a0_2 a0_3 a0_4 a0_5 a0_6 a0_7 a0_8 a0_9 a0_10 a0_11 a0_12 a0_13 a0_14 a0_15 a0_16 l0_17 a0_18 l0_19 a0_20 a0_21 a0_22 a0_23 a0_24 a0_25 l0_26 a0_27 = some r) :
    Calls Try.prog 13 #[.agg #[.int .i64 a0_0, .int .i64 a0_1, .int .i64 a0_2, .int .i64 a0_3, .int .i64 a0_4, .int .i64 a0_5, .int .i64 a0_6, .int .i64 a0_7, .int .i64 a0_8, .int .i64 a0_9, .int .i64 a0_10, .bool a0_11, .int .i64 a0_12, .int .i64 a0_13, .int .i64 a0_14, .int .i64 a0_15, .int .i64 a0_16, .slice A0_17 l0_17.length c0_17, .int .i64 a0_18, .slice A0_19 l0_19.length c0_19, .bool a0_20, .int .i64 a0_21, .int .i64 a0_22, .int .i64 a0_23, .int .i64 a0_24, .int .i64 a0_25, .slice A0_26 l0_26.length c0_26, .string a0_27]] w fun e w' => e = .returned (.bool r) ∧ Below w.heap.size w w' := by
  have hu34 := Try.underlying34
  have hu28 := Try.underlying28
  have hu60 := Try.underlying60
  have HR0_17 := Aside0.mk hr0_17
  have HC0_17 := Aside0.mk hc0_17
  clear hr0_17 hc0_17
  have HR0_19 := Aside0.mk hr0_19
  have HC0_19 := Aside0.mk hc0_19
  clear hr0_19 hc0_19
  have HR0_26 := Aside0.mk hr0_26
  have HC0_26 := Aside0.mk hc0_26
  clear hr0_26 hc0_26
  have HB := Aside0.mk (Below.refl w.heap.size w)
  have H : (if a0_12 ≥ 0 then (if a0_12 < 256 then (if (a0_27.size : Int) ≤ 1048576 then (if (l0_17.length : Int) ≤ 4096 then (if (l0_19.length : Int) ≤ 4096 then (lamellaref15_May.j0 k (decide ((l0_26.length : Int) ≤ 4096)) a0_0 a0_1 a0_2 a0_3 a0_4 a0_5 a0_6 a0_7 a0_8 a0_9 a0_10 a0_11 a0_12 a0_13 a0_14 a0_15 a0_16 l0_17 a0_18 l0_19 a0_20 a0_21 a0_22 a0_23 a0_24 a0_25 l0_26 a0_27 a0_12 a0_13 a0_14 a0_15 a0_16 l0_17) else (lamellaref15_May.j0 k false a0_0 a0_1 a0_2 a0_3 a0_4 a0_5 a0_6 a0_7 a0_8 a0_9 a0_10 a0_11 a0_12 a0_13 a0_14 a0_15 a0_16 l0_17 a0_18 l0_19 a0_20 a0_21 a0_22 a0_23 a0_24 a0_25 l0_26 a0_27 a0_12 a0_13 a0_14 a0_15 a0_16 l0_17)) else (lamellaref15_May.j0 k false a0_0 a0_1 a0_2 a0_3 a0_4 a0_5 a0_6 a0_7 a0_8 a0_9 a0_10 a0_11 a0_12 a0_13 a0_14 a0_15 a0_16 l0_17 a0_18 l0_19 a0_20 a0_21 a0_22 a0_23 a0_24 a0_25 l0_26 a0_27 a0_12 a0_13 a0_14 a0_15 a0_16 l0_17)) else (lamellaref15_May.j0 k false a0_0 a0_1 a0_2 a0_3 a0_4 a0_5 a0_6 a0_7 a0_8 a0_9 a0_10 a0_11 a0_12 a0_13 a0_14 a0_15 a0_16 l0_17 a0_18 l0_19 a0_20 a0_21 a0_22 a0_23 a0_24 a0_25 l0_26 a0_27 a0_12 a0_13 a0_14 a0_15 a0_16 l0_17)) else (lamellaref15_May.j0 k false a0_0 a0_1 a0_2 a0_3 a0_4 a0_5 a0_6 a0_7 a0_8 a0_9 a0_10 a0_11 a0_12 a0_13 a0_14 a0_15 a0_16 l0_17 a0_18 l0_19 a0_20 a0_21 a0_22 a0_23 a0_24 a0_25 l0_26 a0_27 a0_12 a0_13 a0_14 a0_15 a0_16 l0_17)) else (lamellaref15_May.j0 k false a0_0 a0_1 a0_2 a0_3 a0_4 a0_5 a0_6 a0_7 a0_8 a0_9 a0_10 a0_11 a0_12 a0_13 a0_14 a0_15 a0_16 l0_17 a0_18 l0_19 a0_20 a0_21 a0_22 a0_23 a0_24 a0_25 l0_26 a0_27 a0_12 a0_13 a0_14 a0_15 a0_16 l0_17)) = some r := h
  clear h
  have HC2 := Aside0.mk H
  clear H
  go_enter Try.func13, Try.ntmps13
  go_upto_region 2 with (first | ((with_reducible refine gate_dst (N := 1) rfl ?_); (try (refine gate_guard (by rfl) ?_; dsimp only)); refine box_event ?hg (N := 1) ?hd (cs := #[.int .i64 a0_0, .int .i64 a0_1, .int .i64 a0_2, .int .i64 a0_3, .int .i64 a0_4, .int .i64 a0_5, .int .i64 a0_6, .int .i64 a0_7, .int .i64 a0_8, .int .i64 a0_9, .int .i64 a0_10, .bool a0_11, .int .i64 a0_12, .int .i64 a0_13, .int .i64 a0_14, .int .i64 a0_15, .int .i64 a0_16, .slice A0_17 l0_17.length c0_17, .int .i64 a0_18, .slice A0_19 l0_19.length c0_19, .bool a0_20, .int .i64 a0_21, .int .i64 a0_22, .int .i64 a0_23, .int .i64 a0_24, .int .i64 a0_25, .slice A0_26 l0_26.length c0_26, .string a0_27]) (t := 34) ?hr ?_; (case hd => rfl); (case hg => rfl); (case hr => first | (go_simp; done) | (go_simp; rfl)); intro gb180 hg w3 hbox hb; have n0_ := Aside0.mk (below_step (by repeat (first | (with_reducible first | exact HB.out | apply below_alloc | apply pw_below_drewN | apply below_drew1) | exact HB.out)) hb); have n1_ := Aside0.mk (hbox); have n2_ := Aside0.mk ((by rw [hg]; exact (below_size (by repeat (first | (with_reducible first | exact HB.out | apply below_alloc | apply pw_below_drewN | apply below_drew1) | exact HB.out))) : w.heap.size ≤ gb180)); have n3_ := Aside0.mk ((by rw [hg]; exact (below_size (by repeat (first | (with_reducible first | exact HB.out | apply below_alloc | apply pw_below_drewN | apply below_drew1) | exact HB.out))) : w.heap.size ≤ gb180)); clear HB; have HB := n0_; have BK180 := n1_; have GW180 := n2_; have GE180 := n3_; clear n0_ n1_ n2_ n3_; clear hb hbox hg; have hcz4_0 : w3.cell? ⟨gb180, 0, none⟩ = some (.int .i64 a0_0) := (blk_cell BK180.out 0).trans rfl; have hcz4_1 : w3.cell? ⟨gb180, 1, none⟩ = some (.int .i64 a0_1) := (blk_cell BK180.out 1).trans rfl; have hcz4_2 : w3.cell? ⟨gb180, 2, none⟩ = some (.int .i64 a0_2) := (blk_cell BK180.out 2).trans rfl; have hcz4_3 : w3.cell? ⟨gb180, 3, none⟩ = some (.int .i64 a0_3) := (blk_cell BK180.out 3).trans rfl; have hcz4_4 : w3.cell? ⟨gb180, 4, none⟩ = some (.int .i64 a0_4) := (blk_cell BK180.out 4).trans rfl; have hcz4_5 : w3.cell? ⟨gb180, 5, none⟩ = some (.int .i64 a0_5) := (blk_cell BK180.out 5).trans rfl; have hcz4_6 : w3.cell? ⟨gb180, 6, none⟩ = some (.int .i64 a0_6) := (blk_cell BK180.out 6).trans rfl; have hcz4_7 : w3.cell? ⟨gb180, 7, none⟩ = some (.int .i64 a0_7) := (blk_cell BK180.out 7).trans rfl; have hcz4_8 : w3.cell? ⟨gb180, 8, none⟩ = some (.int .i64 a0_8) := (blk_cell BK180.out 8).trans rfl; have hcz4_9 : w3.cell? ⟨gb180, 9, none⟩ = some (.int .i64 a0_9) := (blk_cell BK180.out 9).trans rfl; have hcz4_10 : w3.cell? ⟨gb180, 10, none⟩ = some (.int .i64 a0_10) := (blk_cell BK180.out 10).trans rfl; have hcz4_11 : w3.cell? ⟨gb180, 11, none⟩ = some (.bool a0_11) := (blk_cell BK180.out 11).trans rfl; have hcz4_12 : w3.cell? ⟨gb180, 12, none⟩ = some (.int .i64 a0_12) := (blk_cell BK180.out 12).trans rfl; have hcz4_13 : w3.cell? ⟨gb180, 13, none⟩ = some (.int .i64 a0_13) := (blk_cell BK180.out 13).trans rfl; have hcz4_14 : w3.cell? ⟨gb180, 14, none⟩ = some (.int .i64 a0_14) := (blk_cell BK180.out 14).trans rfl; have hcz4_15 : w3.cell? ⟨gb180, 15, none⟩ = some (.int .i64 a0_15) := (blk_cell BK180.out 15).trans rfl; have hcz4_16 : w3.cell? ⟨gb180, 16, none⟩ = some (.int .i64 a0_16) := (blk_cell BK180.out 16).trans rfl; have hcz4_17 : w3.cell? ⟨gb180, 17, none⟩ = some (.slice A0_17 l0_17.length c0_17) := (blk_cell BK180.out 17).trans rfl; have hcz4_18 : w3.cell? ⟨gb180, 18, none⟩ = some (.int .i64 a0_18) := (blk_cell BK180.out 18).trans rfl; have hcz4_19 : w3.cell? ⟨gb180, 19, none⟩ = some (.slice A0_19 l0_19.length c0_19) := (blk_cell BK180.out 19).trans rfl; have hcz4_20 : w3.cell? ⟨gb180, 20, none⟩ = some (.bool a0_20) := (blk_cell BK180.out 20).trans rfl; have hcz4_21 : w3.cell? ⟨gb180, 21, none⟩ = some (.int .i64 a0_21) := (blk_cell BK180.out 21).trans rfl; have hcz4_22 : w3.cell? ⟨gb180, 22, none⟩ = some (.int .i64 a0_22) := (blk_cell BK180.out 22).trans rfl; have hcz4_23 : w3.cell? ⟨gb180, 23, none⟩ = some (.int .i64 a0_23) := (blk_cell BK180.out 23).trans rfl; have hcz4_24 : w3.cell? ⟨gb180, 24, none⟩ = some (.int .i64 a0_24) := (blk_cell BK180.out 24).trans rfl; have hcz4_25 : w3.cell? ⟨gb180, 25, none⟩ = some (.int .i64 a0_25) := (blk_cell BK180.out 25).trans rfl; have hcz4_26 : w3.cell? ⟨gb180, 26, none⟩ = some (.slice A0_26 l0_26.length c0_26) := (blk_cell BK180.out 26).trans rfl; have hcz4_27 : w3.cell? ⟨gb180, 27, none⟩ = some (.string a0_27) := (blk_cell BK180.out 27).trans rfl; have hfz4_0 := blk_frozen BK180.out 0; have hfz4_1 := blk_frozen BK180.out 1; have hfz4_2 := blk_frozen BK180.out 2; have hfz4_3 := blk_frozen BK180.out 3; have hfz4_4 := blk_frozen BK180.out 4; have hfz4_5 := blk_frozen BK180.out 5; have hfz4_6 := blk_frozen BK180.out 6; have hfz4_7 := blk_frozen BK180.out 7; have hfz4_8 := blk_frozen BK180.out 8; have hfz4_9 := blk_frozen BK180.out 9; have hfz4_10 := blk_frozen BK180.out 10; have hfz4_11 := blk_frozen BK180.out 11; have hfz4_12 := blk_frozen BK180.out 12; have hfz4_13 := blk_frozen BK180.out 13; have hfz4_14 := blk_frozen BK180.out 14; have hfz4_15 := blk_frozen BK180.out 15; have hfz4_16 := blk_frozen BK180.out 16; have hfz4_17 := blk_frozen BK180.out 17; have hfz4_18 := blk_frozen BK180.out 18; have hfz4_19 := blk_frozen BK180.out 19; have hfz4_20 := blk_frozen BK180.out 20; have hfz4_21 := blk_frozen BK180.out 21; have hfz4_22 := blk_frozen BK180.out 22; have hfz4_23 := blk_frozen BK180.out 23; have hfz4_24 := blk_frozen BK180.out 24; have hfz4_25 := blk_frozen BK180.out 25; have hfz4_26 := blk_frozen BK180.out 26; have hfz4_27 := blk_frozen BK180.out 27) | ((with_reducible refine gate_dst (N := 3) rfl ?_); (try (refine gate_guard (by rfl) ?_; dsimp only)); refine box_event ?hg (N := 3) ?hd (cs := #[.int .i64 0, .int .i64 0, .int .i64 0, .int .i64 0, .int .i64 0, .slice none 0 0]) (t := 28) ?hr ?_; (case hd => rfl); (case hg => rfl); (case hr => first | (go_simp; done) | (go_simp; rfl)); intro gb181 hg w5 hbox hb; have n0_ := Aside0.mk (blk_below (g := gb180) (o := .cells #[.int .i64 a0_0, .int .i64 a0_1, .int .i64 a0_2, .int .i64 a0_3, .int .i64 a0_4, .int .i64 a0_5, .int .i64 a0_6, .int .i64 a0_7, .int .i64 a0_8, .int .i64 a0_9, .int .i64 a0_10, .bool a0_11, .int .i64 a0_12, .int .i64 a0_13, .int .i64 a0_14, .int .i64 a0_15, .int .i64 a0_16, .slice A0_17 l0_17.length c0_17, .int .i64 a0_18, .slice A0_19 l0_19.length c0_19, .bool a0_20, .int .i64 a0_21, .int .i64 a0_22, .int .i64 a0_23, .int .i64 a0_24, .int .i64 a0_25, .slice A0_26 l0_26.length c0_26, .string a0_27] 34 (0, 0)) (by (with_reducible repeat (first | refine blk_drewN ?_ _ | refine blk_drew ?_ | refine blk_alloc ?_ _)); exact BK180.out) hb); have n1_ := Aside0.mk (below_step (by repeat (first | (with_reducible first | exact HB.out | apply below_alloc | apply pw_below_drewN | apply below_drew1 | refine below_set ?_ GE180.out) | exact HB.out)) hb); have n2_ := Aside0.mk (hbox); have n3_ := Aside0.mk ((by rw [hg]; exact (below_size (by repeat (first | (with_reducible first | exact HB.out | apply below_alloc | apply pw_below_drewN | apply below_drew1 | refine below_set ?_ GE180.out) | exact HB.out))) : w.heap.size ≤ gb181)); have n4_ := Aside0.mk ((by rw [hg]; exact (below_size (by repeat (first | (with_reducible first | exact HB.out | apply below_alloc | apply pw_below_drewN | apply below_drew1 | refine below_set ?_ GE180.out) | exact HB.out))) : w.heap.size ≤ gb181)); have n5_ := Aside0.mk ((by rw [hg]; exact Nat.ne_of_lt (blk_lt (g := gb180) (o := .cells #[.int .i64 a0_0, .int .i64 a0_1, .int .i64 a0_2, .int .i64 a0_3, .int .i64 a0_4, .int .i64 a0_5, .int .i64 a0_6, .int .i64 a0_7, .int .i64 a0_8, .int .i64 a0_9, .int .i64 a0_10, .bool a0_11, .int .i64 a0_12, .int .i64 a0_13, .int .i64 a0_14, .int .i64 a0_15, .int .i64 a0_16, .slice A0_17 l0_17.length c0_17, .int .i64 a0_18, .slice A0_19 l0_19.length c0_19, .bool a0_20, .int .i64 a0_21, .int .i64 a0_22, .int .i64 a0_23, .int .i64 a0_24, .int .i64 a0_25, .slice A0_26 l0_26.length c0_26, .string a0_27] 34 (0, 0)) (by (with_reducible repeat (first | refine blk_drewN ?_ _ | refine blk_drew ?_ | refine blk_alloc ?_ _)); exact BK180.out)) : gb180 ≠ gb181)); have n6_ := Aside0.mk ((by rw [hg]; exact Nat.ne_of_gt (blk_lt (g := gb180) (o := .cells #[.int .i64 a0_0, .int .i64 a0_1, .int .i64 a0_2, .int .i64 a0_3, .int .i64 a0_4, .int .i64 a0_5, .int .i64 a0_6, .int .i64 a0_7, .int .i64 a0_8, .int .i64 a0_9, .int .i64 a0_10, .bool a0_11, .int .i64 a0_12, .int .i64 a0_13, .int .i64 a0_14, .int .i64 a0_15, .int .i64 a0_16, .slice A0_17 l0_17.length c0_17, .int .i64 a0_18, .slice A0_19 l0_19.length c0_19, .bool a0_20, .int .i64 a0_21, .int .i64 a0_22, .int .i64 a0_23, .int .i64 a0_24, .int .i64 a0_25, .slice A0_26 l0_26.length c0_26, .string a0_27] 34 (0, 0)) (by (with_reducible repeat (first | refine blk_drewN ?_ _ | refine blk_drew ?_ | refine blk_alloc ?_ _)); exact BK180.out)) : gb181 ≠ gb180)); clear BK180; clear HB; have BK180 := n0_; have HB := n1_; have BK181 := n2_; have GW181 := n3_; have GE181 := n4_; have NB180_181 := n5_; have NB181_180 := n6_; clear n0_ n1_ n2_ n3_ n4_ n5_ n6_; clear hb hbox hg; have hnb6 := NB181_180.out; have hnc6 := NB180_181.out; have hcz7_0 : w5.cell? ⟨gb181, 0, none⟩ = some (.int .i64 0) := (blk_cell BK181.out 0).trans rfl; have hcz7_1 : w5.cell? ⟨gb181, 1, none⟩ = some (.int .i64 0) := (blk_cell BK181.out 1).trans rfl; have hcz7_2 : w5.cell? ⟨gb181, 2, none⟩ = some (.int .i64 0) := (blk_cell BK181.out 2).trans rfl; have hcz7_3 : w5.cell? ⟨gb181, 3, none⟩ = some (.int .i64 0) := (blk_cell BK181.out 3).trans rfl; have hcz7_4 : w5.cell? ⟨gb181, 4, none⟩ = some (.int .i64 0) := (blk_cell BK181.out 4).trans rfl; have hcz7_5 : w5.cell? ⟨gb181, 5, none⟩ = some (.slice none 0 0) := (blk_cell BK181.out 5).trans rfl; have hfz7_0 := blk_frozen BK181.out 0; have hfz7_1 := blk_frozen BK181.out 1; have hfz7_2 := blk_frozen BK181.out 2; have hfz7_3 := blk_frozen BK181.out 3; have hfz7_4 := blk_frozen BK181.out 4; have hfz7_5 := blk_frozen BK181.out 5))
  (try simp only [Act.put, List.setIfInBounds_toArray, List.set_cons_zero, List.set_cons_succ])
  go_cut [4] (fun v4 wc => ∃ (kq : Nat) (x4_1 : Bool), v4 = .bool x4_1 ∧ Aside0 (lamellaref15_May.j0 kq x4_1 a0_0 a0_1 a0_2 a0_3 a0_4 a0_5 a0_6 a0_7 a0_8 a0_9 a0_10 a0_11 a0_12 a0_13 a0_14 a0_15 a0_16 l0_17 a0_18 l0_19 a0_20 a0_21 a0_22 a0_23 a0_24 a0_25 l0_26 a0_27 a0_12 a0_13 a0_14 a0_15 a0_16 l0_17 = some r) ∧ Aside0 (kq ≤ k) ∧ Aside0 (wc.heap[gb180]? = some (.cells #[.int .i64 a0_0, .int .i64 a0_1, .int .i64 a0_2, .int .i64 a0_3, .int .i64 a0_4, .int .i64 a0_5, .int .i64 a0_6, .int .i64 a0_7, .int .i64 a0_8, .int .i64 a0_9, .int .i64 a0_10, .bool a0_11, .int .i64 a0_12, .int .i64 a0_13, .int .i64 a0_14, .int .i64 a0_15, .int .i64 a0_16, (.slice A0_17 l0_17.length c0_17), .int .i64 a0_18, (.slice A0_19 l0_19.length c0_19), .bool a0_20, .int .i64 a0_21, .int .i64 a0_22, .int .i64 a0_23, .int .i64 a0_24, .int .i64 a0_25, (.slice A0_26 l0_26.length c0_26), .string a0_27] 34 (0, 0))) ∧ Aside0 (wc.heap[gb181]? = some (.cells #[.int .i64 a0_12, .int .i64 a0_13, .int .i64 a0_14, .int .i64 a0_15, .int .i64 a0_16, (.slice A0_17 l0_17.length c0_17)] 28 (0, 0))) ∧ Aside0 (Below w.heap.size w wc))
  case first =>
    have H := HC2.out
    clear HC2
    by_cases c8 : a0_12 ≥ 0
    · rw [if_pos c8] at H
      have c8b0 : decide (0 ≤ a0_12) = true := decide_eq_true c8
      clear c8
      (first | rw [c8b0] | (simp only [i64_w, i32_w]; rw [c8b0]) | skip)
      by_cases c9 : a0_12 < 256
      · rw [if_pos c9] at H
        have c9b0 : decide (a0_12 < 256) = true := decide_eq_true c9
        clear c9
        by_cases c10 : (a0_27.size : Int) ≤ 1048576
        · rw [if_pos c10] at H
          have c10b0 : decide ((a0_27.size : Int) ≤ 1048576) = true := decide_eq_true c10
          have c10b1 : decide (a0_27.size ≤ 1048576) = true := decide_eq_true (by omega)
          clear c10
          by_cases c11 : (l0_17.length : Int) ≤ 4096
          · rw [if_pos c11] at H
            have c11b0 : decide ((l0_17.length : Int) ≤ 4096) = true := decide_eq_true c11
            have c11b1 : decide (l0_17.length ≤ 4096) = true := decide_eq_true (by omega)
            clear c11
            by_cases c12 : (l0_19.length : Int) ≤ 4096
            · rw [if_pos c12] at H
              have c12b0 : decide ((l0_19.length : Int) ≤ 4096) = true := decide_eq_true c12
              have c12b1 : decide (l0_19.length ≤ 4096) = true := decide_eq_true (by omega)
              clear c12
              have H' := Aside0.mk H
              clear H
              have hnb13 := NB181_180.out
              have hnc13 := NB180_181.out
              have hcz14_0 : w5.cell? ⟨gb181, 0, none⟩ = some (.int .i64 0) := (blk_cell BK181.out 0).trans rfl
              have hcz14_1 : w5.cell? ⟨gb181, 1, none⟩ = some (.int .i64 0) := (blk_cell BK181.out 1).trans rfl
              have hcz14_2 : w5.cell? ⟨gb181, 2, none⟩ = some (.int .i64 0) := (blk_cell BK181.out 2).trans rfl
              have hcz14_3 : w5.cell? ⟨gb181, 3, none⟩ = some (.int .i64 0) := (blk_cell BK181.out 3).trans rfl
              have hcz14_4 : w5.cell? ⟨gb181, 4, none⟩ = some (.int .i64 0) := (blk_cell BK181.out 4).trans rfl
              have hcz14_5 : w5.cell? ⟨gb181, 5, none⟩ = some (.slice none 0 0) := (blk_cell BK181.out 5).trans rfl
              have hfz14_0 := blk_frozen BK181.out 0
              have hfz14_1 := blk_frozen BK181.out 1
              have hfz14_2 := blk_frozen BK181.out 2
              have hfz14_3 := blk_frozen BK181.out 3
              have hfz14_4 := blk_frozen BK181.out 4
              have hfz14_5 := blk_frozen BK181.out 5
              have hcz15_0 : w5.cell? ⟨gb180, 0, none⟩ = some (.int .i64 a0_0) := (blk_cell BK180.out 0).trans rfl
              have hcz15_1 : w5.cell? ⟨gb180, 1, none⟩ = some (.int .i64 a0_1) := (blk_cell BK180.out 1).trans rfl
              have hcz15_2 : w5.cell? ⟨gb180, 2, none⟩ = some (.int .i64 a0_2) := (blk_cell BK180.out 2).trans rfl
              have hcz15_3 : w5.cell? ⟨gb180, 3, none⟩ = some (.int .i64 a0_3) := (blk_cell BK180.out 3).trans rfl
              have hcz15_4 : w5.cell? ⟨gb180, 4, none⟩ = some (.int .i64 a0_4) := (blk_cell BK180.out 4).trans rfl
              have hcz15_5 : w5.cell? ⟨gb180, 5, none⟩ = some (.int .i64 a0_5) := (blk_cell BK180.out 5).trans rfl
              have hcz15_6 : w5.cell? ⟨gb180, 6, none⟩ = some (.int .i64 a0_6) := (blk_cell BK180.out 6).trans rfl
              have hcz15_7 : w5.cell? ⟨gb180, 7, none⟩ = some (.int .i64 a0_7) := (blk_cell BK180.out 7).trans rfl
              have hcz15_8 : w5.cell? ⟨gb180, 8, none⟩ = some (.int .i64 a0_8) := (blk_cell BK180.out 8).trans rfl
              have hcz15_9 : w5.cell? ⟨gb180, 9, none⟩ = some (.int .i64 a0_9) := (blk_cell BK180.out 9).trans rfl
              have hcz15_10 : w5.cell? ⟨gb180, 10, none⟩ = some (.int .i64 a0_10) := (blk_cell BK180.out 10).trans rfl
              have hcz15_11 : w5.cell? ⟨gb180, 11, none⟩ = some (.bool a0_11) := (blk_cell BK180.out 11).trans rfl
              have hcz15_12 : w5.cell? ⟨gb180, 12, none⟩ = some (.int .i64 a0_12) := (blk_cell BK180.out 12).trans rfl
              have hcz15_13 : w5.cell? ⟨gb180, 13, none⟩ = some (.int .i64 a0_13) := (blk_cell BK180.out 13).trans rfl
              have hcz15_14 : w5.cell? ⟨gb180, 14, none⟩ = some (.int .i64 a0_14) := (blk_cell BK180.out 14).trans rfl
              have hcz15_15 : w5.cell? ⟨gb180, 15, none⟩ = some (.int .i64 a0_15) := (blk_cell BK180.out 15).trans rfl
              have hcz15_16 : w5.cell? ⟨gb180, 16, none⟩ = some (.int .i64 a0_16) := (blk_cell BK180.out 16).trans rfl
              have hcz15_17 : w5.cell? ⟨gb180, 17, none⟩ = some (.slice A0_17 l0_17.length c0_17) := (blk_cell BK180.out 17).trans rfl
              have hcz15_18 : w5.cell? ⟨gb180, 18, none⟩ = some (.int .i64 a0_18) := (blk_cell BK180.out 18).trans rfl
              have hcz15_19 : w5.cell? ⟨gb180, 19, none⟩ = some (.slice A0_19 l0_19.length c0_19) := (blk_cell BK180.out 19).trans rfl
              have hcz15_20 : w5.cell? ⟨gb180, 20, none⟩ = some (.bool a0_20) := (blk_cell BK180.out 20).trans rfl
              have hcz15_21 : w5.cell? ⟨gb180, 21, none⟩ = some (.int .i64 a0_21) := (blk_cell BK180.out 21).trans rfl
              have hcz15_22 : w5.cell? ⟨gb180, 22, none⟩ = some (.int .i64 a0_22) := (blk_cell BK180.out 22).trans rfl
              have hcz15_23 : w5.cell? ⟨gb180, 23, none⟩ = some (.int .i64 a0_23) := (blk_cell BK180.out 23).trans rfl
              have hcz15_24 : w5.cell? ⟨gb180, 24, none⟩ = some (.int .i64 a0_24) := (blk_cell BK180.out 24).trans rfl
              have hcz15_25 : w5.cell? ⟨gb180, 25, none⟩ = some (.int .i64 a0_25) := (blk_cell BK180.out 25).trans rfl
              have hcz15_26 : w5.cell? ⟨gb180, 26, none⟩ = some (.slice A0_26 l0_26.length c0_26) := (blk_cell BK180.out 26).trans rfl
              have hcz15_27 : w5.cell? ⟨gb180, 27, none⟩ = some (.string a0_27) := (blk_cell BK180.out 27).trans rfl
              have hfz15_0 := blk_frozen BK180.out 0
              have hfz15_1 := blk_frozen BK180.out 1
              have hfz15_2 := blk_frozen BK180.out 2
              have hfz15_3 := blk_frozen BK180.out 3
              have hfz15_4 := blk_frozen BK180.out 4
              have hfz15_5 := blk_frozen BK180.out 5
              have hfz15_6 := blk_frozen BK180.out 6
              have hfz15_7 := blk_frozen BK180.out 7
              have hfz15_8 := blk_frozen BK180.out 8
              have hfz15_9 := blk_frozen BK180.out 9
              have hfz15_10 := blk_frozen BK180.out 10
              have hfz15_11 := blk_frozen BK180.out 11
              have hfz15_12 := blk_frozen BK180.out 12
              have hfz15_13 := blk_frozen BK180.out 13
              have hfz15_14 := blk_frozen BK180.out 14
              have hfz15_15 := blk_frozen BK180.out 15
              have hfz15_16 := blk_frozen BK180.out 16
              have hfz15_17 := blk_frozen BK180.out 17
              have hfz15_18 := blk_frozen BK180.out 18
              have hfz15_19 := blk_frozen BK180.out 19
              have hfz15_20 := blk_frozen BK180.out 20
              have hfz15_21 := blk_frozen BK180.out 21
              have hfz15_22 := blk_frozen BK180.out 22
              have hfz15_23 := blk_frozen BK180.out 23
              have hfz15_24 := blk_frozen BK180.out 24
              have hfz15_25 := blk_frozen BK180.out 25
              have hfz15_26 := blk_frozen BK180.out 26
              have hfz15_27 := blk_frozen BK180.out 27
              go_wp2
              go_meet
              case rel => exact ⟨_, (decide ((l0_26.length : Int) ≤ 4096)), (by first | rfl | (simp; done) | (simp [*]; done)), H', ⟨by first | omega | exact Nat.le_refl _⟩, ⟨by (with_reducible repeat (first | refine blk_drewN ?_ _ | refine blk_drew ?_ | refine blk_alloc ?_ _)); refine blk_far ?_ NB180_181.out _; (with_reducible repeat (first | refine blk_drewN ?_ _ | refine blk_drew ?_ | refine blk_alloc ?_ _)); refine blk_far ?_ NB180_181.out _; (with_reducible repeat (first | refine blk_drewN ?_ _ | refine blk_drew ?_ | refine blk_alloc ?_ _)); refine blk_far ?_ NB180_181.out _; (with_reducible repeat (first | refine blk_drewN ?_ _ | refine blk_drew ?_ | refine blk_alloc ?_ _)); refine blk_far ?_ NB180_181.out _; (with_reducible repeat (first | refine blk_drewN ?_ _ | refine blk_drew ?_ | refine blk_alloc ?_ _)); refine blk_far ?_ NB180_181.out _; (with_reducible repeat (first | refine blk_drewN ?_ _ | refine blk_drew ?_ | refine blk_alloc ?_ _)); refine blk_far ?_ NB180_181.out _; (with_reducible repeat (first | refine blk_drewN ?_ _ | refine blk_drew ?_ | refine blk_alloc ?_ _)); exact BK180.out⟩, ⟨by (with_reducible repeat (first | refine blk_drewN ?_ _ | refine blk_drew ?_ | refine blk_alloc ?_ _)); refine blk_put (cs := #[.int .i64 a0_12, .int .i64 a0_13, .int .i64 a0_14, .int .i64 a0_15, .int .i64 a0_16, .slice none 0 0]) ?_ 5 _ rfl; (with_reducible repeat (first | refine blk_drewN ?_ _ | refine blk_drew ?_ | refine blk_alloc ?_ _)); refine blk_put (cs := #[.int .i64 a0_12, .int .i64 a0_13, .int .i64 a0_14, .int .i64 a0_15, .int .i64 0, .slice none 0 0]) ?_ 4 _ rfl; (with_reducible repeat (first | refine blk_drewN ?_ _ | refine blk_drew ?_ | refine blk_alloc ?_ _)); refine blk_put (cs := #[.int .i64 a0_12, .int .i64 a0_13, .int .i64 a0_14, .int .i64 0, .int .i64 0, .slice none 0 0]) ?_ 3 _ rfl; (with_reducible repeat (first | refine blk_drewN ?_ _ | refine blk_drew ?_ | refine blk_alloc ?_ _)); refine blk_put (cs := #[.int .i64 a0_12, .int .i64 a0_13, .int .i64 0, .int .i64 0, .int .i64 0, .slice none 0 0]) ?_ 2 _ rfl; (with_reducible repeat (first | refine blk_drewN ?_ _ | refine blk_drew ?_ | refine blk_alloc ?_ _)); refine blk_put (cs := #[.int .i64 a0_12, .int .i64 0, .int .i64 0, .int .i64 0, .int .i64 0, .slice none 0 0]) ?_ 1 _ rfl; (with_reducible repeat (first | refine blk_drewN ?_ _ | refine blk_drew ?_ | refine blk_alloc ?_ _)); refine blk_put (cs := #[.int .i64 0, .int .i64 0, .int .i64 0, .int .i64 0, .int .i64 0, .slice none 0 0]) ?_ 0 _ rfl; (with_reducible repeat (first | refine blk_drewN ?_ _ | refine blk_drew ?_ | refine blk_alloc ?_ _)); exact BK181.out⟩, ⟨by repeat (first | (with_reducible first | exact HB.out | apply below_alloc | apply pw_below_drewN | apply below_drew1 | refine below_set ?_ GE180.out | refine below_set ?_ GE181.out) | exact HB.out)⟩⟩
            · rw [if_neg c12] at H
              have c12b0 : decide ((l0_19.length : Int) ≤ 4096) = false := decide_eq_false c12
              have c12b1 : decide (l0_19.length ≤ 4096) = false := decide_eq_false (by omega)
              clear c12
              have H' := Aside0.mk H
              clear H
              have hnb16 := NB181_180.out
              have hnc16 := NB180_181.out
              have hcz17_0 : w5.cell? ⟨gb181, 0, none⟩ = some (.int .i64 0) := (blk_cell BK181.out 0).trans rfl
              have hcz17_1 : w5.cell? ⟨gb181, 1, none⟩ = some (.int .i64 0) := (blk_cell BK181.out 1).trans rfl
              have hcz17_2 : w5.cell? ⟨gb181, 2, none⟩ = some (.int .i64 0) := (blk_cell BK181.out 2).trans rfl
              have hcz17_3 : w5.cell? ⟨gb181, 3, none⟩ = some (.int .i64 0) := (blk_cell BK181.out 3).trans rfl
              have hcz17_4 : w5.cell? ⟨gb181, 4, none⟩ = some (.int .i64 0) := (blk_cell BK181.out 4).trans rfl
              have hcz17_5 : w5.cell? ⟨gb181, 5, none⟩ = some (.slice none 0 0) := (blk_cell BK181.out 5).trans rfl
              have hfz17_0 := blk_frozen BK181.out 0
              have hfz17_1 := blk_frozen BK181.out 1
              have hfz17_2 := blk_frozen BK181.out 2
              have hfz17_3 := blk_frozen BK181.out 3
              have hfz17_4 := blk_frozen BK181.out 4
              have hfz17_5 := blk_frozen BK181.out 5
              have hcz18_0 : w5.cell? ⟨gb180, 0, none⟩ = some (.int .i64 a0_0) := (blk_cell BK180.out 0).trans rfl
              have hcz18_1 : w5.cell? ⟨gb180, 1, none⟩ = some (.int .i64 a0_1) := (blk_cell BK180.out 1).trans rfl
              have hcz18_2 : w5.cell? ⟨gb180, 2, none⟩ = some (.int .i64 a0_2) := (blk_cell BK180.out 2).trans rfl
              have hcz18_3 : w5.cell? ⟨gb180, 3, none⟩ = some (.int .i64 a0_3) := (blk_cell BK180.out 3).trans rfl
              have hcz18_4 : w5.cell? ⟨gb180, 4, none⟩ = some (.int .i64 a0_4) := (blk_cell BK180.out 4).trans rfl
              have hcz18_5 : w5.cell? ⟨gb180, 5, none⟩ = some (.int .i64 a0_5) := (blk_cell BK180.out 5).trans rfl
              have hcz18_6 : w5.cell? ⟨gb180, 6, none⟩ = some (.int .i64 a0_6) := (blk_cell BK180.out 6).trans rfl
              have hcz18_7 : w5.cell? ⟨gb180, 7, none⟩ = some (.int .i64 a0_7) := (blk_cell BK180.out 7).trans rfl
              have hcz18_8 : w5.cell? ⟨gb180, 8, none⟩ = some (.int .i64 a0_8) := (blk_cell BK180.out 8).trans rfl
              have hcz18_9 : w5.cell? ⟨gb180, 9, none⟩ = some (.int .i64 a0_9) := (blk_cell BK180.out 9).trans rfl
              have hcz18_10 : w5.cell? ⟨gb180, 10, none⟩ = some (.int .i64 a0_10) := (blk_cell BK180.out 10).trans rfl
              have hcz18_11 : w5.cell? ⟨gb180, 11, none⟩ = some (.bool a0_11) := (blk_cell BK180.out 11).trans rfl
              have hcz18_12 : w5.cell? ⟨gb180, 12, none⟩ = some (.int .i64 a0_12) := (blk_cell BK180.out 12).trans rfl
              have hcz18_13 : w5.cell? ⟨gb180, 13, none⟩ = some (.int .i64 a0_13) := (blk_cell BK180.out 13).trans rfl
              have hcz18_14 : w5.cell? ⟨gb180, 14, none⟩ = some (.int .i64 a0_14) := (blk_cell BK180.out 14).trans rfl
              have hcz18_15 : w5.cell? ⟨gb180, 15, none⟩ = some (.int .i64 a0_15) := (blk_cell BK180.out 15).trans rfl
              have hcz18_16 : w5.cell? ⟨gb180, 16, none⟩ = some (.int .i64 a0_16) := (blk_cell BK180.out 16).trans rfl
              have hcz18_17 : w5.cell? ⟨gb180, 17, none⟩ = some (.slice A0_17 l0_17.length c0_17) := (blk_cell BK180.out 17).trans rfl
              have hcz18_18 : w5.cell? ⟨gb180, 18, none⟩ = some (.int .i64 a0_18) := (blk_cell BK180.out 18).trans rfl
              have hcz18_19 : w5.cell? ⟨gb180, 19, none⟩ = some (.slice A0_19 l0_19.length c0_19) := (blk_cell BK180.out 19).trans rfl
              have hcz18_20 : w5.cell? ⟨gb180, 20, none⟩ = some (.bool a0_20) := (blk_cell BK180.out 20).trans rfl
              have hcz18_21 : w5.cell? ⟨gb180, 21, none⟩ = some (.int .i64 a0_21) := (blk_cell BK180.out 21).trans rfl
              have hcz18_22 : w5.cell? ⟨gb180, 22, none⟩ = some (.int .i64 a0_22) := (blk_cell BK180.out 22).trans rfl
              have hcz18_23 : w5.cell? ⟨gb180, 23, none⟩ = some (.int .i64 a0_23) := (blk_cell BK180.out 23).trans rfl
              have hcz18_24 : w5.cell? ⟨gb180, 24, none⟩ = some (.int .i64 a0_24) := (blk_cell BK180.out 24).trans rfl
              have hcz18_25 : w5.cell? ⟨gb180, 25, none⟩ = some (.int .i64 a0_25) := (blk_cell BK180.out 25).trans rfl
              have hcz18_26 : w5.cell? ⟨gb180, 26, none⟩ = some (.slice A0_26 l0_26.length c0_26) := (blk_cell BK180.out 26).trans rfl
              have hcz18_27 : w5.cell? ⟨gb180, 27, none⟩ = some (.string a0_27) := (blk_cell BK180.out 27).trans rfl
              have hfz18_0 := blk_frozen BK180.out 0
              have hfz18_1 := blk_frozen BK180.out 1
              have hfz18_2 := blk_frozen BK180.out 2
              have hfz18_3 := blk_frozen BK180.out 3
              have hfz18_4 := blk_frozen BK180.out 4
              have hfz18_5 := blk_frozen BK180.out 5
              have hfz18_6 := blk_frozen BK180.out 6
              have hfz18_7 := blk_frozen BK180.out 7
              have hfz18_8 := blk_frozen BK180.out 8
              have hfz18_9 := blk_frozen BK180.out 9
              have hfz18_10 := blk_frozen BK180.out 10
              have hfz18_11 := blk_frozen BK180.out 11
              have hfz18_12 := blk_frozen BK180.out 12
              have hfz18_13 := blk_frozen BK180.out 13
              have hfz18_14 := blk_frozen BK180.out 14
              have hfz18_15 := blk_frozen BK180.out 15
              have hfz18_16 := blk_frozen BK180.out 16
              have hfz18_17 := blk_frozen BK180.out 17
              have hfz18_18 := blk_frozen BK180.out 18
              have hfz18_19 := blk_frozen BK180.out 19
              have hfz18_20 := blk_frozen BK180.out 20
              have hfz18_21 := blk_frozen BK180.out 21
              have hfz18_22 := blk_frozen BK180.out 22
              have hfz18_23 := blk_frozen BK180.out 23
              have hfz18_24 := blk_frozen BK180.out 24
              have hfz18_25 := blk_frozen BK180.out 25
              have hfz18_26 := blk_frozen BK180.out 26
              have hfz18_27 := blk_frozen BK180.out 27
              go_wp2
              go_meet
              case rel => exact ⟨_, (false), (by first | rfl | (simp; done) | (simp [*]; done)), H', ⟨by first | omega | exact Nat.le_refl _⟩, ⟨by (with_reducible repeat (first | refine blk_drewN ?_ _ | refine blk_drew ?_ | refine blk_alloc ?_ _)); refine blk_far ?_ NB180_181.out _; (with_reducible repeat (first | refine blk_drewN ?_ _ | refine blk_drew ?_ | refine blk_alloc ?_ _)); refine blk_far ?_ NB180_181.out _; (with_reducible repeat (first | refine blk_drewN ?_ _ | refine blk_drew ?_ | refine blk_alloc ?_ _)); refine blk_far ?_ NB180_181.out _; (with_reducible repeat (first | refine blk_drewN ?_ _ | refine blk_drew ?_ | refine blk_alloc ?_ _)); refine blk_far ?_ NB180_181.out _; (with_reducible repeat (first | refine blk_drewN ?_ _ | refine blk_drew ?_ | refine blk_alloc ?_ _)); refine blk_far ?_ NB180_181.out _; (with_reducible repeat (first | refine blk_drewN ?_ _ | refine blk_drew ?_ | refine blk_alloc ?_ _)); refine blk_far ?_ NB180_181.out _; (with_reducible repeat (first | refine blk_drewN ?_ _ | refine blk_drew ?_ | refine blk_alloc ?_ _)); exact BK180.out⟩, ⟨by (with_reducible repeat (first | refine blk_drewN ?_ _ | refine blk_drew ?_ | refine blk_alloc ?_ _)); refine blk_put (cs := #[.int .i64 a0_12, .int .i64 a0_13, .int .i64 a0_14, .int .i64 a0_15, .int .i64 a0_16, .slice none 0 0]) ?_ 5 _ rfl; (with_reducible repeat (first | refine blk_drewN ?_ _ | refine blk_drew ?_ | refine blk_alloc ?_ _)); refine blk_put (cs := #[.int .i64 a0_12, .int .i64 a0_13, .int .i64 a0_14, .int .i64 a0_15, .int .i64 0, .slice none 0 0]) ?_ 4 _ rfl; (with_reducible repeat (first | refine blk_drewN ?_ _ | refine blk_drew ?_ | refine blk_alloc ?_ _)); refine blk_put (cs := #[.int .i64 a0_12, .int .i64 a0_13, .int .i64 a0_14, .int .i64 0, .int .i64 0, .slice none 0 0]) ?_ 3 _ rfl; (with_reducible repeat (first | refine blk_drewN ?_ _ | refine blk_drew ?_ | refine blk_alloc ?_ _)); refine blk_put (cs := #[.int .i64 a0_12, .int .i64 a0_13, .int .i64 0, .int .i64 0, .int .i64 0, .slice none 0 0]) ?_ 2 _ rfl; (with_reducible repeat (first | refine blk_drewN ?_ _ | refine blk_drew ?_ | refine blk_alloc ?_ _)); refine blk_put (cs := #[.int .i64 a0_12, .int .i64 0, .int .i64 0, .int .i64 0, .int .i64 0, .slice none 0 0]) ?_ 1 _ rfl; (with_reducible repeat (first | refine blk_drewN ?_ _ | refine blk_drew ?_ | refine blk_alloc ?_ _)); refine blk_put (cs := #[.int .i64 0, .int .i64 0, .int .i64 0, .int .i64 0, .int .i64 0, .slice none 0 0]) ?_ 0 _ rfl; (with_reducible repeat (first | refine blk_drewN ?_ _ | refine blk_drew ?_ | refine blk_alloc ?_ _)); exact BK181.out⟩, ⟨by repeat (first | (with_reducible first | exact HB.out | apply below_alloc | apply pw_below_drewN | apply below_drew1 | refine below_set ?_ GE180.out | refine below_set ?_ GE181.out) | exact HB.out)⟩⟩
          · rw [if_neg c11] at H
            have c11b0 : decide ((l0_17.length : Int) ≤ 4096) = false := decide_eq_false c11
            have c11b1 : decide (l0_17.length ≤ 4096) = false := decide_eq_false (by omega)
            clear c11
            have H' := Aside0.mk H
            clear H
            have hnb19 := NB181_180.out
            have hnc19 := NB180_181.out
            have hcz20_0 : w5.cell? ⟨gb181, 0, none⟩ = some (.int .i64 0) := (blk_cell BK181.out 0).trans rfl
            have hcz20_1 : w5.cell? ⟨gb181, 1, none⟩ = some (.int .i64 0) := (blk_cell BK181.out 1).trans rfl
            have hcz20_2 : w5.cell? ⟨gb181, 2, none⟩ = some (.int .i64 0) := (blk_cell BK181.out 2).trans rfl
            have hcz20_3 : w5.cell? ⟨gb181, 3, none⟩ = some (.int .i64 0) := (blk_cell BK181.out 3).trans rfl
            have hcz20_4 : w5.cell? ⟨gb181, 4, none⟩ = some (.int .i64 0) := (blk_cell BK181.out 4).trans rfl
            have hcz20_5 : w5.cell? ⟨gb181, 5, none⟩ = some (.slice none 0 0) := (blk_cell BK181.out 5).trans rfl
            have hfz20_0 := blk_frozen BK181.out 0
            have hfz20_1 := blk_frozen BK181.out 1
            have hfz20_2 := blk_frozen BK181.out 2
            have hfz20_3 := blk_frozen BK181.out 3
            have hfz20_4 := blk_frozen BK181.out 4
            have hfz20_5 := blk_frozen BK181.out 5
            have hcz21_0 : w5.cell? ⟨gb180, 0, none⟩ = some (.int .i64 a0_0) := (blk_cell BK180.out 0).trans rfl
            have hcz21_1 : w5.cell? ⟨gb180, 1, none⟩ = some (.int .i64 a0_1) := (blk_cell BK180.out 1).trans rfl
            have hcz21_2 : w5.cell? ⟨gb180, 2, none⟩ = some (.int .i64 a0_2) := (blk_cell BK180.out 2).trans rfl
            have hcz21_3 : w5.cell? ⟨gb180, 3, none⟩ = some (.int .i64 a0_3) := (blk_cell BK180.out 3).trans rfl
            have hcz21_4 : w5.cell? ⟨gb180, 4, none⟩ = some (.int .i64 a0_4) := (blk_cell BK180.out 4).trans rfl
            have hcz21_5 : w5.cell? ⟨gb180, 5, none⟩ = some (.int .i64 a0_5) := (blk_cell BK180.out 5).trans rfl
            have hcz21_6 : w5.cell? ⟨gb180, 6, none⟩ = some (.int .i64 a0_6) := (blk_cell BK180.out 6).trans rfl
            have hcz21_7 : w5.cell? ⟨gb180, 7, none⟩ = some (.int .i64 a0_7) := (blk_cell BK180.out 7).trans rfl
            have hcz21_8 : w5.cell? ⟨gb180, 8, none⟩ = some (.int .i64 a0_8) := (blk_cell BK180.out 8).trans rfl
            have hcz21_9 : w5.cell? ⟨gb180, 9, none⟩ = some (.int .i64 a0_9) := (blk_cell BK180.out 9).trans rfl
            have hcz21_10 : w5.cell? ⟨gb180, 10, none⟩ = some (.int .i64 a0_10) := (blk_cell BK180.out 10).trans rfl
            have hcz21_11 : w5.cell? ⟨gb180, 11, none⟩ = some (.bool a0_11) := (blk_cell BK180.out 11).trans rfl
            have hcz21_12 : w5.cell? ⟨gb180, 12, none⟩ = some (.int .i64 a0_12) := (blk_cell BK180.out 12).trans rfl
            have hcz21_13 : w5.cell? ⟨gb180, 13, none⟩ = some (.int .i64 a0_13) := (blk_cell BK180.out 13).trans rfl
            have hcz21_14 : w5.cell? ⟨gb180, 14, none⟩ = some (.int .i64 a0_14) := (blk_cell BK180.out 14).trans rfl
            have hcz21_15 : w5.cell? ⟨gb180, 15, none⟩ = some (.int .i64 a0_15) := (blk_cell BK180.out 15).trans rfl
            have hcz21_16 : w5.cell? ⟨gb180, 16, none⟩ = some (.int .i64 a0_16) := (blk_cell BK180.out 16).trans rfl
            have hcz21_17 : w5.cell? ⟨gb180, 17, none⟩ = some (.slice A0_17 l0_17.length c0_17) := (blk_cell BK180.out 17).trans rfl
            have hcz21_18 : w5.cell? ⟨gb180, 18, none⟩ = some (.int .i64 a0_18) := (blk_cell BK180.out 18).trans rfl
            have hcz21_19 : w5.cell? ⟨gb180, 19, none⟩ = some (.slice A0_19 l0_19.length c0_19) := (blk_cell BK180.out 19).trans rfl
            have hcz21_20 : w5.cell? ⟨gb180, 20, none⟩ = some (.bool a0_20) := (blk_cell BK180.out 20).trans rfl
            have hcz21_21 : w5.cell? ⟨gb180, 21, none⟩ = some (.int .i64 a0_21) := (blk_cell BK180.out 21).trans rfl
            have hcz21_22 : w5.cell? ⟨gb180, 22, none⟩ = some (.int .i64 a0_22) := (blk_cell BK180.out 22).trans rfl
            have hcz21_23 : w5.cell? ⟨gb180, 23, none⟩ = some (.int .i64 a0_23) := (blk_cell BK180.out 23).trans rfl
            have hcz21_24 : w5.cell? ⟨gb180, 24, none⟩ = some (.int .i64 a0_24) := (blk_cell BK180.out 24).trans rfl
            have hcz21_25 : w5.cell? ⟨gb180, 25, none⟩ = some (.int .i64 a0_25) := (blk_cell BK180.out 25).trans rfl
            have hcz21_26 : w5.cell? ⟨gb180, 26, none⟩ = some (.slice A0_26 l0_26.length c0_26) := (blk_cell BK180.out 26).trans rfl
            have hcz21_27 : w5.cell? ⟨gb180, 27, none⟩ = some (.string a0_27) := (blk_cell BK180.out 27).trans rfl
            have hfz21_0 := blk_frozen BK180.out 0
            have hfz21_1 := blk_frozen BK180.out 1
            have hfz21_2 := blk_frozen BK180.out 2
            have hfz21_3 := blk_frozen BK180.out 3
            have hfz21_4 := blk_frozen BK180.out 4
            have hfz21_5 := blk_frozen BK180.out 5
            have hfz21_6 := blk_frozen BK180.out 6
            have hfz21_7 := blk_frozen BK180.out 7
            have hfz21_8 := blk_frozen BK180.out 8
            have hfz21_9 := blk_frozen BK180.out 9
            have hfz21_10 := blk_frozen BK180.out 10
            have hfz21_11 := blk_frozen BK180.out 11
            have hfz21_12 := blk_frozen BK180.out 12
            have hfz21_13 := blk_frozen BK180.out 13
            have hfz21_14 := blk_frozen BK180.out 14
            have hfz21_15 := blk_frozen BK180.out 15
            have hfz21_16 := blk_frozen BK180.out 16
            have hfz21_17 := blk_frozen BK180.out 17
            have hfz21_18 := blk_frozen BK180.out 18
            have hfz21_19 := blk_frozen BK180.out 19
            have hfz21_20 := blk_frozen BK180.out 20
            have hfz21_21 := blk_frozen BK180.out 21
            have hfz21_22 := blk_frozen BK180.out 22
            have hfz21_23 := blk_frozen BK180.out 23
            have hfz21_24 := blk_frozen BK180.out 24
            have hfz21_25 := blk_frozen BK180.out 25
            have hfz21_26 := blk_frozen BK180.out 26
            have hfz21_27 := blk_frozen BK180.out 27
            go_wp2
            go_meet
            case rel => exact ⟨_, (false), (by first | rfl | (simp; done) | (simp [*]; done)), H', ⟨by first | omega | exact Nat.le_refl _⟩, ⟨by (with_reducible repeat (first | refine blk_drewN ?_ _ | refine blk_drew ?_ | refine blk_alloc ?_ _)); refine blk_far ?_ NB180_181.out _; (with_reducible repeat (first | refine blk_drewN ?_ _ | refine blk_drew ?_ | refine blk_alloc ?_ _)); refine blk_far ?_ NB180_181.out _; (with_reducible repeat (first | refine blk_drewN ?_ _ | refine blk_drew ?_ | refine blk_alloc ?_ _)); refine blk_far ?_ NB180_181.out _; (with_reducible repeat (first | refine blk_drewN ?_ _ | refine blk_drew ?_ | refine blk_alloc ?_ _)); refine blk_far ?_ NB180_181.out _; (with_reducible repeat (first | refine blk_drewN ?_ _ | refine blk_drew ?_ | refine blk_alloc ?_ _)); refine blk_far ?_ NB180_181.out _; (with_reducible repeat (first | refine blk_drewN ?_ _ | refine blk_drew ?_ | refine blk_alloc ?_ _)); refine blk_far ?_ NB180_181.out _; (with_reducible repeat (first | refine blk_drewN ?_ _ | refine blk_drew ?_ | refine blk_alloc ?_ _)); exact BK180.out⟩, ⟨by (with_reducible repeat (first | refine blk_drewN ?_ _ | refine blk_drew ?_ | refine blk_alloc ?_ _)); refine blk_put (cs := #[.int .i64 a0_12, .int .i64 a0_13, .int .i64 a0_14, .int .i64 a0_15, .int .i64 a0_16, .slice none 0 0]) ?_ 5 _ rfl; (with_reducible repeat (first | refine blk_drewN ?_ _ | refine blk_drew ?_ | refine blk_alloc ?_ _)); refine blk_put (cs := #[.int .i64 a0_12, .int .i64 a0_13, .int .i64 a0_14, .int .i64 a0_15, .int .i64 0, .slice none 0 0]) ?_ 4 _ rfl; (with_reducible repeat (first | refine blk_drewN ?_ _ | refine blk_drew ?_ | refine blk_alloc ?_ _)); refine blk_put (cs := #[.int .i64 a0_12, .int .i64 a0_13, .int .i64 a0_14, .int .i64 0, .int .i64 0, .slice none 0 0]) ?_ 3 _ rfl; (with_reducible repeat (first | refine blk_drewN ?_ _ | refine blk_drew ?_ | refine blk_alloc ?_ _)); refine blk_put (cs := #[.int .i64 a0_12, .int .i64 a0_13, .int .i64 0, .int .i64 0, .int .i64 0, .slice none 0 0]) ?_ 2 _ rfl; (with_reducible repeat (first | refine blk_drewN ?_ _ | refine blk_drew ?_ | refine blk_alloc ?_ _)); refine blk_put (cs := #[.int .i64 a0_12, .int .i64 0, .int .i64 0, .int .i64 0, .int .i64 0, .slice none 0 0]) ?_ 1 _ rfl; (with_reducible repeat (first | refine blk_drewN ?_ _ | refine blk_drew ?_ | refine blk_alloc ?_ _)); refine blk_put (cs := #[.int .i64 0, .int .i64 0, .int .i64 0, .int .i64 0, .int .i64 0, .slice none 0 0]) ?_ 0 _ rfl; (with_reducible repeat (first | refine blk_drewN ?_ _ | refine blk_drew ?_ | refine blk_alloc ?_ _)); exact BK181.out⟩, ⟨by repeat (first | (with_reducible first | exact HB.out | apply below_alloc | apply pw_below_drewN | apply below_drew1 | refine below_set ?_ GE180.out | refine below_set ?_ GE181.out) | exact HB.out)⟩⟩
        · rw [if_neg c10] at H
          have c10b0 : decide ((a0_27.size : Int) ≤ 1048576) = false := decide_eq_false c10
          have c10b1 : decide (a0_27.size ≤ 1048576) = false := decide_eq_false (by omega)
          clear c10
          have H' := Aside0.mk H
          clear H
          have hnb22 := NB181_180.out
          have hnc22 := NB180_181.out
          have hcz23_0 : w5.cell? ⟨gb181, 0, none⟩ = some (.int .i64 0) := (blk_cell BK181.out 0).trans rfl
          have hcz23_1 : w5.cell? ⟨gb181, 1, none⟩ = some (.int .i64 0) := (blk_cell BK181.out 1).trans rfl
          have hcz23_2 : w5.cell? ⟨gb181, 2, none⟩ = some (.int .i64 0) := (blk_cell BK181.out 2).trans rfl
          have hcz23_3 : w5.cell? ⟨gb181, 3, none⟩ = some (.int .i64 0) := (blk_cell BK181.out 3).trans rfl
          have hcz23_4 : w5.cell? ⟨gb181, 4, none⟩ = some (.int .i64 0) := (blk_cell BK181.out 4).trans rfl
          have hcz23_5 : w5.cell? ⟨gb181, 5, none⟩ = some (.slice none 0 0) := (blk_cell BK181.out 5).trans rfl
          have hfz23_0 := blk_frozen BK181.out 0
          have hfz23_1 := blk_frozen BK181.out 1
          have hfz23_2 := blk_frozen BK181.out 2
          have hfz23_3 := blk_frozen BK181.out 3
          have hfz23_4 := blk_frozen BK181.out 4
          have hfz23_5 := blk_frozen BK181.out 5
          have hcz24_0 : w5.cell? ⟨gb180, 0, none⟩ = some (.int .i64 a0_0) := (blk_cell BK180.out 0).trans rfl
          have hcz24_1 : w5.cell? ⟨gb180, 1, none⟩ = some (.int .i64 a0_1) := (blk_cell BK180.out 1).trans rfl
          have hcz24_2 : w5.cell? ⟨gb180, 2, none⟩ = some (.int .i64 a0_2) := (blk_cell BK180.out 2).trans rfl
          have hcz24_3 : w5.cell? ⟨gb180, 3, none⟩ = some (.int .i64 a0_3) := (blk_cell BK180.out 3).trans rfl
          have hcz24_4 : w5.cell? ⟨gb180, 4, none⟩ = some (.int .i64 a0_4) := (blk_cell BK180.out 4).trans rfl
          have hcz24_5 : w5.cell? ⟨gb180, 5, none⟩ = some (.int .i64 a0_5) := (blk_cell BK180.out 5).trans rfl
          have hcz24_6 : w5.cell? ⟨gb180, 6, none⟩ = some (.int .i64 a0_6) := (blk_cell BK180.out 6).trans rfl
          have hcz24_7 : w5.cell? ⟨gb180, 7, none⟩ = some (.int .i64 a0_7) := (blk_cell BK180.out 7).trans rfl
          have hcz24_8 : w5.cell? ⟨gb180, 8, none⟩ = some (.int .i64 a0_8) := (blk_cell BK180.out 8).trans rfl
          have hcz24_9 : w5.cell? ⟨gb180, 9, none⟩ = some (.int .i64 a0_9) := (blk_cell BK180.out 9).trans rfl
          have hcz24_10 : w5.cell? ⟨gb180, 10, none⟩ = some (.int .i64 a0_10) := (blk_cell BK180.out 10).trans rfl
          have hcz24_11 : w5.cell? ⟨gb180, 11, none⟩ = some (.bool a0_11) := (blk_cell BK180.out 11).trans rfl
          have hcz24_12 : w5.cell? ⟨gb180, 12, none⟩ = some (.int .i64 a0_12) := (blk_cell BK180.out 12).trans rfl
          have hcz24_13 : w5.cell? ⟨gb180, 13, none⟩ = some (.int .i64 a0_13) := (blk_cell BK180.out 13).trans rfl
          have hcz24_14 : w5.cell? ⟨gb180, 14, none⟩ = some (.int .i64 a0_14) := (blk_cell BK180.out 14).trans rfl
          have hcz24_15 : w5.cell? ⟨gb180, 15, none⟩ = some (.int .i64 a0_15) := (blk_cell BK180.out 15).trans rfl
          have hcz24_16 : w5.cell? ⟨gb180, 16, none⟩ = some (.int .i64 a0_16) := (blk_cell BK180.out 16).trans rfl
          have hcz24_17 : w5.cell? ⟨gb180, 17, none⟩ = some (.slice A0_17 l0_17.length c0_17) := (blk_cell BK180.out 17).trans rfl
          have hcz24_18 : w5.cell? ⟨gb180, 18, none⟩ = some (.int .i64 a0_18) := (blk_cell BK180.out 18).trans rfl
          have hcz24_19 : w5.cell? ⟨gb180, 19, none⟩ = some (.slice A0_19 l0_19.length c0_19) := (blk_cell BK180.out 19).trans rfl
          have hcz24_20 : w5.cell? ⟨gb180, 20, none⟩ = some (.bool a0_20) := (blk_cell BK180.out 20).trans rfl
          have hcz24_21 : w5.cell? ⟨gb180, 21, none⟩ = some (.int .i64 a0_21) := (blk_cell BK180.out 21).trans rfl
          have hcz24_22 : w5.cell? ⟨gb180, 22, none⟩ = some (.int .i64 a0_22) := (blk_cell BK180.out 22).trans rfl
          have hcz24_23 : w5.cell? ⟨gb180, 23, none⟩ = some (.int .i64 a0_23) := (blk_cell BK180.out 23).trans rfl
          have hcz24_24 : w5.cell? ⟨gb180, 24, none⟩ = some (.int .i64 a0_24) := (blk_cell BK180.out 24).trans rfl
          have hcz24_25 : w5.cell? ⟨gb180, 25, none⟩ = some (.int .i64 a0_25) := (blk_cell BK180.out 25).trans rfl
          have hcz24_26 : w5.cell? ⟨gb180, 26, none⟩ = some (.slice A0_26 l0_26.length c0_26) := (blk_cell BK180.out 26).trans rfl
          have hcz24_27 : w5.cell? ⟨gb180, 27, none⟩ = some (.string a0_27) := (blk_cell BK180.out 27).trans rfl
          have hfz24_0 := blk_frozen BK180.out 0
          have hfz24_1 := blk_frozen BK180.out 1
          have hfz24_2 := blk_frozen BK180.out 2
          have hfz24_3 := blk_frozen BK180.out 3
          have hfz24_4 := blk_frozen BK180.out 4
          have hfz24_5 := blk_frozen BK180.out 5
          have hfz24_6 := blk_frozen BK180.out 6
          have hfz24_7 := blk_frozen BK180.out 7
          have hfz24_8 := blk_frozen BK180.out 8
          have hfz24_9 := blk_frozen BK180.out 9
          have hfz24_10 := blk_frozen BK180.out 10
          have hfz24_11 := blk_frozen BK180.out 11
          have hfz24_12 := blk_frozen BK180.out 12
          have hfz24_13 := blk_frozen BK180.out 13
          have hfz24_14 := blk_frozen BK180.out 14
          have hfz24_15 := blk_frozen BK180.out 15
          have hfz24_16 := blk_frozen BK180.out 16
          have hfz24_17 := blk_frozen BK180.out 17
          have hfz24_18 := blk_frozen BK180.out 18
          have hfz24_19 := blk_frozen BK180.out 19
          have hfz24_20 := blk_frozen BK180.out 20
          have hfz24_21 := blk_frozen BK180.out 21
          have hfz24_22 := blk_frozen BK180.out 22
          have hfz24_23 := blk_frozen BK180.out 23
          have hfz24_24 := blk_frozen BK180.out 24
          have hfz24_25 := blk_frozen BK180.out 25
          have hfz24_26 := blk_frozen BK180.out 26
          have hfz24_27 := blk_frozen BK180.out 27
          go_wp2
          go_meet
          case rel => exact ⟨_, (false), (by first | rfl | (simp; done) | (simp [*]; done)), H', ⟨by first | omega | exact Nat.le_refl _⟩, ⟨by (with_reducible repeat (first | refine blk_drewN ?_ _ | refine blk_drew ?_ | refine blk_alloc ?_ _)); refine blk_far ?_ NB180_181.out _; (with_reducible repeat (first | refine blk_drewN ?_ _ | refine blk_drew ?_ | refine blk_alloc ?_ _)); refine blk_far ?_ NB180_181.out _; (with_reducible repeat (first | refine blk_drewN ?_ _ | refine blk_drew ?_ | refine blk_alloc ?_ _)); refine blk_far ?_ NB180_181.out _; (with_reducible repeat (first | refine blk_drewN ?_ _ | refine blk_drew ?_ | refine blk_alloc ?_ _)); refine blk_far ?_ NB180_181.out _; (with_reducible repeat (first | refine blk_drewN ?_ _ | refine blk_drew ?_ | refine blk_alloc ?_ _)); refine blk_far ?_ NB180_181.out _; (with_reducible repeat (first | refine blk_drewN ?_ _ | refine blk_drew ?_ | refine blk_alloc ?_ _)); refine blk_far ?_ NB180_181.out _; (with_reducible repeat (first | refine blk_drewN ?_ _ | refine blk_drew ?_ | refine blk_alloc ?_ _)); exact BK180.out⟩, ⟨by (with_reducible repeat (first | refine blk_drewN ?_ _ | refine blk_drew ?_ | refine blk_alloc ?_ _)); refine blk_put (cs := #[.int .i64 a0_12, .int .i64 a0_13, .int .i64 a0_14, .int .i64 a0_15, .int .i64 a0_16, .slice none 0 0]) ?_ 5 _ rfl; (with_reducible repeat (first | refine blk_drewN ?_ _ | refine blk_drew ?_ | refine blk_alloc ?_ _)); refine blk_put (cs := #[.int .i64 a0_12, .int .i64 a0_13, .int .i64 a0_14, .int .i64 a0_15, .int .i64 0, .slice none 0 0]) ?_ 4 _ rfl; (with_reducible repeat (first | refine blk_drewN ?_ _ | refine blk_drew ?_ | refine blk_alloc ?_ _)); refine blk_put (cs := #[.int .i64 a0_12, .int .i64 a0_13, .int .i64 a0_14, .int .i64 0, .int .i64 0, .slice none 0 0]) ?_ 3 _ rfl; (with_reducible repeat (first | refine blk_drewN ?_ _ | refine blk_drew ?_ | refine blk_alloc ?_ _)); refine blk_put (cs := #[.int .i64 a0_12, .int .i64 a0_13, .int .i64 0, .int .i64 0, .int .i64 0, .slice none 0 0]) ?_ 2 _ rfl; (with_reducible repeat (first | refine blk_drewN ?_ _ | refine blk_drew ?_ | refine blk_alloc ?_ _)); refine blk_put (cs := #[.int .i64 a0_12, .int .i64 0, .int .i64 0, .int .i64 0, .int .i64 0, .slice none 0 0]) ?_ 1 _ rfl; (with_reducible repeat (first | refine blk_drewN ?_ _ | refine blk_drew ?_ | refine blk_alloc ?_ _)); refine blk_put (cs := #[.int .i64 0, .int .i64 0, .int .i64 0, .int .i64 0, .int .i64 0, .slice none 0 0]) ?_ 0 _ rfl; (with_reducible repeat (first | refine blk_drewN ?_ _ | refine blk_drew ?_ | refine blk_alloc ?_ _)); exact BK181.out⟩, ⟨by repeat (first | (with_reducible first | exact HB.out | apply below_alloc | apply pw_below_drewN | apply below_drew1 | refine below_set ?_ GE180.out | refine below_set ?_ GE181.out) | exact HB.out)⟩⟩
      · rw [if_neg c9] at H
        have c9b0 : decide (a0_12 < 256) = false := decide_eq_false c9
        clear c9
        have H' := Aside0.mk H
        clear H
        have hnb25 := NB181_180.out
        have hnc25 := NB180_181.out
        have hcz26_0 : w5.cell? ⟨gb181, 0, none⟩ = some (.int .i64 0) := (blk_cell BK181.out 0).trans rfl
        have hcz26_1 : w5.cell? ⟨gb181, 1, none⟩ = some (.int .i64 0) := (blk_cell BK181.out 1).trans rfl
        have hcz26_2 : w5.cell? ⟨gb181, 2, none⟩ = some (.int .i64 0) := (blk_cell BK181.out 2).trans rfl
        have hcz26_3 : w5.cell? ⟨gb181, 3, none⟩ = some (.int .i64 0) := (blk_cell BK181.out 3).trans rfl
        have hcz26_4 : w5.cell? ⟨gb181, 4, none⟩ = some (.int .i64 0) := (blk_cell BK181.out 4).trans rfl
        have hcz26_5 : w5.cell? ⟨gb181, 5, none⟩ = some (.slice none 0 0) := (blk_cell BK181.out 5).trans rfl
        have hfz26_0 := blk_frozen BK181.out 0
        have hfz26_1 := blk_frozen BK181.out 1
        have hfz26_2 := blk_frozen BK181.out 2
        have hfz26_3 := blk_frozen BK181.out 3
        have hfz26_4 := blk_frozen BK181.out 4
        have hfz26_5 := blk_frozen BK181.out 5
        go_wp2
        go_meet
        case rel => exact ⟨_, (false), (by first | rfl | (simp; done) | (simp [*]; done)), H', ⟨by first | omega | exact Nat.le_refl _⟩, ⟨by (with_reducible repeat (first | refine blk_drewN ?_ _ | refine blk_drew ?_ | refine blk_alloc ?_ _)); refine blk_far ?_ NB180_181.out _; (with_reducible repeat (first | refine blk_drewN ?_ _ | refine blk_drew ?_ | refine blk_alloc ?_ _)); refine blk_far ?_ NB180_181.out _; (with_reducible repeat (first | refine blk_drewN ?_ _ | refine blk_drew ?_ | refine blk_alloc ?_ _)); refine blk_far ?_ NB180_181.out _; (with_reducible repeat (first | refine blk_drewN ?_ _ | refine blk_drew ?_ | refine blk_alloc ?_ _)); refine blk_far ?_ NB180_181.out _; (with_reducible repeat (first | refine blk_drewN ?_ _ | refine blk_drew ?_ | refine blk_alloc ?_ _)); refine blk_far ?_ NB180_181.out _; (with_reducible repeat (first | refine blk_drewN ?_ _ | refine blk_drew ?_ | refine blk_alloc ?_ _)); refine blk_far ?_ NB180_181.out _; (with_reducible repeat (first | refine blk_drewN ?_ _ | refine blk_drew ?_ | refine blk_alloc ?_ _)); exact BK180.out⟩, ⟨by (with_reducible repeat (first | refine blk_drewN ?_ _ | refine blk_drew ?_ | refine blk_alloc ?_ _)); refine blk_put (cs := #[.int .i64 a0_12, .int .i64 a0_13, .int .i64 a0_14, .int .i64 a0_15, .int .i64 a0_16, .slice none 0 0]) ?_ 5 _ rfl; (with_reducible repeat (first | refine blk_drewN ?_ _ | refine blk_drew ?_ | refine blk_alloc ?_ _)); refine blk_put (cs := #[.int .i64 a0_12, .int .i64 a0_13, .int .i64 a0_14, .int .i64 a0_15, .int .i64 0, .slice none 0 0]) ?_ 4 _ rfl; (with_reducible repeat (first | refine blk_drewN ?_ _ | refine blk_drew ?_ | refine blk_alloc ?_ _)); refine blk_put (cs := #[.int .i64 a0_12, .int .i64 a0_13, .int .i64 a0_14, .int .i64 0, .int .i64 0, .slice none 0 0]) ?_ 3 _ rfl; (with_reducible repeat (first | refine blk_drewN ?_ _ | refine blk_drew ?_ | refine blk_alloc ?_ _)); refine blk_put (cs := #[.int .i64 a0_12, .int .i64 a0_13, .int .i64 0, .int .i64 0, .int .i64 0, .slice none 0 0]) ?_ 2 _ rfl; (with_reducible repeat (first | refine blk_drewN ?_ _ | refine blk_drew ?_ | refine blk_alloc ?_ _)); refine blk_put (cs := #[.int .i64 a0_12, .int .i64 0, .int .i64 0, .int .i64 0, .int .i64 0, .slice none 0 0]) ?_ 1 _ rfl; (with_reducible repeat (first | refine blk_drewN ?_ _ | refine blk_drew ?_ | refine blk_alloc ?_ _)); refine blk_put (cs := #[.int .i64 0, .int .i64 0, .int .i64 0, .int .i64 0, .int .i64 0, .slice none 0 0]) ?_ 0 _ rfl; (with_reducible repeat (first | refine blk_drewN ?_ _ | refine blk_drew ?_ | refine blk_alloc ?_ _)); exact BK181.out⟩, ⟨by repeat (first | (with_reducible first | exact HB.out | apply below_alloc | apply pw_below_drewN | apply below_drew1 | refine below_set ?_ GE180.out | refine below_set ?_ GE181.out) | exact HB.out)⟩⟩
    · rw [if_neg c8] at H
      have c8b0 : decide (0 ≤ a0_12) = false := decide_eq_false c8
      clear c8
      (first | rw [c8b0] | (simp only [i64_w, i32_w]; rw [c8b0]) | skip)
      have H' := Aside0.mk H
      clear H
      have hnb27 := NB181_180.out
      have hnc27 := NB180_181.out
      have hcz28_0 : w5.cell? ⟨gb181, 0, none⟩ = some (.int .i64 0) := (blk_cell BK181.out 0).trans rfl
      have hcz28_1 : w5.cell? ⟨gb181, 1, none⟩ = some (.int .i64 0) := (blk_cell BK181.out 1).trans rfl
      have hcz28_2 : w5.cell? ⟨gb181, 2, none⟩ = some (.int .i64 0) := (blk_cell BK181.out 2).trans rfl
      have hcz28_3 : w5.cell? ⟨gb181, 3, none⟩ = some (.int .i64 0) := (blk_cell BK181.out 3).trans rfl
      have hcz28_4 : w5.cell? ⟨gb181, 4, none⟩ = some (.int .i64 0) := (blk_cell BK181.out 4).trans rfl
      have hcz28_5 : w5.cell? ⟨gb181, 5, none⟩ = some (.slice none 0 0) := (blk_cell BK181.out 5).trans rfl
      have hfz28_0 := blk_frozen BK181.out 0
      have hfz28_1 := blk_frozen BK181.out 1
      have hfz28_2 := blk_frozen BK181.out 2
      have hfz28_3 := blk_frozen BK181.out 3
      have hfz28_4 := blk_frozen BK181.out 4
      have hfz28_5 := blk_frozen BK181.out 5
      go_wp2
      go_meet
      case rel => exact ⟨_, (false), (by first | rfl | (simp; done) | (simp [*]; done)), H', ⟨by first | omega | exact Nat.le_refl _⟩, ⟨by (with_reducible repeat (first | refine blk_drewN ?_ _ | refine blk_drew ?_ | refine blk_alloc ?_ _)); refine blk_far ?_ NB180_181.out _; (with_reducible repeat (first | refine blk_drewN ?_ _ | refine blk_drew ?_ | refine blk_alloc ?_ _)); refine blk_far ?_ NB180_181.out _; (with_reducible repeat (first | refine blk_drewN ?_ _ | refine blk_drew ?_ | refine blk_alloc ?_ _)); refine blk_far ?_ NB180_181.out _; (with_reducible repeat (first | refine blk_drewN ?_ _ | refine blk_drew ?_ | refine blk_alloc ?_ _)); refine blk_far ?_ NB180_181.out _; (with_reducible repeat (first | refine blk_drewN ?_ _ | refine blk_drew ?_ | refine blk_alloc ?_ _)); refine blk_far ?_ NB180_181.out _; (with_reducible repeat (first | refine blk_drewN ?_ _ | refine blk_drew ?_ | refine blk_alloc ?_ _)); refine blk_far ?_ NB180_181.out _; (with_reducible repeat (first | refine blk_drewN ?_ _ | refine blk_drew ?_ | refine blk_alloc ?_ _)); exact BK180.out⟩, ⟨by (with_reducible repeat (first | refine blk_drewN ?_ _ | refine blk_drew ?_ | refine blk_alloc ?_ _)); refine blk_put (cs := #[.int .i64 a0_12, .int .i64 a0_13, .int .i64 a0_14, .int .i64 a0_15, .int .i64 a0_16, .slice none 0 0]) ?_ 5 _ rfl; (with_reducible repeat (first | refine blk_drewN ?_ _ | refine blk_drew ?_ | refine blk_alloc ?_ _)); refine blk_put (cs := #[.int .i64 a0_12, .int .i64 a0_13, .int .i64 a0_14, .int .i64 a0_15, .int .i64 0, .slice none 0 0]) ?_ 4 _ rfl; (with_reducible repeat (first | refine blk_drewN ?_ _ | refine blk_drew ?_ | refine blk_alloc ?_ _)); refine blk_put (cs := #[.int .i64 a0_12, .int .i64 a0_13, .int .i64 a0_14, .int .i64 0, .int .i64 0, .slice none 0 0]) ?_ 3 _ rfl; (with_reducible repeat (first | refine blk_drewN ?_ _ | refine blk_drew ?_ | refine blk_alloc ?_ _)); refine blk_put (cs := #[.int .i64 a0_12, .int .i64 a0_13, .int .i64 0, .int .i64 0, .int .i64 0, .slice none 0 0]) ?_ 2 _ rfl; (with_reducible repeat (first | refine blk_drewN ?_ _ | refine blk_drew ?_ | refine blk_alloc ?_ _)); refine blk_put (cs := #[.int .i64 a0_12, .int .i64 0, .int .i64 0, .int .i64 0, .int .i64 0, .slice none 0 0]) ?_ 1 _ rfl; (with_reducible repeat (first | refine blk_drewN ?_ _ | refine blk_drew ?_ | refine blk_alloc ?_ _)); refine blk_put (cs := #[.int .i64 0, .int .i64 0, .int .i64 0, .int .i64 0, .int .i64 0, .slice none 0 0]) ?_ 0 _ rfl; (with_reducible repeat (first | refine blk_drewN ?_ _ | refine blk_drew ?_ | refine blk_alloc ?_ _)); exact BK181.out⟩, ⟨by repeat (first | (with_reducible first | exact HB.out | apply below_alloc | apply pw_below_drewN | apply below_drew1 | refine below_set ?_ GE180.out | refine below_set ?_ GE181.out) | exact HB.out)⟩⟩
  case rest =>
    clear HC2
    obtain ⟨kq, x4_1, rfl, HA, HJ1, BK180, BK181, HB⟩ := hcut
    cases kq with
    | zero => exact absurd HA.out (by simp [lamellaref15_May.j0])
    | succ kj1 =>
      have H := HA.out
      clear HA
      simp only [lamellaref15_May.j0] at H
      have H' := Aside0.mk H
      clear H
      have hnb29 := NB181_180.out
      have hnc29 := NB180_181.out
      have hcz30_0 : wc.cell? ⟨gb181, 0, none⟩ = some (.int .i64 a0_12) := (blk_cell BK181.out 0).trans rfl
      have hcz30_1 : wc.cell? ⟨gb181, 1, none⟩ = some (.int .i64 a0_13) := (blk_cell BK181.out 1).trans rfl
      have hcz30_2 : wc.cell? ⟨gb181, 2, none⟩ = some (.int .i64 a0_14) := (blk_cell BK181.out 2).trans rfl
      have hcz30_3 : wc.cell? ⟨gb181, 3, none⟩ = some (.int .i64 a0_15) := (blk_cell BK181.out 3).trans rfl
      have hcz30_4 : wc.cell? ⟨gb181, 4, none⟩ = some (.int .i64 a0_16) := (blk_cell BK181.out 4).trans rfl
      have hcz30_5 : wc.cell? ⟨gb181, 5, none⟩ = some (.slice A0_17 l0_17.length c0_17) := (blk_cell BK181.out 5).trans rfl
      have hfz30_0 := blk_frozen BK181.out 0
      have hfz30_1 := blk_frozen BK181.out 1
      have hfz30_2 := blk_frozen BK181.out 2
      have hfz30_3 := blk_frozen BK181.out 3
      have hfz30_4 := blk_frozen BK181.out 4
      have hfz30_5 := blk_frozen BK181.out 5
      go_wp2
      go_loopg [4, 48] kj1 (fun kq v4 v48 w' => ∃ (x4_2 : Bool) (x48_2 : Int), v4 = .bool x4_2 ∧ v48 = .int .i64 x48_2 ∧ Aside0 (lamellaref15_May.l0 kq x4_2 l0_17 (l0_17.length : Int) x48_2 a0_0 a0_1 a0_2 a0_3 a0_4 a0_5 a0_6 a0_7 a0_8 a0_9 a0_10 a0_11 a0_12 a0_13 a0_14 a0_15 a0_16 l0_17 a0_18 l0_19 a0_20 a0_21 a0_22 a0_23 a0_24 a0_25 l0_26 a0_27 = some r) ∧ Aside0 (kq ≤ kj1) ∧ Aside0 (w'.heap[gb180]? = some (.cells #[.int .i64 a0_0, .int .i64 a0_1, .int .i64 a0_2, .int .i64 a0_3, .int .i64 a0_4, .int .i64 a0_5, .int .i64 a0_6, .int .i64 a0_7, .int .i64 a0_8, .int .i64 a0_9, .int .i64 a0_10, .bool a0_11, .int .i64 a0_12, .int .i64 a0_13, .int .i64 a0_14, .int .i64 a0_15, .int .i64 a0_16, (.slice A0_17 l0_17.length c0_17), .int .i64 a0_18, (.slice A0_19 l0_19.length c0_19), .bool a0_20, .int .i64 a0_21, .int .i64 a0_22, .int .i64 a0_23, .int .i64 a0_24, .int .i64 a0_25, (.slice A0_26 l0_26.length c0_26), .string a0_27] 34 (0, 0))) ∧ Aside0 (w'.heap[gb181]? = some (.cells #[.int .i64 a0_12, .int .i64 a0_13, .int .i64 a0_14, .int .i64 a0_15, .int .i64 a0_16, (.slice A0_17 l0_17.length c0_17)] 28 (0, 0))) ∧ Aside0 (Below w.heap.size w w'))
      case atStart => exact ⟨(x4_1), (0), (by first | rfl | (simp; done) | (simp [*]; done)), (by first | rfl | (simp; done) | (simp [*]; done)), H', ⟨Nat.le_refl _⟩, ⟨by (with_reducible repeat (first | refine blk_drewN ?_ _ | refine blk_drew ?_ | refine blk_alloc ?_ _)); exact BK180.out⟩, ⟨by (with_reducible repeat (first | refine blk_drewN ?_ _ | refine blk_drew ?_ | refine blk_alloc ?_ _)); exact BK181.out⟩, ⟨by repeat (first | (with_reducible first | exact HB.out | apply below_alloc | apply pw_below_drewN | apply below_drew1 | refine below_set ?_ GE180.out | refine below_set ?_ GE181.out) | exact HB.out)⟩⟩
      case round =>
        clear H'
        obtain ⟨x4_2, x48_2, rfl, rfl, HA, HK2, BK180, BK181, HB⟩ := hrel
        cases gk with
        | zero => exact absurd HA.out (by simp [lamellaref15_May.l0])
        | succ k2 =>
          have H := HA.out
          clear HA
          simp only [lamellaref15_May.l0] at H
          by_cases c31 : x48_2 < (l0_17.length : Int)
          · rw [if_pos c31] at H
            have c31b0 : decide (x48_2 < (l0_17.length : Int)) = true := decide_eq_true c31
            clear c31
            by_cases c32 : 0 ≤ x48_2
            · rw [if_pos c32] at H
              have c32b0 : decide (0 ≤ x48_2) = true := decide_eq_true c32
              clear c32
              by_cases c33 : x48_2 < (l0_17.length : Int)
              · rw [if_pos c33] at H
                have c33b0 : decide (x48_2 < (l0_17.length : Int)) = true := decide_eq_true c33
                clear c33
                by_cases c34 : x4_2 = true
                · subst c34
                  have H1 : (lamellaref15_May.l0 k2 (decide (((rdOf ByteArray.empty l0_17 x48_2).size : Int) ≤ 1048576)) l0_17 (l0_17.length : Int) (wrap64 (x48_2 + 1)) a0_0 a0_1 a0_2 a0_3 a0_4 a0_5 a0_6 a0_7 a0_8 a0_9 a0_10 a0_11 a0_12 a0_13 a0_14 a0_15 a0_16 l0_17 a0_18 l0_19 a0_20 a0_21 a0_22 a0_23 a0_24 a0_25 l0_26 a0_27) = some r := by rw [if_pos rfl] at H; exact H
                  clear H
                  have H := H1
                  clear H1
                  have H' := Aside0.mk H
                  clear H
                  have p182 : 0 ≤ (x48_2 : Int) := of_decide_eq_true (by first | (with_reducible assumption) | assumption)
                  have q182 : x48_2 < (l0_17.length : Int) := of_decide_eq_true (by first | (with_reducible assumption) | assumption)
                  obtain ⟨ad182, e182, hx182_0⟩ := Kd.at_string HR0_17.out x48_2 p182 q182
                  cases e182
                  replace hx182_0 := (HB.out.cell (World.block_lt_of_cell? w _ hx182_0)).trans hx182_0
                  replace p182 := eq_true p182
                  replace q182 := eq_true q182
                  go_wp2
                  go_roundg k2
                  case measure => have := HJ1.out; have := HK2.out; omega
                  case rel => exact ⟨(decide (((rdOf ByteArray.empty l0_17 x48_2).size : Int) ≤ 1048576)), (wrap64 (x48_2 + 1)), (by first | rfl | (simp; done) | (simp [*]; done)), (by first | rfl | (simp; done) | (simp [*]; done)), H', ⟨by have := HJ1.out; have := HK2.out; omega⟩, ⟨by (with_reducible repeat (first | refine blk_drewN ?_ _ | refine blk_drew ?_ | refine blk_alloc ?_ _)); exact BK180.out⟩, ⟨by (with_reducible repeat (first | refine blk_drewN ?_ _ | refine blk_drew ?_ | refine blk_alloc ?_ _)); exact BK181.out⟩, ⟨by repeat (first | (with_reducible first | exact HB.out | apply below_alloc | apply pw_below_drewN | apply below_drew1 | refine below_set ?_ GE180.out | refine below_set ?_ GE181.out) | exact HB.out)⟩⟩
                · replace c34 := Bool.eq_false_iff.mpr c34
                  subst c34
                  have H1 : (lamellaref15_May.l0 k2 false l0_17 (l0_17.length : Int) (wrap64 (x48_2 + 1)) a0_0 a0_1 a0_2 a0_3 a0_4 a0_5 a0_6 a0_7 a0_8 a0_9 a0_10 a0_11 a0_12 a0_13 a0_14 a0_15 a0_16 l0_17 a0_18 l0_19 a0_20 a0_21 a0_22 a0_23 a0_24 a0_25 l0_26 a0_27) = some r := by rw [if_neg (show ¬ (false = true) by decide)] at H; exact H
                  clear H
                  have H := H1
                  clear H1
                  have H' := Aside0.mk H
                  clear H
                  have p182 : 0 ≤ (x48_2 : Int) := of_decide_eq_true (by first | (with_reducible assumption) | assumption)
                  have q182 : x48_2 < (l0_17.length : Int) := of_decide_eq_true (by first | (with_reducible assumption) | assumption)
                  obtain ⟨ad182, e182, hx182_0⟩ := Kd.at_string HR0_17.out x48_2 p182 q182
                  cases e182
                  replace hx182_0 := (HB.out.cell (World.block_lt_of_cell? w _ hx182_0)).trans hx182_0
                  replace p182 := eq_true p182
                  replace q182 := eq_true q182
                  go_wp2
                  go_roundg k2
                  case measure => have := HJ1.out; have := HK2.out; omega
                  case rel => exact ⟨(false), (wrap64 (x48_2 + 1)), (by first | rfl | (simp; done) | (simp [*]; done)), (by first | rfl | (simp; done) | (simp [*]; done)), H', ⟨by have := HJ1.out; have := HK2.out; omega⟩, ⟨by (with_reducible repeat (first | refine blk_drewN ?_ _ | refine blk_drew ?_ | refine blk_alloc ?_ _)); exact BK180.out⟩, ⟨by (with_reducible repeat (first | refine blk_drewN ?_ _ | refine blk_drew ?_ | refine blk_alloc ?_ _)); exact BK181.out⟩, ⟨by repeat (first | (with_reducible first | exact HB.out | apply below_alloc | apply pw_below_drewN | apply below_drew1 | refine below_set ?_ GE180.out | refine below_set ?_ GE181.out) | exact HB.out)⟩⟩
              · rw [if_neg c33] at H
                exact absurd H (by simp)
            · rw [if_neg c32] at H
              exact absurd H (by simp)
          · rw [if_neg c31] at H
            have c31b0 : decide (x48_2 < (l0_17.length : Int)) = false := decide_eq_false c31
            clear c31
            have H' := Aside0.mk H
            clear H
            have hnb35 := NB180_181.out
            have hnc35 := NB181_180.out
            have hcz36_0 : wr.cell? ⟨gb180, 0, none⟩ = some (.int .i64 a0_0) := (blk_cell BK180.out 0).trans rfl
            have hcz36_1 : wr.cell? ⟨gb180, 1, none⟩ = some (.int .i64 a0_1) := (blk_cell BK180.out 1).trans rfl
            have hcz36_2 : wr.cell? ⟨gb180, 2, none⟩ = some (.int .i64 a0_2) := (blk_cell BK180.out 2).trans rfl
            have hcz36_3 : wr.cell? ⟨gb180, 3, none⟩ = some (.int .i64 a0_3) := (blk_cell BK180.out 3).trans rfl
            have hcz36_4 : wr.cell? ⟨gb180, 4, none⟩ = some (.int .i64 a0_4) := (blk_cell BK180.out 4).trans rfl
            have hcz36_5 : wr.cell? ⟨gb180, 5, none⟩ = some (.int .i64 a0_5) := (blk_cell BK180.out 5).trans rfl
            have hcz36_6 : wr.cell? ⟨gb180, 6, none⟩ = some (.int .i64 a0_6) := (blk_cell BK180.out 6).trans rfl
            have hcz36_7 : wr.cell? ⟨gb180, 7, none⟩ = some (.int .i64 a0_7) := (blk_cell BK180.out 7).trans rfl
            have hcz36_8 : wr.cell? ⟨gb180, 8, none⟩ = some (.int .i64 a0_8) := (blk_cell BK180.out 8).trans rfl
            have hcz36_9 : wr.cell? ⟨gb180, 9, none⟩ = some (.int .i64 a0_9) := (blk_cell BK180.out 9).trans rfl
            have hcz36_10 : wr.cell? ⟨gb180, 10, none⟩ = some (.int .i64 a0_10) := (blk_cell BK180.out 10).trans rfl
            have hcz36_11 : wr.cell? ⟨gb180, 11, none⟩ = some (.bool a0_11) := (blk_cell BK180.out 11).trans rfl
            have hcz36_12 : wr.cell? ⟨gb180, 12, none⟩ = some (.int .i64 a0_12) := (blk_cell BK180.out 12).trans rfl
            have hcz36_13 : wr.cell? ⟨gb180, 13, none⟩ = some (.int .i64 a0_13) := (blk_cell BK180.out 13).trans rfl
            have hcz36_14 : wr.cell? ⟨gb180, 14, none⟩ = some (.int .i64 a0_14) := (blk_cell BK180.out 14).trans rfl
            have hcz36_15 : wr.cell? ⟨gb180, 15, none⟩ = some (.int .i64 a0_15) := (blk_cell BK180.out 15).trans rfl
            have hcz36_16 : wr.cell? ⟨gb180, 16, none⟩ = some (.int .i64 a0_16) := (blk_cell BK180.out 16).trans rfl
            have hcz36_17 : wr.cell? ⟨gb180, 17, none⟩ = some (.slice A0_17 l0_17.length c0_17) := (blk_cell BK180.out 17).trans rfl
            have hcz36_18 : wr.cell? ⟨gb180, 18, none⟩ = some (.int .i64 a0_18) := (blk_cell BK180.out 18).trans rfl
            have hcz36_19 : wr.cell? ⟨gb180, 19, none⟩ = some (.slice A0_19 l0_19.length c0_19) := (blk_cell BK180.out 19).trans rfl
            have hcz36_20 : wr.cell? ⟨gb180, 20, none⟩ = some (.bool a0_20) := (blk_cell BK180.out 20).trans rfl
            have hcz36_21 : wr.cell? ⟨gb180, 21, none⟩ = some (.int .i64 a0_21) := (blk_cell BK180.out 21).trans rfl
            have hcz36_22 : wr.cell? ⟨gb180, 22, none⟩ = some (.int .i64 a0_22) := (blk_cell BK180.out 22).trans rfl
            have hcz36_23 : wr.cell? ⟨gb180, 23, none⟩ = some (.int .i64 a0_23) := (blk_cell BK180.out 23).trans rfl
            have hcz36_24 : wr.cell? ⟨gb180, 24, none⟩ = some (.int .i64 a0_24) := (blk_cell BK180.out 24).trans rfl
            have hcz36_25 : wr.cell? ⟨gb180, 25, none⟩ = some (.int .i64 a0_25) := (blk_cell BK180.out 25).trans rfl
            have hcz36_26 : wr.cell? ⟨gb180, 26, none⟩ = some (.slice A0_26 l0_26.length c0_26) := (blk_cell BK180.out 26).trans rfl
            have hcz36_27 : wr.cell? ⟨gb180, 27, none⟩ = some (.string a0_27) := (blk_cell BK180.out 27).trans rfl
            have hfz36_0 := blk_frozen BK180.out 0
            have hfz36_1 := blk_frozen BK180.out 1
            have hfz36_2 := blk_frozen BK180.out 2
            have hfz36_3 := blk_frozen BK180.out 3
            have hfz36_4 := blk_frozen BK180.out 4
            have hfz36_5 := blk_frozen BK180.out 5
            have hfz36_6 := blk_frozen BK180.out 6
            have hfz36_7 := blk_frozen BK180.out 7
            have hfz36_8 := blk_frozen BK180.out 8
            have hfz36_9 := blk_frozen BK180.out 9
            have hfz36_10 := blk_frozen BK180.out 10
            have hfz36_11 := blk_frozen BK180.out 11
            have hfz36_12 := blk_frozen BK180.out 12
            have hfz36_13 := blk_frozen BK180.out 13
            have hfz36_14 := blk_frozen BK180.out 14
            have hfz36_15 := blk_frozen BK180.out 15
            have hfz36_16 := blk_frozen BK180.out 16
            have hfz36_17 := blk_frozen BK180.out 17
            have hfz36_18 := blk_frozen BK180.out 18
            have hfz36_19 := blk_frozen BK180.out 19
            have hfz36_20 := blk_frozen BK180.out 20
            have hfz36_21 := blk_frozen BK180.out 21
            have hfz36_22 := blk_frozen BK180.out 22
            have hfz36_23 := blk_frozen BK180.out 23
            have hfz36_24 := blk_frozen BK180.out 24
            have hfz36_25 := blk_frozen BK180.out 25
            have hfz36_26 := blk_frozen BK180.out 26
            have hfz36_27 := blk_frozen BK180.out 27
            go_wp2
            go_loopg [4, 62] k2 (fun kq v4 v62 w' => ∃ (x4_3 : Bool) (x62_3 : Int), v4 = .bool x4_3 ∧ v62 = .int .i64 x62_3 ∧ Aside0 (lamellaref15_May.l1 kq x4_3 l0_26 (l0_26.length : Int) x62_3 = some r) ∧ Aside0 (kq ≤ k2) ∧ Aside0 (w'.heap[gb180]? = some (.cells #[.int .i64 a0_0, .int .i64 a0_1, .int .i64 a0_2, .int .i64 a0_3, .int .i64 a0_4, .int .i64 a0_5, .int .i64 a0_6, .int .i64 a0_7, .int .i64 a0_8, .int .i64 a0_9, .int .i64 a0_10, .bool a0_11, .int .i64 a0_12, .int .i64 a0_13, .int .i64 a0_14, .int .i64 a0_15, .int .i64 a0_16, (.slice A0_17 l0_17.length c0_17), .int .i64 a0_18, (.slice A0_19 l0_19.length c0_19), .bool a0_20, .int .i64 a0_21, .int .i64 a0_22, .int .i64 a0_23, .int .i64 a0_24, .int .i64 a0_25, (.slice A0_26 l0_26.length c0_26), .string a0_27] 34 (0, 0))) ∧ Aside0 (w'.heap[gb181]? = some (.cells #[.int .i64 a0_12, .int .i64 a0_13, .int .i64 a0_14, .int .i64 a0_15, .int .i64 a0_16, (.slice A0_17 l0_17.length c0_17)] 28 (0, 0))) ∧ Aside0 (Below w.heap.size w w'))
            case atStart => exact ⟨(x4_2), (0), (by first | rfl | (simp; done) | (simp [*]; done)), (by first | rfl | (simp; done) | (simp [*]; done)), H', ⟨Nat.le_refl _⟩, ⟨by (with_reducible repeat (first | refine blk_drewN ?_ _ | refine blk_drew ?_ | refine blk_alloc ?_ _)); exact BK180.out⟩, ⟨by (with_reducible repeat (first | refine blk_drewN ?_ _ | refine blk_drew ?_ | refine blk_alloc ?_ _)); exact BK181.out⟩, ⟨by repeat (first | (with_reducible first | exact HB.out | apply below_alloc | apply pw_below_drewN | apply below_drew1 | refine below_set ?_ GE180.out | refine below_set ?_ GE181.out) | exact HB.out)⟩⟩
            case round =>
              clear H'
              obtain ⟨x4_3, x62_3, rfl, rfl, HA, HK3, BK180, BK181, HB⟩ := hrel
              cases gk with
              | zero => exact absurd HA.out (by simp [lamellaref15_May.l1])
              | succ k3 =>
                have H := HA.out
                clear HA
                simp only [lamellaref15_May.l1] at H
                by_cases c37 : x62_3 < (l0_26.length : Int)
                · rw [if_pos c37] at H
                  have c37b0 : decide (x62_3 < (l0_26.length : Int)) = true := decide_eq_true c37
                  clear c37
                  by_cases c38 : 0 ≤ x62_3
                  · rw [if_pos c38] at H
                    have c38b0 : decide (0 ≤ x62_3) = true := decide_eq_true c38
                    clear c38
                    by_cases c39 : x62_3 < (l0_26.length : Int)
                    · rw [if_pos c39] at H
                      have c39b0 : decide (x62_3 < (l0_26.length : Int)) = true := decide_eq_true c39
                      clear c39
                      by_cases c40 : x4_3 = true
                      · subst c40
                        have H1 : (lamellaref15_May.l1 k3 (decide ((((rd_T60 l0_26 x62_3).f2).size : Int) ≤ 1048576)) l0_26 (l0_26.length : Int) (wrap64 (x62_3 + 1))) = some r := by rw [if_pos rfl] at H; exact H
                        clear H
                        have H := H1
                        clear H1
                        have H' := Aside0.mk H
                        clear H
                        have p183 : 0 ≤ (x62_3 : Int) := of_decide_eq_true (by first | (with_reducible assumption) | assumption)
                        have q183 : x62_3 < (l0_26.length : Int) := of_decide_eq_true (by first | (with_reducible assumption) | assumption)
                        obtain ⟨ad183, e183, hx183_0, hx183_1, hx183_2⟩ := at_T60 HR0_26.out x62_3 p183 q183
                        cases e183
                        replace hx183_0 := (HB.out.cell (World.block_lt_of_cell? w _ hx183_0)).trans hx183_0
                        replace hx183_1 := (HB.out.cell (World.block_lt_of_cell? w _ hx183_1)).trans hx183_1
                        replace hx183_2 := (HB.out.cell (World.block_lt_of_cell? w _ hx183_2)).trans hx183_2
                        replace p183 := eq_true p183
                        replace q183 := eq_true q183
                        go_wp2_with (first | ((with_reducible refine gate_dst (N := 8) rfl ?_); (try (refine gate_guard (by rfl) ?_; dsimp only)); refine box_event ?hg (N := 8) ?hd (cs := #[.int .i64 0, .int .i64 0, .string (⟨#[]⟩ : ByteArray)]) (t := 60) ?hr ?_; (case hd => rfl); (case hg => rfl); (case hr => first | (go_simp; done) | (go_simp; rfl)); intro gb184 hg w41 hbox hb; have n0_ := Aside0.mk (blk_below (g := gb180) (o := .cells #[.int .i64 a0_0, .int .i64 a0_1, .int .i64 a0_2, .int .i64 a0_3, .int .i64 a0_4, .int .i64 a0_5, .int .i64 a0_6, .int .i64 a0_7, .int .i64 a0_8, .int .i64 a0_9, .int .i64 a0_10, .bool a0_11, .int .i64 a0_12, .int .i64 a0_13, .int .i64 a0_14, .int .i64 a0_15, .int .i64 a0_16, .slice A0_17 l0_17.length c0_17, .int .i64 a0_18, .slice A0_19 l0_19.length c0_19, .bool a0_20, .int .i64 a0_21, .int .i64 a0_22, .int .i64 a0_23, .int .i64 a0_24, .int .i64 a0_25, .slice (some ad183) l0_26.length c0_26, .string a0_27] 34 (0, 0)) (by (with_reducible repeat (first | refine blk_drewN ?_ _ | refine blk_drew ?_ | refine blk_alloc ?_ _)); exact BK180.out) hb); have n1_ := Aside0.mk (blk_below (g := gb181) (o := .cells #[.int .i64 a0_12, .int .i64 a0_13, .int .i64 a0_14, .int .i64 a0_15, .int .i64 a0_16, .slice A0_17 l0_17.length c0_17] 28 (0, 0)) (by (with_reducible repeat (first | refine blk_drewN ?_ _ | refine blk_drew ?_ | refine blk_alloc ?_ _)); exact BK181.out) hb); have n2_ := Aside0.mk (below_step (by repeat (first | (with_reducible first | exact HB.out | apply below_alloc | apply pw_below_drewN | apply below_drew1 | refine below_set ?_ GE180.out | refine below_set ?_ GE181.out) | exact HB.out)) hb); have n3_ := Aside0.mk (hbox); have n4_ := Aside0.mk ((by rw [hg]; exact (below_size (by repeat (first | (with_reducible first | exact HB.out | apply below_alloc | apply pw_below_drewN | apply below_drew1 | refine below_set ?_ GE180.out | refine below_set ?_ GE181.out) | exact HB.out))) : w.heap.size ≤ gb184)); have n5_ := Aside0.mk ((by rw [hg]; exact (below_size (by repeat (first | (with_reducible first | exact HB.out | apply below_alloc | apply pw_below_drewN | apply below_drew1 | refine below_set ?_ GE180.out | refine below_set ?_ GE181.out) | exact HB.out))) : w.heap.size ≤ gb184)); have n6_ := Aside0.mk ((by rw [hg]; exact Nat.ne_of_lt (blk_lt (g := gb180) (o := .cells #[.int .i64 a0_0, .int .i64 a0_1, .int .i64 a0_2, .int .i64 a0_3, .int .i64 a0_4, .int .i64 a0_5, .int .i64 a0_6, .int .i64 a0_7, .int .i64 a0_8, .int .i64 a0_9, .int .i64 a0_10, .bool a0_11, .int .i64 a0_12, .int .i64 a0_13, .int .i64 a0_14, .int .i64 a0_15, .int .i64 a0_16, .slice A0_17 l0_17.length c0_17, .int .i64 a0_18, .slice A0_19 l0_19.length c0_19, .bool a0_20, .int .i64 a0_21, .int .i64 a0_22, .int .i64 a0_23, .int .i64 a0_24, .int .i64 a0_25, .slice (some ad183) l0_26.length c0_26, .string a0_27] 34 (0, 0)) (by (with_reducible repeat (first | refine blk_drewN ?_ _ | refine blk_drew ?_ | refine blk_alloc ?_ _)); exact BK180.out)) : gb180 ≠ gb184)); have n7_ := Aside0.mk ((by rw [hg]; exact Nat.ne_of_gt (blk_lt (g := gb180) (o := .cells #[.int .i64 a0_0, .int .i64 a0_1, .int .i64 a0_2, .int .i64 a0_3, .int .i64 a0_4, .int .i64 a0_5, .int .i64 a0_6, .int .i64 a0_7, .int .i64 a0_8, .int .i64 a0_9, .int .i64 a0_10, .bool a0_11, .int .i64 a0_12, .int .i64 a0_13, .int .i64 a0_14, .int .i64 a0_15, .int .i64 a0_16, .slice A0_17 l0_17.length c0_17, .int .i64 a0_18, .slice A0_19 l0_19.length c0_19, .bool a0_20, .int .i64 a0_21, .int .i64 a0_22, .int .i64 a0_23, .int .i64 a0_24, .int .i64 a0_25, .slice (some ad183) l0_26.length c0_26, .string a0_27] 34 (0, 0)) (by (with_reducible repeat (first | refine blk_drewN ?_ _ | refine blk_drew ?_ | refine blk_alloc ?_ _)); exact BK180.out)) : gb184 ≠ gb180)); have n8_ := Aside0.mk ((by rw [hg]; exact Nat.ne_of_lt (blk_lt (g := gb181) (o := .cells #[.int .i64 a0_12, .int .i64 a0_13, .int .i64 a0_14, .int .i64 a0_15, .int .i64 a0_16, .slice A0_17 l0_17.length c0_17] 28 (0, 0)) (by (with_reducible repeat (first | refine blk_drewN ?_ _ | refine blk_drew ?_ | refine blk_alloc ?_ _)); exact BK181.out)) : gb181 ≠ gb184)); have n9_ := Aside0.mk ((by rw [hg]; exact Nat.ne_of_gt (blk_lt (g := gb181) (o := .cells #[.int .i64 a0_12, .int .i64 a0_13, .int .i64 a0_14, .int .i64 a0_15, .int .i64 a0_16, .slice A0_17 l0_17.length c0_17] 28 (0, 0)) (by (with_reducible repeat (first | refine blk_drewN ?_ _ | refine blk_drew ?_ | refine blk_alloc ?_ _)); exact BK181.out)) : gb184 ≠ gb181)); clear BK180; clear BK181; clear HB; have BK180 := n0_; have BK181 := n1_; have HB := n2_; have BK184 := n3_; have GW184 := n4_; have GE184 := n5_; have NB180_184 := n6_; have NB184_180 := n7_; have NB181_184 := n8_; have NB184_181 := n9_; clear n0_ n1_ n2_ n3_ n4_ n5_ n6_ n7_ n8_ n9_; clear hb hbox hg; have hnb42 := NB184_180.out; have hnc42 := NB180_184.out; have hnb43 := NB184_181.out; have hnc43 := NB181_184.out; have hcz44_0 : w41.cell? ⟨gb184, 0, none⟩ = some (.int .i64 0) := (blk_cell BK184.out 0).trans rfl; have hcz44_1 : w41.cell? ⟨gb184, 1, none⟩ = some (.int .i64 0) := (blk_cell BK184.out 1).trans rfl; have hcz44_2 : w41.cell? ⟨gb184, 2, none⟩ = some (.string (⟨#[]⟩ : ByteArray)) := (blk_cell BK184.out 2).trans rfl; have hfz44_0 := blk_frozen BK184.out 0; have hfz44_1 := blk_frozen BK184.out 1; have hfz44_2 := blk_frozen BK184.out 2))
                        go_roundg k3
                        case measure => have := HJ1.out; have := HK2.out; have := HK3.out; omega
                        case rel => exact ⟨(decide ((((rd_T60 l0_26 x62_3).f2).size : Int) ≤ 1048576)), (wrap64 (x62_3 + 1)), (by first | rfl | (simp; done) | (simp [*]; done)), (by first | rfl | (simp; done) | (simp [*]; done)), H', ⟨by have := HJ1.out; have := HK2.out; have := HK3.out; omega⟩, ⟨by (with_reducible repeat (first | refine blk_drewN ?_ _ | refine blk_drew ?_ | refine blk_alloc ?_ _)); refine blk_far ?_ NB180_184.out _; (with_reducible repeat (first | refine blk_drewN ?_ _ | refine blk_drew ?_ | refine blk_alloc ?_ _)); refine blk_far ?_ NB180_184.out _; (with_reducible repeat (first | refine blk_drewN ?_ _ | refine blk_drew ?_ | refine blk_alloc ?_ _)); refine blk_far ?_ NB180_184.out _; (with_reducible repeat (first | refine blk_drewN ?_ _ | refine blk_drew ?_ | refine blk_alloc ?_ _)); exact BK180.out⟩, ⟨by (with_reducible repeat (first | refine blk_drewN ?_ _ | refine blk_drew ?_ | refine blk_alloc ?_ _)); refine blk_far ?_ NB181_184.out _; (with_reducible repeat (first | refine blk_drewN ?_ _ | refine blk_drew ?_ | refine blk_alloc ?_ _)); refine blk_far ?_ NB181_184.out _; (with_reducible repeat (first | refine blk_drewN ?_ _ | refine blk_drew ?_ | refine blk_alloc ?_ _)); refine blk_far ?_ NB181_184.out _; (with_reducible repeat (first | refine blk_drewN ?_ _ | refine blk_drew ?_ | refine blk_alloc ?_ _)); exact BK181.out⟩, ⟨by repeat (first | (with_reducible first | exact HB.out | apply below_alloc | apply pw_below_drewN | apply below_drew1 | refine below_set ?_ GE180.out | refine below_set ?_ GE181.out | refine below_set ?_ GE184.out) | exact HB.out)⟩⟩
                      · replace c40 := Bool.eq_false_iff.mpr c40
                        subst c40
                        have H1 : (lamellaref15_May.l1 k3 false l0_26 (l0_26.length : Int) (wrap64 (x62_3 + 1))) = some r := by rw [if_neg (show ¬ (false = true) by decide)] at H; exact H
                        clear H
                        have H := H1
                        clear H1
                        have H' := Aside0.mk H
                        clear H
                        have p183 : 0 ≤ (x62_3 : Int) := of_decide_eq_true (by first | (with_reducible assumption) | assumption)
                        have q183 : x62_3 < (l0_26.length : Int) := of_decide_eq_true (by first | (with_reducible assumption) | assumption)
                        obtain ⟨ad183, e183, hx183_0, hx183_1, hx183_2⟩ := at_T60 HR0_26.out x62_3 p183 q183
                        cases e183
                        replace hx183_0 := (HB.out.cell (World.block_lt_of_cell? w _ hx183_0)).trans hx183_0
                        replace hx183_1 := (HB.out.cell (World.block_lt_of_cell? w _ hx183_1)).trans hx183_1
                        replace hx183_2 := (HB.out.cell (World.block_lt_of_cell? w _ hx183_2)).trans hx183_2
                        replace p183 := eq_true p183
                        replace q183 := eq_true q183
                        go_wp2_with (first | ((with_reducible refine gate_dst (N := 8) rfl ?_); (try (refine gate_guard (by rfl) ?_; dsimp only)); refine box_event ?hg (N := 8) ?hd (cs := #[.int .i64 0, .int .i64 0, .string (⟨#[]⟩ : ByteArray)]) (t := 60) ?hr ?_; (case hd => rfl); (case hg => rfl); (case hr => first | (go_simp; done) | (go_simp; rfl)); intro gb184 hg w45 hbox hb; have n0_ := Aside0.mk (blk_below (g := gb180) (o := .cells #[.int .i64 a0_0, .int .i64 a0_1, .int .i64 a0_2, .int .i64 a0_3, .int .i64 a0_4, .int .i64 a0_5, .int .i64 a0_6, .int .i64 a0_7, .int .i64 a0_8, .int .i64 a0_9, .int .i64 a0_10, .bool a0_11, .int .i64 a0_12, .int .i64 a0_13, .int .i64 a0_14, .int .i64 a0_15, .int .i64 a0_16, .slice A0_17 l0_17.length c0_17, .int .i64 a0_18, .slice A0_19 l0_19.length c0_19, .bool a0_20, .int .i64 a0_21, .int .i64 a0_22, .int .i64 a0_23, .int .i64 a0_24, .int .i64 a0_25, .slice (some ad183) l0_26.length c0_26, .string a0_27] 34 (0, 0)) (by (with_reducible repeat (first | refine blk_drewN ?_ _ | refine blk_drew ?_ | refine blk_alloc ?_ _)); exact BK180.out) hb); have n1_ := Aside0.mk (blk_below (g := gb181) (o := .cells #[.int .i64 a0_12, .int .i64 a0_13, .int .i64 a0_14, .int .i64 a0_15, .int .i64 a0_16, .slice A0_17 l0_17.length c0_17] 28 (0, 0)) (by (with_reducible repeat (first | refine blk_drewN ?_ _ | refine blk_drew ?_ | refine blk_alloc ?_ _)); exact BK181.out) hb); have n2_ := Aside0.mk (below_step (by repeat (first | (with_reducible first | exact HB.out | apply below_alloc | apply pw_below_drewN | apply below_drew1 | refine below_set ?_ GE180.out | refine below_set ?_ GE181.out) | exact HB.out)) hb); have n3_ := Aside0.mk (hbox); have n4_ := Aside0.mk ((by rw [hg]; exact (below_size (by repeat (first | (with_reducible first | exact HB.out | apply below_alloc | apply pw_below_drewN | apply below_drew1 | refine below_set ?_ GE180.out | refine below_set ?_ GE181.out) | exact HB.out))) : w.heap.size ≤ gb184)); have n5_ := Aside0.mk ((by rw [hg]; exact (below_size (by repeat (first | (with_reducible first | exact HB.out | apply below_alloc | apply pw_below_drewN | apply below_drew1 | refine below_set ?_ GE180.out | refine below_set ?_ GE181.out) | exact HB.out))) : w.heap.size ≤ gb184)); have n6_ := Aside0.mk ((by rw [hg]; exact Nat.ne_of_lt (blk_lt (g := gb180) (o := .cells #[.int .i64 a0_0, .int .i64 a0_1, .int .i64 a0_2, .int .i64 a0_3, .int .i64 a0_4, .int .i64 a0_5, .int .i64 a0_6, .int .i64 a0_7, .int .i64 a0_8, .int .i64 a0_9, .int .i64 a0_10, .bool a0_11, .int .i64 a0_12, .int .i64 a0_13, .int .i64 a0_14, .int .i64 a0_15, .int .i64 a0_16, .slice A0_17 l0_17.length c0_17, .int .i64 a0_18, .slice A0_19 l0_19.length c0_19, .bool a0_20, .int .i64 a0_21, .int .i64 a0_22, .int .i64 a0_23, .int .i64 a0_24, .int .i64 a0_25, .slice (some ad183) l0_26.length c0_26, .string a0_27] 34 (0, 0)) (by (with_reducible repeat (first | refine blk_drewN ?_ _ | refine blk_drew ?_ | refine blk_alloc ?_ _)); exact BK180.out)) : gb180 ≠ gb184)); have n7_ := Aside0.mk ((by rw [hg]; exact Nat.ne_of_gt (blk_lt (g := gb180) (o := .cells #[.int .i64 a0_0, .int .i64 a0_1, .int .i64 a0_2, .int .i64 a0_3, .int .i64 a0_4, .int .i64 a0_5, .int .i64 a0_6, .int .i64 a0_7, .int .i64 a0_8, .int .i64 a0_9, .int .i64 a0_10, .bool a0_11, .int .i64 a0_12, .int .i64 a0_13, .int .i64 a0_14, .int .i64 a0_15, .int .i64 a0_16, .slice A0_17 l0_17.length c0_17, .int .i64 a0_18, .slice A0_19 l0_19.length c0_19, .bool a0_20, .int .i64 a0_21, .int .i64 a0_22, .int .i64 a0_23, .int .i64 a0_24, .int .i64 a0_25, .slice (some ad183) l0_26.length c0_26, .string a0_27] 34 (0, 0)) (by (with_reducible repeat (first | refine blk_drewN ?_ _ | refine blk_drew ?_ | refine blk_alloc ?_ _)); exact BK180.out)) : gb184 ≠ gb180)); have n8_ := Aside0.mk ((by rw [hg]; exact Nat.ne_of_lt (blk_lt (g := gb181) (o := .cells #[.int .i64 a0_12, .int .i64 a0_13, .int .i64 a0_14, .int .i64 a0_15, .int .i64 a0_16, .slice A0_17 l0_17.length c0_17] 28 (0, 0)) (by (with_reducible repeat (first | refine blk_drewN ?_ _ | refine blk_drew ?_ | refine blk_alloc ?_ _)); exact BK181.out)) : gb181 ≠ gb184)); have n9_ := Aside0.mk ((by rw [hg]; exact Nat.ne_of_gt (blk_lt (g := gb181) (o := .cells #[.int .i64 a0_12, .int .i64 a0_13, .int .i64 a0_14, .int .i64 a0_15, .int .i64 a0_16, .slice A0_17 l0_17.length c0_17] 28 (0, 0)) (by (with_reducible repeat (first | refine blk_drewN ?_ _ | refine blk_drew ?_ | refine blk_alloc ?_ _)); exact BK181.out)) : gb184 ≠ gb181)); clear BK180; clear BK181; clear HB; have BK180 := n0_; have BK181 := n1_; have HB := n2_; have BK184 := n3_; have GW184 := n4_; have GE184 := n5_; have NB180_184 := n6_; have NB184_180 := n7_; have NB181_184 := n8_; have NB184_181 := n9_; clear n0_ n1_ n2_ n3_ n4_ n5_ n6_ n7_ n8_ n9_; clear hb hbox hg; have hnb46 := NB184_180.out; have hnc46 := NB180_184.out; have hnb47 := NB184_181.out; have hnc47 := NB181_184.out; have hcz48_0 : w45.cell? ⟨gb184, 0, none⟩ = some (.int .i64 0) := (blk_cell BK184.out 0).trans rfl; have hcz48_1 : w45.cell? ⟨gb184, 1, none⟩ = some (.int .i64 0) := (blk_cell BK184.out 1).trans rfl; have hcz48_2 : w45.cell? ⟨gb184, 2, none⟩ = some (.string (⟨#[]⟩ : ByteArray)) := (blk_cell BK184.out 2).trans rfl; have hfz48_0 := blk_frozen BK184.out 0; have hfz48_1 := blk_frozen BK184.out 1; have hfz48_2 := blk_frozen BK184.out 2))
                        go_roundg k3
                        case measure => have := HJ1.out; have := HK2.out; have := HK3.out; omega
                        case rel => exact ⟨(false), (wrap64 (x62_3 + 1)), (by first | rfl | (simp; done) | (simp [*]; done)), (by first | rfl | (simp; done) | (simp [*]; done)), H', ⟨by have := HJ1.out; have := HK2.out; have := HK3.out; omega⟩, ⟨by (with_reducible repeat (first | refine blk_drewN ?_ _ | refine blk_drew ?_ | refine blk_alloc ?_ _)); refine blk_far ?_ NB180_184.out _; (with_reducible repeat (first | refine blk_drewN ?_ _ | refine blk_drew ?_ | refine blk_alloc ?_ _)); refine blk_far ?_ NB180_184.out _; (with_reducible repeat (first | refine blk_drewN ?_ _ | refine blk_drew ?_ | refine blk_alloc ?_ _)); refine blk_far ?_ NB180_184.out _; (with_reducible repeat (first | refine blk_drewN ?_ _ | refine blk_drew ?_ | refine blk_alloc ?_ _)); exact BK180.out⟩, ⟨by (with_reducible repeat (first | refine blk_drewN ?_ _ | refine blk_drew ?_ | refine blk_alloc ?_ _)); refine blk_far ?_ NB181_184.out _; (with_reducible repeat (first | refine blk_drewN ?_ _ | refine blk_drew ?_ | refine blk_alloc ?_ _)); refine blk_far ?_ NB181_184.out _; (with_reducible repeat (first | refine blk_drewN ?_ _ | refine blk_drew ?_ | refine blk_alloc ?_ _)); refine blk_far ?_ NB181_184.out _; (with_reducible repeat (first | refine blk_drewN ?_ _ | refine blk_drew ?_ | refine blk_alloc ?_ _)); exact BK181.out⟩, ⟨by repeat (first | (with_reducible first | exact HB.out | apply below_alloc | apply pw_below_drewN | apply below_drew1 | refine below_set ?_ GE180.out | refine below_set ?_ GE181.out | refine below_set ?_ GE184.out) | exact HB.out)⟩⟩
                    · rw [if_neg c39] at H
                      exact absurd H (by simp)
                  · rw [if_neg c38] at H
                    exact absurd H (by simp)
                · rw [if_neg c37] at H
                  have c37b0 : decide (x62_3 < (l0_26.length : Int)) = false := decide_eq_false c37
                  clear c37
                  obtain rfl := Option.some.inj H
                  go_wp2
                  go_ret
                  exact ⟨by first | rfl | (simp [errW_none, errW_some] <;> rfl) | (simp [*, errW_none, errW_some] <;> rfl), by repeat (first | (with_reducible first | exact HB.out | apply below_alloc | apply pw_below_drewN | apply below_drew1 | refine below_set ?_ GE180.out | refine below_set ?_ GE181.out) | exact HB.out)⟩


end Go.Proofs.Ytneebjlpeekmbaa.PRef
