-- Written by a program of this session (wip/xprint.py) that drives the kit's print; the contracts of what it does not take are this session's own.
import Derived.Test.YtkbehdgneojdbaaCFnHeightsAreMatricesx0
import Derived.Test.YtkbehdgneojdbaaCFnHeightsAreMatricesx1
import Derived.Test.YtkbehdgneojdbaaCFnHeightsAreMatricesx2
import Derived.Test.YtkbehdgneojdbaaCFnHeightsAreMatricesx3
import Derived.Test.YtkbehdgneojdbaaCFnHeightsAreMatricesx4
namespace Go.Proofs.Ytkbehdgneojdbaa.X
open Go.RowKit Go.Proofs.YtkbehdgneojdbaaW.PrintWords Go.Proofs.YtkbehdgneojdbaaW.PrintLast Go.Proofs.YtkbehdgneojdbaaW.PrintMore
attribute [local go_sem] max2_int min2_int max_two min_two max_three min_three max_four min_four   -- for this text's walks alone
set_option linter.unusedVariables false
set_option linter.unusedSimpArgs false

/-! ### spec_heWay: function 195 -/
def spec_heWay.f (k : Nat) (l0 : List (List Int)) (a1 : Int) (a2 : Int) : Option (Int) := if 0 ≤ a1 then (if a1 < (l0.length : Int) then (if 0 ≤ a2 then (if a2 < ((rd_L3 l0 a1).length : Int) then (if 0 ≤ (wrap64 (a1 - 1)) then (if (wrap64 (a1 - 1)) < (l0.length : Int) then (if a2 < ((rd_L3 l0 (wrap64 (a1 - 1))).length : Int) then (if 0 ≤ (wrap64 (a1 + 1)) then (if (wrap64 (a1 + 1)) < (l0.length : Int) then (if a2 < ((rd_L3 l0 (wrap64 (a1 + 1))).length : Int) then (if 0 ≤ (wrap64 (a2 - 1)) then (if (wrap64 (a2 - 1)) < ((rd_L3 l0 a1).length : Int) then (if 0 ≤ (wrap64 (a2 + 1)) then (if (wrap64 (a2 + 1)) < ((rd_L3 l0 a1).length : Int) then ((some (([rd (rd_L3 l0 (wrap64 (a1 - 1))) a2, rd (rd_L3 l0 (wrap64 (a1 + 1))) a2, rd (rd_L3 l0 a1) (wrap64 (a2 - 1)), rd (rd_L3 l0 a1) (wrap64 (a2 + 1))] : List Int) : List Int)).bind fun y111 => ((spec_l1All.f k y111 (wrap64 ((rd (rd_L3 l0 a1) a2) + 1)) (wrap64 ((rd (rd_L3 l0 a1) a2) + 1))).bind fun t114 => (if t114 = true then (some 1) else ((spec_l1All.f k y111 (wrap64 ((rd (rd_L3 l0 a1) a2) - 1)) (wrap64 ((rd (rd_L3 l0 a1) a2) - 1))).bind fun t115 => (if t115 = true then (some (-1)) else (some 0)))))) else (none)) else (none)) else (none)) else (none)) else (none)) else (none)) else (none)) else (none)) else (none)) else (none)) else (none)) else (none)) else (none)) else (none)
def spec_heWay.T2 : Bool × List (List Nat × List Nat) := (true, [([], []), ([], []), ([1], [1]), ([0, 2], [0, 2]), ([3], [3]), ([], []), ([4, 5], [4, 5]), ([6], [6]), ([], []), ([], []), ([9], [9]), ([8, 10], [8, 10]), ([11], [11]), ([], []), ([12, 13], [12, 13]), ([14], [14]), ([], []), ([], []), ([16, 17], [16, 17]), ([18], [18]), ([], []), ([20], [20]), ([19, 21], [19, 21]), ([22], [22]), ([], []), ([], []), ([24, 25], [24, 25]), ([26], [26]), ([], []), ([28], [28]), ([27, 29], [27, 29]), ([30], [30]), ([7, 15, 23, 31], [7, 15, 23, 31]), ([32, 0, 1, 2, 3, 4, 5, 6, 7, 8, 9, 10, 11, 12, 13, 14, 15, 16, 17, 18, 19, 20, 21, 22, 23, 24, 25, 26, 27, 28, 29, 30, 31, 32], [32])])
def spec_heWay.B2 : List Nat := [0, 0, 2, 7, 15, 0, 63, 127, 0, 0, 512, 1792, 3840, 0, 16128, 32512, 0, 0, 196608, 458752, 0, 1048576, 4128768, 8323072, 0, 0, 50331648, 117440512, 0, 268435456, 1056964608, 2130706432, 4294967295, 8589934591]
theorem spec_heWay.tab2 : rtab .any (opsOf Try.f195 2) = spec_heWay.T2 := by kernel_rfl
theorem spec_heWay.bits2 : waitsOk spec_heWay.T2.2 spec_heWay.B2 = true := by kernel_rfl
set_option maxHeartbeats 8000000 in
set_option maxRecDepth 100000 in
theorem spec_heWay.calls (k : Nat) (A0 : Option Addr) (c0 : Nat) (l0 : List (List Int)) (a1 : Int) (a2 : Int) (r : Int) (w : World) (hr0 : Kd.C (Kd.slice 3 (Kd.int .i64)) w A0 l0.length l0) (hc0 : l0.length ≤ c0) (h : spec_heWay.f k l0 a1 a2 = some r) :
  Calls Try.prog 195 #[.slice A0 l0.length c0, .int .i64 a1, .int .i64 a2] w fun e w' => e = .returned (.int .i64 r) ∧ Below w.heap.size w w' := by
 have HR0 := am_ hr0
 have HC0 := am_ hc0
 clear hr0 hc0
 have HB := am_ (Below.refl w.heap.size w)
 have H : (if 0 ≤ a1 then (if a1 < (l0.length : Int) then (if 0 ≤ a2 then (if a2 < ((rd_L3 l0 a1).length : Int) then (if 0 ≤ (wrap64 (a1 - 1)) then (if (wrap64 (a1 - 1)) < (l0.length : Int) then (if a2 < ((rd_L3 l0 (wrap64 (a1 - 1))).length : Int) then (if 0 ≤ (wrap64 (a1 + 1)) then (if (wrap64 (a1 + 1)) < (l0.length : Int) then (if a2 < ((rd_L3 l0 (wrap64 (a1 + 1))).length : Int) then (if 0 ≤ (wrap64 (a2 - 1)) then (if (wrap64 (a2 - 1)) < ((rd_L3 l0 a1).length : Int) then (if 0 ≤ (wrap64 (a2 + 1)) then (if (wrap64 (a2 + 1)) < ((rd_L3 l0 a1).length : Int) then ((some (([rd (rd_L3 l0 (wrap64 (a1 - 1))) a2, rd (rd_L3 l0 (wrap64 (a1 + 1))) a2, rd (rd_L3 l0 a1) (wrap64 (a2 - 1)), rd (rd_L3 l0 a1) (wrap64 (a2 + 1))] : List Int) : List Int)).bind fun y111 => ((spec_l1All.f k y111 (wrap64 ((rd (rd_L3 l0 a1) a2) + 1)) (wrap64 ((rd (rd_L3 l0 a1) a2) + 1))).bind fun t114 => (if t114 = true then (some 1) else ((spec_l1All.f k y111 (wrap64 ((rd (rd_L3 l0 a1) a2) - 1)) (wrap64 ((rd (rd_L3 l0 a1) a2) - 1))).bind fun t115 => (if t115 = true then (some (-1)) else (some 0)))))) else (none)) else (none)) else (none)) else (none)) else (none)) else (none)) else (none)) else (none)) else (none)) else (none)) else (none)) else (none)) else (none)) else (none)) = some r := h
 clear h
 by_cases c4 : 0 ≤ a1
 ·rw [if_pos c4] at H
  have c4b0 : decide (0 ≤ a1) = true := decide_eq_true c4
  clear c4
  by_cases c5 : a1 < (l0.length : Int)
  ·rw [if_pos c5] at H
   have c5b0 : decide (a1 < (l0.length : Int)) = true := decide_eq_true c5
   clear c5
   by_cases c6 : 0 ≤ a2
   ·rw [if_pos c6] at H
    have c6b0 : decide (0 ≤ a2) = true := decide_eq_true c6
    clear c6
    by_cases c7 : a2 < ((rd_L3 l0 a1).length : Int)
    ·rw [if_pos c7] at H
     have c7b0 : decide (a2 < ((rd_L3 l0 a1).length : Int)) = true := decide_eq_true c7
     clear c7
     obtain ⟨ji8, hji8⟩ : ∃ j_ : Int, (wrap64 (a1 - 1)) = j_ := ⟨_, rfl⟩
     replace H : (if 0 ≤ (ji8) then (if (ji8) < (l0.length : Int) then (if a2 < ((rd_L3 l0 (ji8)).length : Int) then (if 0 ≤ (wrap64 (a1 + 1)) then (if (wrap64 (a1 + 1)) < (l0.length : Int) then (if a2 < ((rd_L3 l0 (wrap64 (a1 + 1))).length : Int) then (if 0 ≤ (wrap64 (a2 - 1)) then (if (wrap64 (a2 - 1)) < ((rd_L3 l0 a1).length : Int) then (if 0 ≤ (wrap64 (a2 + 1)) then (if (wrap64 (a2 + 1)) < ((rd_L3 l0 a1).length : Int) then ((some (([rd (rd_L3 l0 (ji8)) a2, rd (rd_L3 l0 (wrap64 (a1 + 1))) a2, rd (rd_L3 l0 a1) (wrap64 (a2 - 1)), rd (rd_L3 l0 a1) (wrap64 (a2 + 1))] : List Int) : List Int)).bind fun y111 => ((spec_l1All.f k y111 (wrap64 ((rd (rd_L3 l0 a1) a2) + 1)) (wrap64 ((rd (rd_L3 l0 a1) a2) + 1))).bind fun t114 => (if t114 = true then (some 1) else ((spec_l1All.f k y111 (wrap64 ((rd (rd_L3 l0 a1) a2) - 1)) (wrap64 ((rd (rd_L3 l0 a1) a2) - 1))).bind fun t115 => (if t115 = true then (some (-1)) else (some 0)))))) else (none)) else (none)) else (none)) else (none)) else (none)) else (none)) else (none)) else (none)) else (none)) else (none)) = some r := by first | (rw [hji8] at H; exact H) | (simp only [hji8] at H ⊢; exact H)
     have hji8w : (IntKind.i64.wrap (a1 - 1)) = ji8 := (i64_w _).trans hji8
     by_cases c9 : 0 ≤ (ji8)
     ·rw [if_pos c9] at H
      have c9b0 : decide (0 ≤ (ji8)) = true := decide_eq_true c9
      clear c9
      by_cases c10 : (ji8) < (l0.length : Int)
      ·rw [if_pos c10] at H
       have c10b0 : decide ((ji8) < (l0.length : Int)) = true := decide_eq_true c10
       clear c10
       by_cases c11 : a2 < ((rd_L3 l0 (ji8)).length : Int)
       ·rw [if_pos c11] at H
        have c11b0 : decide (a2 < ((rd_L3 l0 (ji8)).length : Int)) = true := decide_eq_true c11
        clear c11
        obtain ⟨ji12, hji12⟩ : ∃ j_ : Int, (wrap64 (a1 + 1)) = j_ := ⟨_, rfl⟩
        replace H : (if 0 ≤ (ji12) then (if (ji12) < (l0.length : Int) then (if a2 < ((rd_L3 l0 (ji12)).length : Int) then (if 0 ≤ (wrap64 (a2 - 1)) then (if (wrap64 (a2 - 1)) < ((rd_L3 l0 a1).length : Int) then (if 0 ≤ (wrap64 (a2 + 1)) then (if (wrap64 (a2 + 1)) < ((rd_L3 l0 a1).length : Int) then ((some (([rd (rd_L3 l0 (ji8)) a2, rd (rd_L3 l0 (ji12)) a2, rd (rd_L3 l0 a1) (wrap64 (a2 - 1)), rd (rd_L3 l0 a1) (wrap64 (a2 + 1))] : List Int) : List Int)).bind fun y111 => ((spec_l1All.f k y111 (wrap64 ((rd (rd_L3 l0 a1) a2) + 1)) (wrap64 ((rd (rd_L3 l0 a1) a2) + 1))).bind fun t114 => (if t114 = true then (some 1) else ((spec_l1All.f k y111 (wrap64 ((rd (rd_L3 l0 a1) a2) - 1)) (wrap64 ((rd (rd_L3 l0 a1) a2) - 1))).bind fun t115 => (if t115 = true then (some (-1)) else (some 0)))))) else (none)) else (none)) else (none)) else (none)) else (none)) else (none)) else (none)) = some r := by first | (rw [hji12] at H; exact H) | (simp only [hji12] at H ⊢; exact H)
        have hji12w : (IntKind.i64.wrap (a1 + 1)) = ji12 := (i64_w _).trans hji12
        by_cases c13 : 0 ≤ (ji12)
        ·rw [if_pos c13] at H
         have c13b0 : decide (0 ≤ (ji12)) = true := decide_eq_true c13
         clear c13
         by_cases c14 : (ji12) < (l0.length : Int)
         ·rw [if_pos c14] at H
          have c14b0 : decide ((ji12) < (l0.length : Int)) = true := decide_eq_true c14
          clear c14
          by_cases c15 : a2 < ((rd_L3 l0 (ji12)).length : Int)
          ·rw [if_pos c15] at H
           have c15b0 : decide (a2 < ((rd_L3 l0 (ji12)).length : Int)) = true := decide_eq_true c15
           clear c15
           obtain ⟨ji16, hji16⟩ : ∃ j_ : Int, (wrap64 (a2 - 1)) = j_ := ⟨_, rfl⟩
           replace H : (if 0 ≤ (ji16) then (if (ji16) < ((rd_L3 l0 a1).length : Int) then (if 0 ≤ (wrap64 (a2 + 1)) then (if (wrap64 (a2 + 1)) < ((rd_L3 l0 a1).length : Int) then ((some (([rd (rd_L3 l0 (ji8)) a2, rd (rd_L3 l0 (ji12)) a2, rd (rd_L3 l0 a1) (ji16), rd (rd_L3 l0 a1) (wrap64 (a2 + 1))] : List Int) : List Int)).bind fun y111 => ((spec_l1All.f k y111 (wrap64 ((rd (rd_L3 l0 a1) a2) + 1)) (wrap64 ((rd (rd_L3 l0 a1) a2) + 1))).bind fun t114 => (if t114 = true then (some 1) else ((spec_l1All.f k y111 (wrap64 ((rd (rd_L3 l0 a1) a2) - 1)) (wrap64 ((rd (rd_L3 l0 a1) a2) - 1))).bind fun t115 => (if t115 = true then (some (-1)) else (some 0)))))) else (none)) else (none)) else (none)) else (none)) = some r := by first | (rw [hji16] at H; exact H) | (simp only [hji16] at H ⊢; exact H)
           have hji16w : (IntKind.i64.wrap (a2 - 1)) = ji16 := (i64_w _).trans hji16
           by_cases c17 : 0 ≤ (ji16)
           ·rw [if_pos c17] at H
            have c17b0 : decide (0 ≤ (ji16)) = true := decide_eq_true c17
            clear c17
            by_cases c18 : (ji16) < ((rd_L3 l0 a1).length : Int)
            ·rw [if_pos c18] at H
             have c18b0 : decide ((ji16) < ((rd_L3 l0 a1).length : Int)) = true := decide_eq_true c18
             clear c18
             obtain ⟨ji19, hji19⟩ : ∃ j_ : Int, (wrap64 (a2 + 1)) = j_ := ⟨_, rfl⟩
             replace H : (if 0 ≤ (ji19) then (if (ji19) < ((rd_L3 l0 a1).length : Int) then ((some (([rd (rd_L3 l0 (ji8)) a2, rd (rd_L3 l0 (ji12)) a2, rd (rd_L3 l0 a1) (ji16), rd (rd_L3 l0 a1) (ji19)] : List Int) : List Int)).bind fun y111 => ((spec_l1All.f k y111 (wrap64 ((rd (rd_L3 l0 a1) a2) + 1)) (wrap64 ((rd (rd_L3 l0 a1) a2) + 1))).bind fun t114 => (if t114 = true then (some 1) else ((spec_l1All.f k y111 (wrap64 ((rd (rd_L3 l0 a1) a2) - 1)) (wrap64 ((rd (rd_L3 l0 a1) a2) - 1))).bind fun t115 => (if t115 = true then (some (-1)) else (some 0)))))) else (none)) else (none)) = some r := by first | (rw [hji19] at H; exact H) | (simp only [hji19] at H ⊢; exact H)
             have hji19w : (IntKind.i64.wrap (a2 + 1)) = ji19 := (i64_w _).trans hji19
             by_cases c20 : 0 ≤ (ji19)
             ·rw [if_pos c20] at H
              have c20b0 : decide (0 ≤ (ji19)) = true := decide_eq_true c20
              clear c20
              by_cases c21 : (ji19) < ((rd_L3 l0 a1).length : Int)
              ·rw [if_pos c21] at H
               have c21b0 : decide ((ji19) < ((rd_L3 l0 a1).length : Int)) = true := decide_eq_true c21
               clear c21
               obtain ⟨y111, hy111⟩ : ∃ y_ : List Int, y_ = (([rd (rd_L3 l0 (ji8)) a2, rd (rd_L3 l0 (ji12)) a2, rd (rd_L3 l0 a1) (ji16), rd (rd_L3 l0 a1) (ji19)] : List Int)) := ⟨_, rfl⟩
               replace H : ((spec_l1All.f k y111 (wrap64 ((rd (rd_L3 l0 a1) a2) + 1)) (wrap64 ((rd (rd_L3 l0 a1) a2) + 1))).bind fun t114 => (if t114 = true then (some 1) else ((spec_l1All.f k y111 (wrap64 ((rd (rd_L3 l0 a1) a2) - 1)) (wrap64 ((rd (rd_L3 l0 a1) a2) - 1))).bind fun t115 => (if t115 = true then (some (-1)) else (some 0))))) = some r := by first | (rw [hy111]; with_reducible exact H) | (have H2_ := (Option.bind_some _ _).symm.trans H; rw [hy111]; with_reducible exact H2_) | (have H2_ := (Option.bind_some _ _).symm.trans H; with_reducible exact H2_) | with_reducible exact H | (rw [hy111]; exact H) | exact H
               have Ny111 := am_ hy111
               clear hy111
               replace H := Option.bind_eq_some_iff.mp H
               obtain ⟨t114, A220, H⟩ := H
               replace H : (if t114 = true then (some 1) else ((spec_l1All.f k y111 (wrap64 ((rd (rd_L3 l0 a1) a2) - 1)) (wrap64 ((rd (rd_L3 l0 a1) a2) - 1))).bind fun t115 => (if t115 = true then (some (-1)) else (some 0)))) = some r := H
               have A22 := am_ A220
               clear A220
               have p101 : 0 ≤ (a1 : Int) := of_decide_eq_true tc3_
               have q101 : a1 < (l0.length : Int) := of_decide_eq_true tc3_
               obtain ⟨ad101, A101_0, c101_0, e101, hx101_0, hl101_0, hi101_0⟩ := at_L3 HR0.out a1 p101 q101
               cases e101
               have HR101_0 := am_ hi101_0
               have HC101_0 := am_ hl101_0
               clear hi101_0 hl101_0
               replace p101 := eq_true p101
               replace q101 := eq_true q101
               have p102 : 0 ≤ (a2 : Int) := of_decide_eq_true tc3_
               have q102 : a2 < ((rd_L3 l0 a1).length : Int) := of_decide_eq_true tc3_
               obtain ⟨ad102, e102, hx102_0⟩ := Kd.at_int HR101_0.out a2 p102 q102
               cases e102
               replace p102 := eq_true p102
               replace q102 := eq_true q102
               go_enter Try.func195, Try.ntmps195
               try go_wp2
               have n0_ := am_ (below_drew1 HB.out)
               clear HB
               have HB := n0_
               clear n0_
               have p103 : 0 ≤ ((ji8) : Int) := of_decide_eq_true tc3_
               have q103 : (ji8) < (l0.length : Int) := of_decide_eq_true tc3_
               obtain ⟨ad103, A103_0, c103_0, e103, hx103_0, hl103_0, hi103_0⟩ := at_L3 HR0.out (ji8) p103 q103
               have hw103_0 := hx103_0
               obtain rfl : ad101 = ad103 := (by injection e103)
               replace hx103_0 := (HB.out.cell (World.block_lt_of_cell? w _ hx103_0)).trans hx103_0
               have HR103_0 := am_ hi103_0
               have HC103_0 := am_ hl103_0
               clear hi103_0 hl103_0
               replace p103 := eq_true p103
               replace q103 := eq_true q103
               have p104 : 0 ≤ (a2 : Int) := of_decide_eq_true tc3_
               have q104 : a2 < ((rd_L3 l0 (ji8)).length : Int) := of_decide_eq_true tc3_
               obtain ⟨ad104, e104, hx104_0⟩ := Kd.at_int HR103_0.out a2 p104 q104
               have hw104_0 := hx104_0
               cases e104
               replace hx104_0 := (HB.out.cell (World.block_lt_of_cell? w _ hx104_0)).trans hx104_0
               replace p104 := eq_true p104
               replace q104 := eq_true q104
               have p105 : 0 ≤ ((ji12) : Int) := of_decide_eq_true tc3_
               have q105 : (ji12) < (l0.length : Int) := of_decide_eq_true tc3_
               obtain ⟨ad105, A105_0, c105_0, e105, hx105_0, hl105_0, hi105_0⟩ := at_L3 HR0.out (ji12) p105 q105
               have hw105_0 := hx105_0
               obtain rfl : ad101 = ad105 := (by injection e105)
               replace hx105_0 := (HB.out.cell (World.block_lt_of_cell? w _ hx105_0)).trans hx105_0
               have HR105_0 := am_ hi105_0
               have HC105_0 := am_ hl105_0
               clear hi105_0 hl105_0
               replace p105 := eq_true p105
               replace q105 := eq_true q105
               have p106 : 0 ≤ (a2 : Int) := of_decide_eq_true tc3_
               have q106 : a2 < ((rd_L3 l0 (ji12)).length : Int) := of_decide_eq_true tc3_
               obtain ⟨ad106, e106, hx106_0⟩ := Kd.at_int HR105_0.out a2 p106 q106
               have hw106_0 := hx106_0
               cases e106
               replace hx106_0 := (HB.out.cell (World.block_lt_of_cell? w _ hx106_0)).trans hx106_0
               replace p106 := eq_true p106
               replace q106 := eq_true q106
               have p107 : 0 ≤ (a1 : Int) := of_decide_eq_true tc3_
               have q107 : a1 < (l0.length : Int) := of_decide_eq_true tc3_
               obtain ⟨ad107, A107_0, c107_0, e107, hx107_0, hl107_0, hi107_0⟩ := at_L3 HR0.out a1 p107 q107
               have hw107_0 := hx107_0
               obtain rfl : ad101 = ad107 := (by injection e107)
               replace hx107_0 := (HB.out.cell (World.block_lt_of_cell? w _ hx107_0)).trans hx107_0
               have HR107_0 := am_ hi107_0
               have HC107_0 := am_ hl107_0
               clear hi107_0 hl107_0
               replace p107 := eq_true p107
               replace q107 := eq_true q107
               have p108 : 0 ≤ ((ji16) : Int) := of_decide_eq_true tc3_
               have q108 : (ji16) < ((rd_L3 l0 a1).length : Int) := of_decide_eq_true tc3_
               obtain ⟨ad108, e108, hx108_0⟩ := Kd.at_int HR107_0.out (ji16) p108 q108
               have hw108_0 := hx108_0
               cases e108
               replace hx108_0 := (HB.out.cell (World.block_lt_of_cell? w _ hx108_0)).trans hx108_0
               replace p108 := eq_true p108
               replace q108 := eq_true q108
               have p109 : 0 ≤ (a1 : Int) := of_decide_eq_true tc3_
               have q109 : a1 < (l0.length : Int) := of_decide_eq_true tc3_
               obtain ⟨ad109, A109_0, c109_0, e109, hx109_0, hl109_0, hi109_0⟩ := at_L3 HR0.out a1 p109 q109
               have hw109_0 := hx109_0
               obtain rfl : ad101 = ad109 := (by injection e109)
               replace hx109_0 := (HB.out.cell (World.block_lt_of_cell? w _ hx109_0)).trans hx109_0
               have HR109_0 := am_ hi109_0
               have HC109_0 := am_ hl109_0
               clear hi109_0 hl109_0
               replace p109 := eq_true p109
               replace q109 := eq_true q109
               have ea_ := Option.some.inj (hx107_0.symm.trans hx109_0)
               injection ea_ with ea_ en_ ec_
               subst ea_
               subst ec_
               clear en_
               have p110 : 0 ≤ ((ji19) : Int) := of_decide_eq_true tc3_
               have q110 : (ji19) < ((rd_L3 l0 a1).length : Int) := of_decide_eq_true tc3_
               obtain ⟨ad110, e110, hx110_0⟩ := Kd.at_int HR109_0.out (ji19) p110 q110
               have hw110_0 := hx110_0
               cases e110
               replace hx110_0 := (HB.out.cell (World.block_lt_of_cell? w _ hx110_0)).trans hx110_0
               replace p110 := eq_true p110
               replace q110 := eq_true q110
               refine start_ (n := 34) (S := fun w' => w'.cell? (ad101.add ((ji8)).toNat) = some (.slice (some ad104) (rd_L3 l0 (ji8)).length c103_0) ∧ w'.cell? (ad104.add (a2).toNat) = some (.int .i64 (rd (rd_L3 l0 (ji8)) a2)) ∧ w'.cell? (ad101.add ((ji12)).toNat) = some (.slice (some ad106) (rd_L3 l0 (ji12)).length c105_0) ∧ w'.cell? (ad106.add (a2).toNat) = some (.int .i64 (rd (rd_L3 l0 (ji12)) a2)) ∧ w'.cell? (ad101.add (a1).toNat) = some (.slice (some ad108) (rd_L3 l0 a1).length c107_0) ∧ w'.cell? (ad108.add ((ji16)).toNat) = some (.int .i64 (rd (rd_L3 l0 a1) (ji16))) ∧ w'.cell? (ad101.add (a1).toNat) = some (.slice (some ad108) (rd_L3 l0 a1).length c107_0) ∧ w'.cell? (ad108.add ((ji19)).toNat) = some (.int .i64 (rd (rd_L3 l0 a1) (ji19)))) (ds := []) #[false, false, false, false, false, false, false, false, false, false, false, false, false, false, false, false, false, false, false, false, false, false, false, false, false, false, false, false, false, false, false, false, false, false] (by kernel_rfl) rfl rfl ⟨((HB.out.cell (World.block_lt_of_cell? w _ hw103_0)).trans hw103_0), ((HB.out.cell (World.block_lt_of_cell? w _ hw104_0)).trans hw104_0), ((HB.out.cell (World.block_lt_of_cell? w _ hw105_0)).trans hw105_0), ((HB.out.cell (World.block_lt_of_cell? w _ hw106_0)).trans hw106_0), ((HB.out.cell (World.block_lt_of_cell? w _ hw107_0)).trans hw107_0), ((HB.out.cell (World.block_lt_of_cell? w _ hw108_0)).trans hw108_0), ((HB.out.cell (World.block_lt_of_cell? w _ hw109_0)).trans hw109_0), ((HB.out.cell (World.block_lt_of_cell? w _ hw110_0)).trans hw110_0)⟩ (fun hHeld => ?_); refine with_tabW spec_heWay.tab2 spec_heWay.bits2 (fun HT_ HW_ => ?_)
               generalize w.drew = w24 at HB HR103_0 HR105_0 HR107_0 HR109_0 hx103_0 hx104_0 hx105_0 hx106_0 hx107_0 hx108_0 hx109_0 hx110_0 hHeld ⊢
               refine pure_ (i := 0) (N := some 16) (v := ?_) (a' := ?_) #[true, false, false, false, false, false, false, false, false, false, false, false, false, false, false, false, false, false, false, false, false, false, false, false, false, false, false, false, false, false, false, false, false, false] rfl rfl (any_of HT_.out (by kernel_rfl)) (fun _ _ _ h => h) (Or.inl ⟨by rfl, ?_⟩) ?_ ?_
               rotate_left
               ·intro w'
                go_simp
                with_reducible rfl
               rotate_left
               ·simp only [Act.put, List.setIfInBounds_toArray, List.set_cons_zero, List.set_cons_succ, i64_w, i32_w]
                rfl
               refine pure_ (i := 1) (N := some 17) (v := ?_) (a' := ?_) #[true, true, false, false, false, false, false, false, false, false, false, false, false, false, false, false, false, false, false, false, false, false, false, false, false, false, false, false, false, false, false, false, false, false] rfl rfl (any_of HT_.out (by kernel_rfl)) (fun _ _ _ h => h) (Or.inl ⟨by rfl, ?_⟩) ?_ ?_
               rotate_left
               ·intro w'
                go_simp
                with_reducible rfl
               rotate_left
               ·simp only [Act.put, List.setIfInBounds_toArray, List.set_cons_zero, List.set_cons_succ, i64_w, i32_w]
                rfl
               refine pure_ (i := 2) (N := some 18) (v := ?_) (a' := ?_) #[true, true, true, false, false, false, false, false, false, false, false, false, false, false, false, false, false, false, false, false, false, false, false, false, false, false, false, false, false, false, false, false, false, false] rfl rfl (any_of HT_.out (by kernel_rfl)) (fun _ _ _ h => h) (Or.inl ⟨by rfl, ?_⟩) ?_ ?_
               rotate_left
               ·intro w'
                go_simp
                with_reducible rfl
               rotate_left
               ·simp only [Act.put, List.setIfInBounds_toArray, List.set_cons_zero, List.set_cons_succ, i64_w, i32_w]
                rfl
               refine pure_ (i := 3) (N := some 19) (v := ?_) (a' := ?_) #[true, true, true, true, false, false, false, false, false, false, false, false, false, false, false, false, false, false, false, false, false, false, false, false, false, false, false, false, false, false, false, false, false, false] rfl rfl (any_of HT_.out (by kernel_rfl)) (fun _ _ _ h => h) (Or.inl ⟨by rfl, ?_⟩) ?_ ?_
               rotate_left
               ·intro w'
                go_simp
                with_reducible rfl
               rotate_left
               ·simp only [Act.put, List.setIfInBounds_toArray, List.set_cons_zero, List.set_cons_succ, i64_w, i32_w]
                rfl
               refine pure_ (i := 5) (N := some 21) (v := ?_) (a' := ?_) #[true, true, true, true, false, true, false, false, false, false, false, false, false, false, false, false, false, false, false, false, false, false, false, false, false, false, false, false, false, false, false, false, false, false] rfl rfl (any_of HT_.out (by kernel_rfl)) (fun _ _ _ h => h) (Or.inl ⟨by rfl, ?_⟩) ?_ ?_
               rotate_left
               ·intro w'
                go_simp
                with_reducible rfl
               rotate_left
               ·simp only [Act.put, List.setIfInBounds_toArray, List.set_cons_zero, List.set_cons_succ, i64_w, i32_w]
                rfl
               refine pure_ (i := 8) (N := some 24) (v := ?_) (a' := ?_) #[true, true, true, true, false, true, false, false, true, false, false, false, false, false, false, false, false, false, false, false, false, false, false, false, false, false, false, false, false, false, false, false, false, false] rfl rfl (any_of HT_.out (by kernel_rfl)) (fun _ _ _ h => h) (Or.inl ⟨by rfl, ?_⟩) ?_ ?_
               rotate_left
               ·intro w'
                go_simp
                with_reducible rfl
               rotate_left
               ·simp only [Act.put, List.setIfInBounds_toArray, List.set_cons_zero, List.set_cons_succ, i64_w, i32_w]
                rfl
               refine pure_ (i := 9) (N := some 25) (v := ?_) (a' := ?_) #[true, true, true, true, false, true, false, false, true, true, false, false, false, false, false, false, false, false, false, false, false, false, false, false, false, false, false, false, false, false, false, false, false, false] rfl rfl (any_of HT_.out (by kernel_rfl)) (fun _ _ _ h => h) (Or.inl ⟨by rfl, ?_⟩) ?_ ?_
               rotate_left
               ·intro w'
                go_simp
                with_reducible rfl
               rotate_left
               ·simp only [Act.put, List.setIfInBounds_toArray, List.set_cons_zero, List.set_cons_succ, i64_w, i32_w]
                rfl
               refine pure_ (i := 10) (N := some 26) (v := ?_) (a' := ?_) #[true, true, true, true, false, true, false, false, true, true, true, false, false, false, false, false, false, false, false, false, false, false, false, false, false, false, false, false, false, false, false, false, false, false] rfl rfl (any_of HT_.out (by kernel_rfl)) (fun _ _ _ h => h) (Or.inl ⟨by rfl, ?_⟩) ?_ ?_
               rotate_left
               ·intro w'
                go_simp
                with_reducible rfl
               rotate_left
               ·simp only [Act.put, List.setIfInBounds_toArray, List.set_cons_zero, List.set_cons_succ, i64_w, i32_w]
                rfl
               refine pure_ (i := 11) (N := some 27) (v := ?_) (a' := ?_) #[true, true, true, true, false, true, false, false, true, true, true, true, false, false, false, false, false, false, false, false, false, false, false, false, false, false, false, false, false, false, false, false, false, false] rfl rfl (any_of HT_.out (by kernel_rfl)) (fun _ _ _ h => h) (Or.inl ⟨by rfl, ?_⟩) ?_ ?_
               rotate_left
               ·intro w'
                go_simp
                with_reducible rfl
               rotate_left
               ·simp only [Act.put, List.setIfInBounds_toArray, List.set_cons_zero, List.set_cons_succ, i64_w, i32_w]
                rfl
               refine pure_ (i := 13) (N := some 29) (v := ?_) (a' := ?_) #[true, true, true, true, false, true, false, false, true, true, true, true, false, true, false, false, false, false, false, false, false, false, false, false, false, false, false, false, false, false, false, false, false, false] rfl rfl (any_of HT_.out (by kernel_rfl)) (fun _ _ _ h => h) (Or.inl ⟨by rfl, ?_⟩) ?_ ?_
               rotate_left
               ·intro w'
                go_simp
                with_reducible rfl
               rotate_left
               ·simp only [Act.put, List.setIfInBounds_toArray, List.set_cons_zero, List.set_cons_succ, i64_w, i32_w]
                rfl
               refine pure_ (i := 16) (N := some 32) (v := ?_) (a' := ?_) #[true, true, true, true, false, true, false, false, true, true, true, true, false, true, false, false, true, false, false, false, false, false, false, false, false, false, false, false, false, false, false, false, false, false] rfl rfl (any_of HT_.out (by kernel_rfl)) (fun _ _ _ h => h) (Or.inl ⟨by rfl, ?_⟩) ?_ ?_
               rotate_left
               ·intro w'
                go_simp
                with_reducible rfl
               rotate_left
               ·simp only [Act.put, List.setIfInBounds_toArray, List.set_cons_zero, List.set_cons_succ, i64_w, i32_w]
                rfl
               refine pure_ (i := 17) (N := some 33) (v := ?_) (a' := ?_) #[true, true, true, true, false, true, false, false, true, true, true, true, false, true, false, false, true, true, false, false, false, false, false, false, false, false, false, false, false, false, false, false, false, false] rfl rfl (any_of HT_.out (by kernel_rfl)) (fun _ _ _ h => h) (Or.inl ⟨by rfl, ?_⟩) ?_ ?_
               rotate_left
               ·intro w'
                go_simp
                with_reducible rfl
               rotate_left
               ·simp only [Act.put, List.setIfInBounds_toArray, List.set_cons_zero, List.set_cons_succ, i64_w, i32_w]
                rfl
               refine pure_ (i := 18) (N := some 34) (v := ?_) (a' := ?_) #[true, true, true, true, false, true, false, false, true, true, true, true, false, true, false, false, true, true, true, false, false, false, false, false, false, false, false, false, false, false, false, false, false, false] rfl rfl (any_of HT_.out (by kernel_rfl)) (fun _ _ _ h => h) (Or.inl ⟨by rfl, ?_⟩) ?_ ?_
               rotate_left
               ·intro w'
                go_simp
                with_reducible rfl
               rotate_left
               ·simp only [Act.put, List.setIfInBounds_toArray, List.set_cons_zero, List.set_cons_succ, i64_w, i32_w]
                rfl
               refine pure_ (i := 20) (N := some 36) (v := ?_) (a' := ?_) #[true, true, true, true, false, true, false, false, true, true, true, true, false, true, false, false, true, true, true, false, true, false, false, false, false, false, false, false, false, false, false, false, false, false] rfl rfl (any_of HT_.out (by kernel_rfl)) (fun _ _ _ h => h) (Or.inl ⟨by rfl, ?_⟩) ?_ ?_
               rotate_left
               ·intro w'
                go_simp
                with_reducible rfl
               rotate_left
               ·simp only [Act.put, List.setIfInBounds_toArray, List.set_cons_zero, List.set_cons_succ, i64_w, i32_w]
                rfl
               refine pure_ (i := 21) (N := some 37) (v := ?_) (a' := ?_) #[true, true, true, true, false, true, false, false, true, true, true, true, false, true, false, false, true, true, true, false, true, true, false, false, false, false, false, false, false, false, false, false, false, false] rfl rfl (any_of HT_.out (by kernel_rfl)) (fun _ _ _ h => h) (Or.inl ⟨by rfl, ?_⟩) ?_ ?_
               rotate_left
               ·intro w'
                go_simp
                with_reducible rfl
               rotate_left
               ·simp only [Act.put, List.setIfInBounds_toArray, List.set_cons_zero, List.set_cons_succ, i64_w, i32_w]
                rfl
               refine pure_ (i := 24) (N := some 40) (v := ?_) (a' := ?_) #[true, true, true, true, false, true, false, false, true, true, true, true, false, true, false, false, true, true, true, false, true, true, false, false, true, false, false, false, false, false, false, false, false, false] rfl rfl (any_of HT_.out (by kernel_rfl)) (fun _ _ _ h => h) (Or.inl ⟨by rfl, ?_⟩) ?_ ?_
               rotate_left
               ·intro w'
                go_simp
                with_reducible rfl
               rotate_left
               ·simp only [Act.put, List.setIfInBounds_toArray, List.set_cons_zero, List.set_cons_succ, i64_w, i32_w]
                rfl
               refine pure_ (i := 25) (N := some 41) (v := ?_) (a' := ?_) #[true, true, true, true, false, true, false, false, true, true, true, true, false, true, false, false, true, true, true, false, true, true, false, false, true, true, false, false, false, false, false, false, false, false] rfl rfl (any_of HT_.out (by kernel_rfl)) (fun _ _ _ h => h) (Or.inl ⟨by rfl, ?_⟩) ?_ ?_
               rotate_left
               ·intro w'
                go_simp
                with_reducible rfl
               rotate_left
               ·simp only [Act.put, List.setIfInBounds_toArray, List.set_cons_zero, List.set_cons_succ, i64_w, i32_w]
                rfl
               refine pure_ (i := 26) (N := some 42) (v := ?_) (a' := ?_) #[true, true, true, true, false, true, false, false, true, true, true, true, false, true, false, false, true, true, true, false, true, true, false, false, true, true, true, false, false, false, false, false, false, false] rfl rfl (any_of HT_.out (by kernel_rfl)) (fun _ _ _ h => h) (Or.inl ⟨by rfl, ?_⟩) ?_ ?_
               rotate_left
               ·intro w'
                go_simp
                with_reducible rfl
               rotate_left
               ·simp only [Act.put, List.setIfInBounds_toArray, List.set_cons_zero, List.set_cons_succ, i64_w, i32_w]
                rfl
               refine pure_ (i := 28) (N := some 44) (v := ?_) (a' := ?_) #[true, true, true, true, false, true, false, false, true, true, true, true, false, true, false, false, true, true, true, false, true, true, false, false, true, true, true, false, true, false, false, false, false, false] rfl rfl (any_of HT_.out (by kernel_rfl)) (fun _ _ _ h => h) (Or.inl ⟨by rfl, ?_⟩) ?_ ?_
               rotate_left
               ·intro w'
                go_simp
                with_reducible rfl
               rotate_left
               ·simp only [Act.put, List.setIfInBounds_toArray, List.set_cons_zero, List.set_cons_succ, i64_w, i32_w]
                rfl
               refine pure_ (i := 29) (N := some 45) (v := ?_) (a' := ?_) #[true, true, true, true, false, true, false, false, true, true, true, true, false, true, false, false, true, true, true, false, true, true, false, false, true, true, true, false, true, true, false, false, false, false] rfl rfl (any_of HT_.out (by kernel_rfl)) (fun _ _ _ h => h) (Or.inl ⟨by rfl, ?_⟩) ?_ ?_
               rotate_left
               ·intro w'
                go_simp
                with_reducible rfl
               rotate_left
               ·simp only [Act.put, List.setIfInBounds_toArray, List.set_cons_zero, List.set_cons_succ, i64_w, i32_w]
                rfl
               refine take_ (i := 4) (N := some 20) (v := ?_) (a' := ?_) #[true, true, true, true, true, true, false, false, true, true, true, true, false, true, false, false, true, true, true, false, true, true, false, false, true, true, true, false, true, true, false, false, false, false] rfl rfl (take_ofW HT_.out HW_.out (by kernel_rfl)) (fun _ _ _ h => h) (Or.inl ⟨by rfl, ?_⟩) hHeld ?_ ?_
               rotate_left
               ·rintro w' ⟨s0, s1, s2, s3, s4, s5, s6, s7⟩
                go_simp
                with_reducible rfl
               rotate_left
               ·simp only [Act.put, List.setIfInBounds_toArray, List.set_cons_zero, List.set_cons_succ, i64_w, i32_w]
                rfl
               refine pure_ (i := 6) (N := some 22) (v := ?_) (a' := ?_) #[true, true, true, true, true, true, true, false, true, true, true, true, false, true, false, false, true, true, true, false, true, true, false, false, true, true, true, false, true, true, false, false, false, false] rfl rfl (any_of HT_.out (by kernel_rfl)) (fun _ _ _ h => h) (Or.inl ⟨by rfl, ?_⟩) ?_ ?_
               rotate_left
               ·intro w'
                go_simp
                with_reducible rfl
               rotate_left
               ·simp only [Act.put, List.setIfInBounds_toArray, List.set_cons_zero, List.set_cons_succ, i64_w, i32_w]
                rfl
               refine take_ (i := 7) (N := some 23) (v := ?_) (a' := ?_) #[true, true, true, true, true, true, true, true, true, true, true, true, false, true, false, false, true, true, true, false, true, true, false, false, true, true, true, false, true, true, false, false, false, false] rfl rfl (take_ofW HT_.out HW_.out (by kernel_rfl)) (fun _ _ _ h => h) (Or.inl ⟨by rfl, ?_⟩) hHeld ?_ ?_
               rotate_left
               ·rintro w' ⟨s0, s1, s2, s3, s4, s5, s6, s7⟩
                go_simp
                with_reducible rfl
               rotate_left
               ·simp only [Act.put, List.setIfInBounds_toArray, List.set_cons_zero, List.set_cons_succ, i64_w, i32_w]
                rfl
               refine take_ (i := 12) (N := some 28) (v := ?_) (a' := ?_) #[true, true, true, true, true, true, true, true, true, true, true, true, true, true, false, false, true, true, true, false, true, true, false, false, true, true, true, false, true, true, false, false, false, false] rfl rfl (take_ofW HT_.out HW_.out (by kernel_rfl)) (fun _ _ _ h => h) (Or.inl ⟨by rfl, ?_⟩) hHeld ?_ ?_
               rotate_left
               ·rintro w' ⟨s0, s1, s2, s3, s4, s5, s6, s7⟩
                go_simp
                with_reducible rfl
               rotate_left
               ·simp only [Act.put, List.setIfInBounds_toArray, List.set_cons_zero, List.set_cons_succ, i64_w, i32_w]
                rfl
               refine pure_ (i := 14) (N := some 30) (v := ?_) (a' := ?_) #[true, true, true, true, true, true, true, true, true, true, true, true, true, true, true, false, true, true, true, false, true, true, false, false, true, true, true, false, true, true, false, false, false, false] rfl rfl (any_of HT_.out (by kernel_rfl)) (fun _ _ _ h => h) (Or.inl ⟨by rfl, ?_⟩) ?_ ?_
               rotate_left
               ·intro w'
                go_simp
                with_reducible rfl
               rotate_left
               ·simp only [Act.put, List.setIfInBounds_toArray, List.set_cons_zero, List.set_cons_succ, i64_w, i32_w]
                rfl
               refine take_ (i := 15) (N := some 31) (v := ?_) (a' := ?_) #[true, true, true, true, true, true, true, true, true, true, true, true, true, true, true, true, true, true, true, false, true, true, false, false, true, true, true, false, true, true, false, false, false, false] rfl rfl (take_ofW HT_.out HW_.out (by kernel_rfl)) (fun _ _ _ h => h) (Or.inl ⟨by rfl, ?_⟩) hHeld ?_ ?_
               rotate_left
               ·rintro w' ⟨s0, s1, s2, s3, s4, s5, s6, s7⟩
                go_simp
                with_reducible rfl
               rotate_left
               ·simp only [Act.put, List.setIfInBounds_toArray, List.set_cons_zero, List.set_cons_succ, i64_w, i32_w]
                rfl
               refine take_ (i := 19) (N := some 35) (v := ?_) (a' := ?_) #[true, true, true, true, true, true, true, true, true, true, true, true, true, true, true, true, true, true, true, true, true, true, false, false, true, true, true, false, true, true, false, false, false, false] rfl rfl (take_ofW HT_.out HW_.out (by kernel_rfl)) (fun _ _ _ h => h) (Or.inl ⟨by rfl, ?_⟩) hHeld ?_ ?_
               rotate_left
               ·rintro w' ⟨s0, s1, s2, s3, s4, s5, s6, s7⟩
                go_simp
                with_reducible rfl
               rotate_left
               ·simp only [Act.put, List.setIfInBounds_toArray, List.set_cons_zero, List.set_cons_succ, i64_w, i32_w]
                rfl
               refine pure_ (i := 22) (N := some 38) (v := ?_) (a' := ?_) #[true, true, true, true, true, true, true, true, true, true, true, true, true, true, true, true, true, true, true, true, true, true, true, false, true, true, true, false, true, true, false, false, false, false] rfl rfl (any_of HT_.out (by kernel_rfl)) (fun _ _ _ h => h) (Or.inl ⟨by rfl, ?_⟩) ?_ ?_
               rotate_left
               ·intro w'
                go_simp
                with_reducible rfl
               rotate_left
               ·simp only [Act.put, List.setIfInBounds_toArray, List.set_cons_zero, List.set_cons_succ, i64_w, i32_w]
                rfl
               refine take_ (i := 23) (N := some 39) (v := ?_) (a' := ?_) #[true, true, true, true, true, true, true, true, true, true, true, true, true, true, true, true, true, true, true, true, true, true, true, true, true, true, true, false, true, true, false, false, false, false] rfl rfl (take_ofW HT_.out HW_.out (by kernel_rfl)) (fun _ _ _ h => h) (Or.inl ⟨by rfl, ?_⟩) hHeld ?_ ?_
               rotate_left
               ·rintro w' ⟨s0, s1, s2, s3, s4, s5, s6, s7⟩
                go_simp
                with_reducible rfl
               rotate_left
               ·simp only [Act.put, List.setIfInBounds_toArray, List.set_cons_zero, List.set_cons_succ, i64_w, i32_w]
                rfl
               refine take_ (i := 27) (N := some 43) (v := ?_) (a' := ?_) #[true, true, true, true, true, true, true, true, true, true, true, true, true, true, true, true, true, true, true, true, true, true, true, true, true, true, true, true, true, true, false, false, false, false] rfl rfl (take_ofW HT_.out HW_.out (by kernel_rfl)) (fun _ _ _ h => h) (Or.inl ⟨by rfl, ?_⟩) hHeld ?_ ?_
               rotate_left
               ·rintro w' ⟨s0, s1, s2, s3, s4, s5, s6, s7⟩
                go_simp
                with_reducible rfl
               rotate_left
               ·simp only [Act.put, List.setIfInBounds_toArray, List.set_cons_zero, List.set_cons_succ, i64_w, i32_w]
                rfl
               refine pure_ (i := 30) (N := some 46) (v := ?_) (a' := ?_) #[true, true, true, true, true, true, true, true, true, true, true, true, true, true, true, true, true, true, true, true, true, true, true, true, true, true, true, true, true, true, true, false, false, false] rfl rfl (any_of HT_.out (by kernel_rfl)) (fun _ _ _ h => h) (Or.inl ⟨by rfl, ?_⟩) ?_ ?_
               rotate_left
               ·intro w'
                go_simp
                with_reducible rfl
               rotate_left
               ·simp only [Act.put, List.setIfInBounds_toArray, List.set_cons_zero, List.set_cons_succ, i64_w, i32_w]
                rfl
               refine take_ (i := 31) (N := some 47) (v := ?_) (a' := ?_) #[true, true, true, true, true, true, true, true, true, true, true, true, true, true, true, true, true, true, true, true, true, true, true, true, true, true, true, true, true, true, true, true, false, false] rfl rfl (take_ofW HT_.out HW_.out (by kernel_rfl)) (fun _ _ _ h => h) (Or.inl ⟨by rfl, ?_⟩) hHeld ?_ ?_
               rotate_left
               ·rintro w' ⟨s0, s1, s2, s3, s4, s5, s6, s7⟩
                go_simp
                with_reducible rfl
               rotate_left
               ·simp only [Act.put, List.setIfInBounds_toArray, List.set_cons_zero, List.set_cons_succ, i64_w, i32_w]
                rfl
               refine one_ (i := 32) (N := some 48) #[true, true, true, true, true, true, true, true, true, true, true, true, true, true, true, true, true, true, true, true, true, true, true, true, true, true, true, true, true, true, true, true, true, false] rfl rfl (one_of HT_.out (by kernel_rfl)) (by decide) (fun K hK => ?_)
               refine Kd.R_lit_step (Kd.int .i64) _ 3 ?hg (N := 48) ?hd (xs := ([rd (rd_L3 l0 (ji8)) a2, rd (rd_L3 l0 (ji12)) a2, rd (rd_L3 l0 a1) (ji16), rd (rd_L3 l0 a1) (ji19)] : List Int)) (inner := [.int .i64 (rd (rd_L3 l0 (ji8)) a2), .int .i64 (rd (rd_L3 l0 (ji12)) a2), .int .i64 (rd (rd_L3 l0 a1) (ji16)), .int .i64 (rd (rd_L3 l0 a1) (ji19))]) (ok := fun _ => True) (okp := fun _ => True) ?hr ?hp (fun _ hk => hk) trivial (Below.refl _ _) (Nat.le_refl _) (by simp) ?_; (case hd => rfl); (case hg => rfl); (case hr => exact tc38_); (case hp => exact (Reps.one (show Kd.M (Kd.int .i64) _ _ _ (rd (rd_L3 l0 (ji8)) a2) [.int .i64 (rd (rd_L3 l0 (ji8)) a2)] from rfl) (Reps.one (show Kd.M (Kd.int .i64) _ _ _ (rd (rd_L3 l0 (ji12)) a2) [.int .i64 (rd (rd_L3 l0 (ji12)) a2)] from rfl) (Reps.one (show Kd.M (Kd.int .i64) _ _ _ (rd (rd_L3 l0 a1) (ji16)) [.int .i64 (rd (rd_L3 l0 a1) (ji16))] from rfl) (Reps.one (show Kd.M (Kd.int .i64) _ _ _ (rd (rd_L3 l0 a1) (ji19)) [.int .i64 (rd (rd_L3 l0 a1) (ji19))] from rfl) (Reps.none _ _))))))
               intro v112 w25 ho26 hb hg_ hnew_
               clear hg_ hnew_
               (first | rw [← Ny111.out] at ho26 | (simp only [Int.reduceToNat] at ho26; rw [← Ny111.out] at ho26))
               have n0_ := am_ (Kd.R_lower ho26 (below_size tc1_))
               have n1_ := am_ (below_step tc1_ hb)
               clear HB
               have HO113 := n0_
               have HB := n1_
               clear n0_ n1_
               clear hb ho26
               refine hK.out _ _ ⟨((HB.out.cell (World.block_lt_of_cell? w _ hw103_0)).trans hw103_0), ((HB.out.cell (World.block_lt_of_cell? w _ hw104_0)).trans hw104_0), ((HB.out.cell (World.block_lt_of_cell? w _ hw105_0)).trans hw105_0), ((HB.out.cell (World.block_lt_of_cell? w _ hw106_0)).trans hw106_0), ((HB.out.cell (World.block_lt_of_cell? w _ hw107_0)).trans hw107_0), ((HB.out.cell (World.block_lt_of_cell? w _ hw108_0)).trans hw108_0), ((HB.out.cell (World.block_lt_of_cell? w _ hw109_0)).trans hw109_0), ((HB.out.cell (World.block_lt_of_cell? w _ hw110_0)).trans hw110_0)⟩ (fun hHeld => ?_)
               clear hK K
               refine norm_ (a' := ?_) ?_ ?_
               rotate_left
               ·show Act.put _ (some 48) _ = _
                simp only [Act.put, List.setIfInBounds_toArray, List.set_cons_zero, List.set_cons_succ, i64_w, i32_w]
                rfl
               refine pure_ (i := 33) (N := some 8) (v := ?_) (a' := ?_) #[true, true, true, true, true, true, true, true, true, true, true, true, true, true, true, true, true, true, true, true, true, true, true, true, true, true, true, true, true, true, true, true, true, true] rfl rfl (any_of HT_.out (by kernel_rfl)) (fun _ _ _ h => h) (Or.inl ⟨by rfl, ?_⟩) ?_ ?_
               rotate_left
               ·intro w'
                go_simp
                with_reducible rfl
               rotate_left
               ·simp only [Act.put, List.setIfInBounds_toArray, List.set_cons_zero, List.set_cons_succ, i64_w, i32_w]
                rfl
               refine done_ (done_of HT_.out (by kernel_rfl)) ?_
               obtain ⟨Ao27, co27, eo27⟩ := Kd.R_slice HO113.out
               subst eo27
               by_cases c23 : t114 = true
               ·subst c23
                have H1 : (some 1) = some r := by rw [if_pos rfl] at H; exact H
                clear H
                have H := H1
                clear H1
                obtain rfl := Option.some.inj H
                try go_wp2_with (first | ((with_reducible refine gate_callee (f := 163) rfl ?_); refine goesL_ (some 55) rfl rfl Try.func163 (by kernel_rfl) rfl #[.slice Ao27 y111.length co27, .int .i64 (wrap64 ((rd (rd_L3 l0 a1) a2) + 1)), .int .i64 (wrap64 ((rd (rd_L3 l0 a1) a2) + 1))] rfl tc0_ ?_; (with_reducible refine (spec_l1All.calls k _ _ y111 (wrap64 ((rd (rd_L3 l0 a1) a2) + 1)) (wrap64 ((rd (rd_L3 l0 a1) a2) + 1)) true _ ?side1 ?side2 A22.out).mono ?_); (case side1 => exact tc44_); (case side2 => exact (Kd.R_reads' HO113.out).2.1); rintro e w' ⟨rfl, ⟨nd, rfl⟩⟩; refine ⟨_, rfl, ?_⟩))
                go_ret
                exact ⟨by first | rfl | (simp [errW_none, errW_some] <;> rfl) | (simp only [← hji8, ← hji12, ← hji16, ← hji19]; first | rfl | (simp [errW_none, errW_some] <;> rfl)) | (simp [*, errW_none, errW_some] <;> rfl), by repeat (first | (with_reducible first | exact HB.out | apply below_alloc | apply pw_below_drewN | apply below_drew1) | exact HB.out)⟩
               ·replace c23 := Bool.eq_false_iff.mpr c23
                subst c23
                have H1 : ((spec_l1All.f k y111 (wrap64 ((rd (rd_L3 l0 a1) a2) - 1)) (wrap64 ((rd (rd_L3 l0 a1) a2) - 1))).bind fun t115 => (if t115 = true then (some (-1)) else (some 0))) = some r := by rw [if_neg (show ¬ (false = true) by decide)] at H; exact H
                clear H
                have H := H1
                clear H1
                replace H := Option.bind_eq_some_iff.mp H
                obtain ⟨t115, A280, H⟩ := H
                replace H : (if t115 = true then (some (-1)) else (some 0)) = some r := H
                have A28 := am_ A280
                clear A280
                by_cases c29 : t115 = true
                ·subst c29
                 have H1 : (some (-1)) = some r := by rw [if_pos rfl] at H; exact H
                 clear H
                 have H := H1
                 clear H1
                 obtain rfl := Option.some.inj H
                 try go_wp2_with (first | ((with_reducible refine gate_callee (f := 163) rfl ?_); refine goesL_ (some 55) rfl rfl Try.func163 (by kernel_rfl) rfl #[.slice Ao27 y111.length co27, .int .i64 (wrap64 ((rd (rd_L3 l0 a1) a2) + 1)), .int .i64 (wrap64 ((rd (rd_L3 l0 a1) a2) + 1))] rfl tc0_ ?_; (with_reducible refine (spec_l1All.calls k _ _ y111 (wrap64 ((rd (rd_L3 l0 a1) a2) + 1)) (wrap64 ((rd (rd_L3 l0 a1) a2) + 1)) false _ ?side1 ?side2 A22.out).mono ?_); (case side1 => exact tc44_); (case side2 => exact (Kd.R_reads' HO113.out).2.1); rintro e w' ⟨rfl, ⟨nd, rfl⟩⟩; refine ⟨_, rfl, ?_⟩) | ((with_reducible refine gate_callee (f := 163) rfl ?_); refine goesL_ (some 62) rfl rfl Try.func163 (by kernel_rfl) rfl #[.slice Ao27 y111.length co27, .int .i64 (wrap64 ((rd (rd_L3 l0 a1) a2) - 1)), .int .i64 (wrap64 ((rd (rd_L3 l0 a1) a2) - 1))] rfl tc0_ ?_; (with_reducible refine (spec_l1All.calls k _ _ y111 (wrap64 ((rd (rd_L3 l0 a1) a2) - 1)) (wrap64 ((rd (rd_L3 l0 a1) a2) - 1)) true _ ?side1 ?side2 A28.out).mono ?_); (case side1 => exact tc44_); (case side2 => exact (Kd.R_reads' HO113.out).2.1); rintro e w' ⟨rfl, ⟨nd, rfl⟩⟩; refine ⟨_, rfl, ?_⟩))
                 go_ret
                 exact ⟨by first | rfl | (simp [errW_none, errW_some] <;> rfl) | (simp only [← hji8, ← hji12, ← hji16, ← hji19]; first | rfl | (simp [errW_none, errW_some] <;> rfl)) | (simp [*, errW_none, errW_some] <;> rfl), by repeat (first | (with_reducible first | exact HB.out | apply below_alloc | apply pw_below_drewN | apply below_drew1) | exact HB.out)⟩
                ·replace c29 := Bool.eq_false_iff.mpr c29
                 subst c29
                 have H1 : (some 0) = some r := by rw [if_neg (show ¬ (false = true) by decide)] at H; exact H
                 clear H
                 have H := H1
                 clear H1
                 obtain rfl := Option.some.inj H
                 try go_wp2_with (first | ((with_reducible refine gate_callee (f := 163) rfl ?_); refine goesL_ (some 55) rfl rfl Try.func163 (by kernel_rfl) rfl #[.slice Ao27 y111.length co27, .int .i64 (wrap64 ((rd (rd_L3 l0 a1) a2) + 1)), .int .i64 (wrap64 ((rd (rd_L3 l0 a1) a2) + 1))] rfl tc0_ ?_; (with_reducible refine (spec_l1All.calls k _ _ y111 (wrap64 ((rd (rd_L3 l0 a1) a2) + 1)) (wrap64 ((rd (rd_L3 l0 a1) a2) + 1)) false _ ?side1 ?side2 A22.out).mono ?_); (case side1 => exact tc44_); (case side2 => exact (Kd.R_reads' HO113.out).2.1); rintro e w' ⟨rfl, ⟨nd, rfl⟩⟩; refine ⟨_, rfl, ?_⟩) | ((with_reducible refine gate_callee (f := 163) rfl ?_); refine goesL_ (some 62) rfl rfl Try.func163 (by kernel_rfl) rfl #[.slice Ao27 y111.length co27, .int .i64 (wrap64 ((rd (rd_L3 l0 a1) a2) - 1)), .int .i64 (wrap64 ((rd (rd_L3 l0 a1) a2) - 1))] rfl tc0_ ?_; (with_reducible refine (spec_l1All.calls k _ _ y111 (wrap64 ((rd (rd_L3 l0 a1) a2) - 1)) (wrap64 ((rd (rd_L3 l0 a1) a2) - 1)) false _ ?side1 ?side2 A28.out).mono ?_); (case side1 => exact tc44_); (case side2 => exact (Kd.R_reads' HO113.out).2.1); rintro e w' ⟨rfl, ⟨nd, rfl⟩⟩; refine ⟨_, rfl, ?_⟩))
                 go_ret
                 exact ⟨by first | rfl | (simp [errW_none, errW_some] <;> rfl) | (simp only [← hji8, ← hji12, ← hji16, ← hji19]; first | rfl | (simp [errW_none, errW_some] <;> rfl)) | (simp [*, errW_none, errW_some] <;> rfl), by repeat (first | (with_reducible first | exact HB.out | apply below_alloc | apply pw_below_drewN | apply below_drew1) | exact HB.out)⟩
              ·rw [if_neg c21] at H
               exact absurd H (by simp)
             ·rw [if_neg c20] at H
              exact absurd H (by simp)
            ·rw [if_neg c18] at H
             exact absurd H (by simp)
           ·rw [if_neg c17] at H
            exact absurd H (by simp)
          ·rw [if_neg c15] at H
           exact absurd H (by simp)
         ·rw [if_neg c14] at H
          exact absurd H (by simp)
        ·rw [if_neg c13] at H
         exact absurd H (by simp)
       ·rw [if_neg c11] at H
        exact absurd H (by simp)
      ·rw [if_neg c10] at H
       exact absurd H (by simp)
     ·rw [if_neg c9] at H
      exact absurd H (by simp)
    ·rw [if_neg c7] at H
     exact absurd H (by simp)
   ·rw [if_neg c6] at H
    exact absurd H (by simp)
  ·rw [if_neg c5] at H
   exact absurd H (by simp)
 ·rw [if_neg c4] at H
  exact absurd H (by simp)

/-! ### spec_heFlips: function 167 -/
mutual
def spec_heFlips.l0 : Nat → List (List Int) → Int → List (List Int) → Int → Option ((List (List Int)))
 | 0, _, _, _, _ => none
 | k + 1, x0, x1, x5, x6 => if x6 < (wrap64 ((x0.length : Int) - 1)) then (spec_heFlips.l1 k x0 x1 x5 x6 1) else (some x5)
def spec_heFlips.l1 : Nat → List (List Int) → Int → List (List Int) → Int → Int → Option ((List (List Int)))
 | 0, _, _, _, _, _ => none
 | k + 1, x0, x1, x5, x6, x7 => if x7 < (wrap64 ((x0.length : Int) - 1)) then ((spec_heWay.f k x0 x6 x7).bind fun t101 => (if t101 = x1 then (if x5.length < 5864062014805 then (spec_heFlips.l1 k x0 x1 (x5 ++ [(([x6, x7] : List Int))]) x6 (wrap64 (x7 + 1))) else (none)) else (spec_heFlips.l1 k x0 x1 x5 x6 (wrap64 (x7 + 1))))) else (spec_heFlips.l0 k x0 x1 x5 (wrap64 (x6 + 1)))
end
def spec_heFlips.f (k : Nat) (l0 : List (List Int)) (a1 : Int) : Option ((List (List Int))) := spec_heFlips.l0 k l0 a1 ([] : List (List Int)) 1
set_option maxHeartbeats 8000000 in
set_option maxRecDepth 100000 in
theorem spec_heFlips.calls (k : Nat) (A0 : Option Addr) (c0 : Nat) (l0 : List (List Int)) (a1 : Int) (r : List (List Int)) (w : World) (hr0 : Kd.C (Kd.slice 3 (Kd.int .i64)) w A0 l0.length l0) (hc0 : l0.length ≤ c0) (h : spec_heFlips.f k l0 a1 = some r) :
  Calls Try.prog 167 #[.slice A0 l0.length c0, .int .i64 a1] w fun e w' => ∃ v0_ : Value, e = .returned (v0_) ∧ Kd.S (Kd.slice 3 (Kd.int .i64)) 35 w' w.heap.size (fun _ => True) v0_ r ∧ Below w.heap.size w w' := by
 have HR0 := am_ hr0
 have HC0 := am_ hc0
 clear hr0 hc0
 have HB := am_ (Below.refl w.heap.size w)
 have H : (spec_heFlips.l0 k l0 a1 ([] : List (List Int)) 1) = some r := h
 clear h
 have H' := am_ H
 clear H
 go_enter Try.func167, Try.ntmps167
 go_wp2
 go_loopg [5, 6] k (fun kq v5 v6 w' => ∃ (x5_1 : List (List Int)) (x6_1 : Int), v6 = .int .i64 x6_1 ∧ Aside0 (spec_heFlips.l0 kq l0 a1 x5_1 x6_1 = some r) ∧ Aside0 (kq ≤ k) ∧ Aside0 (Kd.S (Kd.slice 3 (Kd.int .i64)) 35 w' w.heap.size (fun _ => True) v5 x5_1) ∧ Aside0 (Below w.heap.size w w'))
 case atStart => exact ⟨(([] : List (List Int))), (1), tc8_, H', ⟨Nat.le_refl _⟩, ⟨by first | exact Kd.S_nil _ _ _ _ _ | exact Kd.N_nil _ _ _ _ _ | exact Kd.V_nil _ _ _ _ _ | exact Kd.Q_nil _ _ _ _ _ | exact Kd.R_nil _ _ _ _ _⟩, ⟨by repeat (first | (with_reducible first | exact HB.out | apply below_alloc | apply pw_below_drewN | apply below_drew1) | exact HB.out)⟩⟩
 case round =>
  clear H'
  try clear c1
  try clear p2
  obtain ⟨x5_1, x6_1, rfl, HA, HK1, HO_5, HB⟩ := hrel
  cases gk with
  | zero => exact absurd HA.out (by simp [spec_heFlips.l0])
  | succ k1 =>
   have H := HA.out
   clear HA
   simp only [spec_heFlips.l0] at H
   by_cases c3 : x6_1 < (wrap64 ((l0.length : Int) - 1))
   ·rw [if_pos c3] at H
    have c3b0 : decide (x6_1 < (wrap64 ((l0.length : Int) - 1))) = true := decide_eq_true c3
    clear c3
    have H' := am_ H
    clear H
    go_wp2
    go_loopg [5, 7] k1 (fun kq v5 v7 w' => ∃ (x5_2 : List (List Int)) (x7_2 : Int), v7 = .int .i64 x7_2 ∧ Aside0 (spec_heFlips.l1 kq l0 a1 x5_2 x6_1 x7_2 = some r) ∧ Aside0 (kq ≤ k1) ∧ Aside0 (Kd.S (Kd.slice 3 (Kd.int .i64)) 35 w' w.heap.size (fun _ => True) v5 x5_2) ∧ Aside0 (Below w.heap.size w w'))
    case atStart => exact ⟨(x5_1), (1), tc8_, H', ⟨Nat.le_refl _⟩, ⟨by (with_reducible repeat (first | apply Kd.S_alloc | apply Kd.S_drewN | apply Kd.S_drew)); exact HO_5.out⟩, ⟨by repeat (first | (with_reducible first | exact HB.out | apply below_alloc | apply pw_below_drewN | apply below_drew1) | exact HB.out)⟩⟩
    case round =>
     clear H'
     try clear c1
     try clear p2
     try clear c3
     try clear c3b0
     try clear p2
     obtain ⟨x5_2, x7_2, rfl, HA, HK2, HO_5, HB⟩ := hrel
     cases gk with
     | zero => exact absurd HA.out (by simp [spec_heFlips.l1])
     | succ k2 =>
      have H := HA.out
      clear HA
      simp only [spec_heFlips.l1] at H
      by_cases c4 : x7_2 < (wrap64 ((l0.length : Int) - 1))
      ·rw [if_pos c4] at H
       have c4b0 : decide (x7_2 < (wrap64 ((l0.length : Int) - 1))) = true := decide_eq_true c4
       clear c4
       replace H := Option.bind_eq_some_iff.mp H
       obtain ⟨t101, A50, H⟩ := H
       replace H : (if t101 = a1 then (if x5_2.length < 5864062014805 then (spec_heFlips.l1 k2 l0 a1 (x5_2 ++ [(([x6_1, x7_2] : List Int))]) x6_1 (wrap64 (x7_2 + 1))) else (none)) else (spec_heFlips.l1 k2 l0 a1 x5_2 x6_1 (wrap64 (x7_2 + 1)))) = some r := H
       have A5 := am_ A50
       clear A50
       by_cases c6 : t101 = a1
       ·rw [if_pos c6] at H
        have c6b0 : (t101 == a1) = true := beq_iff_eq.mpr c6
        have c6b1 : (t101 != a1) = false := bne_eq_false_iff_eq.mpr c6
        clear c6
        obtain ⟨y102, hy102⟩ : ∃ y_ : List Int, y_ = (([x6_1, x7_2] : List Int)) := ⟨_, rfl⟩
        replace H : (if x5_2.length < 5864062014805 then (spec_heFlips.l1 k2 l0 a1 (x5_2 ++ [y102]) x6_1 (wrap64 (x7_2 + 1))) else (none)) = some r := by first | (rw [hy102]; with_reducible exact H) | (have H2_ := (Option.bind_some _ _).symm.trans H; rw [hy102]; with_reducible exact H2_) | (have H2_ := (Option.bind_some _ _).symm.trans H; with_reducible exact H2_) | with_reducible exact H | (rw [hy102]; exact H) | exact H
        have Ny102 := am_ hy102
        clear hy102
        by_cases c7 : x5_2.length < 5864062014805
        ·rw [if_pos c7] at H
         have LMc7 := am_ c7
         clear c7
         obtain ⟨y105, hy105⟩ : ∃ y_ : List (List Int), y_ = (x5_2 ++ [y102]) := ⟨_, rfl⟩
         replace H : (spec_heFlips.l1 k2 l0 a1 y105 x6_1 (wrap64 (x7_2 + 1))) = some r := by first | (rw [hy105]; with_reducible exact H) | (have H2_ := (Option.bind_some _ _).symm.trans H; rw [hy105]; with_reducible exact H2_) | (have H2_ := (Option.bind_some _ _).symm.trans H; with_reducible exact H2_) | with_reducible exact H | (rw [hy105]; exact H) | exact H
         have Ny105 := am_ hy105
         clear hy105
         have H' := am_ H
         clear H
         go_wp2_with (first | ((with_reducible refine gate_callee (f := 195) rfl ?_); refine goesL_ (some 25) rfl rfl Try.func195 (by kernel_rfl) rfl #[.slice A0 l0.length c0, .int .i64 x6_1, .int .i64 x7_2] rfl tc0_ ?_; (with_reducible refine (spec_heWay.calls k2 _ _ l0 x6_1 x7_2 t101 _ ?side1 ?side2 A5.out).mono ?_); (case side1 => exact tc10_); (case side2 => exact HC0.out); rintro e w8 ⟨rfl, hb⟩; refine ⟨_, rfl, ?_⟩; have n0_ := am_ (Kd.S_below tc16_ hb); have n1_ := am_ (below_step tc1_ hb); clear HO_5 HB; have HO_5 := n0_; have HB := n1_; clear n0_ n1_; (try clear hb)) | ((with_reducible refine gate_dst (N := 31) rfl ?_); refine Kd.R_lit (Kd.int .i64) _ 3 ?hg (N := 31) ?hd (xs := ([x6_1, x7_2] : List Int)) (inner := [.int .i64 x6_1, .int .i64 x7_2]) (ok := fun _ => True) (okp := fun _ => True) ?hr ?hp (fun _ hk => hk) trivial (Below.refl _ _) (Nat.le_refl _) (by simp) ?_; (case hd => rfl); (case hg => rfl); (case hr => exact tc38_); (case hp => exact (Reps.one (show Kd.M (Kd.int .i64) _ _ _ x6_1 [.int .i64 x6_1] from rfl) (Reps.one (show Kd.M (Kd.int .i64) _ _ _ x7_2 [.int .i64 x7_2] from rfl) (Reps.none _ _)))); intro v103 w9 ho10 hb hg_ hnew_; clear hg_ hnew_; (first | rw [← Ny102.out] at ho10 | (simp only [Int.reduceToNat] at ho10; rw [← Ny102.out] at ho10)); have n0_ := am_ (Kd.S_elder' tc16_ (Kd.R_base ho10) hb); have n1_ := am_ (Kd.R_lower ho10 (below_size tc1_)); have n2_ := am_ (below_step tc1_ hb); clear HO_5 HB; have HO_5 := n0_; have HO104 := n1_; have HB := n2_; clear n0_ n1_ n2_; clear hb ho10; obtain ⟨Ao12, co12, eo12⟩ := Kd.R_slice HO104.out; subst eo12) | ((with_reducible refine gate_builtin (b := .append) (xs := #[.tmp 28, .tmp 32]) rfl ?_); at_builtin; refine Kd.S_append (Kd.slice 3 (Kd.int .i64)) (w0 := w) w.heap.size rfl (.tmp 28) (.tmp 32) 24 35 (.slice none 0 0) 24 rfl Try.underlying24 info35 rfl (by decide) (by omega) u5 x5_2 y102 [.slice Ao12 y102.length co12] (fun _ => True) (fun k_ => some k_ = (.slice Ao12 y102.length co12 : Value).ownBlock) rfl rfl ?aP (fun k_ hk_ => ((Kd.R_mono (ok' := fun k_ => ((fun _ => True)) k_ ∧ some k_ ≠ (u5 : Value).ownBlock) (Kd.R_apart' (HO104.out) (Kd.S_typed HO_5.out) (by decide)) (fun k_ hk => ⟨trivial, hk.2⟩))).1 k_ hk_.symm) ?aF ?aO ?aB ?aS ?aL ?_; (case aP => exact Kd.M_row (Kd.R_mono (Kd.R_tight rfl (Kd.R_mono (ok' := fun k_ => ((fun _ => True)) k_ ∧ some k_ ≠ (u5 : Value).ownBlock) (Kd.R_apart' (HO104.out) (Kd.S_typed HO_5.out) (by decide)) (fun k_ hk => ⟨trivial, hk.2⟩))) (fun _ h_ => h_))); (case aB => exact tc22_); (case aF => exact (fun _ _ => trivial)); (case aO => exact (by (with_reducible repeat (first | apply Kd.S_alloc | apply Kd.S_drewN | apply Kd.S_drew)); exact Kd.S_mono HO_5.out (fun k_ hk => ⟨trivial, fun e_ => hk.2 e_⟩))); (case aS => exact tc37_); (case aL => have := LMc7.out; omega); intro v106 w11 ho hb hg hat; rw [← Ny105.out] at ho; have n0_ := am_ (hb); have n1_ := am_ (ho); clear HB HO_5 HO104; have HB := n0_; have HO107 := n1_; clear n0_ n1_; clear ho hb hg hat))
         go_roundg k2
         case measure => have := HK1.out; have := HK2.out; omega
         case rel => exact ⟨(y105), (wrap64 (x7_2 + 1)), tc8_, H', ⟨by have := HK1.out; have := HK2.out; omega⟩, ⟨by (with_reducible repeat (first | apply Kd.S_alloc | apply Kd.S_drewN | apply Kd.S_drew)); exact HO107.out⟩, ⟨by repeat (first | (with_reducible first | exact HB.out | apply below_alloc | apply pw_below_drewN | apply below_drew1) | exact HB.out)⟩⟩
        ·rw [if_neg c7] at H
         exact absurd H (by simp)
       ·rw [if_neg c6] at H
        have c6b0 : (t101 == a1) = false := beq_eq_false_iff_ne.mpr c6
        have c6b1 : (t101 != a1) = true := bne_iff_ne.mpr c6
        have H' := am_ H
        clear H
        go_wp2_with (first | ((with_reducible refine gate_callee (f := 195) rfl ?_); refine goesL_ (some 25) rfl rfl Try.func195 (by kernel_rfl) rfl #[.slice A0 l0.length c0, .int .i64 x6_1, .int .i64 x7_2] rfl tc0_ ?_; (with_reducible refine (spec_heWay.calls k2 _ _ l0 x6_1 x7_2 t101 _ ?side1 ?side2 A5.out).mono ?_); (case side1 => exact tc10_); (case side2 => exact HC0.out); rintro e w13 ⟨rfl, hb⟩; refine ⟨_, rfl, ?_⟩; have n0_ := am_ (Kd.S_below tc16_ hb); have n1_ := am_ (below_step tc1_ hb); clear HO_5 HB; have HO_5 := n0_; have HB := n1_; clear n0_ n1_; (try clear hb)))
        go_roundg k2
        case measure => have := HK1.out; have := HK2.out; omega
        case rel => exact ⟨(x5_2), (wrap64 (x7_2 + 1)), tc8_, H', ⟨by have := HK1.out; have := HK2.out; omega⟩, ⟨by (with_reducible repeat (first | apply Kd.S_alloc | apply Kd.S_drewN | apply Kd.S_drew)); exact HO_5.out⟩, ⟨by repeat (first | (with_reducible first | exact HB.out | apply below_alloc | apply pw_below_drewN | apply below_drew1) | exact HB.out)⟩⟩
      ·rw [if_neg c4] at H
       have c4b0 : decide (x7_2 < (wrap64 ((l0.length : Int) - 1))) = false := decide_eq_false c4
       clear c4
       have H' := am_ H
       clear H
       go_wp2
       go_roundg k2
       case measure => have := HK1.out; have := HK2.out; omega
       case rel => exact ⟨(x5_2), (wrap64 (x6_1 + 1)), tc8_, H', ⟨by have := HK1.out; have := HK2.out; omega⟩, ⟨by (with_reducible repeat (first | apply Kd.S_alloc | apply Kd.S_drewN | apply Kd.S_drew)); exact HO_5.out⟩, ⟨by repeat (first | (with_reducible first | exact HB.out | apply below_alloc | apply pw_below_drewN | apply below_drew1) | exact HB.out)⟩⟩
   ·rw [if_neg c3] at H
    have c3b0 : decide (x6_1 < (wrap64 ((l0.length : Int) - 1))) = false := decide_eq_false c3
    clear c3
    obtain rfl := Option.some.inj H
    go_wp2
    go_ret
    exact ⟨_, by first | rfl | (simp [errW_none, errW_some] <;> rfl) | (simp [*, errW_none, errW_some] <;> rfl), by (with_reducible repeat (first | apply Kd.S_alloc | apply Kd.S_drewN | apply Kd.S_drew)); exact HO_5.out, by repeat (first | (with_reducible first | exact HB.out | apply below_alloc | apply pw_below_drewN | apply below_drew1) | exact HB.out)⟩

/-! ### spec_heCell: function 196 -/
def spec_heCell.f (a0 : Int) (a1 : Int) (a2 : Int) : Option (Bool) := (spec_l1In.f a1 1 (wrap64 (a0 - 1))).bind fun t101 => (if t101 = true then ((spec_l1In.f a2 1 (wrap64 (a0 - 1))).bind fun t102 => (some t102)) else (some false))
set_option maxHeartbeats 8000000 in
set_option maxRecDepth 100000 in
theorem spec_heCell.calls (a0 : Int) (a1 : Int) (a2 : Int) (r : Bool) (w : World) (h : spec_heCell.f a0 a1 a2 = some r) :
  Calls Try.prog 196 #[.int .i64 a0, .int .i64 a1, .int .i64 a2] w fun e w' => e = .returned (.bool r) ∧ Drawn0 w w' := by
 have H : ((spec_l1In.f a1 1 (wrap64 (a0 - 1))).bind fun t101 => (if t101 = true then ((spec_l1In.f a2 1 (wrap64 (a0 - 1))).bind fun t102 => (some t102)) else (some false))) = some r := h
 clear h
 replace H := Option.bind_eq_some_iff.mp H
 obtain ⟨t101, A40, H⟩ := H
 replace H : (if t101 = true then ((spec_l1In.f a2 1 (wrap64 (a0 - 1))).bind fun t102 => (some t102)) else (some false)) = some r := H
 have A4 := am_ A40
 clear A40
 by_cases c5 : t101 = true
 ·subst c5
  have H1 : ((spec_l1In.f a2 1 (wrap64 (a0 - 1))).bind fun t102 => (some t102)) = some r := by rw [if_pos rfl] at H; exact H
  clear H
  have H := H1
  clear H1
  replace H := Option.bind_eq_some_iff.mp H
  obtain ⟨t102, A60, H⟩ := H
  replace H : (some t102) = some r := H
  have A6 := am_ A60
  clear A60
  obtain rfl := Option.some.inj H
  go_enter Try.func196, Try.ntmps196
  go_wp2_with (first | ((with_reducible refine gate_callee (f := 112) rfl ?_); refine goesL_ (some 10) rfl rfl Try.func112 (by kernel_rfl) rfl #[.int .i64 a1, .int .i64 1, .int .i64 (wrap64 (a0 - 1))] rfl tc0_ ?_; (with_reducible refine (spec_l1In.calls a1 1 (wrap64 (a0 - 1)) true _ A4.out).mono ?_); rintro e w' ⟨rfl, ⟨nd, rfl⟩⟩; refine ⟨_, rfl, ?_⟩) | (go_at_call 112; (with_reducible refine (spec_l1In.calls a2 1 (wrap64 (a0 - 1)) t102 _ A6.out).mono ?_); rintro e w' ⟨rfl, ⟨nd, rfl⟩⟩))
  go_ret
  exact ⟨by first | rfl | (simp; done) | (simp [*]; done), by repeat (first | exact Drawn0.refl _ | apply Drawn0.step)⟩
 ·replace c5 := Bool.eq_false_iff.mpr c5
  subst c5
  have H1 : (some false) = some r := by rw [if_neg (show ¬ (false = true) by decide)] at H; exact H
  clear H
  have H := H1
  clear H1
  obtain rfl := Option.some.inj H
  go_enter Try.func196, Try.ntmps196
  go_wp2_with (first | ((with_reducible refine gate_callee (f := 112) rfl ?_); refine goesL_ (some 10) rfl rfl Try.func112 (by kernel_rfl) rfl #[.int .i64 a1, .int .i64 1, .int .i64 (wrap64 (a0 - 1))] rfl tc0_ ?_; (with_reducible refine (spec_l1In.calls a1 1 (wrap64 (a0 - 1)) false _ A4.out).mono ?_); rintro e w' ⟨rfl, ⟨nd, rfl⟩⟩; refine ⟨_, rfl, ?_⟩))
  go_ret
  exact ⟨by first | rfl | (simp; done) | (simp [*]; done), by repeat (first | exact Drawn0.refl _ | apply Drawn0.step)⟩

/-! ### spec_FlipAt: function 168 -/
def spec_FlipAt.j0 : Nat → List (List Int) → Int → Int → Bool → Option ((List (List Int)) × Bool)
 | 0, _, _, _, _ => none
 | k + 1, x0, x1, x2, x20 => if x20 = true then (some (([] : List (List Int)), false)) else ((spec_heOf.f k x0).bind fun t103 => ((spec_heWay.f k t103 x1 x2).bind fun t106 => (if t106 = 0 then (some (([] : List (List Int)), false)) else (if 0 ≤ x1 then (if x1 < (t103.length : Int) then (if 0 ≤ x2 then (if x2 < ((rd_L3 t103 x1).length : Int) then ((spec_heFrom.f k (t103.set (x1 : Int).toNat ((rd_L3 t103 x1).set (x2 : Int).toNat (wrap64 ((rd (rd_L3 t103 x1) x2) + (wrap64 (2 * t106))))))).bind fun t112 => (some (t112, true))) else (none)) else (none)) else (none)) else (none)))))
def spec_FlipAt.f (k : Nat) (l0 : List (List Int)) (a1 : Int) (a2 : Int) : Option ((List (List Int)) × Bool) := (spec_sgGood.f k l0).bind fun t101 => (if t101 = true then ((spec_heCell.f (l0.length : Int) a1 a2).bind fun t102 => (spec_FlipAt.j0 k l0 a1 a2 (!t102))) else (spec_FlipAt.j0 k l0 a1 a2 true))
set_option maxHeartbeats 8000000 in
set_option maxRecDepth 100000 in
theorem spec_FlipAt.calls (k : Nat) (A0 : Option Addr) (c0 : Nat) (l0 : List (List Int)) (a1 : Int) (a2 : Int) (r1 : List (List Int)) (r2 : Bool) (w : World) (hr0 : Kd.C (Kd.slice 3 (Kd.int .i64)) w A0 l0.length l0) (hc0 : l0.length ≤ c0) (h : spec_FlipAt.f k l0 a1 a2 = some (r1, r2)) :
  Calls Try.prog 168 #[.slice A0 l0.length c0, .int .i64 a1, .int .i64 a2] w fun e w' => ∃ v0_ : Value, e = .returned (.tuple #[v0_, .bool r2]) ∧ Kd.S (Kd.slice 3 (Kd.int .i64)) 35 w' w.heap.size (fun _ => True) v0_ r1 ∧ Below w.heap.size w w' := by
 have HR0 := am_ hr0
 have HC0 := am_ hc0
 clear hr0 hc0
 have HB := am_ (Below.refl w.heap.size w)
 have H : ((spec_sgGood.f k l0).bind fun t101 => (if t101 = true then ((spec_heCell.f (l0.length : Int) a1 a2).bind fun t102 => (spec_FlipAt.j0 k l0 a1 a2 (!t102))) else (spec_FlipAt.j0 k l0 a1 a2 true))) = some (r1, r2) := h
 clear h
 have HC4 := am_ H
 clear H
 go_enter Try.func168, Try.ntmps168
 go_upto_region 1 with (fail)
 go_cut [20] (fun v20 wc => ∃ (kq : Nat) (x20_3 : Bool), v20 = .bool x20_3 ∧ Aside0 (spec_FlipAt.j0 kq l0 a1 a2 x20_3 = some (r1, r2)) ∧ Aside0 (kq ≤ k) ∧ Aside0 (Below w.heap.size w wc))
 case first =>
  have H := HC4.out
  clear HC4
  replace H := Option.bind_eq_some_iff.mp H
  obtain ⟨t101, A50, H⟩ := H
  replace H : (if t101 = true then ((spec_heCell.f (l0.length : Int) a1 a2).bind fun t102 => (spec_FlipAt.j0 k l0 a1 a2 (!t102))) else (spec_FlipAt.j0 k l0 a1 a2 true)) = some (r1, r2) := H
  have A5 := am_ A50
  clear A50
  by_cases c6 : t101 = true
  ·subst c6
   have H1 : ((spec_heCell.f (l0.length : Int) a1 a2).bind fun t102 => (spec_FlipAt.j0 k l0 a1 a2 (!t102))) = some (r1, r2) := by rw [if_pos rfl] at H; exact H
   clear H
   have H := H1
   clear H1
   replace H := Option.bind_eq_some_iff.mp H
   obtain ⟨t102, A70, H⟩ := H
   replace H : (spec_FlipAt.j0 k l0 a1 a2 (!t102)) = some (r1, r2) := H
   have A7 := am_ A70
   clear A70
   have H' := am_ H
   clear H
   go_wp2_with (first | ((with_reducible refine gate_callee (f := 67) rfl ?_); refine goesL_ (some 11) rfl rfl Try.func67 (by kernel_rfl) rfl #[.slice A0 l0.length c0] rfl tc0_ ?_; (with_reducible refine (spec_sgGood.calls k _ _ l0 true _ ?side1 ?side2 A5.out).mono ?_); (case side1 => exact tc10_); (case side2 => exact HC0.out); rintro e w8 ⟨rfl, hb⟩; refine ⟨_, rfl, ?_⟩; have n0_ := am_ (below_step tc1_ hb); clear HB; have HB := n0_; clear n0_; (try clear hb)) | (go_at_call 196; (with_reducible refine (spec_heCell.calls (l0.length : Int) a1 a2 t102 _ A7.out).mono ?_); rintro e w' ⟨rfl, ⟨nd, rfl⟩⟩))
   go_meet
   case rel => exact ⟨_, (!t102), tc8_, H', ⟨by first | omega | exact Nat.le_refl _⟩, ⟨by repeat (first | (with_reducible first | exact HB.out | apply below_alloc | apply pw_below_drewN | apply below_drew1) | exact HB.out)⟩⟩
  ·replace c6 := Bool.eq_false_iff.mpr c6
   subst c6
   have H1 : (spec_FlipAt.j0 k l0 a1 a2 true) = some (r1, r2) := by rw [if_neg (show ¬ (false = true) by decide)] at H; exact H
   clear H
   have H := H1
   clear H1
   have H' := am_ H
   clear H
   go_wp2_with (first | ((with_reducible refine gate_callee (f := 67) rfl ?_); refine goesL_ (some 11) rfl rfl Try.func67 (by kernel_rfl) rfl #[.slice A0 l0.length c0] rfl tc0_ ?_; (with_reducible refine (spec_sgGood.calls k _ _ l0 false _ ?side1 ?side2 A5.out).mono ?_); (case side1 => exact tc10_); (case side2 => exact HC0.out); rintro e w9 ⟨rfl, hb⟩; refine ⟨_, rfl, ?_⟩; have n0_ := am_ (below_step tc1_ hb); clear HB; have HB := n0_; clear n0_; (try clear hb)))
   go_meet
   case rel => exact ⟨_, (true), tc8_, H', ⟨by first | omega | exact Nat.le_refl _⟩, ⟨by repeat (first | (with_reducible first | exact HB.out | apply below_alloc | apply pw_below_drewN | apply below_drew1) | exact HB.out)⟩⟩
 case rest =>
  clear HC4
  try clear c1
  try clear p2
  try clear c6
  obtain ⟨kq, x20_3, rfl, HA, HJ3, HB⟩ := hcut
  cases kq with
  | zero => exact absurd HA.out (by simp [spec_FlipAt.j0])
  | succ kj3 =>
   have H := HA.out
   clear HA
   simp only [spec_FlipAt.j0] at H
   by_cases c10 : x20_3 = true
   ·subst c10
    have H1 : (some (([] : List (List Int)), false)) = some (r1, r2) := by rw [if_pos rfl] at H; exact H
    clear H
    have H := H1
    clear H1
    simp only [Option.some.injEq, Prod.mk.injEq] at H
    obtain ⟨rfl, rfl⟩ := H
    go_wp2
    go_ret2
    exact ⟨_, by first | rfl | (simp [errW_none, errW_some] <;> rfl) | (simp [*, errW_none, errW_some] <;> rfl), by first | exact Kd.S_nil _ _ _ _ _ | exact Kd.N_nil _ _ _ _ _ | exact Kd.V_nil _ _ _ _ _ | exact Kd.Q_nil _ _ _ _ _ | exact Kd.R_nil _ _ _ _ _, by repeat (first | (with_reducible first | exact HB.out | apply below_alloc | apply pw_below_drewN | apply below_drew1) | exact HB.out)⟩
   ·replace c10 := Bool.eq_false_iff.mpr c10
    subst c10
    have H1 : ((spec_heOf.f kj3 l0).bind fun t103 => ((spec_heWay.f kj3 t103 a1 a2).bind fun t106 => (if t106 = 0 then (some (([] : List (List Int)), false)) else (if 0 ≤ a1 then (if a1 < (t103.length : Int) then (if 0 ≤ a2 then (if a2 < ((rd_L3 t103 a1).length : Int) then ((spec_heFrom.f kj3 (t103.set (a1 : Int).toNat ((rd_L3 t103 a1).set (a2 : Int).toNat (wrap64 ((rd (rd_L3 t103 a1) a2) + (wrap64 (2 * t106))))))).bind fun t112 => (some (t112, true))) else (none)) else (none)) else (none)) else (none))))) = some (r1, r2) := by rw [if_neg (show ¬ (false = true) by decide)] at H; exact H
    clear H
    have H := H1
    clear H1
    replace H := Option.bind_eq_some_iff.mp H
    obtain ⟨t103, A110, H⟩ := H
    replace H : ((spec_heWay.f kj3 t103 a1 a2).bind fun t106 => (if t106 = 0 then (some (([] : List (List Int)), false)) else (if 0 ≤ a1 then (if a1 < (t103.length : Int) then (if 0 ≤ a2 then (if a2 < ((rd_L3 t103 a1).length : Int) then ((spec_heFrom.f kj3 (t103.set (a1 : Int).toNat ((rd_L3 t103 a1).set (a2 : Int).toNat (wrap64 ((rd (rd_L3 t103 a1) a2) + (wrap64 (2 * t106))))))).bind fun t112 => (some (t112, true))) else (none)) else (none)) else (none)) else (none)))) = some (r1, r2) := H
    have A11 := am_ A110
    clear A110
    replace H := Option.bind_eq_some_iff.mp H
    obtain ⟨t106, A120, H⟩ := H
    replace H : (if t106 = 0 then (some (([] : List (List Int)), false)) else (if 0 ≤ a1 then (if a1 < (t103.length : Int) then (if 0 ≤ a2 then (if a2 < ((rd_L3 t103 a1).length : Int) then ((spec_heFrom.f kj3 (t103.set (a1 : Int).toNat ((rd_L3 t103 a1).set (a2 : Int).toNat (wrap64 ((rd (rd_L3 t103 a1) a2) + (wrap64 (2 * t106))))))).bind fun t112 => (some (t112, true))) else (none)) else (none)) else (none)) else (none))) = some (r1, r2) := H
    have A12 := am_ A120
    clear A120
    by_cases c13 : t106 = 0
    ·rw [if_pos c13] at H
     have c13b0 : (t106 == 0) = true := beq_iff_eq.mpr c13
     have c13b1 : (t106 != 0) = false := bne_eq_false_iff_eq.mpr c13
     clear c13
     simp only [Option.some.injEq, Prod.mk.injEq] at H
     obtain ⟨rfl, rfl⟩ := H
     go_wp2_with (first | ((with_reducible refine gate_callee (f := 91) rfl ?_); refine goesL_ (some 22) rfl rfl Try.func91 (by kernel_rfl) rfl #[.slice A0 l0.length c0] rfl tc0_ ?_; (with_reducible refine (spec_heOf.calls kj3 _ _ l0 t103 _ ?side1 ?side2 A11.out).mono ?_); (case side1 => exact tc10_); (case side2 => exact HC0.out); rintro e w14 ⟨v104, rfl, ho0, hb⟩; refine ⟨_, rfl, ?_⟩; have n0_ := am_ (Kd.S_lower ho0 (below_size tc1_)); have n1_ := am_ (below_step tc1_ hb); clear HB; have HO105 := n0_; have HB := n1_; clear n0_ n1_; (try clear hb ho0); obtain ⟨Ao15, co15, eo15⟩ := Kd.S_slice HO105.out; subst eo15) | ((with_reducible refine gate_callee (f := 195) rfl ?_); refine goesL_ (some 26) rfl rfl Try.func195 (by kernel_rfl) rfl #[.slice Ao15 t103.length co15, .int .i64 a1, .int .i64 a2] rfl tc0_ ?_; (with_reducible refine (spec_heWay.calls kj3 _ _ t103 a1 a2 t106 _ ?side1 ?side2 A12.out).mono ?_); (case side1 => exact tc25_); (case side2 => exact tc71_); rintro e w16 ⟨rfl, hb⟩; refine ⟨_, rfl, ?_⟩; have n0_ := am_ (Kd.S_below tc29_ hb); have n1_ := am_ (below_step tc1_ hb); clear HO105 HB; have HO105 := n0_; have HB := n1_; clear n0_ n1_; (try clear hb)))
     go_ret2
     exact ⟨_, by first | rfl | (simp [errW_none, errW_some] <;> rfl) | (simp [*, errW_none, errW_some] <;> rfl), by first | exact Kd.S_nil _ _ _ _ _ | exact Kd.N_nil _ _ _ _ _ | exact Kd.V_nil _ _ _ _ _ | exact Kd.Q_nil _ _ _ _ _ | exact Kd.R_nil _ _ _ _ _, by repeat (first | (with_reducible first | exact HB.out | apply below_alloc | apply pw_below_drewN | apply below_drew1) | exact HB.out)⟩
    ·rw [if_neg c13] at H
     have c13b0 : (t106 == 0) = false := beq_eq_false_iff_ne.mpr c13
     have c13b1 : (t106 != 0) = true := bne_iff_ne.mpr c13
     by_cases c17 : 0 ≤ a1
     ·rw [if_pos c17] at H
      have c17b0 : decide (0 ≤ a1) = true := decide_eq_true c17
      clear c17
      by_cases c18 : a1 < (t103.length : Int)
      ·rw [if_pos c18] at H
       have c18b0 : decide (a1 < (t103.length : Int)) = true := decide_eq_true c18
       clear c18
       by_cases c19 : 0 ≤ a2
       ·rw [if_pos c19] at H
        have c19b0 : decide (0 ≤ a2) = true := decide_eq_true c19
        clear c19
        by_cases c20 : a2 < ((rd_L3 t103 a1).length : Int)
        ·rw [if_pos c20] at H
         have c20b0 : decide (a2 < ((rd_L3 t103 a1).length : Int)) = true := decide_eq_true c20
         clear c20
         obtain ⟨y109, hy109⟩ : ∃ y_ : List Int, y_ = ((rd_L3 t103 a1).set (a2 : Int).toNat (wrap64 ((rd (rd_L3 t103 a1) a2) + (wrap64 (2 * t106))))) := ⟨_, rfl⟩
         replace H : ((spec_heFrom.f kj3 (t103.set (a1 : Int).toNat y109)).bind fun t112 => (some (t112, true))) = some (r1, r2) := by first | (rw [hy109]; with_reducible exact H) | (have H2_ := (Option.bind_some _ _).symm.trans H; rw [hy109]; with_reducible exact H2_) | (have H2_ := (Option.bind_some _ _).symm.trans H; with_reducible exact H2_) | with_reducible exact H | (rw [hy109]; exact H) | exact H
         have Ny109 := am_ hy109
         clear hy109
         obtain ⟨y111, hy111⟩ : ∃ y_ : List (List Int), y_ = (t103.set (a1 : Int).toNat y109) := ⟨_, rfl⟩
         replace H : ((spec_heFrom.f kj3 y111).bind fun t112 => (some (t112, true))) = some (r1, r2) := by first | (rw [hy111]; with_reducible exact H) | (have H2_ := (Option.bind_some _ _).symm.trans H; rw [hy111]; with_reducible exact H2_) | (have H2_ := (Option.bind_some _ _).symm.trans H; with_reducible exact H2_) | with_reducible exact H | (rw [hy111]; exact H) | exact H
         have Ny111 := am_ hy111
         clear hy111
         replace H := Option.bind_eq_some_iff.mp H
         obtain ⟨t112, A220, H⟩ := H
         replace H : (some (t112, true)) = some (r1, r2) := H
         have A22 := am_ A220
         clear A220
         simp only [Option.some.injEq, Prod.mk.injEq] at H
         obtain ⟨rfl, rfl⟩ := H
         go_wp2_with (first | ((with_reducible refine gate_callee (f := 91) rfl ?_); refine goesL_ (some 22) rfl rfl Try.func91 (by kernel_rfl) rfl #[.slice A0 l0.length c0] rfl tc0_ ?_; (with_reducible refine (spec_heOf.calls kj3 _ _ l0 t103 _ ?side1 ?side2 A11.out).mono ?_); (case side1 => exact tc10_); (case side2 => exact HC0.out); rintro e w23 ⟨v104, rfl, ho0, hb⟩; refine ⟨_, rfl, ?_⟩; have n0_ := am_ (Kd.S_lower ho0 (below_size tc1_)); have n1_ := am_ (below_step tc1_ hb); clear HB; have HO105 := n0_; have HB := n1_; clear n0_ n1_; (try clear hb ho0); obtain ⟨Ao24, co24, eo24⟩ := Kd.S_slice HO105.out; subst eo24) | ((with_reducible refine gate_callee (f := 195) rfl ?_); refine goesL_ (some 26) rfl rfl Try.func195 (by kernel_rfl) rfl #[.slice Ao24 t103.length co24, .int .i64 a1, .int .i64 a2] rfl tc0_ ?_; (with_reducible refine (spec_heWay.calls kj3 _ _ t103 a1 a2 t106 _ ?side1 ?side2 A12.out).mono ?_); (case side1 => exact tc25_); (case side2 => exact tc71_); rintro e w25 ⟨rfl, hb⟩; refine ⟨_, rfl, ?_⟩; have n0_ := am_ (Kd.S_below tc29_ hb); have n1_ := am_ (below_step tc1_ hb); clear HO105 HB; have HO105 := n0_; have HB := n1_; clear n0_ n1_; (try clear hb); have p107 : 0 ≤ (a1 : Int) := of_decide_eq_true tc3_; have q107 : a1 < (t103.length : Int) := of_decide_eq_true tc3_; obtain ⟨ad107, A107_0, c107_0, e107, hx107_0, hl107_0, hi107_0⟩ := at_L3 (Kd.S_reads' HO105.out).2.2 a1 p107 q107; cases e107; obtain ⟨ce107, hce107, hMe107, hcc107⟩ := Kd.S_get HO105.out [] a1 p107 (by first | exact q107 | exact of_decide_eq_true tc3_ | (have e_ := (Kd.S_reads' HO105.out).1; omega)); obtain ⟨ve107_0, rfl, ge107_0⟩ := hMe107; have hv107_0 := hcc107 0 _ rfl; rw [Nat.add_zero, show ((Kd.slice 3 (Kd.int .i64))).sz = 1 from rfl, Nat.mul_one] at hv107_0; replace hv107_0 := Option.some.inj (hv107_0.symm.trans hx107_0); rw [hv107_0] at ge107_0; have HL107_0 := am_ (show Kd.R (Kd.int .i64) 3 _ _ _ _ (rd_L3 t103 a1) from ge107_0); clear hv107_0 ge107_0; have HX107_0 := am_ hx107_0; clear hcc107 hce107; have HR107_0 := am_ hi107_0; have HC107_0 := am_ hl107_0; clear hi107_0 hl107_0; replace p107 := eq_true p107; replace q107 := eq_true q107; have p108 : 0 ≤ (a2 : Int) := of_decide_eq_true tc3_; have q108 : a2 < ((rd_L3 t103 a1).length : Int) := of_decide_eq_true tc3_; obtain ⟨ad108, e108, hx108_0⟩ := Kd.at_int (by repeat (first | (with_reducible exact HR107_0.out) | (with_reducible refine Kd.C_alloc ?_ _) | (with_reducible refine Kd.C_drewN ?_ _) | (with_reducible refine Kd.C_drew ?_) | exact HR107_0.out)) a2 p108 q108; cases e108; replace p108 := eq_true p108; replace q108 := eq_true q108; have p21 : 0 ≤ (a2 : Int) := of_decide_eq_true tc3_; have q21 : (a2 : Int) < (((rd_L3 t103 a1).length : Int) : Int) := of_decide_eq_true tc3_; obtain ⟨go21, co21, eo21, gb21, gl21, cl21, HG21⟩ := Kd.R_form HL107_0.out (by omega); (first | cases eo21 | (injection eo21 with ea_ en_ ec_; (first | subst ea_ | (injection ea_ with ea_; subst ea_)); subst ec_; clear en_)); have GB21 := am_ gb21; have GG21 := am_ HG21; clear gb21 gl21 HG21; (first | simp only [add_plain] at hx108_0 | skip); obtain ⟨hx21_0, hf21_0⟩ := Kd.R_celln 0 HL107_0.out (a2 : Int) p21 q21; replace p21 := eq_true p21; replace q21 := eq_true q21; have hq26 : (a1 : Int) < (t103.length : Int) := (by have h_ : (a1 : Int) < ((t103.length : Int) : Int) := of_decide_eq_true tc3_; first | exact h_ | (have e_ := (Kd.S_reads' HO105.out).1; omega) | simpa only [List.length_set, List.length_set] using h_); obtain ⟨oki26, ce26, hcl26, hM26, hcc26, hok26, hbk26⟩ := Kd.S_borrow HO105.out [] (a1 : Int) (of_decide_eq_true tc3_) hq26; obtain ⟨ve26_0, rfl, ge26_0⟩ := hM26; have hv26 := hcc26 0 _ rfl; rw [Nat.add_zero, show ((Kd.slice 3 (Kd.int .i64))).sz = 1 from rfl, Nat.mul_one] at hv26; replace hv26 := Option.some.inj (hv26.symm.trans HX107_0.out); subst hv26; clear hcc26 hcl26; replace ge26_0 := (show Kd.R (Kd.int .i64) 3 _ _ _ _ (rd_L3 t103 a1) from ge26_0); have HP26 := Kd.R_putg ge26_0 (a2 : Int) (wrap64 ((rd (rd_L3 t103 a1) a2) + (wrap64 (2 * t106))))) | ((with_reducible refine gate_store (t := 3) (p := 39) rfl ?_); refine store_event (t := 3) (p := 39) (v := ?vo_w27) (w1 := (w25.setCell ⟨go21, (a2 : Int).toNat, none⟩ (.int .i64 (wrap64 ((rd (rd_L3 t103 a1) a2) + (wrap64 (2 * t106))))))) ?hg ?ho ?hn ?hr ?_; (case ho => rfl); (case hg => rfl); (case hn => rfl); (case hr => exact tc38_); intro w27 hw; have hg : w25.grownBy w27 (some go21) := (by rw [hw]; exact HP26.2); have hz_ : Kd.R (Kd.int .i64) 3 w27 w.heap.size oki26 (.slice (some ⟨go21, 0, none⟩) (rd_L3 t103 a1).length c107_0) y109 := (by rw [hw, Ny109.out]; exact HP26.1); have hp_ : Kd.S (Kd.slice 3 (Kd.int .i64)) 35 w27 w.heap.size (fun _ => True) (.slice (some ad107) t103.length co24) y111 := (by rw [Ny111.out]; exact hbk26 hg (fun k_ e_ => by injection e_ with e_; subst e_; exact ge26_0.1 _ rfl) (Kd.M_row hz_)); have hm_ := Kd.R_mono hz_ hok26; clear HP26 hbk26; have n0_ := am_ (hp_); have n1_ := am_ ((by rw [hw]; exact below_set (HB.out) GB21.out : Below w.heap.size w w27)); have n2_ := am_ (hm_); have n3_ := am_ ((Kd.R_reads' hm_).2.1); clear HO105 HB HL107_0; have HO105 := n0_; have HB := n1_; have HL115 := n2_; have HC110 := n3_; clear n0_ n1_ n2_ n3_; clear hg hw hp_ hz_ hm_ hok26) | ((with_reducible refine gate_callee (f := 96) rfl ?_); refine goesL_ (some 41) rfl rfl Try.func96 (by kernel_rfl) rfl #[.slice (some ad107) y111.length co24] rfl (by (try simp only [List.map_toArray, List.map_cons, List.map_nil]); first | done | (rw [show y111.length = t103.length from (Kd.S_reads' HO105.out).1.symm] <;> rfl) | rfl | (simp only [List.length_drop, List.length_take]; rfl)) ?_; (with_reducible refine (spec_heFrom.calls kj3 _ _ y111 t112 _ ?side1 ?side2 A22.out).mono ?_); (case side1 => exact tc25_); (case side2 => rw [show y111.length = t103.length from (Kd.S_reads' HO105.out).1.symm]; exact (Kd.S_reads' HO105.out).2.1); rintro e w28 ⟨v113, rfl, ho0, hb⟩; refine ⟨_, rfl, ?_⟩; have n0_ := am_ (Kd.S_elder' tc29_ (Kd.S_base ho0) hb); have n1_ := am_ (Kd.R_below (by (with_reducible repeat (first | apply Kd.R_alloc | apply Kd.R_drewN | apply Kd.R_drew)); exact HL115.out) hb); have n2_ := am_ (Kd.S_lower (Kd.S_new' (Kd.S_new' ho0 (Kd.S_lt tc29_)) (Kd.R_lt (by (with_reducible repeat (first | apply Kd.R_alloc | apply Kd.R_drewN | apply Kd.R_drew)); exact HL115.out))) (below_size tc1_)); have n3_ := am_ (below_step tc1_ hb); clear HO105 HL115 HB; have HO105 := n0_; have HL115 := n1_; have HO114 := n2_; have HB := n3_; clear n0_ n1_ n2_ n3_; (try clear hb ho0)))
         go_ret2
         exact ⟨_, by first | rfl | (simp [errW_none, errW_some] <;> rfl) | (simp [*, errW_none, errW_some] <;> rfl), by (with_reducible repeat (first | apply Kd.S_alloc | apply Kd.S_drewN | apply Kd.S_drew)); exact Kd.S_mono HO114.out (fun _ hk => trivial), by repeat (first | (with_reducible first | exact HB.out | apply below_alloc | apply pw_below_drewN | apply below_drew1) | exact HB.out)⟩
        ·rw [if_neg c20] at H
         exact absurd H (by simp)
       ·rw [if_neg c19] at H
        exact absurd H (by simp)
      ·rw [if_neg c18] at H
       exact absurd H (by simp)
     ·rw [if_neg c17] at H
      exact absurd H (by simp)

/-! ### spec_l1Cur_pair: function 97 -/
mutual
def spec_l1Cur_pair.j0 : Nat → Int → List (List Int) → Bool → List Int → Int → Int → Option ((List (List Int)) × (List (List Int)) × Int × Int)
 | 0, _, _, _, _, _, _ => none
 | k + 1, x1, x6, x23, x1000, x1001, x1002 => if x23 = true then ((spec_l1Cur_signs.f k x1000 x1001 x1002 x1).bind fun bt110 => (some (x6, bt110.1, bt110.2.1, bt110.2.2))) else ((spec_l1Cur_sure.f k x1000 x1001 x1002 (x6.length : Int)).bind fun bt115 => ((spec_l1Cur_one.f x1000 bt115.2.1 bt115.2.2 3).bind fun bt120 => (if bt120.1 = true then ((spec_l1Cur_pick.f x1000 bt120.2.1 bt120.2.2 4).bind fun bt123 => (spec_l1Cur_pair.l0 k x6 x6 bt123.1 x1000 bt123.2.1 bt123.2.2)) else (some (x6, bt115.1, bt120.2.1, bt120.2.2)))))
def spec_l1Cur_pair.l0 : Nat → List (List Int) → List (List Int) → Int → List Int → Int → Int → Option ((List (List Int)) × (List (List Int)) × Int × Int)
 | 0, _, _, _, _, _, _ => none
 | k + 1, x6, x7, x8, x1000, x1001, x1002 => if x8 > 0 then ((spec_heOf.f k x7).bind fun t126 => ((spec_l1Cur_pick.f x1000 x1001 x1002 2).bind fun bt129 => ((spec_heFlips.f k t126 (wrap64 ((wrap64 (2 * bt129.1)) - 1))).bind fun t132 => (if (t132.length : Int) > 0 then ((spec_l1Cur_pick.f x1000 bt129.2.1 bt129.2.2 (t132.length : Int)).bind fun bt135 => (if 0 ≤ bt135.1 then (if bt135.1 < (t132.length : Int) then (if 0 < ((rd_L3 t132 bt135.1).length : Int) then (if 1 < ((rd_L3 t132 bt135.1).length : Int) then ((spec_FlipAt.f k x7 (rd (rd_L3 t132 bt135.1) 0) (rd (rd_L3 t132 bt135.1) 1)).bind fun bt141 => (spec_l1Cur_pair.l0 k x6 bt141.1 (wrap64 (x8 - 1)) x1000 bt135.2.1 bt135.2.2)) else (none)) else (none)) else (none)) else (none))) else (spec_l1Cur_pair.l0 k x6 x7 (wrap64 (x8 - 1)) x1000 bt129.2.1 bt129.2.2))))) else (some (x6, x7, x1001, x1002))
end
def spec_l1Cur_pair.f (k : Nat) (s0_0 : List Int) (s0_1 : Int) (s0_2 : Int) (a1 : Int) : Option ((List (List Int)) × (List (List Int)) × Int × Int) := (spec_l1Cur_signs.f k s0_0 s0_1 s0_2 a1).bind fun bt101 => ((spec_sgGood.f k bt101.1).bind fun t106 => (if t106 = true then ((spec_l1Cur_one.f s0_0 bt101.2.1 bt101.2.2 10).bind fun bt107 => (spec_l1Cur_pair.j0 k a1 bt101.1 bt107.1 s0_0 bt107.2.1 bt107.2.2)) else (spec_l1Cur_pair.j0 k a1 bt101.1 true s0_0 bt101.2.1 bt101.2.2)))
def spec_l1Cur_pair.T14 : Bool × List (List Nat × List Nat) := (true, [([], []), ([], []), ([1], [1]), ([2], [2]), ([], []), ([4], [4]), ([5], [5]), ([0, 3, 6], [0, 3, 6]), ([7], [7]), ([8], [8]), ([8], [8]), ([9, 7, 0, 1, 2, 3, 4, 5, 6, 7, 8, 9], [9]), ([10, 11, 0, 1, 2, 3, 4, 5, 6, 7, 8, 9, 10, 11], [10])])
def spec_l1Cur_pair.B14 : List Nat := [0, 0, 2, 6, 0, 16, 48, 127, 255, 511, 511, 1023, 4095]
theorem spec_l1Cur_pair.tab14 : rtab .any (opsOf Try.f97 14) = spec_l1Cur_pair.T14 := by kernel_rfl
theorem spec_l1Cur_pair.bits14 : waitsOk spec_l1Cur_pair.T14.2 spec_l1Cur_pair.B14 = true := by kernel_rfl
set_option maxHeartbeats 8000000 in
set_option maxRecDepth 100000 in
theorem spec_l1Cur_pair.calls (k : Nat) (g : Nat) (s0_0 : List Int) (s0_1 : Int) (s0_2 : Int) (a1 : Int) (r1 : List (List Int)) (r2 : List (List Int)) (r3 : Int) (r4 : Int) (w0 w : World) (hI : IsS74 w0 w g s0_0 s0_1 s0_2) (hB : Below w0.heap.size w0 w) (h : spec_l1Cur_pair.f k s0_0 s0_1 s0_2 a1 = some (r1, r2, r3, r4)) :
  Calls Try.prog 97 #[.pointer (some ⟨g, 0, none⟩), .int .i64 a1] w fun e w' => ∃ v0_ v1_ : Value, e = .returned (.tuple #[v0_, v1_]) ∧ Kd.S (Kd.slice 3 (Kd.int .i64)) 35 w' w.heap.size (fun _ => True) v0_ r1 ∧ Kd.S (Kd.slice 3 (Kd.int .i64)) 35 w' w.heap.size (fun _ => True) v1_ r2 ∧ IsS74 w0 w' g s0_0 r3 r4 ∧ Below w0.heap.size w0 w' ∧ KeepBut w w' g none := by
 have HI0 := am_ hI
 have HK := am_ (KeepBut.refl w g none)
 have HL := am_ hB.size
 clear hI
 have HW0 := am_ hB.size
 have HB := am_ hB
 clear hB
 have H : ((spec_l1Cur_signs.f k s0_0 s0_1 s0_2 a1).bind fun bt101 => ((spec_sgGood.f k bt101.1).bind fun t106 => (if t106 = true then ((spec_l1Cur_one.f s0_0 bt101.2.1 bt101.2.2 10).bind fun bt107 => (spec_l1Cur_pair.j0 k a1 bt101.1 bt107.1 s0_0 bt107.2.1 bt107.2.2)) else (spec_l1Cur_pair.j0 k a1 bt101.1 true s0_0 bt101.2.1 bt101.2.2)))) = some (r1, r2, r3, r4) := h
 clear h
 replace H := Option.bind_eq_some_iff.mp H
 obtain ⟨⟨t101, t104, t105⟩, A30, H⟩ := H
 replace H : ((spec_sgGood.f k t101).bind fun t106 => (if t106 = true then ((spec_l1Cur_one.f s0_0 t104 t105 10).bind fun bt107 => (spec_l1Cur_pair.j0 k a1 t101 bt107.1 s0_0 bt107.2.1 bt107.2.2)) else (spec_l1Cur_pair.j0 k a1 t101 true s0_0 t104 t105))) = some (r1, r2, r3, r4) := H
 have A3 := am_ A30
 clear A30
 have HC4 := am_ H
 clear H
 go_enter Try.func97, Try.ntmps97
 go_upto_region 2 with (first | ((with_reducible refine gate_callee (f := 133) rfl ?_); refine goesL_ (some 16) rfl rfl Try.func133 (by kernel_rfl) rfl #[.pointer (some ⟨g, 0, none⟩), .int .i64 a1] rfl tc0_ ?_; (with_reducible refine (spec_l1Cur_signs.calls k g s0_0 s0_1 s0_2 a1 t101 t104 t105 w0 _ ?side1 ?side2 A3.out).mono ?_); (case side1 => exact tc2_); (case side2 => exact tc5_); rintro e w5 ⟨v102, rfl, ho0, hi, hb, hk⟩; refine ⟨_, rfl, ?_⟩; have n0_ := am_ (Kd.S_lower ho0 (keep_size (w := w) (g := g) (row := none) tc4_)); have n1_ := am_ (KeepBut.trans tc4_ hk (.inl rfl)); have n2_ := am_ (hb); have n3_ := am_ (hi); clear HK HB HI0; have HO103 := n0_; have HK := n1_; have HB := n2_; have HI0 := n3_; clear n0_ n1_ n2_ n3_; (try clear hb hk hi ho0)))
 (try simp only [Act.put, List.setIfInBounds_toArray, List.set_cons_zero, List.set_cons_succ])
 go_cut [23] (fun v23 wc => ∃ (kq : Nat) (x23_3 : Bool) (x1001_3 : Int) (x1002_3 : Int), v23 = .bool x23_3 ∧ Aside0 (spec_l1Cur_pair.j0 kq a1 t101 x23_3 s0_0 x1001_3 x1002_3 = some (r1, r2, r3, r4)) ∧ Aside0 (kq ≤ k) ∧ Aside0 (Kd.S (Kd.slice 3 (Kd.int .i64)) 35 wc w.heap.size (fun _ => True) v102 t101) ∧ Aside0 (IsS74 w0 wc g s0_0 x1001_3 x1002_3) ∧ Aside0 (KeepBut w wc g none) ∧ Aside0 (Below w0.heap.size w0 wc))
 case first =>
  have H := HC4.out
  clear HC4
  replace H := Option.bind_eq_some_iff.mp H
  obtain ⟨t106, A60, H⟩ := H
  replace H : (if t106 = true then ((spec_l1Cur_one.f s0_0 t104 t105 10).bind fun bt107 => (spec_l1Cur_pair.j0 k a1 t101 bt107.1 s0_0 bt107.2.1 bt107.2.2)) else (spec_l1Cur_pair.j0 k a1 t101 true s0_0 t104 t105)) = some (r1, r2, r3, r4) := H
  have A6 := am_ A60
  clear A60
  by_cases c7 : t106 = true
  ·subst c7
   have H1 : ((spec_l1Cur_one.f s0_0 t104 t105 10).bind fun bt107 => (spec_l1Cur_pair.j0 k a1 t101 bt107.1 s0_0 bt107.2.1 bt107.2.2)) = some (r1, r2, r3, r4) := by rw [if_pos rfl] at H; exact H
   clear H
   have H := H1
   clear H1
   replace H := Option.bind_eq_some_iff.mp H
   obtain ⟨⟨t107, t108, t109⟩, A80, H⟩ := H
   replace H : (spec_l1Cur_pair.j0 k a1 t101 t107 s0_0 t108 t109) = some (r1, r2, r3, r4) := H
   have A8 := am_ A80
   clear A80
   have H' := am_ H
   clear H
   obtain ⟨Ao9, co9, eo9⟩ := Kd.S_slice HO103.out
   subst eo9
   go_wp2_with (first | ((with_reducible refine gate_callee (f := 67) rfl ?_); refine goesL_ (some 18) rfl rfl Try.func67 (by kernel_rfl) rfl #[.slice Ao9 t101.length co9] rfl tc0_ ?_; (with_reducible refine (spec_sgGood.calls k _ _ t101 true _ ?side1 ?side2 A6.out).mono ?_); (case side1 => repeat (first | exact (Kd.S_reads' HO103.out).2.2 | (with_reducible refine Kd.C_alloc ?_ _) | (with_reducible refine Kd.C_drewN ?_ _) | (with_reducible refine Kd.C_drew ?_))); (case side2 => exact (Kd.S_reads' HO103.out).2.1); rintro e w10 ⟨rfl, hb⟩; refine ⟨_, rfl, ?_⟩; have n0_ := am_ (Kd.S_below tc56_ hb); have n1_ := am_ (IsS74.below tc2_ hb); have n2_ := am_ (KeepBut.trans tc4_ (KeepBut.of_below hb g none) (.inl rfl)); have n3_ := am_ (below_step tc5_ hb); clear HO103 HI0; clear HK HB; have HO103 := n0_; have HI0 := n1_; have HK := n2_; have HB := n3_; clear n0_ n1_ n2_ n3_; (try clear hb)) | (go_at_call 131; (with_reducible refine (spec_l1Cur_one.calls g s0_0 t104 t105 10 t107 t108 t109 w0 _ ?side1 ?side2 A8.out).mono ?_); (case side1 => exact tc2_); (case side2 => exact tc5_); rintro e w11 ⟨rfl, hi, hb, hk⟩; have n0_ := am_ (Kd.S_mono (Kd.S_keep (IsS74.apartS (show IsS74 w0 _ g s0_0 t104 t105 from tc2_) tc56_ (by decide)) hk (fun _ h => h.2)) (fun _ h => h.1)); have n1_ := am_ (KeepBut.trans tc4_ hk (.inl rfl)); have n2_ := am_ (hb); have n3_ := am_ (hi); clear HO103 HK; clear HB HI0; have HO103 := n0_; have HK := n1_; have HB := n2_; have HI0 := n3_; clear n0_ n1_ n2_ n3_; (try clear hb hb2 hk hi)))
   go_meet
   case rel => exact ⟨_, (t107), (t108), (t109), tc8_, H', ⟨by first | omega | exact Nat.le_refl _⟩, ⟨by (with_reducible repeat (first | apply Kd.S_alloc | apply Kd.S_drewN | apply Kd.S_drew)); exact HO103.out⟩, ⟨by repeat (first | (with_reducible first | exact HI0.out | apply IsS74.alloc | apply IsS74.drewN | apply IsS74.drew | apply IsS74.set_1 | apply IsS74.set_2) | exact HI0.out)⟩, ⟨by repeat (first | (with_reducible first | exact HK.out | apply KeepBut.set_ | apply keep_drewN | apply keep_drew | apply keep_alloc) | exact HK.out)⟩, ⟨by repeat (first | (with_reducible first | exact HB.out | apply below_alloc | apply pw_below_drewN | apply below_drew1 | refine below_set ?_ (IsS74.ge HI0.out)) | exact HB.out)⟩⟩
  ·replace c7 := Bool.eq_false_iff.mpr c7
   subst c7
   have H1 : (spec_l1Cur_pair.j0 k a1 t101 true s0_0 t104 t105) = some (r1, r2, r3, r4) := by rw [if_neg (show ¬ (false = true) by decide)] at H; exact H
   clear H
   have H := H1
   clear H1
   have H' := am_ H
   clear H
   obtain ⟨Ao12, co12, eo12⟩ := Kd.S_slice HO103.out
   subst eo12
   go_wp2_with (first | ((with_reducible refine gate_callee (f := 67) rfl ?_); refine goesL_ (some 18) rfl rfl Try.func67 (by kernel_rfl) rfl #[.slice Ao12 t101.length co12] rfl tc0_ ?_; (with_reducible refine (spec_sgGood.calls k _ _ t101 false _ ?side1 ?side2 A6.out).mono ?_); (case side1 => repeat (first | exact (Kd.S_reads' HO103.out).2.2 | (with_reducible refine Kd.C_alloc ?_ _) | (with_reducible refine Kd.C_drewN ?_ _) | (with_reducible refine Kd.C_drew ?_))); (case side2 => exact (Kd.S_reads' HO103.out).2.1); rintro e w13 ⟨rfl, hb⟩; refine ⟨_, rfl, ?_⟩; have n0_ := am_ (Kd.S_below tc56_ hb); have n1_ := am_ (IsS74.below tc2_ hb); have n2_ := am_ (KeepBut.trans tc4_ (KeepBut.of_below hb g none) (.inl rfl)); have n3_ := am_ (below_step tc5_ hb); clear HO103 HI0; clear HK HB; have HO103 := n0_; have HI0 := n1_; have HK := n2_; have HB := n3_; clear n0_ n1_ n2_ n3_; (try clear hb)))
   go_meet
   case rel => exact ⟨_, (true), (t104), (t105), tc8_, H', ⟨by first | omega | exact Nat.le_refl _⟩, ⟨by (with_reducible repeat (first | apply Kd.S_alloc | apply Kd.S_drewN | apply Kd.S_drew)); exact HO103.out⟩, ⟨by repeat (first | (with_reducible first | exact HI0.out | apply IsS74.alloc | apply IsS74.drewN | apply IsS74.drew | apply IsS74.set_1 | apply IsS74.set_2) | exact HI0.out)⟩, ⟨by repeat (first | (with_reducible first | exact HK.out | apply KeepBut.set_ | apply keep_drewN | apply keep_drew | apply keep_alloc) | exact HK.out)⟩, ⟨by repeat (first | (with_reducible first | exact HB.out | apply below_alloc | apply pw_below_drewN | apply below_drew1 | refine below_set ?_ (IsS74.ge HI0.out)) | exact HB.out)⟩⟩
 case rest =>
  clear HC4
  try clear c1
  try clear p2
  try clear c6
  try clear c7
  try clear c9
  try clear c13
  obtain ⟨kq, x23_3, x1001_3, x1002_3, rfl, HA, HJ3, HO_6, HI0, HK, HB⟩ := hcut
  cases kq with
  | zero => exact absurd HA.out (by simp [spec_l1Cur_pair.j0])
  | succ kj3 =>
   have H := HA.out
   clear HA
   simp only [spec_l1Cur_pair.j0] at H
   by_cases c14 : x23_3 = true
   ·subst c14
    have H1 : ((spec_l1Cur_signs.f kj3 s0_0 x1001_3 x1002_3 a1).bind fun bt110 => (some (t101, bt110.1, bt110.2.1, bt110.2.2))) = some (r1, r2, r3, r4) := by rw [if_pos rfl] at H; exact H
    clear H
    have H := H1
    clear H1
    replace H := Option.bind_eq_some_iff.mp H
    obtain ⟨⟨t110, t113, t114⟩, A150, H⟩ := H
    replace H : (some (t101, t110, t113, t114)) = some (r1, r2, r3, r4) := H
    have A15 := am_ A150
    clear A150
    simp only [Option.some.injEq, Prod.mk.injEq] at H
    obtain ⟨rfl, rfl, rfl, rfl⟩ := H
    go_wp2_with (first | ((with_reducible refine gate_callee (f := 133) rfl ?_); refine goesL_ (some 27) rfl rfl Try.func133 (by kernel_rfl) rfl #[.pointer (some ⟨g, 0, none⟩), .int .i64 a1] rfl tc0_ ?_; (with_reducible refine (spec_l1Cur_signs.calls kj3 g s0_0 x1001_3 x1002_3 a1 t110 t113 t114 w0 _ ?side1 ?side2 A15.out).mono ?_); (case side1 => exact tc2_); (case side2 => exact tc5_); rintro e w16 ⟨v111, rfl, ho0, hi, hb, hk⟩; refine ⟨_, rfl, ?_⟩; have n0_ := am_ (Kd.S_mono (Kd.S_told (Kd.S_oldK (IsS74.apartS (show IsS74 w0 _ g s0_0 x1001_3 x1002_3 from tc2_) tc12_ (by decide)) hk) (Kd.S_base ho0)) (fun _ h_ => h_.1)); have n1_ := am_ (Kd.S_lower (Kd.S_new' ho0 (Kd.S_lt tc12_)) (keep_size (w := w) (g := g) (row := none) tc4_)); have n2_ := am_ (KeepBut.trans tc4_ hk (.inl rfl)); have n3_ := am_ (hb); have n4_ := am_ (hi); clear HO_6 HK; clear HB HI0; have HO_6 := n0_; have HO112 := n1_; have HK := n2_; have HB := n3_; have HI0 := n4_; clear n0_ n1_ n2_ n3_ n4_; (try clear hb hk hi ho0)))
    go_ret2
    exact ⟨_, _, by first | rfl | (simp [errW_none, errW_some] <;> rfl) | (simp [*, errW_none, errW_some] <;> rfl), by (with_reducible repeat (first | apply Kd.S_alloc | apply Kd.S_drewN | apply Kd.S_drew)); exact Kd.S_mono HO_6.out (fun _ _ => trivial), by (with_reducible repeat (first | apply Kd.S_alloc | apply Kd.S_drewN | apply Kd.S_drew)); exact Kd.S_mono HO112.out (fun _ _ => trivial), by repeat (first | (with_reducible first | exact HI0.out | apply IsS74.alloc | apply IsS74.drewN | apply IsS74.drew | apply IsS74.set_1 | apply IsS74.set_2) | exact HI0.out), by repeat (first | (with_reducible first | exact HB.out | apply below_alloc | apply pw_below_drewN | apply below_drew1 | refine below_set ?_ (IsS74.ge HI0.out)) | exact HB.out), by repeat (first | (with_reducible first | exact HK.out | apply KeepBut.set_ | apply keep_drewN | apply keep_drew | apply keep_alloc) | exact HK.out)⟩
   ·replace c14 := Bool.eq_false_iff.mpr c14
    subst c14
    have H1 : ((spec_l1Cur_sure.f kj3 s0_0 x1001_3 x1002_3 (t101.length : Int)).bind fun bt115 => ((spec_l1Cur_one.f s0_0 bt115.2.1 bt115.2.2 3).bind fun bt120 => (if bt120.1 = true then ((spec_l1Cur_pick.f s0_0 bt120.2.1 bt120.2.2 4).bind fun bt123 => (spec_l1Cur_pair.l0 kj3 t101 t101 bt123.1 s0_0 bt123.2.1 bt123.2.2)) else (some (t101, bt115.1, bt120.2.1, bt120.2.2))))) = some (r1, r2, r3, r4) := by rw [if_neg (show ¬ (false = true) by decide)] at H; exact H
    clear H
    have H := H1
    clear H1
    replace H := Option.bind_eq_some_iff.mp H
    obtain ⟨⟨t115, t118, t119⟩, A170, H⟩ := H
    replace H : ((spec_l1Cur_one.f s0_0 t118 t119 3).bind fun bt120 => (if bt120.1 = true then ((spec_l1Cur_pick.f s0_0 bt120.2.1 bt120.2.2 4).bind fun bt123 => (spec_l1Cur_pair.l0 kj3 t101 t101 bt123.1 s0_0 bt123.2.1 bt123.2.2)) else (some (t101, t115, bt120.2.1, bt120.2.2)))) = some (r1, r2, r3, r4) := H
    have A17 := am_ A170
    clear A170
    replace H := Option.bind_eq_some_iff.mp H
    obtain ⟨⟨t120, t121, t122⟩, A180, H⟩ := H
    replace H : (if t120 = true then ((spec_l1Cur_pick.f s0_0 t121 t122 4).bind fun bt123 => (spec_l1Cur_pair.l0 kj3 t101 t101 bt123.1 s0_0 bt123.2.1 bt123.2.2)) else (some (t101, t115, t121, t122))) = some (r1, r2, r3, r4) := H
    have A18 := am_ A180
    clear A180
    by_cases c19 : t120 = true
    ·subst c19
     have H1 : ((spec_l1Cur_pick.f s0_0 t121 t122 4).bind fun bt123 => (spec_l1Cur_pair.l0 kj3 t101 t101 bt123.1 s0_0 bt123.2.1 bt123.2.2)) = some (r1, r2, r3, r4) := by rw [if_pos rfl] at H; exact H
     clear H
     have H := H1
     clear H1
     replace H := Option.bind_eq_some_iff.mp H
     obtain ⟨⟨t123, t124, t125⟩, A200, H⟩ := H
     replace H : (spec_l1Cur_pair.l0 kj3 t101 t101 t123 s0_0 t124 t125) = some (r1, r2, r3, r4) := H
     have A20 := am_ A200
     clear A200
     have H' := am_ H
     clear H
     obtain ⟨Ao21, co21, eo21⟩ := Kd.S_slice HO_6.out
     subst eo21
     go_wp2_with (first | ((with_reducible refine gate_callee (f := 166) rfl ?_); refine goesL_ (some 31) rfl rfl Try.func166 (by kernel_rfl) rfl #[.pointer (some ⟨g, 0, none⟩), .int .i64 (t101.length : Int)] rfl tc0_ ?_; (with_reducible refine (spec_l1Cur_sure.calls kj3 g s0_0 x1001_3 x1002_3 (t101.length : Int) t115 t118 t119 w0 _ ?side1 ?side2 A17.out).mono ?_); (case side1 => exact tc2_); (case side2 => exact tc5_); rintro e w22 ⟨v116, rfl, ho0, hi, hb, hk⟩; refine ⟨_, rfl, ?_⟩; have n0_ := am_ (Kd.S_mono (Kd.S_told (Kd.S_oldK (IsS74.apartS (show IsS74 w0 _ g s0_0 x1001_3 x1002_3 from tc2_) tc12_ (by decide)) hk) (Kd.S_base ho0)) (fun _ h_ => h_.1)); have n1_ := am_ (Kd.S_lower (Kd.S_new' ho0 (Kd.S_lt tc12_)) (keep_size (w := w) (g := g) (row := none) tc4_)); have n2_ := am_ (KeepBut.trans tc4_ hk (.inl rfl)); have n3_ := am_ (hb); have n4_ := am_ (hi); clear HO_6 HK; clear HB HI0; have HO_6 := n0_; have HO117 := n1_; have HK := n2_; have HB := n3_; have HI0 := n4_; clear n0_ n1_ n2_ n3_ n4_; (try clear hb hk hi ho0)) | ((with_reducible refine gate_callee (f := 131) rfl ?_); refine goesL_ (some 33) rfl rfl Try.func131 (by kernel_rfl) rfl #[.pointer (some ⟨g, 0, none⟩), .int .i64 3] rfl tc0_ ?_; (with_reducible refine (spec_l1Cur_one.calls g s0_0 t118 t119 3 true t121 t122 w0 _ ?side1 ?side2 A18.out).mono ?_); (case side1 => exact tc2_); (case side2 => exact tc5_); rintro e w23 ⟨rfl, hi, hb, hk⟩; refine ⟨_, rfl, ?_⟩; have n0_ := am_ (Kd.S_mono (Kd.S_keep (IsS74.apartS (show IsS74 w0 _ g s0_0 t118 t119 from tc2_) tc12_ (by decide)) hk (fun _ h => h.2)) (fun _ h => h.1)); have n1_ := am_ (Kd.S_mono (Kd.S_keep (IsS74.apartS (show IsS74 w0 _ g s0_0 t118 t119 from tc2_) tc61_ (by decide)) hk (fun _ h => h.2)) (fun _ h => h.1)); have n2_ := am_ (KeepBut.trans tc4_ hk (.inl rfl)); have n3_ := am_ (hb); have n4_ := am_ (hi); clear HO_6 HO117; clear HK HB HI0; have HO_6 := n0_; have HO117 := n1_; have HK := n2_; have HB := n3_; have HI0 := n4_; clear n0_ n1_ n2_ n3_ n4_; (try clear hb hk hi)) | ((with_reducible refine gate_callee (f := 162) rfl ?_); refine goesL_ (some 36) rfl rfl Try.func162 (by kernel_rfl) rfl #[.pointer (some ⟨g, 0, none⟩), .int .i64 4] rfl tc0_ ?_; (with_reducible refine (spec_l1Cur_pick.calls g s0_0 t121 t122 4 t123 t124 t125 w0 _ ?side1 ?side2 A20.out).mono ?_); (case side1 => exact tc2_); (case side2 => exact tc5_); rintro e w24 ⟨rfl, hi, hb, hk⟩; refine ⟨_, rfl, ?_⟩; have n0_ := am_ (Kd.S_mono (Kd.S_keep (IsS74.apartS (show IsS74 w0 _ g s0_0 t121 t122 from tc2_) tc12_ (by decide)) hk (fun _ h => h.2)) (fun _ h => h.1)); have n1_ := am_ (Kd.S_mono (Kd.S_keep (IsS74.apartS (show IsS74 w0 _ g s0_0 t121 t122 from tc2_) tc61_ (by decide)) hk (fun _ h => h.2)) (fun _ h => h.1)); have n2_ := am_ (KeepBut.trans tc4_ hk (.inl rfl)); have n3_ := am_ (hb); have n4_ := am_ (hi); clear HO_6 HO117; clear HK HB HI0; have HO_6 := n0_; have HO117 := n1_; have HK := n2_; have HB := n3_; have HI0 := n4_; clear n0_ n1_ n2_ n3_ n4_; (try clear hb hk hi)))
     go_loopg [7, 8] kj3 (fun kq v7 v8 w' => ∃ (x7_2 : List (List Int)) (x8_2 : Int) (x1001_2 : Int) (x1002_2 : Int), v8 = .int .i64 x8_2 ∧ Aside0 (spec_l1Cur_pair.l0 kq t101 x7_2 x8_2 s0_0 x1001_2 x1002_2 = some (r1, r2, r3, r4)) ∧ Aside0 (kq ≤ kj3) ∧ Aside0 (Kd.S (Kd.slice 3 (Kd.int .i64)) 35 w' w.heap.size (fun _ => True) (.slice Ao21 t101.length co21) t101) ∧ Aside0 (Kd.S (Kd.slice 3 (Kd.int .i64)) 35 w' w.heap.size (fun _ => True) v7 x7_2) ∧ Aside0 (IsS74 w0 w' g s0_0 x1001_2 x1002_2) ∧ Aside0 (KeepBut w w' g none) ∧ Aside0 (Below w0.heap.size w0 w'))
     case atStart => exact ⟨(t101), (t123), (t124), (t125), tc8_, H', ⟨Nat.le_refl _⟩, ⟨by (with_reducible repeat (first | apply Kd.S_alloc | apply Kd.S_drewN | apply Kd.S_drew)); exact Kd.S_mono HO_6.out (fun _ _ => trivial)⟩, ⟨by (with_reducible repeat (first | apply Kd.S_alloc | apply Kd.S_drewN | apply Kd.S_drew)); exact Kd.S_mono HO_6.out (fun _ _ => trivial)⟩, ⟨by repeat (first | (with_reducible first | exact HI0.out | apply IsS74.alloc | apply IsS74.drewN | apply IsS74.drew | apply IsS74.set_1 | apply IsS74.set_2) | exact HI0.out)⟩, ⟨by repeat (first | (with_reducible first | exact HK.out | apply KeepBut.set_ | apply keep_drewN | apply keep_drew | apply keep_alloc) | exact HK.out)⟩, ⟨by repeat (first | (with_reducible first | exact HB.out | apply below_alloc | apply pw_below_drewN | apply below_drew1 | refine below_set ?_ (IsS74.ge HI0.out)) | exact HB.out)⟩⟩
     case round =>
      clear H'
      try clear c1
      try clear p2
      try clear c6
      try clear c7
      try clear c9
      try clear c13
      try clear c14
      try clear c16
      try clear c19
      try clear p2
      obtain ⟨x7_2, x8_2, x1001_2, x1002_2, rfl, HA, HK2, HO_6, HO_7, HI0, HK, HB⟩ := hrel
      cases gk with
      | zero => exact absurd HA.out (by simp [spec_l1Cur_pair.l0])
      | succ k2 =>
       have H := HA.out
       clear HA
       simp only [spec_l1Cur_pair.l0] at H
       by_cases c25 : x8_2 > 0
       ·rw [if_pos c25] at H
        have c25b0 : decide (0 < x8_2) = true := decide_eq_true c25
        clear c25
        replace H := Option.bind_eq_some_iff.mp H
        obtain ⟨t126, A260, H⟩ := H
        replace H : ((spec_l1Cur_pick.f s0_0 x1001_2 x1002_2 2).bind fun bt129 => ((spec_heFlips.f k2 t126 (wrap64 ((wrap64 (2 * bt129.1)) - 1))).bind fun t132 => (if (t132.length : Int) > 0 then ((spec_l1Cur_pick.f s0_0 bt129.2.1 bt129.2.2 (t132.length : Int)).bind fun bt135 => (if 0 ≤ bt135.1 then (if bt135.1 < (t132.length : Int) then (if 0 < ((rd_L3 t132 bt135.1).length : Int) then (if 1 < ((rd_L3 t132 bt135.1).length : Int) then ((spec_FlipAt.f k2 x7_2 (rd (rd_L3 t132 bt135.1) 0) (rd (rd_L3 t132 bt135.1) 1)).bind fun bt141 => (spec_l1Cur_pair.l0 k2 t101 bt141.1 (wrap64 (x8_2 - 1)) s0_0 bt135.2.1 bt135.2.2)) else (none)) else (none)) else (none)) else (none))) else (spec_l1Cur_pair.l0 k2 t101 x7_2 (wrap64 (x8_2 - 1)) s0_0 bt129.2.1 bt129.2.2)))) = some (r1, r2, r3, r4) := H
        have A26 := am_ A260
        clear A260
        replace H := Option.bind_eq_some_iff.mp H
        obtain ⟨⟨t129, t130, t131⟩, A270, H⟩ := H
        replace H : ((spec_heFlips.f k2 t126 (wrap64 ((wrap64 (2 * t129)) - 1))).bind fun t132 => (if (t132.length : Int) > 0 then ((spec_l1Cur_pick.f s0_0 t130 t131 (t132.length : Int)).bind fun bt135 => (if 0 ≤ bt135.1 then (if bt135.1 < (t132.length : Int) then (if 0 < ((rd_L3 t132 bt135.1).length : Int) then (if 1 < ((rd_L3 t132 bt135.1).length : Int) then ((spec_FlipAt.f k2 x7_2 (rd (rd_L3 t132 bt135.1) 0) (rd (rd_L3 t132 bt135.1) 1)).bind fun bt141 => (spec_l1Cur_pair.l0 k2 t101 bt141.1 (wrap64 (x8_2 - 1)) s0_0 bt135.2.1 bt135.2.2)) else (none)) else (none)) else (none)) else (none))) else (spec_l1Cur_pair.l0 k2 t101 x7_2 (wrap64 (x8_2 - 1)) s0_0 t130 t131))) = some (r1, r2, r3, r4) := H
        have A27 := am_ A270
        clear A270
        replace H := Option.bind_eq_some_iff.mp H
        obtain ⟨t132, A280, H⟩ := H
        replace H : (if (t132.length : Int) > 0 then ((spec_l1Cur_pick.f s0_0 t130 t131 (t132.length : Int)).bind fun bt135 => (if 0 ≤ bt135.1 then (if bt135.1 < (t132.length : Int) then (if 0 < ((rd_L3 t132 bt135.1).length : Int) then (if 1 < ((rd_L3 t132 bt135.1).length : Int) then ((spec_FlipAt.f k2 x7_2 (rd (rd_L3 t132 bt135.1) 0) (rd (rd_L3 t132 bt135.1) 1)).bind fun bt141 => (spec_l1Cur_pair.l0 k2 t101 bt141.1 (wrap64 (x8_2 - 1)) s0_0 bt135.2.1 bt135.2.2)) else (none)) else (none)) else (none)) else (none))) else (spec_l1Cur_pair.l0 k2 t101 x7_2 (wrap64 (x8_2 - 1)) s0_0 t130 t131)) = some (r1, r2, r3, r4) := H
        have A28 := am_ A280
        clear A280
        by_cases c29 : (t132.length : Int) > 0
        ·rw [if_pos c29] at H
         have c29b0 : decide (0 < (t132.length : Int)) = true := decide_eq_true c29
         have c29b1 : decide (0 < t132.length) = true := decide_eq_true (by omega)
         clear c29
         replace H := Option.bind_eq_some_iff.mp H
         obtain ⟨⟨t135, t136, t137⟩, A300, H⟩ := H
         replace H : (if 0 ≤ t135 then (if t135 < (t132.length : Int) then (if 0 < ((rd_L3 t132 t135).length : Int) then (if 1 < ((rd_L3 t132 t135).length : Int) then ((spec_FlipAt.f k2 x7_2 (rd (rd_L3 t132 t135) 0) (rd (rd_L3 t132 t135) 1)).bind fun bt141 => (spec_l1Cur_pair.l0 k2 t101 bt141.1 (wrap64 (x8_2 - 1)) s0_0 t136 t137)) else (none)) else (none)) else (none)) else (none)) = some (r1, r2, r3, r4) := H
         have A30 := am_ A300
         clear A300
         by_cases c31 : 0 ≤ t135
         ·rw [if_pos c31] at H
          have c31b0 : decide (0 ≤ t135) = true := decide_eq_true c31
          clear c31
          by_cases c32 : t135 < (t132.length : Int)
          ·rw [if_pos c32] at H
           have c32b0 : decide (t135 < (t132.length : Int)) = true := decide_eq_true c32
           clear c32
           by_cases c33 : 0 < ((rd_L3 t132 t135).length : Int)
           ·rw [if_pos c33] at H
            have c33b0 : decide (0 < ((rd_L3 t132 t135).length : Int)) = true := decide_eq_true c33
            have c33b1 : decide (0 < (rd_L3 t132 t135).length) = true := decide_eq_true (by omega)
            clear c33
            by_cases c34 : 1 < ((rd_L3 t132 t135).length : Int)
            ·rw [if_pos c34] at H
             have c34b0 : decide (1 < ((rd_L3 t132 t135).length : Int)) = true := decide_eq_true c34
             have c34b1 : decide (1 < (rd_L3 t132 t135).length) = true := decide_eq_true (by omega)
             clear c34
             replace H := Option.bind_eq_some_iff.mp H
             obtain ⟨⟨t141, t142⟩, A350, H⟩ := H
             replace H : (spec_l1Cur_pair.l0 k2 t101 t141 (wrap64 (x8_2 - 1)) s0_0 t136 t137) = some (r1, r2, r3, r4) := H
             have A35 := am_ A350
             clear A350
             have H' := am_ H
             clear H
             obtain ⟨Ao36, co36, eo36⟩ := Kd.S_slice HO_7.out
             subst eo36
             try go_wp2_with (first | ((with_reducible refine gate_callee (f := 91) rfl ?_); refine goesL_ (some 42) rfl rfl Try.func91 (by kernel_rfl) rfl #[.slice Ao36 x7_2.length co36] rfl tc0_ ?_; (with_reducible refine (spec_heOf.calls k2 _ _ x7_2 t126 _ ?side1 ?side2 A26.out).mono ?_); (case side1 => exact tc58_); (case side2 => exact (Kd.S_reads' HO_7.out).2.1); rintro e w37 ⟨v127, rfl, ho0, hb⟩; refine ⟨_, rfl, ?_⟩; have n0_ := am_ (Kd.S_below tc12_ hb); have n1_ := am_ (Kd.S_below tc24_ hb); have n2_ := am_ (Kd.S_lower (Kd.S_new' (Kd.S_new' ho0 (Kd.S_lt tc12_)) (Kd.S_lt tc24_)) (keep_size (w := w) (g := g) (row := none) tc4_)); have n3_ := am_ (IsS74.below tc2_ hb); have n4_ := am_ (KeepBut.trans tc4_ (KeepBut.of_below hb g none) (.inl rfl)); have n5_ := am_ (below_step tc5_ hb); clear HO_6 HO_7; clear HI0 HK HB; have HO_6 := n0_; have HO_7 := n1_; have HO128 := n2_; have HI0 := n3_; have HK := n4_; have HB := n5_; clear n0_ n1_ n2_ n3_ n4_ n5_; (try clear hb ho0)) | ((with_reducible refine gate_callee (f := 162) rfl ?_); refine goesL_ (some 45) rfl rfl Try.func162 (by kernel_rfl) rfl #[.pointer (some ⟨g, 0, none⟩), .int .i64 2] rfl tc0_ ?_; (with_reducible refine (spec_l1Cur_pick.calls g s0_0 x1001_2 x1002_2 2 t129 t130 t131 w0 _ ?side1 ?side2 A27.out).mono ?_); (case side1 => exact tc2_); (case side2 => exact tc5_); rintro e w38 ⟨rfl, hi, hb, hk⟩; refine ⟨_, rfl, ?_⟩; have n0_ := am_ (Kd.S_mono (Kd.S_keep (IsS74.apartS (show IsS74 w0 _ g s0_0 x1001_2 x1002_2 from tc2_) tc12_ (by decide)) hk (fun _ h => h.2)) (fun _ h => h.1)); have n1_ := am_ (Kd.S_mono (Kd.S_keep (IsS74.apartS (show IsS74 w0 _ g s0_0 x1001_2 x1002_2 from tc2_) tc24_ (by decide)) hk (fun _ h => h.2)) (fun _ h => h.1)); have n2_ := am_ (Kd.S_mono (Kd.S_keep (IsS74.apartS (show IsS74 w0 _ g s0_0 x1001_2 x1002_2 from tc2_) tc42_ (by decide)) hk (fun _ h => h.2)) (fun _ h => h.1)); have n3_ := am_ (KeepBut.trans tc4_ hk (.inl rfl)); have n4_ := am_ (hb); have n5_ := am_ (hi); clear HO_6 HO_7; clear HO128 HK; clear HB HI0; have HO_6 := n0_; have HO_7 := n1_; have HO128 := n2_; have HK := n3_; have HB := n4_; have HI0 := n5_; clear n0_ n1_ n2_ n3_ n4_ n5_; (try clear hb hk hi); obtain ⟨Ao39, co39, eo39⟩ := Kd.S_slice HO128.out; subst eo39) | ((with_reducible refine gate_callee (f := 167) rfl ?_); refine goesL_ (some 48) rfl rfl Try.func167 (by kernel_rfl) rfl #[.slice Ao39 t126.length co39, .int .i64 (wrap64 ((wrap64 (2 * t129)) - 1))] rfl tc0_ ?_; (with_reducible refine (spec_heFlips.calls k2 _ _ t126 (wrap64 ((wrap64 (2 * t129)) - 1)) t132 _ ?side1 ?side2 A28.out).mono ?_); (case side1 => repeat (first | exact (Kd.S_reads' HO128.out).2.2 | (with_reducible refine Kd.C_alloc ?_ _) | (with_reducible refine Kd.C_drewN ?_ _) | (with_reducible refine Kd.C_drew ?_))); (case side2 => exact (Kd.S_reads' HO128.out).2.1); rintro e w40 ⟨v133, rfl, ho0, hb⟩; refine ⟨_, rfl, ?_⟩; have n0_ := am_ (Kd.S_below tc12_ hb); have n1_ := am_ (Kd.S_below tc24_ hb); have n2_ := am_ (Kd.S_below tc42_ hb); have n3_ := am_ (Kd.S_lower (Kd.S_new' (Kd.S_new' (Kd.S_new' ho0 (Kd.S_lt tc12_)) (Kd.S_lt tc24_)) (Kd.S_lt tc42_)) (keep_size (w := w) (g := g) (row := none) tc4_)); have n4_ := am_ (IsS74.below tc2_ hb); have n5_ := am_ (KeepBut.trans tc4_ (KeepBut.of_below hb g none) (.inl rfl)); have n6_ := am_ (below_step tc5_ hb); clear HO_6 HO_7; clear HO128 HI0; clear HK HB; have HO_6 := n0_; have HO_7 := n1_; have HO128 := n2_; have HO134 := n3_; have HI0 := n4_; have HK := n5_; have HB := n6_; clear n0_ n1_ n2_ n3_ n4_ n5_ n6_; (try clear hb ho0); obtain ⟨Ao41, co41, eo41⟩ := Kd.S_slice HO134.out; subst eo41) | ((with_reducible refine gate_callee (f := 162) rfl ?_); refine goesL_ (some 56) rfl rfl Try.func162 (by kernel_rfl) rfl #[.pointer (some ⟨g, 0, none⟩), .int .i64 (t132.length : Int)] rfl tc0_ ?_; (with_reducible refine (spec_l1Cur_pick.calls g s0_0 t130 t131 (t132.length : Int) t135 t136 t137 w0 _ ?side1 ?side2 A30.out).mono ?_); (case side1 => exact tc2_); (case side2 => exact tc5_); rintro e w42 ⟨rfl, hi, hb, hk⟩; refine ⟨_, rfl, ?_⟩; have n0_ := am_ (Kd.S_mono (Kd.S_keep (IsS74.apartS (show IsS74 w0 _ g s0_0 t130 t131 from tc2_) tc12_ (by decide)) hk (fun _ h => h.2)) (fun _ h => h.1)); have n1_ := am_ (Kd.S_mono (Kd.S_keep (IsS74.apartS (show IsS74 w0 _ g s0_0 t130 t131 from tc2_) tc24_ (by decide)) hk (fun _ h => h.2)) (fun _ h => h.1)); have n2_ := am_ (Kd.S_mono (Kd.S_keep (IsS74.apartS (show IsS74 w0 _ g s0_0 t130 t131 from tc2_) tc42_ (by decide)) hk (fun _ h => h.2)) (fun _ h => h.1)); have n3_ := am_ (Kd.S_mono (Kd.S_keep (IsS74.apartS (show IsS74 w0 _ g s0_0 t130 t131 from tc2_) tc66_ (by decide)) hk (fun _ h => h.2)) (fun _ h => h.1)); have n4_ := am_ (KeepBut.trans tc4_ hk (.inl rfl)); have n5_ := am_ (hb); have n6_ := am_ (hi); clear HO_6 HO_7; clear HO128 HO134; clear HK HB HI0; have HO_6 := n0_; have HO_7 := n1_; have HO128 := n2_; have HO134 := n3_; have HK := n4_; have HB := n5_; have HI0 := n6_; clear n0_ n1_ n2_ n3_ n4_ n5_ n6_; (try clear hb hk hi); have p138 : 0 ≤ (t135 : Int) := of_decide_eq_true tc3_; have q138 : t135 < (t132.length : Int) := of_decide_eq_true tc3_; obtain ⟨ad138, A138_0, c138_0, e138, hx138_0, hl138_0, hi138_0⟩ := at_L3 (Kd.S_reads' HO134.out).2.2 t135 p138 q138; cases e138; obtain ⟨ce138, hce138, hMe138, hcc138⟩ := Kd.S_get HO134.out [] t135 p138 (by first | exact q138 | exact of_decide_eq_true tc3_ | (have e_ := (Kd.S_reads' HO134.out).1; omega)); obtain ⟨ve138_0, rfl, ge138_0⟩ := hMe138; have hv138_0 := hcc138 0 _ rfl; rw [Nat.add_zero, show ((Kd.slice 3 (Kd.int .i64))).sz = 1 from rfl, Nat.mul_one] at hv138_0; replace hv138_0 := Option.some.inj (hv138_0.symm.trans hx138_0); rw [hv138_0] at ge138_0; have HL138_0 := am_ (show Kd.R (Kd.int .i64) 3 _ _ _ _ (rd_L3 t132 t135) from ge138_0); clear hv138_0 ge138_0; clear hcc138 hce138; have HR138_0 := am_ hi138_0; have HC138_0 := am_ hl138_0; clear hi138_0 hl138_0; replace p138 := eq_true p138; replace q138 := eq_true q138))
             have n0_ := am_ (Kd.S_drew HO_6.out)
             have n1_ := am_ (Kd.S_drew HO_7.out)
             have n2_ := am_ (Kd.S_drew HO128.out)
             have n3_ := am_ (Kd.S_drew HO134.out)
             have n4_ := am_ (Kd.R_drew HL138_0.out)
             have n5_ := am_ (Kd.C_drew HR138_0.out)
             have n6_ := am_ (IsS74.drew HI0.out)
             have n7_ := am_ (keep_drew HK.out)
             have n8_ := am_ (below_drew1 HB.out)
             clear HO_6
             clear HO_7
             clear HO128
             clear HO134
             clear HL138_0
             clear HR138_0
             clear HI0
             clear HK
             clear HB
             have HO_6 := n0_
             have HO_7 := n1_
             have HO128 := n2_
             have HO134 := n3_
             have HL138_0 := n4_
             have HR138_0 := n5_
             have HI0 := n6_
             have HK := n7_
             have HB := n8_
             clear n0_ n1_ n2_ n3_ n4_ n5_ n6_ n7_ n8_
             have p139 : 0 ≤ (0 : Int) := (by omega)
             have q139 : 0 < ((rd_L3 t132 t135).length : Int) := of_decide_eq_true tc3_
             obtain ⟨ad139, e139, hx139_0⟩ := Kd.at_int tc54_ 0 p139 q139
             cases e139
             have qi139 : (0 < (rd_L3 t132 t135).length) = True := eq_true (by omega)
             (try rw [show ((0 : Int)).toNat = 0 from rfl] at hx139_0)
             (try rw [Addr.add_zero'] at hx139_0)
             replace p139 := eq_true p139
             replace q139 := eq_true q139
             have p140 : 0 ≤ (1 : Int) := (by omega)
             have q140 : 1 < ((rd_L3 t132 t135).length : Int) := of_decide_eq_true tc3_
             obtain ⟨ad140, e140, hx140_0⟩ := Kd.at_int tc54_ 1 p140 q140
             obtain rfl : ad139 = ad140 := (by injection e140)
             (try simp only [show (1 : Int).toNat = 1 from rfl, Nat.reduceMul, Nat.reduceEqDiff, Go.Addr.add, ↓reduceIte] at hx140_0)
             have qi140 : (1 < (rd_L3 t132 t135).length) = True := eq_true (by omega)
             (try rw [show ((1 : Int)).toNat = 1 from rfl] at hx140_0)
             replace p140 := eq_true p140
             replace q140 := eq_true q140
             refine start_ (n := 13) (S := fun w' => w'.cell? ad139 = some (.int .i64 (rd (rd_L3 t132 t135) 0)) ∧ w'.cell? ⟨ad139.block, ad139.off + 1, none⟩ = some (.int .i64 (rd (rd_L3 t132 t135) 1))) (ds := []) #[false, false, false, false, false, false, false, false, false, false, false, false, false] (by kernel_rfl) rfl rfl ⟨hx139_0, hx140_0⟩ (fun hHeld => ?_); refine with_tabW spec_l1Cur_pair.tab14 spec_l1Cur_pair.bits14 (fun HT_ HW_ => ?_)
             generalize w42.drew = w43 at HO_6 HO_7 HO128 HO134 HL138_0 HR138_0 HI0 HK HB hx139_0 hx140_0 hHeld ⊢
             refine pure_ (i := 0) (N := some 60) (v := ?_) (a' := ?_) #[true, false, false, false, false, false, false, false, false, false, false, false, false] rfl rfl (any_of HT_.out (by kernel_rfl)) (fun _ _ _ h => h) (Or.inl ⟨by rfl, ?_⟩) ?_ ?_
             rotate_left
             ·intro w'
              go_simp
              with_reducible rfl
             rotate_left
             ·simp only [Act.put, List.setIfInBounds_toArray, List.set_cons_zero, List.set_cons_succ, i64_w, i32_w]
              rfl
             refine pure_ (i := 1) (N := some 61) (v := ?_) (a' := ?_) #[true, true, false, false, false, false, false, false, false, false, false, false, false] rfl rfl (any_of HT_.out (by kernel_rfl)) (fun _ _ _ h => h) (Or.inl ⟨by rfl, ?_⟩) ?_ ?_
             rotate_left
             ·intro w'
              go_simp
              with_reducible rfl
             rotate_left
             ·simp only [Act.put, List.setIfInBounds_toArray, List.set_cons_zero, List.set_cons_succ, i64_w, i32_w]
              rfl
             refine pure_ (i := 2) (N := some 62) (v := ?_) (a' := ?_) #[true, true, true, false, false, false, false, false, false, false, false, false, false] rfl rfl (any_of HT_.out (by kernel_rfl)) (fun _ _ _ h => h) (Or.inl ⟨by rfl, ?_⟩) ?_ ?_
             rotate_left
             ·intro w'
              go_simp
              with_reducible rfl
             rotate_left
             ·simp only [Act.put, List.setIfInBounds_toArray, List.set_cons_zero, List.set_cons_succ, i64_w, i32_w]
              rfl
             refine pure_ (i := 4) (N := some 64) (v := ?_) (a' := ?_) #[true, true, true, false, true, false, false, false, false, false, false, false, false] rfl rfl (any_of HT_.out (by kernel_rfl)) (fun _ _ _ h => h) (Or.inl ⟨by rfl, ?_⟩) ?_ ?_
             rotate_left
             ·intro w'
              go_simp
              with_reducible rfl
             rotate_left
             ·simp only [Act.put, List.setIfInBounds_toArray, List.set_cons_zero, List.set_cons_succ, i64_w, i32_w]
              rfl
             refine pure_ (i := 5) (N := some 65) (v := ?_) (a' := ?_) #[true, true, true, false, true, true, false, false, false, false, false, false, false] rfl rfl (any_of HT_.out (by kernel_rfl)) (fun _ _ _ h => h) (Or.inl ⟨by rfl, ?_⟩) ?_ ?_
             rotate_left
             ·intro w'
              go_simp
              with_reducible rfl
             rotate_left
             ·simp only [Act.put, List.setIfInBounds_toArray, List.set_cons_zero, List.set_cons_succ, i64_w, i32_w]
              rfl
             refine take_ (i := 3) (N := some 63) (v := ?_) (a' := ?_) #[true, true, true, true, true, true, false, false, false, false, false, false, false] rfl rfl (take_ofW HT_.out HW_.out (by kernel_rfl)) (fun _ _ _ h => h) (Or.inl ⟨by rfl, ?_⟩) hHeld ?_ ?_
             rotate_left
             ·rintro w' ⟨s0, s1⟩
              go_simp
              with_reducible rfl
             rotate_left
             ·simp only [Act.put, List.setIfInBounds_toArray, List.set_cons_zero, List.set_cons_succ, i64_w, i32_w]
              rfl
             refine take_ (i := 6) (N := some 66) (v := ?_) (a' := ?_) #[true, true, true, true, true, true, true, false, false, false, false, false, false] rfl rfl (take_ofW HT_.out HW_.out (by kernel_rfl)) (fun _ _ _ h => h) (Or.inl ⟨by rfl, ?_⟩) hHeld ?_ ?_
             rotate_left
             ·rintro w' ⟨s0, s1⟩
              go_simp
              with_reducible rfl
             rotate_left
             ·simp only [Act.put, List.setIfInBounds_toArray, List.set_cons_zero, List.set_cons_succ, i64_w, i32_w]
              rfl
             refine one_ (i := 7) (N := some 67) #[true, true, true, true, true, true, true, true, false, false, false, false, false] rfl rfl (one_of HT_.out (by kernel_rfl)) (by decide) (fun K hK => ?_)
             refine goes_ Try.func168 (by kernel_rfl) rfl #[.slice Ao36 x7_2.length co36, .int .i64 (rd (rd_L3 t132 t135) 0), .int .i64 (rd (rd_L3 t132 t135) 1)] (by rfl) rfl rfl tc0_ ?_
             with_reducible refine (spec_FlipAt.calls k2 _ _ x7_2 (rd (rd_L3 t132 t135) 0) (rd (rd_L3 t132 t135) 1) t141 t142 _ ?side1 ?side2 A35.out).mono ?_
             (case side1 => exact tc58_)
             (case side2 => exact (Kd.S_reads' HO_7.out).2.1)
             rintro e w44 ⟨v143, rfl, ho0, hb⟩
             have HS0_ := (hb.cell (World.block_lt_of_cell? _ _ (hHeld.1))).trans (hHeld.1)
             have HS1_ := (hb.cell (World.block_lt_of_cell? _ _ (hHeld.2))).trans (hHeld.2)
             refine ⟨_, rfl, ?_⟩
             have n0_ := am_ (Kd.S_below tc12_ hb)
             have n1_ := am_ (Kd.S_below tc24_ hb)
             have n2_ := am_ (Kd.S_below tc42_ hb)
             have n3_ := am_ (Kd.S_below tc66_ hb)
             have n4_ := am_ (Kd.R_below (by (with_reducible repeat (first | apply Kd.R_alloc | apply Kd.R_drewN | apply Kd.R_drew)); exact HL138_0.out) hb)
             have n5_ := am_ (Kd.S_lower (Kd.S_new' (Kd.S_new' (Kd.S_new' (Kd.S_new' (Kd.S_new' ho0 (Kd.S_lt tc12_)) (Kd.S_lt tc24_)) (Kd.S_lt tc42_)) (Kd.S_lt tc66_)) (Kd.R_lt (by (with_reducible repeat (first | apply Kd.R_alloc | apply Kd.R_drewN | apply Kd.R_drew)); exact HL138_0.out))) (keep_size (w := w) (g := g) (row := none) tc4_))
             have n6_ := am_ (IsS74.below tc2_ hb)
             have n7_ := am_ (Kd.C_below tc54_ hb)
             have n8_ := am_ (KeepBut.trans tc4_ (KeepBut.of_below hb g none) (.inl rfl))
             have n9_ := am_ (below_step tc5_ hb)
             clear HO_6
             clear HO_7
             clear HO128
             clear HO134
             clear HL138_0
             clear HI0
             clear HR138_0
             clear HK
             clear HB
             have HO_6 := n0_
             have HO_7 := n1_
             have HO128 := n2_
             have HO134 := n3_
             have HL138_0 := n4_
             have HO144 := n5_
             have HI0 := n6_
             have HR138_0 := n7_
             have HK := n8_
             have HB := n9_
             clear n0_ n1_ n2_ n3_ n4_ n5_ n6_ n7_ n8_ n9_
             (try clear hb)
             (try clear hb2)
             (try clear hk)
             (try clear hi)
             (try clear ho0)
             refine hK.out _ _ ⟨HS0_, HS1_⟩ (fun hHeld => ?_)
             clear hK K
             refine norm_ (a' := ?_) ?_ ?_
             rotate_left
             ·show Act.put _ (some 67) _ = _
              simp only [Act.put, List.setIfInBounds_toArray, List.set_cons_zero, List.set_cons_succ, i64_w, i32_w]
              rfl
             refine pure_ (i := 8) (N := some 59) (v := ?_) (a' := ?_) #[true, true, true, true, true, true, true, true, true, false, false, false, false] rfl rfl (any_of HT_.out (by kernel_rfl)) (fun _ _ _ h => h) (Or.inl ⟨by rfl, ?_⟩) ?_ ?_
             rotate_left
             ·intro w'
              go_simp
              with_reducible rfl
             rotate_left
             ·simp only [Act.put, List.setIfInBounds_toArray, List.set_cons_zero, List.set_cons_succ, i64_w, i32_w]
              rfl
             refine pure_ (i := 9) (N := some 68) (v := ?_) (a' := ?_) #[true, true, true, true, true, true, true, true, true, true, false, false, false] rfl rfl (any_of HT_.out (by kernel_rfl)) (fun _ _ _ h => h) (Or.inl ⟨by rfl, ?_⟩) ?_ ?_
             rotate_left
             ·intro w'
              go_simp
              with_reducible rfl
             rotate_left
             ·simp only [Act.put, List.setIfInBounds_toArray, List.set_cons_zero, List.set_cons_succ, i64_w, i32_w]
              rfl
             refine pure_ (i := 10) (N := some 69) (v := ?_) (a' := ?_) #[true, true, true, true, true, true, true, true, true, true, true, false, false] rfl rfl (any_of HT_.out (by kernel_rfl)) (fun _ _ _ h => h) (Or.inl ⟨by rfl, ?_⟩) ?_ ?_
             rotate_left
             ·intro w'
              go_simp
              with_reducible rfl
             rotate_left
             ·simp only [Act.put, List.setIfInBounds_toArray, List.set_cons_zero, List.set_cons_succ, i64_w, i32_w]
              rfl
             refine pure_ (i := 11) (N := some 12) (v := ?_) (a' := ?_) #[true, true, true, true, true, true, true, true, true, true, true, true, false] rfl rfl (any_of HT_.out (by kernel_rfl)) (fun _ _ _ h => h) (Or.inl ⟨by rfl, ?_⟩) ?_ ?_
             rotate_left
             ·intro w'
              go_simp
              with_reducible rfl
             rotate_left
             ·simp only [Act.put, List.setIfInBounds_toArray, List.set_cons_zero, List.set_cons_succ, i64_w, i32_w]
              rfl
             refine pure_ (i := 12) (N := some 13) (v := ?_) (a' := ?_) #[true, true, true, true, true, true, true, true, true, true, true, true, true] rfl rfl (any_of HT_.out (by kernel_rfl)) (fun _ _ _ h => h) (Or.inl ⟨by rfl, ?_⟩) ?_ ?_
             rotate_left
             ·intro w'
              go_simp
              with_reducible rfl
             rotate_left
             ·simp only [Act.put, List.setIfInBounds_toArray, List.set_cons_zero, List.set_cons_succ, i64_w, i32_w]
              rfl
             refine done_ (done_of HT_.out (by kernel_rfl)) ?_
             try go_wp2
             go_roundg k2
             case measure => have := HJ3.out; have := HK2.out; omega
             case rel => exact ⟨(t141), (wrap64 (x8_2 - 1)), (t136), (t137), tc8_, H', ⟨by have := HJ3.out; have := HK2.out; omega⟩, ⟨by (with_reducible repeat (first | apply Kd.S_alloc | apply Kd.S_drewN | apply Kd.S_drew)); exact Kd.S_mono HO_6.out (fun _ _ => trivial)⟩, ⟨by (with_reducible repeat (first | apply Kd.S_alloc | apply Kd.S_drewN | apply Kd.S_drew)); exact Kd.S_mono HO144.out (fun _ _ => trivial)⟩, ⟨by repeat (first | (with_reducible first | exact HI0.out | apply IsS74.alloc | apply IsS74.drewN | apply IsS74.drew | apply IsS74.set_1 | apply IsS74.set_2) | exact HI0.out)⟩, ⟨by repeat (first | (with_reducible first | exact HK.out | apply KeepBut.set_ | apply keep_drewN | apply keep_drew | apply keep_alloc) | exact HK.out)⟩, ⟨by repeat (first | (with_reducible first | exact HB.out | apply below_alloc | apply pw_below_drewN | apply below_drew1 | refine below_set ?_ (IsS74.ge HI0.out)) | exact HB.out)⟩⟩
            ·rw [if_neg c34] at H
             exact absurd H (by simp)
           ·rw [if_neg c33] at H
            exact absurd H (by simp)
          ·rw [if_neg c32] at H
           exact absurd H (by simp)
         ·rw [if_neg c31] at H
          exact absurd H (by simp)
        ·rw [if_neg c29] at H
         have c29b0 : decide (0 < (t132.length : Int)) = false := decide_eq_false c29
         have c29b1 : decide (0 < t132.length) = false := decide_eq_false (by omega)
         clear c29
         have H' := am_ H
         clear H
         obtain ⟨Ao45, co45, eo45⟩ := Kd.S_slice HO_7.out
         subst eo45
         go_wp2_with (first | ((with_reducible refine gate_callee (f := 91) rfl ?_); refine goesL_ (some 42) rfl rfl Try.func91 (by kernel_rfl) rfl #[.slice Ao45 x7_2.length co45] rfl tc0_ ?_; (with_reducible refine (spec_heOf.calls k2 _ _ x7_2 t126 _ ?side1 ?side2 A26.out).mono ?_); (case side1 => exact tc58_); (case side2 => exact (Kd.S_reads' HO_7.out).2.1); rintro e w46 ⟨v127, rfl, ho0, hb⟩; refine ⟨_, rfl, ?_⟩; have n0_ := am_ (Kd.S_below tc12_ hb); have n1_ := am_ (Kd.S_below tc24_ hb); have n2_ := am_ (Kd.S_lower (Kd.S_new' (Kd.S_new' ho0 (Kd.S_lt tc12_)) (Kd.S_lt tc24_)) (keep_size (w := w) (g := g) (row := none) tc4_)); have n3_ := am_ (IsS74.below tc2_ hb); have n4_ := am_ (KeepBut.trans tc4_ (KeepBut.of_below hb g none) (.inl rfl)); have n5_ := am_ (below_step tc5_ hb); clear HO_6 HO_7; clear HI0 HK HB; have HO_6 := n0_; have HO_7 := n1_; have HO128 := n2_; have HI0 := n3_; have HK := n4_; have HB := n5_; clear n0_ n1_ n2_ n3_ n4_ n5_; (try clear hb ho0)) | ((with_reducible refine gate_callee (f := 162) rfl ?_); refine goesL_ (some 45) rfl rfl Try.func162 (by kernel_rfl) rfl #[.pointer (some ⟨g, 0, none⟩), .int .i64 2] rfl tc0_ ?_; (with_reducible refine (spec_l1Cur_pick.calls g s0_0 x1001_2 x1002_2 2 t129 t130 t131 w0 _ ?side1 ?side2 A27.out).mono ?_); (case side1 => exact tc2_); (case side2 => exact tc5_); rintro e w47 ⟨rfl, hi, hb, hk⟩; refine ⟨_, rfl, ?_⟩; have n0_ := am_ (Kd.S_mono (Kd.S_keep (IsS74.apartS (show IsS74 w0 _ g s0_0 x1001_2 x1002_2 from tc2_) tc12_ (by decide)) hk (fun _ h => h.2)) (fun _ h => h.1)); have n1_ := am_ (Kd.S_mono (Kd.S_keep (IsS74.apartS (show IsS74 w0 _ g s0_0 x1001_2 x1002_2 from tc2_) tc24_ (by decide)) hk (fun _ h => h.2)) (fun _ h => h.1)); have n2_ := am_ (Kd.S_mono (Kd.S_keep (IsS74.apartS (show IsS74 w0 _ g s0_0 x1001_2 x1002_2 from tc2_) tc42_ (by decide)) hk (fun _ h => h.2)) (fun _ h => h.1)); have n3_ := am_ (KeepBut.trans tc4_ hk (.inl rfl)); have n4_ := am_ (hb); have n5_ := am_ (hi); clear HO_6 HO_7; clear HO128 HK; clear HB HI0; have HO_6 := n0_; have HO_7 := n1_; have HO128 := n2_; have HK := n3_; have HB := n4_; have HI0 := n5_; clear n0_ n1_ n2_ n3_ n4_ n5_; (try clear hb hk hi); obtain ⟨Ao48, co48, eo48⟩ := Kd.S_slice HO128.out; subst eo48) | ((with_reducible refine gate_callee (f := 167) rfl ?_); refine goesL_ (some 48) rfl rfl Try.func167 (by kernel_rfl) rfl #[.slice Ao48 t126.length co48, .int .i64 (wrap64 ((wrap64 (2 * t129)) - 1))] rfl tc0_ ?_; (with_reducible refine (spec_heFlips.calls k2 _ _ t126 (wrap64 ((wrap64 (2 * t129)) - 1)) t132 _ ?side1 ?side2 A28.out).mono ?_); (case side1 => repeat (first | exact (Kd.S_reads' HO128.out).2.2 | (with_reducible refine Kd.C_alloc ?_ _) | (with_reducible refine Kd.C_drewN ?_ _) | (with_reducible refine Kd.C_drew ?_))); (case side2 => exact (Kd.S_reads' HO128.out).2.1); rintro e w49 ⟨v133, rfl, ho0, hb⟩; refine ⟨_, rfl, ?_⟩; have n0_ := am_ (Kd.S_below tc12_ hb); have n1_ := am_ (Kd.S_below tc24_ hb); have n2_ := am_ (Kd.S_below tc42_ hb); have n3_ := am_ (Kd.S_lower (Kd.S_new' (Kd.S_new' (Kd.S_new' ho0 (Kd.S_lt tc12_)) (Kd.S_lt tc24_)) (Kd.S_lt tc42_)) (keep_size (w := w) (g := g) (row := none) tc4_)); have n4_ := am_ (IsS74.below tc2_ hb); have n5_ := am_ (KeepBut.trans tc4_ (KeepBut.of_below hb g none) (.inl rfl)); have n6_ := am_ (below_step tc5_ hb); clear HO_6 HO_7; clear HO128 HI0; clear HK HB; have HO_6 := n0_; have HO_7 := n1_; have HO128 := n2_; have HO134 := n3_; have HI0 := n4_; have HK := n5_; have HB := n6_; clear n0_ n1_ n2_ n3_ n4_ n5_ n6_; (try clear hb ho0); obtain ⟨Ao50, co50, eo50⟩ := Kd.S_slice HO134.out; subst eo50))
         go_roundg k2
         case measure => have := HJ3.out; have := HK2.out; omega
         case rel => exact ⟨(x7_2), (wrap64 (x8_2 - 1)), (t130), (t131), tc8_, H', ⟨by have := HJ3.out; have := HK2.out; omega⟩, ⟨by (with_reducible repeat (first | apply Kd.S_alloc | apply Kd.S_drewN | apply Kd.S_drew)); exact Kd.S_mono HO_6.out (fun _ _ => trivial)⟩, ⟨by (with_reducible repeat (first | apply Kd.S_alloc | apply Kd.S_drewN | apply Kd.S_drew)); exact Kd.S_mono HO_7.out (fun _ _ => trivial)⟩, ⟨by repeat (first | (with_reducible first | exact HI0.out | apply IsS74.alloc | apply IsS74.drewN | apply IsS74.drew | apply IsS74.set_1 | apply IsS74.set_2) | exact HI0.out)⟩, ⟨by repeat (first | (with_reducible first | exact HK.out | apply KeepBut.set_ | apply keep_drewN | apply keep_drew | apply keep_alloc) | exact HK.out)⟩, ⟨by repeat (first | (with_reducible first | exact HB.out | apply below_alloc | apply pw_below_drewN | apply below_drew1 | refine below_set ?_ (IsS74.ge HI0.out)) | exact HB.out)⟩⟩
       ·rw [if_neg c25] at H
        have c25b0 : decide (0 < x8_2) = false := decide_eq_false c25
        clear c25
        simp only [Option.some.injEq, Prod.mk.injEq] at H
        obtain ⟨rfl, rfl, rfl, rfl⟩ := H
        go_wp2
        go_ret2
        exact ⟨_, _, by first | rfl | (simp [errW_none, errW_some] <;> rfl) | (simp [*, errW_none, errW_some] <;> rfl), by (with_reducible repeat (first | apply Kd.S_alloc | apply Kd.S_drewN | apply Kd.S_drew)); exact HO_6.out, by (with_reducible repeat (first | apply Kd.S_alloc | apply Kd.S_drewN | apply Kd.S_drew)); exact HO_7.out, by repeat (first | (with_reducible first | exact HI0.out | apply IsS74.alloc | apply IsS74.drewN | apply IsS74.drew | apply IsS74.set_1 | apply IsS74.set_2) | exact HI0.out), by repeat (first | (with_reducible first | exact HB.out | apply below_alloc | apply pw_below_drewN | apply below_drew1 | refine below_set ?_ (IsS74.ge HI0.out)) | exact HB.out), by repeat (first | (with_reducible first | exact HK.out | apply KeepBut.set_ | apply keep_drewN | apply keep_drew | apply keep_alloc) | exact HK.out)⟩
    ·replace c19 := Bool.eq_false_iff.mpr c19
     subst c19
     have H1 : (some (t101, t115, t121, t122)) = some (r1, r2, r3, r4) := by rw [if_neg (show ¬ (false = true) by decide)] at H; exact H
     clear H
     have H := H1
     clear H1
     simp only [Option.some.injEq, Prod.mk.injEq] at H
     obtain ⟨rfl, rfl, rfl, rfl⟩ := H
     obtain ⟨Ao51, co51, eo51⟩ := Kd.S_slice HO_6.out
     subst eo51
     go_wp2_with (first | ((with_reducible refine gate_callee (f := 166) rfl ?_); refine goesL_ (some 31) rfl rfl Try.func166 (by kernel_rfl) rfl #[.pointer (some ⟨g, 0, none⟩), .int .i64 (t101.length : Int)] rfl tc0_ ?_; (with_reducible refine (spec_l1Cur_sure.calls kj3 g s0_0 x1001_3 x1002_3 (t101.length : Int) t115 t118 t119 w0 _ ?side1 ?side2 A17.out).mono ?_); (case side1 => exact tc2_); (case side2 => exact tc5_); rintro e w52 ⟨v116, rfl, ho0, hi, hb, hk⟩; refine ⟨_, rfl, ?_⟩; have n0_ := am_ (Kd.S_mono (Kd.S_told (Kd.S_oldK (IsS74.apartS (show IsS74 w0 _ g s0_0 x1001_3 x1002_3 from tc2_) tc12_ (by decide)) hk) (Kd.S_base ho0)) (fun _ h_ => h_.1)); have n1_ := am_ (Kd.S_lower (Kd.S_new' ho0 (Kd.S_lt tc12_)) (keep_size (w := w) (g := g) (row := none) tc4_)); have n2_ := am_ (KeepBut.trans tc4_ hk (.inl rfl)); have n3_ := am_ (hb); have n4_ := am_ (hi); clear HO_6 HK; clear HB HI0; have HO_6 := n0_; have HO117 := n1_; have HK := n2_; have HB := n3_; have HI0 := n4_; clear n0_ n1_ n2_ n3_ n4_; (try clear hb hk hi ho0)) | ((with_reducible refine gate_callee (f := 131) rfl ?_); refine goesL_ (some 33) rfl rfl Try.func131 (by kernel_rfl) rfl #[.pointer (some ⟨g, 0, none⟩), .int .i64 3] rfl tc0_ ?_; (with_reducible refine (spec_l1Cur_one.calls g s0_0 t118 t119 3 false t121 t122 w0 _ ?side1 ?side2 A18.out).mono ?_); (case side1 => exact tc2_); (case side2 => exact tc5_); rintro e w53 ⟨rfl, hi, hb, hk⟩; refine ⟨_, rfl, ?_⟩; have n0_ := am_ (Kd.S_mono (Kd.S_keep (IsS74.apartS (show IsS74 w0 _ g s0_0 t118 t119 from tc2_) tc12_ (by decide)) hk (fun _ h => h.2)) (fun _ h => h.1)); have n1_ := am_ (Kd.S_mono (Kd.S_keep (IsS74.apartS (show IsS74 w0 _ g s0_0 t118 t119 from tc2_) tc61_ (by decide)) hk (fun _ h => h.2)) (fun _ h => h.1)); have n2_ := am_ (KeepBut.trans tc4_ hk (.inl rfl)); have n3_ := am_ (hb); have n4_ := am_ (hi); clear HO_6 HO117; clear HK HB HI0; have HO_6 := n0_; have HO117 := n1_; have HK := n2_; have HB := n3_; have HI0 := n4_; clear n0_ n1_ n2_ n3_ n4_; (try clear hb hk hi)))
     go_ret2
     exact ⟨_, _, by first | rfl | (simp [errW_none, errW_some] <;> rfl) | (simp [*, errW_none, errW_some] <;> rfl), by (with_reducible repeat (first | apply Kd.S_alloc | apply Kd.S_drewN | apply Kd.S_drew)); exact Kd.S_mono HO_6.out (fun _ _ => trivial), by (with_reducible repeat (first | apply Kd.S_alloc | apply Kd.S_drewN | apply Kd.S_drew)); exact Kd.S_mono HO117.out (fun _ _ => trivial), by repeat (first | (with_reducible first | exact HI0.out | apply IsS74.alloc | apply IsS74.drewN | apply IsS74.drew | apply IsS74.set_1 | apply IsS74.set_2) | exact HI0.out), by repeat (first | (with_reducible first | exact HB.out | apply below_alloc | apply pw_below_drewN | apply below_drew1 | refine below_set ?_ (IsS74.ge HI0.out)) | exact HB.out), by repeat (first | (with_reducible first | exact HK.out | apply KeepBut.set_ | apply keep_drewN | apply keep_drew | apply keep_alloc) | exact HK.out)⟩

/-! ### spec_DrawIsBelow: function 39 -/
def spec_DrawIsBelow.f (k : Nat) (l0 : List Int) : Option ((List (List Int)) × (List (List Int))) := (spec_l1Cur_pair.f k l0 0 0 5).bind fun bt102 => (some (bt102.1, bt102.2.1))
set_option maxHeartbeats 8000000 in
set_option maxRecDepth 100000 in
theorem spec_DrawIsBelow.calls (k : Nat) (A0 : Option Addr) (c0 : Nat) (l0 : List Int) (r1 : List (List Int)) (r2 : List (List Int)) (w : World) (hr0 : Kd.C (Kd.int .u8) w A0 l0.length l0) (hc0 : l0.length ≤ c0) (h : spec_DrawIsBelow.f k l0 = some (r1, r2)) :
  Calls Try.prog 39 #[.slice A0 l0.length c0] w fun e w' => ∃ v0_ v1_ : Value, e = .returned (.tuple #[v0_, v1_]) ∧ Kd.S (Kd.slice 3 (Kd.int .i64)) 35 w' w.heap.size (fun _ => True) v0_ r1 ∧ Kd.S (Kd.slice 3 (Kd.int .i64)) 35 w' w.heap.size (fun _ => True) v1_ r2 ∧ Below w.heap.size w w' := by
 have hu74 := Try.underlying74
 have HR0 := am_ hr0
 have HC0 := am_ hc0
 clear hr0 hc0
 have HB := am_ (Below.refl w.heap.size w)
 have H : ((spec_l1Cur_pair.f k l0 0 0 5).bind fun bt102 => (some (bt102.1, bt102.2.1))) = some (r1, r2) := h
 clear h
 replace H := Option.bind_eq_some_iff.mp H
 obtain ⟨⟨t102, t105, t108, t109⟩, A20, H⟩ := H
 replace H : (some (t102, t105)) = some (r1, r2) := H
 have A2 := am_ A20
 clear A20
 simp only [Option.some.injEq, Prod.mk.injEq] at H
 obtain ⟨rfl, rfl⟩ := H
 go_enter Try.func39, Try.ntmps39
 go_wp2_with (first | ((with_reducible refine gate_dst (N := 7) rfl ?_); refine box_event ?hg (N := 7) ?hd (cs := #[.slice A0 l0.length c0, .int .i64 0, .int .u64 0]) (t := 74) ?hr ?_; (case hd => rfl); (case hg => rfl); (case hr => exact tc38_); intro gb101 hg w3 hbox hb; have n0_ := am_ (below_step tc1_ hb); have n1_ := am_ ((by rw [hg]; exact (below_size tc1_) : w.heap.size ≤ gb101)); have n2_ := am_ ((by rw [hg]; exact (below_size tc1_) : w.heap.size ≤ gb101)); have n3_ := am_ ((show IsS74 w w3 gb101 l0 0 0 from ⟨A0, c0, hbox, (by rw [hg]; exact (below_size tc1_) : w.heap.size ≤ gb101), HR0.out⟩)); clear HB; have HB := n0_; have GW101 := n1_; have GE101 := n2_; have HI101 := n3_; clear n0_ n1_ n2_ n3_; clear hb hbox hg) | ((with_reducible refine gate_callee (f := 97) rfl ?_); refine goesL_ (some 9) rfl rfl Try.func97 (by kernel_rfl) rfl #[.pointer (some ⟨gb101, 0, none⟩), .int .i64 5] rfl tc0_ ?_; (with_reducible refine (spec_l1Cur_pair.calls k gb101 l0 0 0 5 t102 t105 t108 t109 w _ ?side1 ?side2 A2.out).mono ?_); (case side1 => exact tc6_); (case side2 => exact tc7_); rintro e w4 ⟨v103, v106, rfl, ho0, ho1, hi, hb, hk⟩; refine ⟨_, rfl, ?_⟩; have n0_ := am_ (Kd.S_lower ho0 (below_size tc7_)); have n1_ := am_ (Kd.S_lower ho1 (below_size tc7_)); have n2_ := am_ (hb); have n3_ := am_ (hi); clear HB HI101; have HO104 := n0_; have HO107 := n1_; have HB := n2_; have HI101 := n3_; clear n0_ n1_ n2_ n3_; (try clear hb hk hi ho0 ho1)))
 go_ret2
 exact ⟨_, _, by first | rfl | (simp [errW_none, errW_some] <;> rfl) | (simp [*, errW_none, errW_some] <;> rfl), by (with_reducible repeat (first | apply Kd.S_alloc | apply Kd.S_drewN | apply Kd.S_drew)); exact HO104.out, by (with_reducible repeat (first | apply Kd.S_alloc | apply Kd.S_drewN | apply Kd.S_drew)); exact HO107.out, by repeat (first | (with_reducible first | exact HB.out | apply below_alloc | apply pw_below_drewN | apply below_drew1 | refine below_set ?_ (IsS74.ge HI101.out)) | exact HB.out)⟩

/-! ### impl_arePair: function 98 -/
def impl_arePair.f (k : Nat) (l0 : List (List Int)) (l1 : List (List Int)) : Option (Bool) := (impl_IsSignMatrix.f k l0).bind fun t101 => (if t101 = true then ((impl_IsSignMatrix.f k l1).bind fun t102 => (if t102 = true then (some ((l0.length : Int) == (l1.length : Int))) else (some false))) else (some false))
set_option maxHeartbeats 8000000 in
set_option maxRecDepth 100000 in
theorem impl_arePair.calls (k : Nat) (A0 : Option Addr) (c0 : Nat) (l0 : List (List Int)) (A1 : Option Addr) (c1 : Nat) (l1 : List (List Int)) (r : Bool) (w : World) (hr0 : Kd.C (Kd.slice 3 (Kd.int .i64)) w A0 l0.length l0) (hc0 : l0.length ≤ c0) (hr1 : Kd.C (Kd.slice 3 (Kd.int .i64)) w A1 l1.length l1) (hc1 : l1.length ≤ c1) (h : impl_arePair.f k l0 l1 = some r) :
  Calls Try.prog 98 #[.slice A0 l0.length c0, .slice A1 l1.length c1] w fun e w' => e = .returned (.bool r) ∧ Below w.heap.size w w' := by
 have HR0 := am_ hr0
 have HC0 := am_ hc0
 clear hr0 hc0
 have HR1 := am_ hr1
 have HC1 := am_ hc1
 clear hr1 hc1
 have HB := am_ (Below.refl w.heap.size w)
 have H : ((impl_IsSignMatrix.f k l0).bind fun t101 => (if t101 = true then ((impl_IsSignMatrix.f k l1).bind fun t102 => (if t102 = true then (some ((l0.length : Int) == (l1.length : Int))) else (some false))) else (some false))) = some r := h
 clear h
 replace H := Option.bind_eq_some_iff.mp H
 obtain ⟨t101, A30, H⟩ := H
 replace H : (if t101 = true then ((impl_IsSignMatrix.f k l1).bind fun t102 => (if t102 = true then (some ((l0.length : Int) == (l1.length : Int))) else (some false))) else (some false)) = some r := H
 have A3 := am_ A30
 clear A30
 by_cases c4 : t101 = true
 ·subst c4
  have H1 : ((impl_IsSignMatrix.f k l1).bind fun t102 => (if t102 = true then (some ((l0.length : Int) == (l1.length : Int))) else (some false))) = some r := by rw [if_pos rfl] at H; exact H
  clear H
  have H := H1
  clear H1
  replace H := Option.bind_eq_some_iff.mp H
  obtain ⟨t102, A50, H⟩ := H
  replace H : (if t102 = true then (some ((l0.length : Int) == (l1.length : Int))) else (some false)) = some r := H
  have A5 := am_ A50
  clear A50
  by_cases c6 : t102 = true
  ·subst c6
   have H1 : (some ((l0.length : Int) == (l1.length : Int))) = some r := by rw [if_pos rfl] at H; exact H
   clear H
   have H := H1
   clear H1
   obtain rfl := Option.some.inj H
   go_enter Try.func98, Try.ntmps98
   go_wp2_with (first | ((with_reducible refine gate_callee (f := 65) rfl ?_); refine goesL_ (some 6) rfl rfl Try.func65 (by kernel_rfl) rfl #[.slice A0 l0.length c0] rfl tc0_ ?_; (with_reducible refine (impl_IsSignMatrix.calls k _ _ l0 true _ ?side1 ?side2 A3.out).mono ?_); (case side1 => exact tc9_); (case side2 => exact HC0.out); rintro e w7 ⟨rfl, hb⟩; refine ⟨_, rfl, ?_⟩; have n0_ := am_ (below_step tc1_ hb); clear HB; have HB := n0_; clear n0_; (try clear hb)) | (go_at_call 65; (with_reducible refine (impl_IsSignMatrix.calls k _ _ l1 true _ ?side1 ?side2 A5.out).mono ?_); (case side1 => exact tc26_); (case side2 => exact HC1.out); rintro e w8 ⟨rfl, hb⟩; have n0_ := am_ (below_step tc1_ hb); clear HB; have HB := n0_; clear n0_; (try clear hb hb2 hk hi)))
   go_ret
   exact ⟨by first | rfl | (simp [errW_none, errW_some] <;> rfl) | (simp [*, errW_none, errW_some] <;> rfl), by repeat (first | (with_reducible first | exact HB.out | apply below_alloc | apply pw_below_drewN | apply below_drew1) | exact HB.out)⟩
  ·replace c6 := Bool.eq_false_iff.mpr c6
   subst c6
   have H1 : (some false) = some r := by rw [if_neg (show ¬ (false = true) by decide)] at H; exact H
   clear H
   have H := H1
   clear H1
   obtain rfl := Option.some.inj H
   go_enter Try.func98, Try.ntmps98
   go_wp2_with (first | ((with_reducible refine gate_callee (f := 65) rfl ?_); refine goesL_ (some 6) rfl rfl Try.func65 (by kernel_rfl) rfl #[.slice A0 l0.length c0] rfl tc0_ ?_; (with_reducible refine (impl_IsSignMatrix.calls k _ _ l0 true _ ?side1 ?side2 A3.out).mono ?_); (case side1 => exact tc9_); (case side2 => exact HC0.out); rintro e w9 ⟨rfl, hb⟩; refine ⟨_, rfl, ?_⟩; have n0_ := am_ (below_step tc1_ hb); clear HB; have HB := n0_; clear n0_; (try clear hb)) | (go_at_call 65; (with_reducible refine (impl_IsSignMatrix.calls k _ _ l1 false _ ?side1 ?side2 A5.out).mono ?_); (case side1 => exact tc26_); (case side2 => exact HC1.out); rintro e w10 ⟨rfl, hb⟩; have n0_ := am_ (below_step tc1_ hb); clear HB; have HB := n0_; clear n0_; (try clear hb hb2 hk hi)))
   go_ret
   exact ⟨by first | rfl | (simp [errW_none, errW_some] <;> rfl) | (simp [*, errW_none, errW_some] <;> rfl), by repeat (first | (with_reducible first | exact HB.out | apply below_alloc | apply pw_below_drewN | apply below_drew1) | exact HB.out)⟩
 ·replace c4 := Bool.eq_false_iff.mpr c4
  subst c4
  have H1 : (some false) = some r := by rw [if_neg (show ¬ (false = true) by decide)] at H; exact H
  clear H
  have H := H1
  clear H1
  obtain rfl := Option.some.inj H
  go_enter Try.func98, Try.ntmps98
  go_wp2_with (first | ((with_reducible refine gate_callee (f := 65) rfl ?_); refine goesL_ (some 6) rfl rfl Try.func65 (by kernel_rfl) rfl #[.slice A0 l0.length c0] rfl tc0_ ?_; (with_reducible refine (impl_IsSignMatrix.calls k _ _ l0 false _ ?side1 ?side2 A3.out).mono ?_); (case side1 => exact tc9_); (case side2 => exact HC0.out); rintro e w11 ⟨rfl, hb⟩; refine ⟨_, rfl, ?_⟩; have n0_ := am_ (below_step tc1_ hb); clear HB; have HB := n0_; clear n0_; (try clear hb)))
  go_ret
  exact ⟨by first | rfl | (simp [errW_none, errW_some] <;> rfl) | (simp [*, errW_none, errW_some] <;> rfl), by repeat (first | (with_reducible first | exact HB.out | apply below_alloc | apply pw_below_drewN | apply below_drew1) | exact HB.out)⟩

/-! ### impl_isBelow: function 99 -/
mutual
def impl_isBelow.l0 : Nat → List (List Int) → List (List Int) → Int → Int → Option (Bool)
 | 0, _, _, _, _ => none
 | k + 1, x6, x15, x16, x17 => if x17 < x16 then (if 0 ≤ x17 then (if x17 < (x15.length : Int) then (impl_isBelow.l1 k x6 x17 x15 x16 x17 (rd_L3 x15 x17) ((rd_L3 x15 x17).length : Int) 0) else (none)) else (none)) else (some true)
def impl_isBelow.l1 : Nat → List (List Int) → Int → List (List Int) → Int → Int → List Int → Int → Int → Option (Bool)
 | 0, _, _, _, _, _, _, _, _ => none
 | k + 1, x6, x7, x15, x16, x17, x22, x23, x24 => if x24 < x23 then (if 0 ≤ x24 then (if x24 < (x22.length : Int) then (if 0 ≤ x7 then (if x7 < (x6.length : Int) then (if x24 < ((rd_L3 x6 x7).length : Int) then (if (rd x22 x24) > (rd (rd_L3 x6 x7) x24) then (some false) else (impl_isBelow.l1 k x6 x7 x15 x16 x17 x22 x23 (wrap64 (x24 + 1)))) else (none)) else (none)) else (none)) else (none)) else (none)) else (impl_isBelow.l0 k x6 x15 x16 (wrap64 (x17 + 1)))
end
def impl_isBelow.f (k : Nat) (l0 : List (List Int)) (l1 : List (List Int)) : Option (Bool) := (impl_heights.f k l0).bind fun t101 => ((impl_heights.f k l1).bind fun t104 => (impl_isBelow.l0 k t104 t101 (t101.length : Int) 0))
set_option maxHeartbeats 8000000 in
set_option maxRecDepth 100000 in
theorem impl_isBelow.calls (k : Nat) (A0 : Option Addr) (c0 : Nat) (l0 : List (List Int)) (A1 : Option Addr) (c1 : Nat) (l1 : List (List Int)) (r : Bool) (w : World) (hr0 : Kd.C (Kd.slice 3 (Kd.int .i64)) w A0 l0.length l0) (hc0 : l0.length ≤ c0) (hr1 : Kd.C (Kd.slice 3 (Kd.int .i64)) w A1 l1.length l1) (hc1 : l1.length ≤ c1) (h : impl_isBelow.f k l0 l1 = some r) :
  Calls Try.prog 99 #[.slice A0 l0.length c0, .slice A1 l1.length c1] w fun e w' => e = .returned (.bool r) ∧ Below w.heap.size w w' := by
 have HR0 := am_ hr0
 have HC0 := am_ hc0
 clear hr0 hc0
 have HR1 := am_ hr1
 have HC1 := am_ hc1
 clear hr1 hc1
 have HB := am_ (Below.refl w.heap.size w)
 have H : ((impl_heights.f k l0).bind fun t101 => ((impl_heights.f k l1).bind fun t104 => (impl_isBelow.l0 k t104 t101 (t101.length : Int) 0))) = some r := h
 clear h
 replace H := Option.bind_eq_some_iff.mp H
 obtain ⟨t101, A30, H⟩ := H
 replace H : ((impl_heights.f k l1).bind fun t104 => (impl_isBelow.l0 k t104 t101 (t101.length : Int) 0)) = some r := H
 have A3 := am_ A30
 clear A30
 replace H := Option.bind_eq_some_iff.mp H
 obtain ⟨t104, A40, H⟩ := H
 replace H : (impl_isBelow.l0 k t104 t101 (t101.length : Int) 0) = some r := H
 have A4 := am_ A40
 clear A40
 have H' := am_ H
 clear H
 go_enter Try.func99, Try.ntmps99
 go_wp2_with (first | ((with_reducible refine gate_callee (f := 90) rfl ?_); refine goesL_ (some 12) rfl rfl Try.func90 (by kernel_rfl) rfl #[.slice A0 l0.length c0] rfl tc0_ ?_; (with_reducible refine (impl_heights.calls k _ _ l0 t101 _ ?side1 ?side2 A3.out).mono ?_); (case side1 => exact tc9_); (case side2 => exact HC0.out); rintro e w5 ⟨v102, rfl, ho0, hb⟩; refine ⟨_, rfl, ?_⟩; have n0_ := am_ (Kd.S_lower ho0 (below_size tc1_)); have n1_ := am_ (below_step tc1_ hb); clear HB; have HO103 := n0_; have HB := n1_; clear n0_ n1_; (try clear hb ho0)) | ((with_reducible refine gate_callee (f := 90) rfl ?_); refine goesL_ (some 14) rfl rfl Try.func90 (by kernel_rfl) rfl #[.slice A1 l1.length c1] rfl tc0_ ?_; (with_reducible refine (impl_heights.calls k _ _ l1 t104 _ ?side1 ?side2 A4.out).mono ?_); (case side1 => exact tc26_); (case side2 => exact HC1.out); rintro e w6 ⟨v105, rfl, ho0, hb⟩; refine ⟨_, rfl, ?_⟩; have n0_ := am_ (Kd.S_elder' tc56_ (Kd.S_base ho0) hb); have n1_ := am_ (Kd.S_lower (Kd.S_new' ho0 (Kd.S_lt tc56_)) (below_size tc1_)); have n2_ := am_ (below_step tc1_ hb); clear HO103 HB; have HO103 := n0_; have HO106 := n1_; have HB := n2_; clear n0_ n1_ n2_; (try clear hb ho0); obtain ⟨Ao7, co7, eo7⟩ := Kd.S_slice HO103.out; subst eo7))
 go_loopg [17] k (fun kq v17 w' => ∃ (x17_1 : Int), v17 = .int .i64 x17_1 ∧ Aside0 (impl_isBelow.l0 kq t104 t101 (t101.length : Int) x17_1 = some r) ∧ Aside0 (kq ≤ k) ∧ Aside0 (Kd.S (Kd.slice 3 (Kd.int .i64)) 35 w' w.heap.size (fun k_ => some k_ ≠ ((.slice Ao7 t101.length co7) : Value).ownBlock) v105 t104) ∧ Aside0 (Kd.S (Kd.slice 3 (Kd.int .i64)) 35 w' w.heap.size (fun k_ => some k_ ≠ (v105 : Value).ownBlock) (.slice Ao7 t101.length co7) t101) ∧ Aside0 (Below w.heap.size w w'))
 case atStart => exact ⟨(0), tc8_, H', ⟨Nat.le_refl _⟩, ⟨by (with_reducible repeat (first | apply Kd.S_alloc | apply Kd.S_drewN | apply Kd.S_drew)); exact Kd.S_mono HO106.out (fun _ hk => hk.2)⟩, ⟨by (with_reducible repeat (first | apply Kd.S_alloc | apply Kd.S_drewN | apply Kd.S_drew)); exact Kd.S_mono HO103.out (fun _ hk => hk.2)⟩, ⟨by repeat (first | (with_reducible first | exact HB.out | apply below_alloc | apply pw_below_drewN | apply below_drew1) | exact HB.out)⟩⟩
 case round =>
  clear H'
  try clear c1
  try clear p2
  obtain ⟨x17_1, rfl, HA, HK1, HO_6, HO_15, HB⟩ := hrel
  cases gk with
  | zero => exact absurd HA.out (by simp [impl_isBelow.l0])
  | succ k1 =>
   have H := HA.out
   clear HA
   simp only [impl_isBelow.l0] at H
   by_cases c8 : x17_1 < (t101.length : Int)
   ·rw [if_pos c8] at H
    have c8b0 : decide (x17_1 < (t101.length : Int)) = true := decide_eq_true c8
    clear c8
    by_cases c9 : 0 ≤ x17_1
    ·rw [if_pos c9] at H
     have c9b0 : decide (0 ≤ x17_1) = true := decide_eq_true c9
     clear c9
     by_cases c10 : x17_1 < (t101.length : Int)
     ·rw [if_pos c10] at H
      have c10b0 : decide (x17_1 < (t101.length : Int)) = true := decide_eq_true c10
      clear c10
      have H' := am_ H
      clear H
      have p107 : 0 ≤ (x17_1 : Int) := of_decide_eq_true tc3_
      have q107 : x17_1 < (t101.length : Int) := of_decide_eq_true tc3_
      obtain ⟨ad107, A107_0, c107_0, e107, hx107_0, hl107_0, hi107_0⟩ := at_L3 (Kd.S_reads' HO_15.out).2.2 x17_1 p107 q107
      cases e107
      obtain ⟨ce107, hce107, hMe107, hcc107⟩ := Kd.S_get HO_15.out [] x17_1 p107 (by first | exact q107 | exact of_decide_eq_true tc3_ | (have e_ := (Kd.S_reads' HO_15.out).1; omega))
      obtain ⟨ve107_0, rfl, ge107_0⟩ := hMe107
      have hv107_0 := hcc107 0 _ rfl
      rw [Nat.add_zero, show ((Kd.slice 3 (Kd.int .i64))).sz = 1 from rfl, Nat.mul_one] at hv107_0
      replace hv107_0 := Option.some.inj (hv107_0.symm.trans hx107_0)
      rw [hv107_0] at ge107_0
      have HL107_0 := am_ (show Kd.R (Kd.int .i64) 3 _ _ _ _ (rd_L3 t101 x17_1) from ge107_0)
      clear hv107_0 ge107_0
      clear hcc107 hce107
      have HR107_0 := am_ hi107_0
      have HC107_0 := am_ hl107_0
      clear hi107_0 hl107_0
      replace p107 := eq_true p107
      replace q107 := eq_true q107
      go_wp2
      go_loopg [24] k1 (fun kq v24 w' => ∃ (x24_2 : Int), v24 = .int .i64 x24_2 ∧ Aside0 (impl_isBelow.l1 kq t104 x17_1 t101 (t101.length : Int) x17_1 (rd_L3 t101 x17_1) ((rd_L3 t101 x17_1).length : Int) x24_2 = some r) ∧ Aside0 (kq ≤ k1) ∧ Aside0 (Kd.S (Kd.slice 3 (Kd.int .i64)) 35 w' w.heap.size (fun k_ => some k_ ≠ ((.slice (some ad107) t101.length co7) : Value).ownBlock) v105 t104) ∧ Aside0 (Kd.S (Kd.slice 3 (Kd.int .i64)) 35 w' w.heap.size (fun k_ => some k_ ≠ (v105 : Value).ownBlock) (.slice (some ad107) t101.length co7) t101) ∧ Aside0 (Kd.C (Kd.int .i64) w' A107_0 (rd_L3 t101 x17_1).length (rd_L3 t101 x17_1)) ∧ Aside0 (Below w.heap.size w w'))
      case atStart => exact ⟨(0), tc8_, H', ⟨Nat.le_refl _⟩, ⟨by (with_reducible repeat (first | apply Kd.S_alloc | apply Kd.S_drewN | apply Kd.S_drew)); exact HO_6.out⟩, ⟨by (with_reducible repeat (first | apply Kd.S_alloc | apply Kd.S_drewN | apply Kd.S_drew)); exact HO_15.out⟩, ⟨by repeat (first | (with_reducible exact HR107_0.out) | (with_reducible refine Kd.C_alloc ?_ _) | (with_reducible refine Kd.C_drewN ?_ _) | (with_reducible refine Kd.C_drew ?_) | exact HR107_0.out)⟩, ⟨by repeat (first | (with_reducible first | exact HB.out | apply below_alloc | apply pw_below_drewN | apply below_drew1) | exact HB.out)⟩⟩
      case round =>
       clear H'
       try clear c1
       try clear p1
       try clear q1
       try clear hx1
       try clear p2
       try clear c8
       try clear c8b0
       try clear c9
       try clear c9b0
       try clear c10
       try clear c10b0
       try clear p10
       try clear q10
       try clear hx10
       try clear hx107_0
       try clear p107
       try clear p2
       try clear q107
       obtain ⟨x24_2, rfl, HA, HK2, HO_6, HO_15, HR107_0, HB⟩ := hrel
       cases gk with
       | zero => exact absurd HA.out (by simp [impl_isBelow.l1])
       | succ k2 =>
        have H := HA.out
        clear HA
        simp only [impl_isBelow.l1] at H
        by_cases c11 : x24_2 < ((rd_L3 t101 x17_1).length : Int)
        ·rw [if_pos c11] at H
         have c11b0 : decide (x24_2 < ((rd_L3 t101 x17_1).length : Int)) = true := decide_eq_true c11
         clear c11
         by_cases c12 : 0 ≤ x24_2
         ·rw [if_pos c12] at H
          have c12b0 : decide (0 ≤ x24_2) = true := decide_eq_true c12
          clear c12
          by_cases c13 : x24_2 < ((rd_L3 t101 x17_1).length : Int)
          ·rw [if_pos c13] at H
           have c13b0 : decide (x24_2 < ((rd_L3 t101 x17_1).length : Int)) = true := decide_eq_true c13
           clear c13
           by_cases c14 : 0 ≤ x17_1
           ·rw [if_pos c14] at H
            have c14b0 : decide (0 ≤ x17_1) = true := decide_eq_true c14
            clear c14
            by_cases c15 : x17_1 < (t104.length : Int)
            ·rw [if_pos c15] at H
             have c15b0 : decide (x17_1 < (t104.length : Int)) = true := decide_eq_true c15
             clear c15
             by_cases c16 : x24_2 < ((rd_L3 t104 x17_1).length : Int)
             ·rw [if_pos c16] at H
              have c16b0 : decide (x24_2 < ((rd_L3 t104 x17_1).length : Int)) = true := decide_eq_true c16
              clear c16
              by_cases c17 : (rd (rd_L3 t101 x17_1) x24_2) > (rd (rd_L3 t104 x17_1) x24_2)
              ·rw [if_pos c17] at H
               have c17b0 : decide ((rd (rd_L3 t104 x17_1) x24_2) < (rd (rd_L3 t101 x17_1) x24_2)) = true := decide_eq_true c17
               clear c17
               obtain rfl := Option.some.inj H
               have p108 : 0 ≤ (x24_2 : Int) := of_decide_eq_true tc3_
               have q108 : x24_2 < ((rd_L3 t101 x17_1).length : Int) := of_decide_eq_true tc3_
               obtain ⟨ad108, e108, hx108_0⟩ := Kd.at_int HR107_0.out x24_2 p108 q108
               cases e108
               (first | replace hx108_0 := (HB.out.cell (World.block_lt_of_cell? w _ hx108_0)).trans hx108_0 | skip)
               replace p108 := eq_true p108
               replace q108 := eq_true q108
               obtain ⟨Ao18, co18, eo18⟩ := Kd.S_slice HO_6.out
               subst eo18
               have p109 : 0 ≤ (x17_1 : Int) := of_decide_eq_true tc3_
               have q109 : x17_1 < (t104.length : Int) := of_decide_eq_true tc3_
               obtain ⟨ad109, A109_0, c109_0, e109, hx109_0, hl109_0, hi109_0⟩ := at_L3 (Kd.S_reads' HO_6.out).2.2 x17_1 p109 q109
               cases e109
               obtain ⟨ce109, hce109, hMe109, hcc109⟩ := Kd.S_get HO_6.out [] x17_1 p109 (by first | exact q109 | exact of_decide_eq_true tc3_ | (have e_ := (Kd.S_reads' HO_6.out).1; omega))
               obtain ⟨ve109_0, rfl, ge109_0⟩ := hMe109
               have hv109_0 := hcc109 0 _ rfl
               rw [Nat.add_zero, show ((Kd.slice 3 (Kd.int .i64))).sz = 1 from rfl, Nat.mul_one] at hv109_0
               replace hv109_0 := Option.some.inj (hv109_0.symm.trans hx109_0)
               rw [hv109_0] at ge109_0
               have HL109_0 := am_ (show Kd.R (Kd.int .i64) 3 _ _ _ _ (rd_L3 t104 x17_1) from ge109_0)
               clear hv109_0 ge109_0
               clear hcc109 hce109
               have HR109_0 := am_ hi109_0
               have HC109_0 := am_ hl109_0
               clear hi109_0 hl109_0
               replace p109 := eq_true p109
               replace q109 := eq_true q109
               have p110 : 0 ≤ (x24_2 : Int) := of_decide_eq_true tc3_
               have q110 : x24_2 < ((rd_L3 t104 x17_1).length : Int) := of_decide_eq_true tc3_
               obtain ⟨ad110, e110, hx110_0⟩ := Kd.at_int tc53_ x24_2 p110 q110
               cases e110
               replace p110 := eq_true p110
               replace q110 := eq_true q110
               go_wp2
               go_ret
               exact ⟨by first | rfl | (simp [errW_none, errW_some] <;> rfl) | (simp [*, errW_none, errW_some] <;> rfl), by repeat (first | (with_reducible first | exact HB.out | apply below_alloc | apply pw_below_drewN | apply below_drew1) | exact HB.out)⟩
              ·rw [if_neg c17] at H
               have c17b0 : decide ((rd (rd_L3 t104 x17_1) x24_2) < (rd (rd_L3 t101 x17_1) x24_2)) = false := decide_eq_false c17
               clear c17
               have H' := am_ H
               clear H
               have p108 : 0 ≤ (x24_2 : Int) := of_decide_eq_true tc3_
               have q108 : x24_2 < ((rd_L3 t101 x17_1).length : Int) := of_decide_eq_true tc3_
               obtain ⟨ad108, e108, hx108_0⟩ := Kd.at_int HR107_0.out x24_2 p108 q108
               cases e108
               (first | replace hx108_0 := (HB.out.cell (World.block_lt_of_cell? w _ hx108_0)).trans hx108_0 | skip)
               replace p108 := eq_true p108
               replace q108 := eq_true q108
               obtain ⟨Ao19, co19, eo19⟩ := Kd.S_slice HO_6.out
               subst eo19
               have p109 : 0 ≤ (x17_1 : Int) := of_decide_eq_true tc3_
               have q109 : x17_1 < (t104.length : Int) := of_decide_eq_true tc3_
               obtain ⟨ad109, A109_0, c109_0, e109, hx109_0, hl109_0, hi109_0⟩ := at_L3 (Kd.S_reads' HO_6.out).2.2 x17_1 p109 q109
               cases e109
               obtain ⟨ce109, hce109, hMe109, hcc109⟩ := Kd.S_get HO_6.out [] x17_1 p109 (by first | exact q109 | exact of_decide_eq_true tc3_ | (have e_ := (Kd.S_reads' HO_6.out).1; omega))
               obtain ⟨ve109_0, rfl, ge109_0⟩ := hMe109
               have hv109_0 := hcc109 0 _ rfl
               rw [Nat.add_zero, show ((Kd.slice 3 (Kd.int .i64))).sz = 1 from rfl, Nat.mul_one] at hv109_0
               replace hv109_0 := Option.some.inj (hv109_0.symm.trans hx109_0)
               rw [hv109_0] at ge109_0
               have HL109_0 := am_ (show Kd.R (Kd.int .i64) 3 _ _ _ _ (rd_L3 t104 x17_1) from ge109_0)
               clear hv109_0 ge109_0
               clear hcc109 hce109
               have HR109_0 := am_ hi109_0
               have HC109_0 := am_ hl109_0
               clear hi109_0 hl109_0
               replace p109 := eq_true p109
               replace q109 := eq_true q109
               have p110 : 0 ≤ (x24_2 : Int) := of_decide_eq_true tc3_
               have q110 : x24_2 < ((rd_L3 t104 x17_1).length : Int) := of_decide_eq_true tc3_
               obtain ⟨ad110, e110, hx110_0⟩ := Kd.at_int tc53_ x24_2 p110 q110
               cases e110
               replace p110 := eq_true p110
               replace q110 := eq_true q110
               go_wp2
               go_roundg k2
               case measure => have := HK1.out; have := HK2.out; omega
               case rel => exact ⟨(wrap64 (x24_2 + 1)), tc8_, H', ⟨by have := HK1.out; have := HK2.out; omega⟩, ⟨by (with_reducible repeat (first | apply Kd.S_alloc | apply Kd.S_drewN | apply Kd.S_drew)); exact HO_6.out⟩, ⟨by (with_reducible repeat (first | apply Kd.S_alloc | apply Kd.S_drewN | apply Kd.S_drew)); exact HO_15.out⟩, ⟨by repeat (first | (with_reducible exact HR107_0.out) | (with_reducible refine Kd.C_alloc ?_ _) | (with_reducible refine Kd.C_drewN ?_ _) | (with_reducible refine Kd.C_drew ?_) | exact HR107_0.out)⟩, ⟨by repeat (first | (with_reducible first | exact HB.out | apply below_alloc | apply pw_below_drewN | apply below_drew1) | exact HB.out)⟩⟩
             ·rw [if_neg c16] at H
              exact absurd H (by simp)
            ·rw [if_neg c15] at H
             exact absurd H (by simp)
           ·rw [if_neg c14] at H
            exact absurd H (by simp)
          ·rw [if_neg c13] at H
           exact absurd H (by simp)
         ·rw [if_neg c12] at H
          exact absurd H (by simp)
        ·rw [if_neg c11] at H
         have c11b0 : decide (x24_2 < ((rd_L3 t101 x17_1).length : Int)) = false := decide_eq_false c11
         clear c11
         have H' := am_ H
         clear H
         go_wp2
         go_roundg k2
         case measure => have := HK1.out; have := HK2.out; omega
         case rel => exact ⟨(wrap64 (x17_1 + 1)), tc8_, H', ⟨by have := HK1.out; have := HK2.out; omega⟩, ⟨by (with_reducible repeat (first | apply Kd.S_alloc | apply Kd.S_drewN | apply Kd.S_drew)); exact HO_6.out⟩, ⟨by (with_reducible repeat (first | apply Kd.S_alloc | apply Kd.S_drewN | apply Kd.S_drew)); exact HO_15.out⟩, ⟨by repeat (first | (with_reducible first | exact HB.out | apply below_alloc | apply pw_below_drewN | apply below_drew1) | exact HB.out)⟩⟩
     ·rw [if_neg c10] at H
      exact absurd H (by simp)
    ·rw [if_neg c9] at H
     exact absurd H (by simp)
   ·rw [if_neg c8] at H
    have c8b0 : decide (x17_1 < (t101.length : Int)) = false := decide_eq_false c8
    clear c8
    obtain rfl := Option.some.inj H
    go_wp2
    go_ret
    exact ⟨by first | rfl | (simp [errW_none, errW_some] <;> rfl) | (simp [*, errW_none, errW_some] <;> rfl), by repeat (first | (with_reducible first | exact HB.out | apply below_alloc | apply pw_below_drewN | apply below_drew1) | exact HB.out)⟩

/-! ### impl_IsBelow: function 40 -/
def impl_IsBelow.f (k : Nat) (l0 : List (List Int)) (l1 : List (List Int)) : Option (Bool × Bool) := (impl_arePair.f k l0 l1).bind fun t101 => (if t101 = true then ((impl_isBelow.f k l0 l1).bind fun t102 => (some (t102, true))) else (some (false, false)))
set_option maxHeartbeats 8000000 in
set_option maxRecDepth 100000 in
theorem impl_IsBelow.calls (k : Nat) (A0 : Option Addr) (c0 : Nat) (l0 : List (List Int)) (A1 : Option Addr) (c1 : Nat) (l1 : List (List Int)) (r1 : Bool) (r2 : Bool) (w : World) (hr0 : Kd.C (Kd.slice 3 (Kd.int .i64)) w A0 l0.length l0) (hc0 : l0.length ≤ c0) (hr1 : Kd.C (Kd.slice 3 (Kd.int .i64)) w A1 l1.length l1) (hc1 : l1.length ≤ c1) (h : impl_IsBelow.f k l0 l1 = some (r1, r2)) :
  Calls Try.prog 40 #[.slice A0 l0.length c0, .slice A1 l1.length c1] w fun e w' => e = .returned (.tuple #[.bool r1, .bool r2]) ∧ Below w.heap.size w w' := by
 have HR0 := am_ hr0
 have HC0 := am_ hc0
 clear hr0 hc0
 have HR1 := am_ hr1
 have HC1 := am_ hc1
 clear hr1 hc1
 have HB := am_ (Below.refl w.heap.size w)
 have H : ((impl_arePair.f k l0 l1).bind fun t101 => (if t101 = true then ((impl_isBelow.f k l0 l1).bind fun t102 => (some (t102, true))) else (some (false, false)))) = some (r1, r2) := h
 clear h
 replace H := Option.bind_eq_some_iff.mp H
 obtain ⟨t101, A30, H⟩ := H
 replace H : (if t101 = true then ((impl_isBelow.f k l0 l1).bind fun t102 => (some (t102, true))) else (some (false, false))) = some (r1, r2) := H
 have A3 := am_ A30
 clear A30
 by_cases c4 : t101 = true
 ·subst c4
  have H1 : ((impl_isBelow.f k l0 l1).bind fun t102 => (some (t102, true))) = some (r1, r2) := by rw [if_pos rfl] at H; exact H
  clear H
  have H := H1
  clear H1
  replace H := Option.bind_eq_some_iff.mp H
  obtain ⟨t102, A50, H⟩ := H
  replace H : (some (t102, true)) = some (r1, r2) := H
  have A5 := am_ A50
  clear A50
  simp only [Option.some.injEq, Prod.mk.injEq] at H
  obtain ⟨rfl, rfl⟩ := H
  go_enter Try.func40, Try.ntmps40
  go_wp2_with (first | ((with_reducible refine gate_callee (f := 98) rfl ?_); refine goesL_ (some 8) rfl rfl Try.func98 (by kernel_rfl) rfl #[.slice A0 l0.length c0, .slice A1 l1.length c1] rfl tc0_ ?_; (with_reducible refine (impl_arePair.calls k _ _ l0 _ _ l1 true _ ?side1 ?side2 ?side3 ?side4 A3.out).mono ?_); (case side1 => exact tc9_); (case side2 => exact HC0.out); (case side3 => exact tc34_); (case side4 => exact HC1.out); rintro e w6 ⟨rfl, hb⟩; refine ⟨_, rfl, ?_⟩; have n0_ := am_ (below_step tc1_ hb); clear HB; have HB := n0_; clear n0_; (try clear hb)) | ((with_reducible refine gate_callee (f := 99) rfl ?_); refine goesL_ (some 12) rfl rfl Try.func99 (by kernel_rfl) rfl #[.slice A0 l0.length c0, .slice A1 l1.length c1] rfl tc0_ ?_; (with_reducible refine (impl_isBelow.calls k _ _ l0 _ _ l1 t102 _ ?side1 ?side2 ?side3 ?side4 A5.out).mono ?_); (case side1 => exact tc10_); (case side2 => exact HC0.out); (case side3 => exact tc26_); (case side4 => exact HC1.out); rintro e w7 ⟨rfl, hb⟩; refine ⟨_, rfl, ?_⟩; have n0_ := am_ (below_step tc1_ hb); clear HB; have HB := n0_; clear n0_; (try clear hb)))
  go_ret2
  exact ⟨by first | rfl | (simp [errW_none, errW_some] <;> rfl) | (simp [*, errW_none, errW_some] <;> rfl), by repeat (first | (with_reducible first | exact HB.out | apply below_alloc | apply pw_below_drewN | apply below_drew1) | exact HB.out)⟩
 ·replace c4 := Bool.eq_false_iff.mpr c4
  subst c4
  have H1 : (some (false, false)) = some (r1, r2) := by rw [if_neg (show ¬ (false = true) by decide)] at H; exact H
  clear H
  have H := H1
  clear H1
  simp only [Option.some.injEq, Prod.mk.injEq] at H
  obtain ⟨rfl, rfl⟩ := H
  go_enter Try.func40, Try.ntmps40
  go_wp2_with (first | ((with_reducible refine gate_callee (f := 98) rfl ?_); refine goesL_ (some 8) rfl rfl Try.func98 (by kernel_rfl) rfl #[.slice A0 l0.length c0, .slice A1 l1.length c1] rfl tc0_ ?_; (with_reducible refine (impl_arePair.calls k _ _ l0 _ _ l1 false _ ?side1 ?side2 ?side3 ?side4 A3.out).mono ?_); (case side1 => exact tc9_); (case side2 => exact HC0.out); (case side3 => exact tc34_); (case side4 => exact HC1.out); rintro e w8 ⟨rfl, hb⟩; refine ⟨_, rfl, ?_⟩; have n0_ := am_ (below_step tc1_ hb); clear HB; have HB := n0_; clear n0_; (try clear hb)))
  go_ret2
  exact ⟨by first | rfl | (simp [errW_none, errW_some] <;> rfl) | (simp [*, errW_none, errW_some] <;> rfl), by repeat (first | (with_reducible first | exact HB.out | apply below_alloc | apply pw_below_drewN | apply below_drew1) | exact HB.out)⟩

/-! ### spec_hePair: function 100 -/
def spec_hePair.f (k : Nat) (l0 : List (List Int)) (l1 : List (List Int)) : Option (Bool) := (spec_sgGood.f k l0).bind fun t101 => (if t101 = true then ((spec_sgGood.f k l1).bind fun t102 => (if t102 = true then (some ((l0.length : Int) == (l1.length : Int))) else (some false))) else (some false))
set_option maxHeartbeats 8000000 in
set_option maxRecDepth 100000 in
theorem spec_hePair.calls (k : Nat) (A0 : Option Addr) (c0 : Nat) (l0 : List (List Int)) (A1 : Option Addr) (c1 : Nat) (l1 : List (List Int)) (r : Bool) (w : World) (hr0 : Kd.C (Kd.slice 3 (Kd.int .i64)) w A0 l0.length l0) (hc0 : l0.length ≤ c0) (hr1 : Kd.C (Kd.slice 3 (Kd.int .i64)) w A1 l1.length l1) (hc1 : l1.length ≤ c1) (h : spec_hePair.f k l0 l1 = some r) :
  Calls Try.prog 100 #[.slice A0 l0.length c0, .slice A1 l1.length c1] w fun e w' => e = .returned (.bool r) ∧ Below w.heap.size w w' := by
 have HR0 := am_ hr0
 have HC0 := am_ hc0
 clear hr0 hc0
 have HR1 := am_ hr1
 have HC1 := am_ hc1
 clear hr1 hc1
 have HB := am_ (Below.refl w.heap.size w)
 have H : ((spec_sgGood.f k l0).bind fun t101 => (if t101 = true then ((spec_sgGood.f k l1).bind fun t102 => (if t102 = true then (some ((l0.length : Int) == (l1.length : Int))) else (some false))) else (some false))) = some r := h
 clear h
 replace H := Option.bind_eq_some_iff.mp H
 obtain ⟨t101, A30, H⟩ := H
 replace H : (if t101 = true then ((spec_sgGood.f k l1).bind fun t102 => (if t102 = true then (some ((l0.length : Int) == (l1.length : Int))) else (some false))) else (some false)) = some r := H
 have A3 := am_ A30
 clear A30
 by_cases c4 : t101 = true
 ·subst c4
  have H1 : ((spec_sgGood.f k l1).bind fun t102 => (if t102 = true then (some ((l0.length : Int) == (l1.length : Int))) else (some false))) = some r := by rw [if_pos rfl] at H; exact H
  clear H
  have H := H1
  clear H1
  replace H := Option.bind_eq_some_iff.mp H
  obtain ⟨t102, A50, H⟩ := H
  replace H : (if t102 = true then (some ((l0.length : Int) == (l1.length : Int))) else (some false)) = some r := H
  have A5 := am_ A50
  clear A50
  by_cases c6 : t102 = true
  ·subst c6
   have H1 : (some ((l0.length : Int) == (l1.length : Int))) = some r := by rw [if_pos rfl] at H; exact H
   clear H
   have H := H1
   clear H1
   obtain rfl := Option.some.inj H
   go_enter Try.func100, Try.ntmps100
   go_wp2_with (first | ((with_reducible refine gate_callee (f := 67) rfl ?_); refine goesL_ (some 6) rfl rfl Try.func67 (by kernel_rfl) rfl #[.slice A0 l0.length c0] rfl tc0_ ?_; (with_reducible refine (spec_sgGood.calls k _ _ l0 true _ ?side1 ?side2 A3.out).mono ?_); (case side1 => exact tc9_); (case side2 => exact HC0.out); rintro e w7 ⟨rfl, hb⟩; refine ⟨_, rfl, ?_⟩; have n0_ := am_ (below_step tc1_ hb); clear HB; have HB := n0_; clear n0_; (try clear hb)) | (go_at_call 67; (with_reducible refine (spec_sgGood.calls k _ _ l1 true _ ?side1 ?side2 A5.out).mono ?_); (case side1 => exact tc26_); (case side2 => exact HC1.out); rintro e w8 ⟨rfl, hb⟩; have n0_ := am_ (below_step tc1_ hb); clear HB; have HB := n0_; clear n0_; (try clear hb hb2 hk hi)))
   go_ret
   exact ⟨by first | rfl | (simp [errW_none, errW_some] <;> rfl) | (simp [*, errW_none, errW_some] <;> rfl), by repeat (first | (with_reducible first | exact HB.out | apply below_alloc | apply pw_below_drewN | apply below_drew1) | exact HB.out)⟩
  ·replace c6 := Bool.eq_false_iff.mpr c6
   subst c6
   have H1 : (some false) = some r := by rw [if_neg (show ¬ (false = true) by decide)] at H; exact H
   clear H
   have H := H1
   clear H1
   obtain rfl := Option.some.inj H
   go_enter Try.func100, Try.ntmps100
   go_wp2_with (first | ((with_reducible refine gate_callee (f := 67) rfl ?_); refine goesL_ (some 6) rfl rfl Try.func67 (by kernel_rfl) rfl #[.slice A0 l0.length c0] rfl tc0_ ?_; (with_reducible refine (spec_sgGood.calls k _ _ l0 true _ ?side1 ?side2 A3.out).mono ?_); (case side1 => exact tc9_); (case side2 => exact HC0.out); rintro e w9 ⟨rfl, hb⟩; refine ⟨_, rfl, ?_⟩; have n0_ := am_ (below_step tc1_ hb); clear HB; have HB := n0_; clear n0_; (try clear hb)) | (go_at_call 67; (with_reducible refine (spec_sgGood.calls k _ _ l1 false _ ?side1 ?side2 A5.out).mono ?_); (case side1 => exact tc26_); (case side2 => exact HC1.out); rintro e w10 ⟨rfl, hb⟩; have n0_ := am_ (below_step tc1_ hb); clear HB; have HB := n0_; clear n0_; (try clear hb hb2 hk hi)))
   go_ret
   exact ⟨by first | rfl | (simp [errW_none, errW_some] <;> rfl) | (simp [*, errW_none, errW_some] <;> rfl), by repeat (first | (with_reducible first | exact HB.out | apply below_alloc | apply pw_below_drewN | apply below_drew1) | exact HB.out)⟩
 ·replace c4 := Bool.eq_false_iff.mpr c4
  subst c4
  have H1 : (some false) = some r := by rw [if_neg (show ¬ (false = true) by decide)] at H; exact H
  clear H
  have H := H1
  clear H1
  obtain rfl := Option.some.inj H
  go_enter Try.func100, Try.ntmps100
  go_wp2_with (first | ((with_reducible refine gate_callee (f := 67) rfl ?_); refine goesL_ (some 6) rfl rfl Try.func67 (by kernel_rfl) rfl #[.slice A0 l0.length c0] rfl tc0_ ?_; (with_reducible refine (spec_sgGood.calls k _ _ l0 false _ ?side1 ?side2 A3.out).mono ?_); (case side1 => exact tc9_); (case side2 => exact HC0.out); rintro e w11 ⟨rfl, hb⟩; refine ⟨_, rfl, ?_⟩; have n0_ := am_ (below_step tc1_ hb); clear HB; have HB := n0_; clear n0_; (try clear hb)))
  go_ret
  exact ⟨by first | rfl | (simp [errW_none, errW_some] <;> rfl) | (simp [*, errW_none, errW_some] <;> rfl), by repeat (first | (with_reducible first | exact HB.out | apply below_alloc | apply pw_below_drewN | apply below_drew1) | exact HB.out)⟩

/-! ### spec_heBelow: function 101 -/
mutual
def spec_heBelow.l0 : Nat → List (List Int) → List (List Int) → Int → Int → Option (Bool)
 | 0, _, _, _, _ => none
 | k + 1, x1, x9, x10, x11 => if x11 < x10 then (if 0 ≤ x11 then (if x11 < (x9.length : Int) then (spec_heBelow.l1 k x1 x11 x9 x10 x11 (rd_L3 x9 x11) ((rd_L3 x9 x11).length : Int) 0) else (none)) else (none)) else (some true)
def spec_heBelow.l1 : Nat → List (List Int) → Int → List (List Int) → Int → Int → List Int → Int → Int → Option (Bool)
 | 0, _, _, _, _, _, _, _, _ => none
 | k + 1, x1, x5, x9, x10, x11, x16, x17, x18 => if x18 < x17 then (if 0 ≤ x18 then (if x18 < (x16.length : Int) then (if 0 ≤ x5 then (if x5 < (x1.length : Int) then (if x18 < ((rd_L3 x1 x5).length : Int) then (if (rd x16 x18) > (rd (rd_L3 x1 x5) x18) then (some false) else (spec_heBelow.l1 k x1 x5 x9 x10 x11 x16 x17 (wrap64 (x18 + 1)))) else (none)) else (none)) else (none)) else (none)) else (none)) else (spec_heBelow.l0 k x1 x9 x10 (wrap64 (x11 + 1)))
end
def spec_heBelow.f (k : Nat) (l0 : List (List Int)) (l1 : List (List Int)) : Option (Bool) := spec_heBelow.l0 k l1 l0 (l0.length : Int) 0
set_option maxHeartbeats 8000000 in
set_option maxRecDepth 100000 in
theorem spec_heBelow.calls (k : Nat) (A0 : Option Addr) (c0 : Nat) (l0 : List (List Int)) (A1 : Option Addr) (c1 : Nat) (l1 : List (List Int)) (r : Bool) (w : World) (hr0 : Kd.C (Kd.slice 3 (Kd.int .i64)) w A0 l0.length l0) (hc0 : l0.length ≤ c0) (hr1 : Kd.C (Kd.slice 3 (Kd.int .i64)) w A1 l1.length l1) (hc1 : l1.length ≤ c1) (h : spec_heBelow.f k l0 l1 = some r) :
  Calls Try.prog 101 #[.slice A0 l0.length c0, .slice A1 l1.length c1] w fun e w' => e = .returned (.bool r) ∧ Drawn0 w w' := by
 have HR0 := am_ hr0
 have HC0 := am_ hc0
 clear hr0 hc0
 have HR1 := am_ hr1
 have HC1 := am_ hc1
 clear hr1 hc1
 have H : (spec_heBelow.l0 k l1 l0 (l0.length : Int) 0) = some r := h
 clear h
 have H' := am_ H
 clear H
 go_enter Try.func101, Try.ntmps101
 go_wp2
 go_loopg [11] k (fun kq v11 w' => ∃ (x11_1 : Int), v11 = .int .i64 x11_1 ∧ Aside0 (spec_heBelow.l0 kq l1 l0 (l0.length : Int) x11_1 = some r) ∧ Aside0 (kq ≤ k) ∧ Drawn0 w w')
 case atStart => exact ⟨(0), tc8_, H', ⟨Nat.le_refl _⟩, by repeat (first | exact Drawn0.refl _ | apply Drawn0.step)⟩
 case round =>
  clear H'
  try clear c1
  try clear p2
  obtain ⟨x11_1, rfl, HA, HK1, ⟨m1, rfl⟩⟩ := hrel
  cases gk with
  | zero => exact absurd HA.out (by simp [spec_heBelow.l0])
  | succ k1 =>
   have H := HA.out
   clear HA
   simp only [spec_heBelow.l0] at H
   by_cases c3 : x11_1 < (l0.length : Int)
   ·rw [if_pos c3] at H
    have c3b0 : decide (x11_1 < (l0.length : Int)) = true := decide_eq_true c3
    clear c3
    by_cases c4 : 0 ≤ x11_1
    ·rw [if_pos c4] at H
     have c4b0 : decide (0 ≤ x11_1) = true := decide_eq_true c4
     clear c4
     by_cases c5 : x11_1 < (l0.length : Int)
     ·rw [if_pos c5] at H
      have c5b0 : decide (x11_1 < (l0.length : Int)) = true := decide_eq_true c5
      clear c5
      have H' := am_ H
      clear H
      have p101 : 0 ≤ (x11_1 : Int) := of_decide_eq_true tc3_
      have q101 : x11_1 < (l0.length : Int) := of_decide_eq_true tc3_
      obtain ⟨ad101, A101_0, c101_0, e101, hx101_0, hl101_0, hi101_0⟩ := at_L3 HR0.out x11_1 p101 q101
      cases e101
      have HR101_0 := am_ hi101_0
      have HC101_0 := am_ hl101_0
      clear hi101_0 hl101_0
      replace p101 := eq_true p101
      replace q101 := eq_true q101
      go_wp2
      go_loopg [18] k1 (fun kq v18 w' => ∃ (x18_2 : Int), v18 = .int .i64 x18_2 ∧ Aside0 (spec_heBelow.l1 kq l1 x11_1 l0 (l0.length : Int) x11_1 (rd_L3 l0 x11_1) ((rd_L3 l0 x11_1).length : Int) x18_2 = some r) ∧ Aside0 (kq ≤ k1) ∧ Drawn0 w w')
      case atStart => exact ⟨(0), tc8_, H', ⟨Nat.le_refl _⟩, by repeat (first | exact Drawn0.refl _ | apply Drawn0.step)⟩
      case round =>
       clear H'
       try clear c1
       try clear p1
       try clear q1
       try clear hx1
       try clear p2
       try clear c3
       try clear c3b0
       try clear c4
       try clear c4b0
       try clear c5
       try clear c5b0
       try clear hx101_0
       try clear p101
       try clear p2
       try clear q101
       obtain ⟨x18_2, rfl, HA, HK2, ⟨m2, rfl⟩⟩ := hrel
       cases gk with
       | zero => exact absurd HA.out (by simp [spec_heBelow.l1])
       | succ k2 =>
        have H := HA.out
        clear HA
        simp only [spec_heBelow.l1] at H
        by_cases c6 : x18_2 < ((rd_L3 l0 x11_1).length : Int)
        ·rw [if_pos c6] at H
         have c6b0 : decide (x18_2 < ((rd_L3 l0 x11_1).length : Int)) = true := decide_eq_true c6
         clear c6
         by_cases c7 : 0 ≤ x18_2
         ·rw [if_pos c7] at H
          have c7b0 : decide (0 ≤ x18_2) = true := decide_eq_true c7
          clear c7
          by_cases c8 : x18_2 < ((rd_L3 l0 x11_1).length : Int)
          ·rw [if_pos c8] at H
           have c8b0 : decide (x18_2 < ((rd_L3 l0 x11_1).length : Int)) = true := decide_eq_true c8
           clear c8
           by_cases c9 : 0 ≤ x11_1
           ·rw [if_pos c9] at H
            have c9b0 : decide (0 ≤ x11_1) = true := decide_eq_true c9
            clear c9
            by_cases c10 : x11_1 < (l1.length : Int)
            ·rw [if_pos c10] at H
             have c10b0 : decide (x11_1 < (l1.length : Int)) = true := decide_eq_true c10
             clear c10
             by_cases c11 : x18_2 < ((rd_L3 l1 x11_1).length : Int)
             ·rw [if_pos c11] at H
              have c11b0 : decide (x18_2 < ((rd_L3 l1 x11_1).length : Int)) = true := decide_eq_true c11
              clear c11
              by_cases c12 : (rd (rd_L3 l0 x11_1) x18_2) > (rd (rd_L3 l1 x11_1) x18_2)
              ·rw [if_pos c12] at H
               have c12b0 : decide ((rd (rd_L3 l1 x11_1) x18_2) < (rd (rd_L3 l0 x11_1) x18_2)) = true := decide_eq_true c12
               clear c12
               obtain rfl := Option.some.inj H
               have p102 : 0 ≤ (x18_2 : Int) := of_decide_eq_true tc3_
               have q102 : x18_2 < ((rd_L3 l0 x11_1).length : Int) := of_decide_eq_true tc3_
               obtain ⟨ad102, e102, hx102_0⟩ := Kd.at_int HR101_0.out x18_2 p102 q102
               cases e102
               replace p102 := eq_true p102
               replace q102 := eq_true q102
               have p103 : 0 ≤ (x11_1 : Int) := of_decide_eq_true tc3_
               have q103 : x11_1 < (l1.length : Int) := of_decide_eq_true tc3_
               obtain ⟨ad103, A103_0, c103_0, e103, hx103_0, hl103_0, hi103_0⟩ := at_L3 HR1.out x11_1 p103 q103
               cases e103
               have HR103_0 := am_ hi103_0
               have HC103_0 := am_ hl103_0
               clear hi103_0 hl103_0
               replace p103 := eq_true p103
               replace q103 := eq_true q103
               have p104 : 0 ≤ (x18_2 : Int) := of_decide_eq_true tc3_
               have q104 : x18_2 < ((rd_L3 l1 x11_1).length : Int) := of_decide_eq_true tc3_
               obtain ⟨ad104, e104, hx104_0⟩ := Kd.at_int HR103_0.out x18_2 p104 q104
               cases e104
               replace p104 := eq_true p104
               replace q104 := eq_true q104
               go_wp2
               go_ret
               exact ⟨by first | rfl | (simp; done) | (simp [*]; done), by repeat (first | exact Drawn0.refl _ | apply Drawn0.step)⟩
              ·rw [if_neg c12] at H
               have c12b0 : decide ((rd (rd_L3 l1 x11_1) x18_2) < (rd (rd_L3 l0 x11_1) x18_2)) = false := decide_eq_false c12
               clear c12
               have H' := am_ H
               clear H
               have p102 : 0 ≤ (x18_2 : Int) := of_decide_eq_true tc3_
               have q102 : x18_2 < ((rd_L3 l0 x11_1).length : Int) := of_decide_eq_true tc3_
               obtain ⟨ad102, e102, hx102_0⟩ := Kd.at_int HR101_0.out x18_2 p102 q102
               cases e102
               replace p102 := eq_true p102
               replace q102 := eq_true q102
               have p103 : 0 ≤ (x11_1 : Int) := of_decide_eq_true tc3_
               have q103 : x11_1 < (l1.length : Int) := of_decide_eq_true tc3_
               obtain ⟨ad103, A103_0, c103_0, e103, hx103_0, hl103_0, hi103_0⟩ := at_L3 HR1.out x11_1 p103 q103
               cases e103
               have HR103_0 := am_ hi103_0
               have HC103_0 := am_ hl103_0
               clear hi103_0 hl103_0
               replace p103 := eq_true p103
               replace q103 := eq_true q103
               have p104 : 0 ≤ (x18_2 : Int) := of_decide_eq_true tc3_
               have q104 : x18_2 < ((rd_L3 l1 x11_1).length : Int) := of_decide_eq_true tc3_
               obtain ⟨ad104, e104, hx104_0⟩ := Kd.at_int HR103_0.out x18_2 p104 q104
               cases e104
               replace p104 := eq_true p104
               replace q104 := eq_true q104
               go_wp2
               go_roundg k2
               case measure => have := HK1.out; have := HK2.out; omega
               case rel => exact ⟨(wrap64 (x18_2 + 1)), tc8_, H', ⟨by have := HK1.out; have := HK2.out; omega⟩, by repeat (first | exact Drawn0.refl _ | apply Drawn0.step)⟩
             ·rw [if_neg c11] at H
              exact absurd H (by simp)
            ·rw [if_neg c10] at H
             exact absurd H (by simp)
           ·rw [if_neg c9] at H
            exact absurd H (by simp)
          ·rw [if_neg c8] at H
           exact absurd H (by simp)
         ·rw [if_neg c7] at H
          exact absurd H (by simp)
        ·rw [if_neg c6] at H
         have c6b0 : decide (x18_2 < ((rd_L3 l0 x11_1).length : Int)) = false := decide_eq_false c6
         clear c6
         have H' := am_ H
         clear H
         go_wp2
         go_roundg k2
         case measure => have := HK1.out; have := HK2.out; omega
         case rel => exact ⟨(wrap64 (x11_1 + 1)), tc8_, H', ⟨by have := HK1.out; have := HK2.out; omega⟩, by repeat (first | exact Drawn0.refl _ | apply Drawn0.step)⟩
     ·rw [if_neg c5] at H
      exact absurd H (by simp)
    ·rw [if_neg c4] at H
     exact absurd H (by simp)
   ·rw [if_neg c3] at H
    have c3b0 : decide (x11_1 < (l0.length : Int)) = false := decide_eq_false c3
    clear c3
    obtain rfl := Option.some.inj H
    go_wp2
    go_ret
    exact ⟨by first | rfl | (simp; done) | (simp [*]; done), by repeat (first | exact Drawn0.refl _ | apply Drawn0.step)⟩

/-! ### spec_IsBelow: function 41 -/
def spec_IsBelow.f (k : Nat) (l0 : List (List Int)) (l1 : List (List Int)) : Option (Bool × Bool) := (spec_hePair.f k l0 l1).bind fun t101 => (if t101 = true then ((spec_heOf.f k l0).bind fun t102 => ((spec_heOf.f k l1).bind fun t105 => ((spec_heBelow.f k t102 t105).bind fun t108 => (some (t108, true))))) else (some (false, false)))
set_option maxHeartbeats 8000000 in
set_option maxRecDepth 100000 in
theorem spec_IsBelow.calls (k : Nat) (A0 : Option Addr) (c0 : Nat) (l0 : List (List Int)) (A1 : Option Addr) (c1 : Nat) (l1 : List (List Int)) (r1 : Bool) (r2 : Bool) (w : World) (hr0 : Kd.C (Kd.slice 3 (Kd.int .i64)) w A0 l0.length l0) (hc0 : l0.length ≤ c0) (hr1 : Kd.C (Kd.slice 3 (Kd.int .i64)) w A1 l1.length l1) (hc1 : l1.length ≤ c1) (h : spec_IsBelow.f k l0 l1 = some (r1, r2)) :
  Calls Try.prog 41 #[.slice A0 l0.length c0, .slice A1 l1.length c1] w fun e w' => e = .returned (.tuple #[.bool r1, .bool r2]) ∧ Below w.heap.size w w' := by
 have HR0 := am_ hr0
 have HC0 := am_ hc0
 clear hr0 hc0
 have HR1 := am_ hr1
 have HC1 := am_ hc1
 clear hr1 hc1
 have HB := am_ (Below.refl w.heap.size w)
 have H : ((spec_hePair.f k l0 l1).bind fun t101 => (if t101 = true then ((spec_heOf.f k l0).bind fun t102 => ((spec_heOf.f k l1).bind fun t105 => ((spec_heBelow.f k t102 t105).bind fun t108 => (some (t108, true))))) else (some (false, false)))) = some (r1, r2) := h
 clear h
 replace H := Option.bind_eq_some_iff.mp H
 obtain ⟨t101, A30, H⟩ := H
 replace H : (if t101 = true then ((spec_heOf.f k l0).bind fun t102 => ((spec_heOf.f k l1).bind fun t105 => ((spec_heBelow.f k t102 t105).bind fun t108 => (some (t108, true))))) else (some (false, false))) = some (r1, r2) := H
 have A3 := am_ A30
 clear A30
 by_cases c4 : t101 = true
 ·subst c4
  have H1 : ((spec_heOf.f k l0).bind fun t102 => ((spec_heOf.f k l1).bind fun t105 => ((spec_heBelow.f k t102 t105).bind fun t108 => (some (t108, true))))) = some (r1, r2) := by rw [if_pos rfl] at H; exact H
  clear H
  have H := H1
  clear H1
  replace H := Option.bind_eq_some_iff.mp H
  obtain ⟨t102, A50, H⟩ := H
  replace H : ((spec_heOf.f k l1).bind fun t105 => ((spec_heBelow.f k t102 t105).bind fun t108 => (some (t108, true)))) = some (r1, r2) := H
  have A5 := am_ A50
  clear A50
  replace H := Option.bind_eq_some_iff.mp H
  obtain ⟨t105, A60, H⟩ := H
  replace H : ((spec_heBelow.f k t102 t105).bind fun t108 => (some (t108, true))) = some (r1, r2) := H
  have A6 := am_ A60
  clear A60
  replace H := Option.bind_eq_some_iff.mp H
  obtain ⟨t108, A70, H⟩ := H
  replace H : (some (t108, true)) = some (r1, r2) := H
  have A7 := am_ A70
  clear A70
  simp only [Option.some.injEq, Prod.mk.injEq] at H
  obtain ⟨rfl, rfl⟩ := H
  go_enter Try.func41, Try.ntmps41
  go_wp2_with (first | ((with_reducible refine gate_callee (f := 100) rfl ?_); refine goesL_ (some 8) rfl rfl Try.func100 (by kernel_rfl) rfl #[.slice A0 l0.length c0, .slice A1 l1.length c1] rfl tc0_ ?_; (with_reducible refine (spec_hePair.calls k _ _ l0 _ _ l1 true _ ?side1 ?side2 ?side3 ?side4 A3.out).mono ?_); (case side1 => exact tc9_); (case side2 => exact HC0.out); (case side3 => exact tc34_); (case side4 => exact HC1.out); rintro e w8 ⟨rfl, hb⟩; refine ⟨_, rfl, ?_⟩; have n0_ := am_ (below_step tc1_ hb); clear HB; have HB := n0_; clear n0_; (try clear hb)) | ((with_reducible refine gate_callee (f := 91) rfl ?_); refine goesL_ (some 11) rfl rfl Try.func91 (by kernel_rfl) rfl #[.slice A0 l0.length c0] rfl tc0_ ?_; (with_reducible refine (spec_heOf.calls k _ _ l0 t102 _ ?side1 ?side2 A5.out).mono ?_); (case side1 => exact tc10_); (case side2 => exact HC0.out); rintro e w9 ⟨v103, rfl, ho0, hb⟩; refine ⟨_, rfl, ?_⟩; have n0_ := am_ (Kd.S_lower ho0 (below_size tc1_)); have n1_ := am_ (below_step tc1_ hb); clear HB; have HO104 := n0_; have HB := n1_; clear n0_ n1_; (try clear hb ho0)) | ((with_reducible refine gate_callee (f := 91) rfl ?_); refine goesL_ (some 13) rfl rfl Try.func91 (by kernel_rfl) rfl #[.slice A1 l1.length c1] rfl tc0_ ?_; (with_reducible refine (spec_heOf.calls k _ _ l1 t105 _ ?side1 ?side2 A6.out).mono ?_); (case side1 => exact tc26_); (case side2 => exact HC1.out); rintro e w10 ⟨v106, rfl, ho0, hb⟩; refine ⟨_, rfl, ?_⟩; have n0_ := am_ (Kd.S_elder' tc11_ (Kd.S_base ho0) hb); have n1_ := am_ (Kd.S_lower (Kd.S_new' ho0 (Kd.S_lt tc11_)) (below_size tc1_)); have n2_ := am_ (below_step tc1_ hb); clear HO104 HB; have HO104 := n0_; have HO107 := n1_; have HB := n2_; clear n0_ n1_ n2_; (try clear hb ho0); obtain ⟨Ao11, co11, eo11⟩ := Kd.S_slice HO104.out; subst eo11; obtain ⟨Ao12, co12, eo12⟩ := Kd.S_slice HO107.out; subst eo12) | ((with_reducible refine gate_callee (f := 101) rfl ?_); refine goesL_ (some 14) rfl rfl Try.func101 (by kernel_rfl) rfl #[.slice Ao11 t102.length co11, .slice Ao12 t105.length co12] rfl tc0_ ?_; (with_reducible refine (spec_heBelow.calls k _ _ t102 _ _ t105 t108 _ ?side1 ?side2 ?side3 ?side4 A7.out).mono ?_); (case side1 => exact tc15_); (case side2 => exact tc59_); (case side3 => repeat (first | exact (Kd.S_reads' HO107.out).2.2 | (with_reducible refine Kd.C_alloc ?_ _) | (with_reducible refine Kd.C_drewN ?_ _) | (with_reducible refine Kd.C_drew ?_))); (case side4 => exact (Kd.S_reads' HO107.out).2.1); rintro e w' ⟨rfl, ⟨nd, rfl⟩⟩; refine ⟨_, rfl, ?_⟩))
  go_ret2
  exact ⟨by first | rfl | (simp [errW_none, errW_some] <;> rfl) | (simp [*, errW_none, errW_some] <;> rfl), by repeat (first | (with_reducible first | exact HB.out | apply below_alloc | apply pw_below_drewN | apply below_drew1) | exact HB.out)⟩
 ·replace c4 := Bool.eq_false_iff.mpr c4
  subst c4
  have H1 : (some (false, false)) = some (r1, r2) := by rw [if_neg (show ¬ (false = true) by decide)] at H; exact H
  clear H
  have H := H1
  clear H1
  simp only [Option.some.injEq, Prod.mk.injEq] at H
  obtain ⟨rfl, rfl⟩ := H
  go_enter Try.func41, Try.ntmps41
  go_wp2_with (first | ((with_reducible refine gate_callee (f := 100) rfl ?_); refine goesL_ (some 8) rfl rfl Try.func100 (by kernel_rfl) rfl #[.slice A0 l0.length c0, .slice A1 l1.length c1] rfl tc0_ ?_; (with_reducible refine (spec_hePair.calls k _ _ l0 _ _ l1 false _ ?side1 ?side2 ?side3 ?side4 A3.out).mono ?_); (case side1 => exact tc9_); (case side2 => exact HC0.out); (case side3 => exact tc34_); (case side4 => exact HC1.out); rintro e w13 ⟨rfl, hb⟩; refine ⟨_, rfl, ?_⟩; have n0_ := am_ (below_step tc1_ hb); clear HB; have HB := n0_; clear n0_; (try clear hb)))
  go_ret2
  exact ⟨by first | rfl | (simp [errW_none, errW_some] <;> rfl) | (simp [*, errW_none, errW_some] <;> rfl), by repeat (first | (with_reducible first | exact HB.out | apply below_alloc | apply pw_below_drewN | apply below_drew1) | exact HB.out)⟩

/-! ### impl_mirrored_1: function 170 -/
def impl_mirrored_1.f (a0 : Int) (a1 : Int) (l2_0 : List (List Int)) (a3_0 : Int) : Option (Int) := if 0 ≤ a0 then (if a0 < (l2_0.length : Int) then (if 0 ≤ (wrap64 ((wrap64 (a3_0 - 1)) - a1)) then (if (wrap64 ((wrap64 (a3_0 - 1)) - a1)) < ((rd_L3 l2_0 a0).length : Int) then (some (rd (rd_L3 l2_0 a0) (wrap64 ((wrap64 (a3_0 - 1)) - a1)))) else (none)) else (none)) else (none)) else (none)
set_option maxHeartbeats 8000000 in
set_option maxRecDepth 100000 in
theorem impl_mirrored_1.calls (a0 : Int) (a1 : Int) (B2 : Nat) (A2_0 : Option Addr) (c2_0 : Nat) (l2_0 : List (List Int)) (B3 : Nat) (a3_0 : Int) (r : Int) (w : World) (hb2 : w.heap[B2]? = some (.cells #[.slice A2_0 l2_0.length c2_0] 24 (0, 0))) (hr2_0 : Kd.C (Kd.slice 3 (Kd.int .i64)) w A2_0 l2_0.length l2_0) (hc2_0 : l2_0.length ≤ c2_0) (hb3 : w.heap[B3]? = some (.cells #[.int .i64 a3_0] 3 (0, 0))) (h : impl_mirrored_1.f a0 a1 l2_0 a3_0 = some r) :
  Calls Try.prog 170 #[.int .i64 a0, .int .i64 a1, .pointer (some ⟨B2, 0, none⟩), .pointer (some ⟨B3, 0, none⟩)] w fun e w' => e = .returned (.int .i64 r) ∧ Drawn0 w w' := by
 have HR2_0 := am_ hr2_0
 have HC2_0 := am_ hc2_0
 clear hr2_0 hc2_0
 have BK62 := am_ hb2
 clear hb2
 have BK63 := am_ hb3
 clear hb3
 have H : (if 0 ≤ a0 then (if a0 < (l2_0.length : Int) then (if 0 ≤ (wrap64 ((wrap64 (a3_0 - 1)) - a1)) then (if (wrap64 ((wrap64 (a3_0 - 1)) - a1)) < ((rd_L3 l2_0 a0).length : Int) then (some (rd (rd_L3 l2_0 a0) (wrap64 ((wrap64 (a3_0 - 1)) - a1)))) else (none)) else (none)) else (none)) else (none)) = some r := h
 clear h
 by_cases c5 : 0 ≤ a0
 ·rw [if_pos c5] at H
  have c5b0 : decide (0 ≤ a0) = true := decide_eq_true c5
  clear c5
  by_cases c6 : a0 < (l2_0.length : Int)
  ·rw [if_pos c6] at H
   have c6b0 : decide (a0 < (l2_0.length : Int)) = true := decide_eq_true c6
   clear c6
   obtain ⟨ji7, hji7⟩ : ∃ j_ : Int, (wrap64 ((wrap64 (a3_0 - 1)) - a1)) = j_ := ⟨_, rfl⟩
   replace H : (if 0 ≤ (ji7) then (if (ji7) < ((rd_L3 l2_0 a0).length : Int) then (some (rd (rd_L3 l2_0 a0) (ji7))) else (none)) else (none)) = some r := by first | (rw [hji7] at H; exact H) | (simp only [hji7] at H ⊢; exact H)
   have hji7w : (IntKind.i64.wrap ((wrap64 (a3_0 - 1)) - a1)) = ji7 := (i64_w _).trans hji7
   by_cases c8 : 0 ≤ (ji7)
   ·rw [if_pos c8] at H
    have c8b0 : decide (0 ≤ (ji7)) = true := decide_eq_true c8
    clear c8
    by_cases c9 : (ji7) < ((rd_L3 l2_0 a0).length : Int)
    ·rw [if_pos c9] at H
     have c9b0 : decide ((ji7) < ((rd_L3 l2_0 a0).length : Int)) = true := decide_eq_true c9
     clear c9
     obtain rfl := Option.some.inj H
     have hcz10_0 : w.cell? ⟨B2, 0, none⟩ = some (.slice A2_0 l2_0.length c2_0) := (blk_cell BK62.out 0).trans rfl
     have hfz10_0 := blk_frozen BK62.out 0
     have p101 : 0 ≤ (a0 : Int) := of_decide_eq_true tc3_
     have q101 : a0 < (l2_0.length : Int) := of_decide_eq_true tc3_
     obtain ⟨ad101, A101_0, c101_0, e101, hx101_0, hl101_0, hi101_0⟩ := at_L3 HR2_0.out a0 p101 q101
     cases e101
     have HR101_0 := am_ hi101_0
     have HC101_0 := am_ hl101_0
     clear hi101_0 hl101_0
     replace p101 := eq_true p101
     replace q101 := eq_true q101
     have hcz11_0 : w.cell? ⟨B3, 0, none⟩ = some (.int .i64 a3_0) := (blk_cell BK63.out 0).trans rfl
     have hfz11_0 := blk_frozen BK63.out 0
     have p102 : 0 ≤ ((ji7) : Int) := of_decide_eq_true tc3_
     have q102 : (ji7) < ((rd_L3 l2_0 a0).length : Int) := of_decide_eq_true tc3_
     obtain ⟨ad102, e102, hx102_0⟩ := Kd.at_int HR101_0.out (ji7) p102 q102
     cases e102
     replace p102 := eq_true p102
     replace q102 := eq_true q102
     go_enter Try.func170, Try.ntmps170
     go_wp2
     repeat (go_quiet (fail); try go_wp2)
     go_ret
     exact ⟨by first | rfl | (simp; done) | (simp only [← hji7] <;> (first | rfl | simp)) | (simp [*]; done), by repeat (first | exact Drawn0.refl _ | apply Drawn0.step)⟩
    ·rw [if_neg c9] at H
     exact absurd H (by simp)
   ·rw [if_neg c8] at H
    exact absurd H (by simp)
  ·rw [if_neg c6] at H
   exact absurd H (by simp)
 ·rw [if_neg c5] at H
  exact absurd H (by simp)

end Go.Proofs.Ytkbehdgneojdbaa.X
