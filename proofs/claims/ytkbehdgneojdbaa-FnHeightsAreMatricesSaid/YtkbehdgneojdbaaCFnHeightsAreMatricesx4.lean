-- Written by a program of this session (wip/xprint.py) that drives the kit's print; the contracts of what it does not take are this session's own.
import Derived.Test.YtkbehdgneojdbaaCFnHeightsAreMatricesx0
import Derived.Test.YtkbehdgneojdbaaCFnHeightsAreMatricesx1
import Derived.Test.YtkbehdgneojdbaaCFnHeightsAreMatricesx2
import Derived.Test.YtkbehdgneojdbaaCFnHeightsAreMatricesx3
namespace Go.Proofs.Ytkbehdgneojdbaa.X
open Go.RowKit Go.Proofs.YtkbehdgneojdbaaW.PrintWords Go.Proofs.YtkbehdgneojdbaaW.PrintLast Go.Proofs.YtkbehdgneojdbaaW.PrintMore
attribute [local go_sem] max2_int min2_int max_two min_two max_three min_three max_four min_four   -- for this text's walks alone
set_option linter.unusedVariables false
set_option linter.unusedSimpArgs false

/-! ### spec_DrawAreHeights: function 94 -/
def spec_DrawAreHeights.f (k : Nat) (l0 : List Int) : Option ((List (List Int))) := (spec_l1Cur_signs.f k l0 0 0 5).bind fun bt102 => ((spec_sgGood.f k bt102.1).bind fun t107 => (if t107 = true then ((spec_heOf.f k bt102.1).bind fun t108 => ((spec_l1Cur_one.f l0 bt102.2.1 bt102.2.2 4).bind fun bt111 => (if bt111.1 = true then ((spec_l1Cur_pick.f l0 bt111.2.1 bt111.2.2 (t108.length : Int)).bind fun bt114 => (if 0 ≤ bt114.1 then (if bt114.1 < (t108.length : Int) then ((spec_l1Cur_pick.f l0 bt114.2.1 bt114.2.2 (t108.length : Int)).bind fun bt118 => (if 0 ≤ bt118.1 then (if bt118.1 < ((rd_L3 t108 bt114.1).length : Int) then ((spec_l1Cur_among.f l0 bt118.2.1 bt118.2.2 (([1, (-1), 2, (-2), 4611686018427387904] : List Int))).bind fun bt125 => ((some (t108.set (bt114.1 : Int).toNat ((rd_L3 t108 bt114.1).set (bt118.1 : Int).toNat (wrap64 ((rd (rd_L3 t108 bt114.1) bt118.1) + bt125.1))) : List (List Int))).bind fun y130 => ((spec_l1Cur_one.f l0 bt125.2.1 bt125.2.2 15).bind fun bt131 => (if bt131.1 = true then (if 1 ≤ (t108.length : Int) then (some (y130.drop (1 : Int).toNat)) else (none)) else (some y130))))) else (none)) else (none))) else (none)) else (none))) else ((spec_l1Cur_one.f l0 bt111.2.1 bt111.2.2 15).bind fun bt137 => (if bt137.1 = true then (if 1 ≤ (t108.length : Int) then (some (t108.drop (1 : Int).toNat)) else (none)) else (some t108)))))) else (some bt102.1)))
set_option maxHeartbeats 8000000 in
set_option maxRecDepth 100000 in
theorem spec_DrawAreHeights.calls (k : Nat) (A0 : Option Addr) (c0 : Nat) (l0 : List Int) (r : List (List Int)) (w : World) (hr0 : Kd.C (Kd.int .u8) w A0 l0.length l0) (hc0 : l0.length ≤ c0) (h : spec_DrawAreHeights.f k l0 = some r) :
  Calls Try.prog 94 #[.slice A0 l0.length c0] w fun e w' => ∃ v0_ : Value, e = .returned (v0_) ∧ Kd.Q (Kd.slice 3 (Kd.int .i64)) 35 w' w.heap.size (fun _ => True) v0_ r ∧ Below w.heap.size w w' := by
 have hu74 := Try.underlying74
 have HR0 := am_ hr0
 have HC0 := am_ hc0
 clear hr0 hc0
 have HB := am_ (Below.refl w.heap.size w)
 have H : ((spec_l1Cur_signs.f k l0 0 0 5).bind fun bt102 => ((spec_sgGood.f k bt102.1).bind fun t107 => (if t107 = true then ((spec_heOf.f k bt102.1).bind fun t108 => ((spec_l1Cur_one.f l0 bt102.2.1 bt102.2.2 4).bind fun bt111 => (if bt111.1 = true then ((spec_l1Cur_pick.f l0 bt111.2.1 bt111.2.2 (t108.length : Int)).bind fun bt114 => (if 0 ≤ bt114.1 then (if bt114.1 < (t108.length : Int) then ((spec_l1Cur_pick.f l0 bt114.2.1 bt114.2.2 (t108.length : Int)).bind fun bt118 => (if 0 ≤ bt118.1 then (if bt118.1 < ((rd_L3 t108 bt114.1).length : Int) then ((spec_l1Cur_among.f l0 bt118.2.1 bt118.2.2 (([1, (-1), 2, (-2), 4611686018427387904] : List Int))).bind fun bt125 => ((some (t108.set (bt114.1 : Int).toNat ((rd_L3 t108 bt114.1).set (bt118.1 : Int).toNat (wrap64 ((rd (rd_L3 t108 bt114.1) bt118.1) + bt125.1))) : List (List Int))).bind fun y130 => ((spec_l1Cur_one.f l0 bt125.2.1 bt125.2.2 15).bind fun bt131 => (if bt131.1 = true then (if 1 ≤ (t108.length : Int) then (some (y130.drop (1 : Int).toNat)) else (none)) else (some y130))))) else (none)) else (none))) else (none)) else (none))) else ((spec_l1Cur_one.f l0 bt111.2.1 bt111.2.2 15).bind fun bt137 => (if bt137.1 = true then (if 1 ≤ (t108.length : Int) then (some (t108.drop (1 : Int).toNat)) else (none)) else (some t108)))))) else (some bt102.1)))) = some r := h
 clear h
 replace H := Option.bind_eq_some_iff.mp H
 obtain ⟨⟨t102, t105, t106⟩, A20, H⟩ := H
 replace H : ((spec_sgGood.f k t102).bind fun t107 => (if t107 = true then ((spec_heOf.f k t102).bind fun t108 => ((spec_l1Cur_one.f l0 t105 t106 4).bind fun bt111 => (if bt111.1 = true then ((spec_l1Cur_pick.f l0 bt111.2.1 bt111.2.2 (t108.length : Int)).bind fun bt114 => (if 0 ≤ bt114.1 then (if bt114.1 < (t108.length : Int) then ((spec_l1Cur_pick.f l0 bt114.2.1 bt114.2.2 (t108.length : Int)).bind fun bt118 => (if 0 ≤ bt118.1 then (if bt118.1 < ((rd_L3 t108 bt114.1).length : Int) then ((spec_l1Cur_among.f l0 bt118.2.1 bt118.2.2 (([1, (-1), 2, (-2), 4611686018427387904] : List Int))).bind fun bt125 => ((some (t108.set (bt114.1 : Int).toNat ((rd_L3 t108 bt114.1).set (bt118.1 : Int).toNat (wrap64 ((rd (rd_L3 t108 bt114.1) bt118.1) + bt125.1))) : List (List Int))).bind fun y130 => ((spec_l1Cur_one.f l0 bt125.2.1 bt125.2.2 15).bind fun bt131 => (if bt131.1 = true then (if 1 ≤ (t108.length : Int) then (some (y130.drop (1 : Int).toNat)) else (none)) else (some y130))))) else (none)) else (none))) else (none)) else (none))) else ((spec_l1Cur_one.f l0 bt111.2.1 bt111.2.2 15).bind fun bt137 => (if bt137.1 = true then (if 1 ≤ (t108.length : Int) then (some (t108.drop (1 : Int).toNat)) else (none)) else (some t108)))))) else (some t102))) = some r := H
 have A2 := am_ A20
 clear A20
 replace H := Option.bind_eq_some_iff.mp H
 obtain ⟨t107, A30, H⟩ := H
 replace H : (if t107 = true then ((spec_heOf.f k t102).bind fun t108 => ((spec_l1Cur_one.f l0 t105 t106 4).bind fun bt111 => (if bt111.1 = true then ((spec_l1Cur_pick.f l0 bt111.2.1 bt111.2.2 (t108.length : Int)).bind fun bt114 => (if 0 ≤ bt114.1 then (if bt114.1 < (t108.length : Int) then ((spec_l1Cur_pick.f l0 bt114.2.1 bt114.2.2 (t108.length : Int)).bind fun bt118 => (if 0 ≤ bt118.1 then (if bt118.1 < ((rd_L3 t108 bt114.1).length : Int) then ((spec_l1Cur_among.f l0 bt118.2.1 bt118.2.2 (([1, (-1), 2, (-2), 4611686018427387904] : List Int))).bind fun bt125 => ((some (t108.set (bt114.1 : Int).toNat ((rd_L3 t108 bt114.1).set (bt118.1 : Int).toNat (wrap64 ((rd (rd_L3 t108 bt114.1) bt118.1) + bt125.1))) : List (List Int))).bind fun y130 => ((spec_l1Cur_one.f l0 bt125.2.1 bt125.2.2 15).bind fun bt131 => (if bt131.1 = true then (if 1 ≤ (t108.length : Int) then (some (y130.drop (1 : Int).toNat)) else (none)) else (some y130))))) else (none)) else (none))) else (none)) else (none))) else ((spec_l1Cur_one.f l0 bt111.2.1 bt111.2.2 15).bind fun bt137 => (if bt137.1 = true then (if 1 ≤ (t108.length : Int) then (some (t108.drop (1 : Int).toNat)) else (none)) else (some t108)))))) else (some t102)) = some r := H
 have A3 := am_ A30
 clear A30
 by_cases c4 : t107 = true
 ·subst c4
  have H1 : ((spec_heOf.f k t102).bind fun t108 => ((spec_l1Cur_one.f l0 t105 t106 4).bind fun bt111 => (if bt111.1 = true then ((spec_l1Cur_pick.f l0 bt111.2.1 bt111.2.2 (t108.length : Int)).bind fun bt114 => (if 0 ≤ bt114.1 then (if bt114.1 < (t108.length : Int) then ((spec_l1Cur_pick.f l0 bt114.2.1 bt114.2.2 (t108.length : Int)).bind fun bt118 => (if 0 ≤ bt118.1 then (if bt118.1 < ((rd_L3 t108 bt114.1).length : Int) then ((spec_l1Cur_among.f l0 bt118.2.1 bt118.2.2 (([1, (-1), 2, (-2), 4611686018427387904] : List Int))).bind fun bt125 => ((some (t108.set (bt114.1 : Int).toNat ((rd_L3 t108 bt114.1).set (bt118.1 : Int).toNat (wrap64 ((rd (rd_L3 t108 bt114.1) bt118.1) + bt125.1))) : List (List Int))).bind fun y130 => ((spec_l1Cur_one.f l0 bt125.2.1 bt125.2.2 15).bind fun bt131 => (if bt131.1 = true then (if 1 ≤ (t108.length : Int) then (some (y130.drop (1 : Int).toNat)) else (none)) else (some y130))))) else (none)) else (none))) else (none)) else (none))) else ((spec_l1Cur_one.f l0 bt111.2.1 bt111.2.2 15).bind fun bt137 => (if bt137.1 = true then (if 1 ≤ (t108.length : Int) then (some (t108.drop (1 : Int).toNat)) else (none)) else (some t108)))))) = some r := by rw [if_pos rfl] at H; exact H
  clear H
  have H := H1
  clear H1
  replace H := Option.bind_eq_some_iff.mp H
  obtain ⟨t108, A50, H⟩ := H
  replace H : ((spec_l1Cur_one.f l0 t105 t106 4).bind fun bt111 => (if bt111.1 = true then ((spec_l1Cur_pick.f l0 bt111.2.1 bt111.2.2 (t108.length : Int)).bind fun bt114 => (if 0 ≤ bt114.1 then (if bt114.1 < (t108.length : Int) then ((spec_l1Cur_pick.f l0 bt114.2.1 bt114.2.2 (t108.length : Int)).bind fun bt118 => (if 0 ≤ bt118.1 then (if bt118.1 < ((rd_L3 t108 bt114.1).length : Int) then ((spec_l1Cur_among.f l0 bt118.2.1 bt118.2.2 (([1, (-1), 2, (-2), 4611686018427387904] : List Int))).bind fun bt125 => ((some (t108.set (bt114.1 : Int).toNat ((rd_L3 t108 bt114.1).set (bt118.1 : Int).toNat (wrap64 ((rd (rd_L3 t108 bt114.1) bt118.1) + bt125.1))) : List (List Int))).bind fun y130 => ((spec_l1Cur_one.f l0 bt125.2.1 bt125.2.2 15).bind fun bt131 => (if bt131.1 = true then (if 1 ≤ (t108.length : Int) then (some (y130.drop (1 : Int).toNat)) else (none)) else (some y130))))) else (none)) else (none))) else (none)) else (none))) else ((spec_l1Cur_one.f l0 bt111.2.1 bt111.2.2 15).bind fun bt137 => (if bt137.1 = true then (if 1 ≤ (t108.length : Int) then (some (t108.drop (1 : Int).toNat)) else (none)) else (some t108))))) = some r := H
  have A5 := am_ A50
  clear A50
  replace H := Option.bind_eq_some_iff.mp H
  obtain ⟨⟨t111, t112, t113⟩, A60, H⟩ := H
  replace H : (if t111 = true then ((spec_l1Cur_pick.f l0 t112 t113 (t108.length : Int)).bind fun bt114 => (if 0 ≤ bt114.1 then (if bt114.1 < (t108.length : Int) then ((spec_l1Cur_pick.f l0 bt114.2.1 bt114.2.2 (t108.length : Int)).bind fun bt118 => (if 0 ≤ bt118.1 then (if bt118.1 < ((rd_L3 t108 bt114.1).length : Int) then ((spec_l1Cur_among.f l0 bt118.2.1 bt118.2.2 (([1, (-1), 2, (-2), 4611686018427387904] : List Int))).bind fun bt125 => ((some (t108.set (bt114.1 : Int).toNat ((rd_L3 t108 bt114.1).set (bt118.1 : Int).toNat (wrap64 ((rd (rd_L3 t108 bt114.1) bt118.1) + bt125.1))) : List (List Int))).bind fun y130 => ((spec_l1Cur_one.f l0 bt125.2.1 bt125.2.2 15).bind fun bt131 => (if bt131.1 = true then (if 1 ≤ (t108.length : Int) then (some (y130.drop (1 : Int).toNat)) else (none)) else (some y130))))) else (none)) else (none))) else (none)) else (none))) else ((spec_l1Cur_one.f l0 t112 t113 15).bind fun bt137 => (if bt137.1 = true then (if 1 ≤ (t108.length : Int) then (some (t108.drop (1 : Int).toNat)) else (none)) else (some t108)))) = some r := H
  have A6 := am_ A60
  clear A60
  by_cases c7 : t111 = true
  ·subst c7
   have H1 : ((spec_l1Cur_pick.f l0 t112 t113 (t108.length : Int)).bind fun bt114 => (if 0 ≤ bt114.1 then (if bt114.1 < (t108.length : Int) then ((spec_l1Cur_pick.f l0 bt114.2.1 bt114.2.2 (t108.length : Int)).bind fun bt118 => (if 0 ≤ bt118.1 then (if bt118.1 < ((rd_L3 t108 bt114.1).length : Int) then ((spec_l1Cur_among.f l0 bt118.2.1 bt118.2.2 (([1, (-1), 2, (-2), 4611686018427387904] : List Int))).bind fun bt125 => ((some (t108.set (bt114.1 : Int).toNat ((rd_L3 t108 bt114.1).set (bt118.1 : Int).toNat (wrap64 ((rd (rd_L3 t108 bt114.1) bt118.1) + bt125.1))) : List (List Int))).bind fun y130 => ((spec_l1Cur_one.f l0 bt125.2.1 bt125.2.2 15).bind fun bt131 => (if bt131.1 = true then (if 1 ≤ (t108.length : Int) then (some (y130.drop (1 : Int).toNat)) else (none)) else (some y130))))) else (none)) else (none))) else (none)) else (none))) = some r := by rw [if_pos rfl] at H; exact H
   clear H
   have H := H1
   clear H1
   replace H := Option.bind_eq_some_iff.mp H
   obtain ⟨⟨t114, t115, t116⟩, A80, H⟩ := H
   replace H : (if 0 ≤ t114 then (if t114 < (t108.length : Int) then ((spec_l1Cur_pick.f l0 t115 t116 (t108.length : Int)).bind fun bt118 => (if 0 ≤ bt118.1 then (if bt118.1 < ((rd_L3 t108 t114).length : Int) then ((spec_l1Cur_among.f l0 bt118.2.1 bt118.2.2 (([1, (-1), 2, (-2), 4611686018427387904] : List Int))).bind fun bt125 => ((some (t108.set (t114 : Int).toNat ((rd_L3 t108 t114).set (bt118.1 : Int).toNat (wrap64 ((rd (rd_L3 t108 t114) bt118.1) + bt125.1))) : List (List Int))).bind fun y130 => ((spec_l1Cur_one.f l0 bt125.2.1 bt125.2.2 15).bind fun bt131 => (if bt131.1 = true then (if 1 ≤ (t108.length : Int) then (some (y130.drop (1 : Int).toNat)) else (none)) else (some y130))))) else (none)) else (none))) else (none)) else (none)) = some r := H
   have A8 := am_ A80
   clear A80
   by_cases c9 : 0 ≤ t114
   ·rw [if_pos c9] at H
    have c9b0 : decide (0 ≤ t114) = true := decide_eq_true c9
    clear c9
    by_cases c10 : t114 < (t108.length : Int)
    ·rw [if_pos c10] at H
     have c10b0 : decide (t114 < (t108.length : Int)) = true := decide_eq_true c10
     clear c10
     replace H := Option.bind_eq_some_iff.mp H
     obtain ⟨⟨t118, t119, t120⟩, A110, H⟩ := H
     replace H : (if 0 ≤ t118 then (if t118 < ((rd_L3 t108 t114).length : Int) then ((spec_l1Cur_among.f l0 t119 t120 (([1, (-1), 2, (-2), 4611686018427387904] : List Int))).bind fun bt125 => ((some (t108.set (t114 : Int).toNat ((rd_L3 t108 t114).set (t118 : Int).toNat (wrap64 ((rd (rd_L3 t108 t114) t118) + bt125.1))) : List (List Int))).bind fun y130 => ((spec_l1Cur_one.f l0 bt125.2.1 bt125.2.2 15).bind fun bt131 => (if bt131.1 = true then (if 1 ≤ (t108.length : Int) then (some (y130.drop (1 : Int).toNat)) else (none)) else (some y130))))) else (none)) else (none)) = some r := H
     have A11 := am_ A110
     clear A110
     by_cases c12 : 0 ≤ t118
     ·rw [if_pos c12] at H
      have c12b0 : decide (0 ≤ t118) = true := decide_eq_true c12
      clear c12
      by_cases c13 : t118 < ((rd_L3 t108 t114).length : Int)
      ·rw [if_pos c13] at H
       have c13b0 : decide (t118 < ((rd_L3 t108 t114).length : Int)) = true := decide_eq_true c13
       clear c13
       obtain ⟨y122, hy122⟩ : ∃ y_ : List Int, y_ = (([1, (-1), 2, (-2), 4611686018427387904] : List Int)) := ⟨_, rfl⟩
       replace H : ((spec_l1Cur_among.f l0 t119 t120 y122).bind fun bt125 => ((some (t108.set (t114 : Int).toNat ((rd_L3 t108 t114).set (t118 : Int).toNat (wrap64 ((rd (rd_L3 t108 t114) t118) + bt125.1))) : List (List Int))).bind fun y130 => ((spec_l1Cur_one.f l0 bt125.2.1 bt125.2.2 15).bind fun bt131 => (if bt131.1 = true then (if 1 ≤ (t108.length : Int) then (some (y130.drop (1 : Int).toNat)) else (none)) else (some y130))))) = some r := by first | (rw [hy122]; with_reducible exact H) | (have H2_ := (Option.bind_some _ _).symm.trans H; rw [hy122]; with_reducible exact H2_) | (have H2_ := (Option.bind_some _ _).symm.trans H; with_reducible exact H2_) | with_reducible exact H | (rw [hy122]; exact H) | exact H
       have Ny122 := am_ hy122
       clear hy122
       replace H := Option.bind_eq_some_iff.mp H
       obtain ⟨⟨t125, t126, t127⟩, A140, H⟩ := H
       replace H : ((some (t108.set (t114 : Int).toNat ((rd_L3 t108 t114).set (t118 : Int).toNat (wrap64 ((rd (rd_L3 t108 t114) t118) + t125))) : List (List Int))).bind fun y130 => ((spec_l1Cur_one.f l0 t126 t127 15).bind fun bt131 => (if bt131.1 = true then (if 1 ≤ (t108.length : Int) then (some (y130.drop (1 : Int).toNat)) else (none)) else (some y130)))) = some r := H
       have A14 := am_ A140
       clear A140
       obtain ⟨y128, hy128⟩ : ∃ y_ : List Int, y_ = ((rd_L3 t108 t114).set (t118 : Int).toNat (wrap64 ((rd (rd_L3 t108 t114) t118) + t125))) := ⟨_, rfl⟩
       replace H : ((some (t108.set (t114 : Int).toNat y128 : List (List Int))).bind fun y130 => ((spec_l1Cur_one.f l0 t126 t127 15).bind fun bt131 => (if bt131.1 = true then (if 1 ≤ (t108.length : Int) then (some (y130.drop (1 : Int).toNat)) else (none)) else (some y130)))) = some r := by first | (rw [hy128]; with_reducible exact H) | (have H2_ := (Option.bind_some _ _).symm.trans H; rw [hy128]; with_reducible exact H2_) | (have H2_ := (Option.bind_some _ _).symm.trans H; with_reducible exact H2_) | with_reducible exact H | (rw [hy128]; exact H) | exact H
       have Ny128 := am_ hy128
       clear hy128
       obtain ⟨y130, hy130⟩ : ∃ y_ : List (List Int), y_ = (t108.set (t114 : Int).toNat y128) := ⟨_, rfl⟩
       replace H : ((spec_l1Cur_one.f l0 t126 t127 15).bind fun bt131 => (if bt131.1 = true then (if 1 ≤ (t108.length : Int) then (some (y130.drop (1 : Int).toNat)) else (none)) else (some y130))) = some r := by first | (rw [hy130]; with_reducible exact H) | (have H2_ := (Option.bind_some _ _).symm.trans H; rw [hy130]; with_reducible exact H2_) | (have H2_ := (Option.bind_some _ _).symm.trans H; with_reducible exact H2_) | with_reducible exact H | (rw [hy130]; exact H) | exact H
       have Ny130 := am_ hy130
       clear hy130
       replace H := Option.bind_eq_some_iff.mp H
       obtain ⟨⟨t131, t132, t133⟩, A160, H⟩ := H
       replace H : (if t131 = true then (if 1 ≤ (t108.length : Int) then (some (y130.drop (1 : Int).toNat)) else (none)) else (some y130)) = some r := H
       have A16 := am_ A160
       clear A160
       by_cases c17 : t131 = true
       ·subst c17
        have H1 : (if 1 ≤ (t108.length : Int) then (some (y130.drop (1 : Int).toNat)) else (none)) = some r := by rw [if_pos rfl] at H; exact H
        clear H
        have H := H1
        clear H1
        by_cases c18 : 1 ≤ (t108.length : Int)
        ·rw [if_pos c18] at H
         have c18b0 := eq_true c18
         have c18b1 : decide (1 ≤ (t108.length : Int)) = true := decide_eq_true c18
         clear c18
         obtain ⟨y134, hy134⟩ : ∃ y_ : List (List Int), y_ = (y130.drop (1 : Int).toNat) := ⟨_, rfl⟩
         replace H : (some y134) = some r := by first | (rw [hy134]; with_reducible exact H) | (have H2_ := (Option.bind_some _ _).symm.trans H; rw [hy134]; with_reducible exact H2_) | (have H2_ := (Option.bind_some _ _).symm.trans H; with_reducible exact H2_) | with_reducible exact H | (rw [hy134]; exact H) | exact H
         have Ny134 := am_ hy134
         clear hy134
         obtain rfl := Option.some.inj H
         go_enter Try.func94, Try.ntmps94
         go_wp2_with (first | ((with_reducible refine gate_dst (N := 8) rfl ?_); refine box_event ?hg (N := 8) ?hd (cs := #[.slice A0 l0.length c0, .int .i64 0, .int .u64 0]) (t := 74) ?hr ?_; (case hd => rfl); (case hg => rfl); (case hr => exact tc38_); intro gb101 hg w19 hbox hb; have n0_ := am_ (below_step tc1_ hb); have n1_ := am_ ((by rw [hg]; exact (below_size tc1_) : w.heap.size ≤ gb101)); have n2_ := am_ ((by rw [hg]; exact (below_size tc1_) : w.heap.size ≤ gb101)); have n3_ := am_ ((show IsS74 w w19 gb101 l0 0 0 from ⟨A0, c0, hbox, (by rw [hg]; exact (below_size tc1_) : w.heap.size ≤ gb101), HR0.out⟩)); clear HB; have HB := n0_; have GW101 := n1_; have GE101 := n2_; have HI101 := n3_; clear n0_ n1_ n2_ n3_; clear hb hbox hg) | ((with_reducible refine gate_callee (f := 133) rfl ?_); refine goesL_ (some 10) rfl rfl Try.func133 (by kernel_rfl) rfl #[.pointer (some ⟨gb101, 0, none⟩), .int .i64 5] rfl tc0_ ?_; (with_reducible refine (spec_l1Cur_signs.calls k gb101 l0 0 0 5 t102 t105 t106 w _ ?side1 ?side2 A2.out).mono ?_); (case side1 => exact tc6_); (case side2 => exact tc7_); rintro e w20 ⟨v103, rfl, ho0, hi, hb, hk⟩; refine ⟨_, rfl, ?_⟩; have n0_ := am_ (Kd.S_lower ho0 (below_size tc7_)); have n1_ := am_ (hb); have n2_ := am_ (hi); clear HB HI101; have HO104 := n0_; have HB := n1_; have HI101 := n2_; clear n0_ n1_ n2_; (try clear hb hk hi ho0); obtain ⟨Ao21, co21, eo21⟩ := Kd.S_slice HO104.out; subst eo21) | ((with_reducible refine gate_callee (f := 67) rfl ?_); refine goesL_ (some 12) rfl rfl Try.func67 (by kernel_rfl) rfl #[.slice Ao21 t102.length co21] rfl tc0_ ?_; (with_reducible refine (spec_sgGood.calls k _ _ t102 true _ ?side1 ?side2 A3.out).mono ?_); (case side1 => exact tc15_); (case side2 => exact tc59_); rintro e w22 ⟨rfl, hb⟩; refine ⟨_, rfl, ?_⟩; have n0_ := am_ (Kd.S_below tc11_ hb); have n1_ := am_ (IsS74.below tc6_ hb); have n2_ := am_ (below_step tc7_ hb); clear HO104 HI101 HB; have HO104 := n0_; have HI101 := n1_; have HB := n2_; clear n0_ n1_ n2_; (try clear hb)) | ((with_reducible refine gate_callee (f := 91) rfl ?_); refine goesL_ (some 16) rfl rfl Try.func91 (by kernel_rfl) rfl #[.slice Ao21 t102.length co21] rfl tc0_ ?_; (with_reducible refine (spec_heOf.calls k _ _ t102 t108 _ ?side1 ?side2 A5.out).mono ?_); (case side1 => exact tc15_); (case side2 => exact tc59_); rintro e w23 ⟨v109, rfl, ho0, hb⟩; refine ⟨_, rfl, ?_⟩; have n0_ := am_ (Kd.S_elder' tc11_ (Kd.S_base ho0) hb); have n1_ := am_ (Kd.S_lower (Kd.S_new' ho0 (Kd.S_lt tc11_)) (below_size tc7_)); have n2_ := am_ (IsS74.below tc6_ hb); have n3_ := am_ (below_step tc7_ hb); clear HO104 HI101 HB; have HO104 := n0_; have HO110 := n1_; have HI101 := n2_; have HB := n3_; clear n0_ n1_ n2_ n3_; (try clear hb ho0)) | ((with_reducible refine gate_callee (f := 131) rfl ?_); refine goesL_ (some 18) rfl rfl Try.func131 (by kernel_rfl) rfl #[.pointer (some ⟨gb101, 0, none⟩), .int .i64 4] rfl tc0_ ?_; (with_reducible refine (spec_l1Cur_one.calls gb101 l0 t105 t106 4 true t112 t113 w _ ?side1 ?side2 A6.out).mono ?_); (case side1 => exact tc6_); (case side2 => exact tc7_); rintro e w24 ⟨rfl, hi, hb, hk⟩; refine ⟨_, rfl, ?_⟩; have n0_ := am_ (Kd.S_mono (Kd.S_keep (IsS74.apartS (show IsS74 w _ gb101 l0 t105 t106 from tc6_) tc11_ (by decide)) hk (fun _ h => h.2)) (fun _ h => h.1)); have n1_ := am_ (Kd.S_mono (Kd.S_keep (IsS74.apartS (show IsS74 w _ gb101 l0 t105 t106 from tc6_) tc41_ (by decide)) hk (fun _ h => h.2)) (fun _ h => h.1)); have n2_ := am_ (hb); have n3_ := am_ (hi); clear HO104 HO110; clear HB HI101; have HO104 := n0_; have HO110 := n1_; have HB := n2_; have HI101 := n3_; clear n0_ n1_ n2_ n3_; (try clear hb hk hi); obtain ⟨Ao25, co25, eo25⟩ := Kd.S_slice HO110.out; subst eo25))
         have ey_ := Ny122.out
         subst ey_
         clear Ny122
         clear HO104
         have c_i0 : 0 ≤ t114 := of_decide_eq_true c9b0
         have c_i1 : t114 < (t108.length : Int) := of_decide_eq_true c10b0
         have c_j0 : 0 ≤ t118 := of_decide_eq_true c12b0
         have c_j1 : t118 < ((rd_L3 t108 t114).length : Int) := of_decide_eq_true c13b0
         obtain ⟨ad, As_, cs_, ead, _, _, _⟩ := at_L3 (Kd.S_reads' HO110.out).2.2 t114 c_i0 c_i1
         subst ead
         obtain ⟨Aw, cw, hx, hall⟩ := S_cell2k HO110.out t114 c_i0 c_i1
         obtain ⟨aw, eaw, hy, _, _, _, _⟩ := hall t118 c_j0 c_j1
         subst eaw
         clear hall
         replace hx := (show World.cell? (World.drew _) (ad.add (t114 : Int).toNat) = some (.slice (some aw) (rd_L3 t108 t114).length cw) from hx)
         replace hy := (show World.cell? (World.drew _) (aw.add (t118 : Int).toNat) = some (.int .i64 (rd (rd_L3 t108 t114) t118)) from hy)
         have HO := am_ (Kd.S_drew (Kd.S_mono (ok' := (fun _ => True)) HO110.out (fun _ _ => trivial)))
         have HI := am_ (IsS74.drew HI101.out)
         replace HB := am_ (below_drew1 HB.out)
         clear HO110 HI101
         refine start_ (n := 19) (S := fun w' => w'.cell? (ad.add (t114 : Int).toNat) = some (.slice (some aw) (rd_L3 t108 t114).length cw) ∧ w'.cell? (aw.add (t118 : Int).toNat) = some (.int .i64 (rd (rd_L3 t108 t114) t118))) (ds := [18]) #[false, false, false, false, false, false, false, false, false, false, false, false, false, false, false, false, false, false, false] (by kernel_rfl) rfl rfl ⟨hx, hy⟩ (fun hHeld => ?_)
         generalize hW_ : World.drew _ = W at HO HI HB hx hy hHeld ⊢
         clear hW_
         have HX := am_ hx
         have HY := am_ hy
         clear hx hy
         refine pure_ (i := 0) (N := some 19) (v := ?_) (a' := ?_) #[true, false, false, false, false, false, false, false, false, false, false, false, false, false, false, false, false, false, false] rfl rfl (by kernel_rfl) (fun _ _ _ h => h) (Or.inl ⟨by rfl, ?_⟩) ?_ ?_
         rotate_left
         ·intro w'
          go_simp
          with_reducible rfl
         rotate_left
         ·simp only [Act.put, List.setIfInBounds_toArray, List.set_cons_zero, List.set_cons_succ, i64_w, i32_w]
          rfl
         refine pure_ (i := 1) (N := some 20) (v := ?_) (a' := ?_) #[true, true, false, false, false, false, false, false, false, false, false, false, false, false, false, false, false, false, false] rfl rfl (by kernel_rfl) (fun _ _ _ h => h) (Or.inl ⟨by rfl, ?_⟩) ?_ ?_
         rotate_left
         ·intro w'
          go_simp
          with_reducible rfl
         rotate_left
         ·simp only [Act.put, List.setIfInBounds_toArray, List.set_cons_zero, List.set_cons_succ, i64_w, i32_w]
          rfl
         refine pure_ (i := 2) (N := some 21) (v := ?_) (a' := ?_) #[true, true, true, false, false, false, false, false, false, false, false, false, false, false, false, false, false, false, false] rfl rfl (by kernel_rfl) (fun _ _ _ h => h) (Or.inl ⟨by rfl, ?_⟩) ?_ ?_
         rotate_left
         ·intro w'
          go_simp
          with_reducible rfl
         rotate_left
         ·simp only [Act.put, List.setIfInBounds_toArray, List.set_cons_zero, List.set_cons_succ, i64_w, i32_w]
          rfl
         refine pure_ (i := 3) (N := some 22) (v := ?_) (a' := ?_) #[true, true, true, true, false, false, false, false, false, false, false, false, false, false, false, false, false, false, false] rfl rfl (by kernel_rfl) (fun _ _ _ h => h) (Or.inl ⟨by rfl, ?_⟩) ?_ ?_
         rotate_left
         ·intro w'
          go_simp
          with_reducible rfl
         rotate_left
         ·simp only [Act.put, List.setIfInBounds_toArray, List.set_cons_zero, List.set_cons_succ, i64_w, i32_w]
          rfl
         refine pure_ (i := 7) (N := some 26) (v := ?_) (a' := ?_) #[true, true, true, true, false, false, false, true, false, false, false, false, false, false, false, false, false, false, false] rfl rfl (by kernel_rfl) (fun _ _ _ h => h) (Or.inl ⟨by rfl, ?_⟩) ?_ ?_
         rotate_left
         ·intro w'
          go_simp
          with_reducible rfl
         rotate_left
         ·simp only [Act.put, List.setIfInBounds_toArray, List.set_cons_zero, List.set_cons_succ, i64_w, i32_w]
          rfl
         refine pure_ (i := 8) (N := some 27) (v := ?_) (a' := ?_) #[true, true, true, true, false, false, false, true, true, false, false, false, false, false, false, false, false, false, false] rfl rfl (by kernel_rfl) (fun _ _ _ h => h) (Or.inl ⟨by rfl, ?_⟩) ?_ ?_
         rotate_left
         ·intro w'
          go_simp
          with_reducible rfl
         rotate_left
         ·simp only [Act.put, List.setIfInBounds_toArray, List.set_cons_zero, List.set_cons_succ, i64_w, i32_w]
          rfl
         refine pure_ (i := 9) (N := some 28) (v := ?_) (a' := ?_) #[true, true, true, true, false, false, false, true, true, true, false, false, false, false, false, false, false, false, false] rfl rfl (by kernel_rfl) (fun _ _ _ h => h) (Or.inl ⟨by rfl, ?_⟩) ?_ ?_
         rotate_left
         ·intro w'
          go_simp
          with_reducible rfl
         rotate_left
         ·simp only [Act.put, List.setIfInBounds_toArray, List.set_cons_zero, List.set_cons_succ, i64_w, i32_w]
          rfl
         refine pure_ (i := 13) (N := some 32) (v := ?_) (a' := ?_) #[true, true, true, true, false, false, false, true, true, true, false, false, false, true, false, false, false, false, false] rfl rfl (by kernel_rfl) (fun _ _ _ h => h) (Or.inl ⟨by rfl, ?_⟩) ?_ ?_
         rotate_left
         ·intro w'
          go_simp
          with_reducible rfl
         rotate_left
         ·simp only [Act.put, List.setIfInBounds_toArray, List.set_cons_zero, List.set_cons_succ, i64_w, i32_w]
          rfl
         refine join_ (σ := Nat) 4 #[true, true, true, true, true, true, true, true, true, true, true, true, true, true, true, false, false, false, false] (fun s_ => [(23, .int .i64 t114), (24, .pointer (some (ad.add (t114 : Int).toNat))), (25, (.slice (some aw) (rd_L3 t108 t114).length cw)), (29, .int .i64 t118), (30, .pointer (some (aw.add (t118 : Int).toNat))), (31, (.int .i64 (rd (rd_L3 t108 t114) t118))), (33, .slice (some ⟨s_, 0, none⟩) 5 5)]) (fun s_ w' => (w'.cell? (ad.add (t114 : Int).toNat) = some (.slice (some aw) (rd_L3 t108 t114).length cw)) ∧ (w'.cell? (aw.add (t118 : Int).toNat) = some (.int .i64 (rd (rd_L3 t108 t114) t118))) ∧ Kd.S (Kd.slice 3 (Kd.int .i64)) 35 w' w.heap.size (fun _ => True) (.slice (some ad) t108.length co25) t108 ∧ IsS74 w w' gb101 l0 t119 t120 ∧ Below w.heap.size w w' ∧ Kd.R (Kd.int .i64) 3 w' w.heap.size (fun _ => True) (.slice (some ⟨s_, 0, none⟩) 5 5) ([1, (-1), 2, (-2), 4611686018427387904] : List Int)) ?_ ?_
         rotate_left
         ·intro hCont
          refine two_ (i := 4) (j := 14) (Ni := some 23) (Nj := some 33) #[true, true, true, true, true, false, false, true, true, true, false, false, false, true, false, false, false, false, false] #[true, true, true, true, false, false, false, true, true, true, false, false, false, true, true, false, false, false, false] rfl rfl rfl rfl (by kernel_rfl) (by decide) (by decide) (fun K hK => ?_) (fun K hK => ?_)
          ·skip
           refine goes_ Try.func162 (by kernel_rfl) rfl #[.pointer (some ⟨gb101, 0, none⟩), .int .i64 (t108.length : Int)] (by rfl) rfl rfl tc19_ ?_
           refine (spec_l1Cur_pick.calls gb101 l0 t112 t113 (t108.length : Int) t114 t115 t116 w _ HI.out HB.out A8.out).mono ?_
           rintro e w9 ⟨rfl, hi, hb, hk⟩
           refine ⟨_, rfl, ?_⟩
           have n1_ := am_ (Kd.S_mono (Kd.S_keep (IsS74.apartS HI.out HO.out (by decide)) hk (fun _ h => h.2)) (fun _ h => h.1))
           have n2_ := am_ (keep_cell hk HX.out tc28_)
           obtain ⟨Aw2, cw2, hx2, hall2⟩ := S_cell2k n1_.out t114 c_i0 c_i1
           have e2_ := Option.some.inj (hx2.symm.trans n2_.out)
           injection e2_ with e3_ e4_ e5_
           subst e3_ e5_
           clear e4_ hx2
           obtain ⟨aw2, ea2, hc2, _, _, _, _⟩ := hall2 t118 c_j0 c_j1
           obtain rfl := Option.some.inj ea2
           clear ea2 hall2
           have n3_ := am_ hc2
           clear hc2
           have n4_ := am_ hi
           have n5_ := am_ hb
           clear HO HX HY HI HB hk hi hb
           have HO := n1_
           have HX := n2_
           have HY := n3_
           have HI := n4_
           have HB := n5_
           clear n1_ n2_ n3_ n4_ n5_
           refine hK.out _ _ ⟨HX.out, HY.out⟩ (fun hHeld => ?_)
           clear hK K
           refine norm_ (a' := ?_) ?_ ?_
           rotate_left
           ·show Act.put _ (some 23) _ = _
            simp only [Act.put, List.setIfInBounds_toArray, List.set_cons_zero, List.set_cons_succ, i64_w, i32_w]
            rfl
           refine pure_ (i := 5) (N := some 24) (v := ?_) (a' := ?_) #[true, true, true, true, true, true, false, true, true, true, false, false, false, true, false, false, false, false, false] rfl rfl (by kernel_rfl) (fun _ _ _ h => h) (Or.inl ⟨by rfl, ?_⟩) ?_ ?_
           rotate_left
           ·intro w'
            go_simp
            with_reducible rfl
           rotate_left
           ·simp only [Act.put, List.setIfInBounds_toArray, List.set_cons_zero, List.set_cons_succ, i64_w, i32_w]
            rfl
           refine take_ (i := 6) (N := some 25) (v := ?_) (a' := ?_) #[true, true, true, true, true, true, true, true, true, true, false, false, false, true, false, false, false, false, false] rfl rfl (by kernel_rfl) (fun _ _ _ h => h) (Or.inl ⟨by rfl, ?_⟩) hHeld ?_ ?_
           rotate_left
           ·rintro w' ⟨s0, s1⟩
            go_simp
            with_reducible rfl
           rotate_left
           ·simp only [Act.put, List.setIfInBounds_toArray, List.set_cons_zero, List.set_cons_succ, i64_w, i32_w]
            rfl
           refine two_ (i := 10) (j := 14) (Ni := some 29) (Nj := some 33) #[true, true, true, true, true, true, true, true, true, true, true, false, false, true, false, false, false, false, false] #[true, true, true, true, true, true, true, true, true, true, false, false, false, true, true, false, false, false, false] rfl rfl rfl rfl (by kernel_rfl) (by decide) (by decide) (fun K hK => ?_) (fun K hK => ?_)
           ·skip
            refine goes_ Try.func162 (by kernel_rfl) rfl #[.pointer (some ⟨gb101, 0, none⟩), .int .i64 (t108.length : Int)] (by rfl) rfl rfl tc19_ ?_
            refine (spec_l1Cur_pick.calls gb101 l0 t115 t116 (t108.length : Int) t118 t119 t120 w _ HI.out HB.out A11.out).mono ?_
            rintro e w9 ⟨rfl, hi, hb, hk⟩
            refine ⟨_, rfl, ?_⟩
            have n1_ := am_ (Kd.S_mono (Kd.S_keep (IsS74.apartS HI.out HO.out (by decide)) hk (fun _ h => h.2)) (fun _ h => h.1))
            have n2_ := am_ (keep_cell hk HX.out tc28_)
            obtain ⟨Aw2, cw2, hx2, hall2⟩ := S_cell2k n1_.out t114 c_i0 c_i1
            have e2_ := Option.some.inj (hx2.symm.trans n2_.out)
            injection e2_ with e3_ e4_ e5_
            subst e3_ e5_
            clear e4_ hx2
            obtain ⟨aw2, ea2, hc2, _, _, _, _⟩ := hall2 t118 c_j0 c_j1
            obtain rfl := Option.some.inj ea2
            clear ea2 hall2
            have n3_ := am_ hc2
            clear hc2
            have n4_ := am_ hi
            have n5_ := am_ hb
            clear HO HX HY HI HB hk hi hb
            have HO := n1_
            have HX := n2_
            have HY := n3_
            have HI := n4_
            have HB := n5_
            clear n1_ n2_ n3_ n4_ n5_
            refine hK.out _ _ ⟨HX.out, HY.out⟩ (fun hHeld => ?_)
            clear hK K
            refine norm_ (a' := ?_) ?_ ?_
            rotate_left
            ·show Act.put _ (some 29) _ = _
             simp only [Act.put, List.setIfInBounds_toArray, List.set_cons_zero, List.set_cons_succ, i64_w, i32_w]
             rfl
            refine pure_ (i := 11) (N := some 30) (v := ?_) (a' := ?_) #[true, true, true, true, true, true, true, true, true, true, true, true, false, true, false, false, false, false, false] rfl rfl (by kernel_rfl) (fun _ _ _ h => h) (Or.inl ⟨by rfl, ?_⟩) ?_ ?_
            rotate_left
            ·intro w'
             go_simp
             with_reducible rfl
            rotate_left
            ·simp only [Act.put, List.setIfInBounds_toArray, List.set_cons_zero, List.set_cons_succ, i64_w, i32_w]
             rfl
            refine take_ (i := 12) (N := some 31) (v := ?_) (a' := ?_) #[true, true, true, true, true, true, true, true, true, true, true, true, true, true, false, false, false, false, false] rfl rfl (by kernel_rfl) (fun _ _ _ h => h) (Or.inl ⟨by rfl, ?_⟩) hHeld ?_ ?_
            rotate_left
            ·rintro w' ⟨s0, s1⟩
             go_simp
             with_reducible rfl
            rotate_left
            ·simp only [Act.put, List.setIfInBounds_toArray, List.set_cons_zero, List.set_cons_succ, i64_w, i32_w]
             rfl
            refine one_ (i := 14) (N := some 33) #[true, true, true, true, true, true, true, true, true, true, true, true, true, true, true, false, false, false, false] rfl rfl (by kernel_rfl) (by decide) (fun K hK => ?_)
            refine value_ (w1 := ?_) (v := ?_) (by rfl) rfl ?_ ?_
            rotate_left 2
            ·go_simp
             constructor
             ·rfl
             ·rfl
            have n6_ := am_ (R_nums (ok := fun _ => True) (e := 3) (base := w.heap.size) (xs := ([1, (-1), 2, (-2), 4611686018427387904] : List Int)) (k := .i64) (blk_new _ (.cells #[.int .i64 1, .int .i64 (-1), .int .i64 2, .int .i64 (-2), .int .i64 4611686018427387904] 3 (0, 0))) (below_size HB.out) (by decide) trivial)
            have n1_ := am_ (Kd.S_alloc HO.out (.cells #[.int .i64 1, .int .i64 (-1), .int .i64 2, .int .i64 (-2), .int .i64 4611686018427387904] 3 (0, 0)))
            have n2_ := am_ (cell_of_below (below_alloc (Below.refl _ _) (.cells #[.int .i64 1, .int .i64 (-1), .int .i64 2, .int .i64 (-2), .int .i64 4611686018427387904] 3 (0, 0))) HX.out)
            have n3_ := am_ (cell_of_below (below_alloc (Below.refl _ _) (.cells #[.int .i64 1, .int .i64 (-1), .int .i64 2, .int .i64 (-2), .int .i64 4611686018427387904] 3 (0, 0))) HY.out)
            have n4_ := am_ (IsS74.alloc HI.out (.cells #[.int .i64 1, .int .i64 (-1), .int .i64 2, .int .i64 (-2), .int .i64 4611686018427387904] 3 (0, 0)))
            have n5_ := am_ (below_alloc HB.out (.cells #[.int .i64 1, .int .i64 (-1), .int .i64 2, .int .i64 (-2), .int .i64 4611686018427387904] 3 (0, 0)))
            clear HO HX HY HI HB
            have HO := n1_
            have HX := n2_
            have HY := n3_
            have HI := n4_
            have HB := n5_
            have HV := n6_
            clear n1_ n2_ n3_ n4_ n5_ n6_
            refine hK.out _ _ ⟨HX.out, HY.out⟩ (fun hHeld => ?_)
            clear hK K
            refine norm_ (a' := ?_) ?_ ?_
            rotate_left
            ·show Act.put _ (some 33) _ = _
             simp only [Act.put, List.setIfInBounds_toArray, List.set_cons_zero, List.set_cons_succ, i64_w, i32_w]
             rfl
            exact norm_ tc43_ (hCont _ _ ⟨HX.out, HY.out, HO.out, HI.out, HB.out, HV.out⟩)
           ·skip
            refine value_ (w1 := ?_) (v := ?_) (by rfl) rfl ?_ ?_
            rotate_left 2
            ·go_simp
             constructor
             ·rfl
             ·rfl
            have n6_ := am_ (R_nums (ok := fun _ => True) (e := 3) (base := w.heap.size) (xs := ([1, (-1), 2, (-2), 4611686018427387904] : List Int)) (k := .i64) (blk_new _ (.cells #[.int .i64 1, .int .i64 (-1), .int .i64 2, .int .i64 (-2), .int .i64 4611686018427387904] 3 (0, 0))) (below_size HB.out) (by decide) trivial)
            have n1_ := am_ (Kd.S_alloc HO.out (.cells #[.int .i64 1, .int .i64 (-1), .int .i64 2, .int .i64 (-2), .int .i64 4611686018427387904] 3 (0, 0)))
            have n2_ := am_ (cell_of_below (below_alloc (Below.refl _ _) (.cells #[.int .i64 1, .int .i64 (-1), .int .i64 2, .int .i64 (-2), .int .i64 4611686018427387904] 3 (0, 0))) HX.out)
            have n3_ := am_ (cell_of_below (below_alloc (Below.refl _ _) (.cells #[.int .i64 1, .int .i64 (-1), .int .i64 2, .int .i64 (-2), .int .i64 4611686018427387904] 3 (0, 0))) HY.out)
            have n4_ := am_ (IsS74.alloc HI.out (.cells #[.int .i64 1, .int .i64 (-1), .int .i64 2, .int .i64 (-2), .int .i64 4611686018427387904] 3 (0, 0)))
            have n5_ := am_ (below_alloc HB.out (.cells #[.int .i64 1, .int .i64 (-1), .int .i64 2, .int .i64 (-2), .int .i64 4611686018427387904] 3 (0, 0)))
            clear HO HX HY HI HB
            have HO := n1_
            have HX := n2_
            have HY := n3_
            have HI := n4_
            have HB := n5_
            have HV := n6_
            clear n1_ n2_ n3_ n4_ n5_ n6_
            refine hK.out _ _ ⟨HX.out, HY.out⟩ (fun hHeld => ?_)
            clear hK K
            refine norm_ (a' := ?_) ?_ ?_
            rotate_left
            ·show Act.put _ (some 33) _ = _
             simp only [Act.put, List.setIfInBounds_toArray, List.set_cons_zero, List.set_cons_succ, i64_w, i32_w]
             rfl
            refine one_ (i := 10) (N := some 29) #[true, true, true, true, true, true, true, true, true, true, true, false, false, true, true, false, false, false, false] rfl rfl (by kernel_rfl) (by decide) (fun K hK => ?_)
            refine goes_ Try.func162 (by kernel_rfl) rfl #[.pointer (some ⟨gb101, 0, none⟩), .int .i64 (t108.length : Int)] (by rfl) rfl rfl tc19_ ?_
            refine (spec_l1Cur_pick.calls gb101 l0 t115 t116 (t108.length : Int) t118 t119 t120 w _ HI.out HB.out A11.out).mono ?_
            rintro e w9 ⟨rfl, hi, hb, hk⟩
            refine ⟨_, rfl, ?_⟩
            have n1_ := am_ (Kd.S_mono (Kd.S_keep (IsS74.apartS HI.out HO.out (by decide)) hk (fun _ h => h.2)) (fun _ h => h.1))
            have n2_ := am_ (keep_cell hk HX.out tc28_)
            obtain ⟨Aw2, cw2, hx2, hall2⟩ := S_cell2k n1_.out t114 c_i0 c_i1
            have e2_ := Option.some.inj (hx2.symm.trans n2_.out)
            injection e2_ with e3_ e4_ e5_
            subst e3_ e5_
            clear e4_ hx2
            obtain ⟨aw2, ea2, hc2, _, _, _, _⟩ := hall2 t118 c_j0 c_j1
            obtain rfl := Option.some.inj ea2
            clear ea2 hall2
            have n3_ := am_ hc2
            clear hc2
            have n4_ := am_ hi
            have n5_ := am_ hb
            have n6_ := am_ (Kd.R_mono (Kd.R_keep (IsS74.apart HI.out HV.out (by decide)) hk (fun _ h => h.2)) (fun _ h => h.1))
            clear HO HX HY HI HB hk hi hb HV
            have HO := n1_
            have HX := n2_
            have HY := n3_
            have HI := n4_
            have HB := n5_
            have HV := n6_
            clear n1_ n2_ n3_ n4_ n5_ n6_
            refine hK.out _ _ ⟨HX.out, HY.out⟩ (fun hHeld => ?_)
            clear hK K
            refine norm_ (a' := ?_) ?_ ?_
            rotate_left
            ·show Act.put _ (some 29) _ = _
             simp only [Act.put, List.setIfInBounds_toArray, List.set_cons_zero, List.set_cons_succ, i64_w, i32_w]
             rfl
            refine pure_ (i := 11) (N := some 30) (v := ?_) (a' := ?_) #[true, true, true, true, true, true, true, true, true, true, true, true, false, true, true, false, false, false, false] rfl rfl (by kernel_rfl) (fun _ _ _ h => h) (Or.inl ⟨by rfl, ?_⟩) ?_ ?_
            rotate_left
            ·intro w'
             go_simp
             with_reducible rfl
            rotate_left
            ·simp only [Act.put, List.setIfInBounds_toArray, List.set_cons_zero, List.set_cons_succ, i64_w, i32_w]
             rfl
            refine take_ (i := 12) (N := some 31) (v := ?_) (a' := ?_) #[true, true, true, true, true, true, true, true, true, true, true, true, true, true, true, false, false, false, false] rfl rfl (by kernel_rfl) (fun _ _ _ h => h) (Or.inl ⟨by rfl, ?_⟩) hHeld ?_ ?_
            rotate_left
            ·rintro w' ⟨s0, s1⟩
             go_simp
             with_reducible rfl
            rotate_left
            ·simp only [Act.put, List.setIfInBounds_toArray, List.set_cons_zero, List.set_cons_succ, i64_w, i32_w]
             rfl
            exact norm_ tc43_ (hCont _ _ ⟨HX.out, HY.out, HO.out, HI.out, HB.out, HV.out⟩)
          ·skip
           refine value_ (w1 := ?_) (v := ?_) (by rfl) rfl ?_ ?_
           rotate_left 2
           ·go_simp
            constructor
            ·rfl
            ·rfl
           have n6_ := am_ (R_nums (ok := fun _ => True) (e := 3) (base := w.heap.size) (xs := ([1, (-1), 2, (-2), 4611686018427387904] : List Int)) (k := .i64) (blk_new _ (.cells #[.int .i64 1, .int .i64 (-1), .int .i64 2, .int .i64 (-2), .int .i64 4611686018427387904] 3 (0, 0))) (below_size HB.out) (by decide) trivial)
           have n1_ := am_ (Kd.S_alloc HO.out (.cells #[.int .i64 1, .int .i64 (-1), .int .i64 2, .int .i64 (-2), .int .i64 4611686018427387904] 3 (0, 0)))
           have n2_ := am_ (cell_of_below (below_alloc (Below.refl _ _) (.cells #[.int .i64 1, .int .i64 (-1), .int .i64 2, .int .i64 (-2), .int .i64 4611686018427387904] 3 (0, 0))) HX.out)
           have n3_ := am_ (cell_of_below (below_alloc (Below.refl _ _) (.cells #[.int .i64 1, .int .i64 (-1), .int .i64 2, .int .i64 (-2), .int .i64 4611686018427387904] 3 (0, 0))) HY.out)
           have n4_ := am_ (IsS74.alloc HI.out (.cells #[.int .i64 1, .int .i64 (-1), .int .i64 2, .int .i64 (-2), .int .i64 4611686018427387904] 3 (0, 0)))
           have n5_ := am_ (below_alloc HB.out (.cells #[.int .i64 1, .int .i64 (-1), .int .i64 2, .int .i64 (-2), .int .i64 4611686018427387904] 3 (0, 0)))
           clear HO HX HY HI HB
           have HO := n1_
           have HX := n2_
           have HY := n3_
           have HI := n4_
           have HB := n5_
           have HV := n6_
           clear n1_ n2_ n3_ n4_ n5_ n6_
           refine hK.out _ _ ⟨HX.out, HY.out⟩ (fun hHeld => ?_)
           clear hK K
           refine norm_ (a' := ?_) ?_ ?_
           rotate_left
           ·show Act.put _ (some 33) _ = _
            simp only [Act.put, List.setIfInBounds_toArray, List.set_cons_zero, List.set_cons_succ, i64_w, i32_w]
            rfl
           refine one_ (i := 4) (N := some 23) #[true, true, true, true, true, false, false, true, true, true, false, false, false, true, true, false, false, false, false] rfl rfl (by kernel_rfl) (by decide) (fun K hK => ?_)
           refine goes_ Try.func162 (by kernel_rfl) rfl #[.pointer (some ⟨gb101, 0, none⟩), .int .i64 (t108.length : Int)] (by rfl) rfl rfl tc19_ ?_
           refine (spec_l1Cur_pick.calls gb101 l0 t112 t113 (t108.length : Int) t114 t115 t116 w _ HI.out HB.out A8.out).mono ?_
           rintro e w9 ⟨rfl, hi, hb, hk⟩
           refine ⟨_, rfl, ?_⟩
           have n1_ := am_ (Kd.S_mono (Kd.S_keep (IsS74.apartS HI.out HO.out (by decide)) hk (fun _ h => h.2)) (fun _ h => h.1))
           have n2_ := am_ (keep_cell hk HX.out tc28_)
           obtain ⟨Aw2, cw2, hx2, hall2⟩ := S_cell2k n1_.out t114 c_i0 c_i1
           have e2_ := Option.some.inj (hx2.symm.trans n2_.out)
           injection e2_ with e3_ e4_ e5_
           subst e3_ e5_
           clear e4_ hx2
           obtain ⟨aw2, ea2, hc2, _, _, _, _⟩ := hall2 t118 c_j0 c_j1
           obtain rfl := Option.some.inj ea2
           clear ea2 hall2
           have n3_ := am_ hc2
           clear hc2
           have n4_ := am_ hi
           have n5_ := am_ hb
           have n6_ := am_ (Kd.R_mono (Kd.R_keep (IsS74.apart HI.out HV.out (by decide)) hk (fun _ h => h.2)) (fun _ h => h.1))
           clear HO HX HY HI HB hk hi hb HV
           have HO := n1_
           have HX := n2_
           have HY := n3_
           have HI := n4_
           have HB := n5_
           have HV := n6_
           clear n1_ n2_ n3_ n4_ n5_ n6_
           refine hK.out _ _ ⟨HX.out, HY.out⟩ (fun hHeld => ?_)
           clear hK K
           refine norm_ (a' := ?_) ?_ ?_
           rotate_left
           ·show Act.put _ (some 23) _ = _
            simp only [Act.put, List.setIfInBounds_toArray, List.set_cons_zero, List.set_cons_succ, i64_w, i32_w]
            rfl
           refine pure_ (i := 5) (N := some 24) (v := ?_) (a' := ?_) #[true, true, true, true, true, true, false, true, true, true, false, false, false, true, true, false, false, false, false] rfl rfl (by kernel_rfl) (fun _ _ _ h => h) (Or.inl ⟨by rfl, ?_⟩) ?_ ?_
           rotate_left
           ·intro w'
            go_simp
            with_reducible rfl
           rotate_left
           ·simp only [Act.put, List.setIfInBounds_toArray, List.set_cons_zero, List.set_cons_succ, i64_w, i32_w]
            rfl
           refine take_ (i := 6) (N := some 25) (v := ?_) (a' := ?_) #[true, true, true, true, true, true, true, true, true, true, false, false, false, true, true, false, false, false, false] rfl rfl (by kernel_rfl) (fun _ _ _ h => h) (Or.inl ⟨by rfl, ?_⟩) hHeld ?_ ?_
           rotate_left
           ·rintro w' ⟨s0, s1⟩
            go_simp
            with_reducible rfl
           rotate_left
           ·simp only [Act.put, List.setIfInBounds_toArray, List.set_cons_zero, List.set_cons_succ, i64_w, i32_w]
            rfl
           refine one_ (i := 10) (N := some 29) #[true, true, true, true, true, true, true, true, true, true, true, false, false, true, true, false, false, false, false] rfl rfl (by kernel_rfl) (by decide) (fun K hK => ?_)
           refine goes_ Try.func162 (by kernel_rfl) rfl #[.pointer (some ⟨gb101, 0, none⟩), .int .i64 (t108.length : Int)] (by rfl) rfl rfl tc19_ ?_
           refine (spec_l1Cur_pick.calls gb101 l0 t115 t116 (t108.length : Int) t118 t119 t120 w _ HI.out HB.out A11.out).mono ?_
           rintro e w9 ⟨rfl, hi, hb, hk⟩
           refine ⟨_, rfl, ?_⟩
           have n1_ := am_ (Kd.S_mono (Kd.S_keep (IsS74.apartS HI.out HO.out (by decide)) hk (fun _ h => h.2)) (fun _ h => h.1))
           have n2_ := am_ (keep_cell hk HX.out tc28_)
           obtain ⟨Aw2, cw2, hx2, hall2⟩ := S_cell2k n1_.out t114 c_i0 c_i1
           have e2_ := Option.some.inj (hx2.symm.trans n2_.out)
           injection e2_ with e3_ e4_ e5_
           subst e3_ e5_
           clear e4_ hx2
           obtain ⟨aw2, ea2, hc2, _, _, _, _⟩ := hall2 t118 c_j0 c_j1
           obtain rfl := Option.some.inj ea2
           clear ea2 hall2
           have n3_ := am_ hc2
           clear hc2
           have n4_ := am_ hi
           have n5_ := am_ hb
           have n6_ := am_ (Kd.R_mono (Kd.R_keep (IsS74.apart HI.out HV.out (by decide)) hk (fun _ h => h.2)) (fun _ h => h.1))
           clear HO HX HY HI HB hk hi hb HV
           have HO := n1_
           have HX := n2_
           have HY := n3_
           have HI := n4_
           have HB := n5_
           have HV := n6_
           clear n1_ n2_ n3_ n4_ n5_ n6_
           refine hK.out _ _ ⟨HX.out, HY.out⟩ (fun hHeld => ?_)
           clear hK K
           refine norm_ (a' := ?_) ?_ ?_
           rotate_left
           ·show Act.put _ (some 29) _ = _
            simp only [Act.put, List.setIfInBounds_toArray, List.set_cons_zero, List.set_cons_succ, i64_w, i32_w]
            rfl
           refine pure_ (i := 11) (N := some 30) (v := ?_) (a' := ?_) #[true, true, true, true, true, true, true, true, true, true, true, true, false, true, true, false, false, false, false] rfl rfl (by kernel_rfl) (fun _ _ _ h => h) (Or.inl ⟨by rfl, ?_⟩) ?_ ?_
           rotate_left
           ·intro w'
            go_simp
            with_reducible rfl
           rotate_left
           ·simp only [Act.put, List.setIfInBounds_toArray, List.set_cons_zero, List.set_cons_succ, i64_w, i32_w]
            rfl
           refine take_ (i := 12) (N := some 31) (v := ?_) (a' := ?_) #[true, true, true, true, true, true, true, true, true, true, true, true, true, true, true, false, false, false, false] rfl rfl (by kernel_rfl) (fun _ _ _ h => h) (Or.inl ⟨by rfl, ?_⟩) hHeld ?_ ?_
           rotate_left
           ·rintro w' ⟨s0, s1⟩
            go_simp
            with_reducible rfl
           rotate_left
           ·simp only [Act.put, List.setIfInBounds_toArray, List.set_cons_zero, List.set_cons_succ, i64_w, i32_w]
            rfl
           exact norm_ tc43_ (hCont _ _ ⟨HX.out, HY.out, HO.out, HI.out, HB.out, HV.out⟩)
         rintro gl W4 ⟨hHeld0, hHeld1, ho_, hi_, hb_, hv_⟩
         have hHeld := And.intro hHeld0 hHeld1
         have HX := am_ hHeld0
         have HY := am_ hHeld1
         have HV := am_ hv_
         have HO := am_ ho_
         have HI := am_ hi_
         have HB := am_ hb_
         clear ho_ hi_ hb_ hv_ hHeld0 hHeld1
         refine norm_ (a' := ?_) ?_ ?_
         rotate_left
         ·simp only [putAll, Act.put, List.setIfInBounds_toArray, List.set_cons_zero, List.set_cons_succ]
          rfl
         refine one_ (i := 15) (N := some 34) #[true, true, true, true, true, true, true, true, true, true, true, true, true, true, true, true, false, false, false] rfl rfl (by kernel_rfl) (by decide) (fun K hK => ?_)
         refine goes_ Try.func132 (by kernel_rfl) rfl #[.pointer (some ⟨gb101, 0, none⟩), .slice (some ⟨gl, 0, none⟩) 5 5] (by rfl) rfl rfl tc19_ ?_
         refine (spec_l1Cur_among.calls gb101 l0 t119 t120 (some ⟨gl, 0, none⟩) 5 ([1, (-1), 2, (-2), 4611686018427387904] : List Int) t125 t126 t127 w _ HI.out HB.out (Kd.R_reads' HV.out).2.2 (Kd.R_reads' HV.out).2.1 (far_slice (IsS74.own_ne HI.out HV.out (by decide))) A14.out).mono ?_
         rintro e w9 ⟨rfl, hi, hb, hk⟩
         refine ⟨_, rfl, ?_⟩
         have n1_ := am_ (Kd.S_mono (Kd.S_keep (IsS74.apartS HI.out HO.out (by decide)) hk (fun _ h => h.2)) (fun _ h => h.1))
         have n2_ := am_ (keep_cell hk HX.out tc28_)
         obtain ⟨Aw2, cw2, hx2, hall2⟩ := S_cell2k n1_.out t114 c_i0 c_i1
         have e2_ := Option.some.inj (hx2.symm.trans n2_.out)
         injection e2_ with e3_ e4_ e5_
         subst e3_ e5_
         clear e4_ hx2
         obtain ⟨aw2, ea2, hc2, _, _, _, _⟩ := hall2 t118 c_j0 c_j1
         obtain rfl := Option.some.inj ea2
         clear ea2 hall2
         have n3_ := am_ hc2
         clear hc2
         have n4_ := am_ hi
         have n5_ := am_ hb
         have n6_ := am_ (Kd.R_mono (Kd.R_keep (IsS74.apart HI.out HV.out (by decide)) hk (fun _ h => h.2)) (fun _ h => h.1))
         clear HO HX HY HI HB hk hi hb HV
         have HO := n1_
         have HX := n2_
         have HY := n3_
         have HI := n4_
         have HB := n5_
         have HV := n6_
         clear n1_ n2_ n3_ n4_ n5_ n6_
         refine hK.out _ _ ⟨HX.out, HY.out⟩ (fun hHeld => ?_)
         clear hK K
         refine norm_ (a' := ?_) ?_ ?_
         rotate_left
         ·show Act.put _ (some 34) _ = _
          simp only [Act.put, List.setIfInBounds_toArray, List.set_cons_zero, List.set_cons_succ, i64_w, i32_w]
          rfl
         refine pure_ (i := 16) (N := some 35) (v := ?_) (a' := ?_) #[true, true, true, true, true, true, true, true, true, true, true, true, true, true, true, true, true, false, false] rfl rfl (by kernel_rfl) (fun _ _ _ h => h) (Or.inl ⟨by rfl, ?_⟩) ?_ ?_
         rotate_left
         ·intro w'
          go_simp
          with_reducible rfl
         rotate_left
         ·simp only [Act.put, List.setIfInBounds_toArray, List.set_cons_zero, List.set_cons_succ, i64_w, i32_w]
          rfl
         refine pure_ (i := 17) (N := some 36) (v := ?_) (a' := ?_) #[true, true, true, true, true, true, true, true, true, true, true, true, true, true, true, true, true, true, false] rfl rfl (by kernel_rfl) (fun _ _ _ h => h) (Or.inl ⟨by rfl, ?_⟩) ?_ ?_
         rotate_left
         ·intro w'
          go_simp
          with_reducible rfl
         rotate_left
         ·simp only [Act.put, List.setIfInBounds_toArray, List.set_cons_zero, List.set_cons_succ, i64_w, i32_w]
          rfl
         refine last_ (i := 18) (N := none) #[true, true, true, true, true, true, true, true, true, true, true, true, true, true, true, true, true, true, true] rfl rfl (by kernel_rfl) (by decide) (fun K hK => ?_)
         obtain ⟨Aw2, cw2, hx2, hall2⟩ := S_cell2k (IsS74.apartS HI.out HO.out (by decide)) t114 c_i0 c_i1
         have e2_ := Option.some.inj (hx2.symm.trans HX.out)
         injection e2_ with e3_ e4_ e5_
         subst e3_ e5_
         clear e4_ hx2
         obtain ⟨aw2, ea2, hc2, hf2, hg2, hok2, hback2⟩ := hall2 t118 c_j0 c_j1
         obtain rfl := Option.some.inj ea2
         clear ea2 hall2
         refine skip_ (w1 := ?_) (by rfl) rfl ?_ ?_
         rotate_left
         ·go_simp
          rfl
         refine hK.out _ _ ?_
         clear hK K
         refine done_ (by kernel_rfl) ?_
         have hb3_ := hback2 (wrap64 ((rd (rd_L3 t108 t114) t118) + t125))
         rw [show (t108.set (t114 : Int).toNat ((t108.getD (t114 : Int).toNat []).set (t118 : Int).toNat (wrap64 ((rd (rd_L3 t108 t114) t118) + t125)))) = y130 from (by rw [Ny130.out, Ny128.out]; rfl)] at hb3_
         have HO110 := am_ (Kd.S_mono (ok' := (fun _ => True)) hb3_ (fun _ _ => trivial))
         have HI101 := am_ (IsS74.far HI.out (Ne.symm hok2.2) (.int .i64 (wrap64 ((rd (rd_L3 t108 t114) t118) + t125))))
         replace HB := am_ (HB.out.setCell hg2 (.int .i64 (wrap64 ((rd (rd_L3 t108 t114) t118) + t125))))
         clear HO HI HX HY HV
         go_wp2_with (first | ((with_reducible refine gate_callee (f := 131) rfl ?_); refine goesL_ (some 38) rfl rfl Try.func131 (by kernel_rfl) rfl #[.pointer (some ⟨gb101, 0, none⟩), .int .i64 15] rfl tc0_ ?_; (with_reducible refine (spec_l1Cur_one.calls gb101 l0 t126 t127 15 true t132 t133 w _ ?side1 ?side2 A16.out).mono ?_); (case side1 => exact tc6_); (case side2 => exact tc7_); rintro e w34 ⟨rfl, hi, hb, hk⟩; refine ⟨_, rfl, ?_⟩; have n0_ := am_ (Kd.S_mono (Kd.S_keep (IsS74.apartS (show IsS74 w _ gb101 l0 t126 t127 from tc6_) tc41_ (by decide)) hk (fun _ h => h.2)) (fun _ h => h.1)); have n2_ := am_ (hb); have n3_ := am_ (hi); clear HO110 HB HI101; have HO110 := n0_; have HB := n2_; have HI101 := n3_; clear n0_ n2_ n3_; (try clear hb hk hi); have q35 : (1 : Int) ≤ ((t108.length : Int) : Int) := of_decide_eq_true tc3_; obtain ⟨i035, hi035, _, hsz35, _⟩ := info_parts info35; have hcut35 := cut_from (P := Try.prog) 24 35 .i64 Try.underlying24 hi035 1 hsz35 (some ad) t108.length co25 1 (by omega) q35; have hr35 := Kd.Q_drop (k := (1 : Int).toNat) (Kd.Q_of_R (Kd.S_R HO110.out)) (by rw [Ny130.out, List.length_set]; omega); obtain ⟨A35, hA35⟩ : ∃ A1, A1 = (if co25 = (1 : Int).toNat then (some ad) else ((some ad) : Option Addr).map (·.add ((1 : Int).toNat * 1))) := ⟨_, rfl⟩; obtain ⟨c35, hc35⟩ : ∃ c1, c1 = co25 - (1 : Int).toNat := ⟨_, rfl⟩; have hy35 : y134.length = t108.length - (1 : Int).toNat := (by rw [Ny134.out, List.length_drop, Ny130.out, List.length_set]); rw [← Ny134.out] at hr35; rw [← hy35, ← hA35, ← hc35] at hcut35; replace hr35 : Kd.Q (Kd.slice 3 (Kd.int .i64)) 35 w34 w.heap.size (fun _ => True) (.slice A35 y134.length c35) y134 := (by rw [hA35, hc35, hy35]; exact hr35); have HE35 : Aside0 ((Value.slice A35 y134.length c35).ownBlock = (.slice (some ad) t108.length co25 : Value).ownBlock) := ⟨by rw [hA35]; split <;> (cases ((some ad) : Option Addr) <;> rfl)⟩; clear hy35 hi035 hsz35 HO110 hA35 hc35; have HO136 := am_ hr35; clear hr35; replace q35 := eq_true q35))
         go_ret
         exact ⟨_, by first | rfl | (simp [errW_none, errW_some] <;> rfl) | (simp [*, errW_none, errW_some] <;> rfl), by (with_reducible repeat (first | apply Kd.Q_alloc | apply Kd.Q_drewN | apply Kd.Q_drew)); exact HO136.out, by repeat (first | (with_reducible first | exact HB.out | apply below_alloc | apply pw_below_drewN | apply below_drew1 | refine below_set ?_ (IsS74.ge HI101.out)) | exact HB.out)⟩
        ·rw [if_neg c18] at H
         exact absurd H (by simp)
       ·replace c17 := Bool.eq_false_iff.mpr c17
        subst c17
        have H1 : (some y130) = some r := by rw [if_neg (show ¬ (false = true) by decide)] at H; exact H
        clear H
        have H := H1
        clear H1
        obtain rfl := Option.some.inj H
        go_enter Try.func94, Try.ntmps94
        go_wp2_with (first | ((with_reducible refine gate_dst (N := 8) rfl ?_); refine box_event ?hg (N := 8) ?hd (cs := #[.slice A0 l0.length c0, .int .i64 0, .int .u64 0]) (t := 74) ?hr ?_; (case hd => rfl); (case hg => rfl); (case hr => exact tc38_); intro gb101 hg w36 hbox hb; have n0_ := am_ (below_step tc1_ hb); have n1_ := am_ ((by rw [hg]; exact (below_size tc1_) : w.heap.size ≤ gb101)); have n2_ := am_ ((by rw [hg]; exact (below_size tc1_) : w.heap.size ≤ gb101)); have n3_ := am_ ((show IsS74 w w36 gb101 l0 0 0 from ⟨A0, c0, hbox, (by rw [hg]; exact (below_size tc1_) : w.heap.size ≤ gb101), HR0.out⟩)); clear HB; have HB := n0_; have GW101 := n1_; have GE101 := n2_; have HI101 := n3_; clear n0_ n1_ n2_ n3_; clear hb hbox hg) | ((with_reducible refine gate_callee (f := 133) rfl ?_); refine goesL_ (some 10) rfl rfl Try.func133 (by kernel_rfl) rfl #[.pointer (some ⟨gb101, 0, none⟩), .int .i64 5] rfl tc0_ ?_; (with_reducible refine (spec_l1Cur_signs.calls k gb101 l0 0 0 5 t102 t105 t106 w _ ?side1 ?side2 A2.out).mono ?_); (case side1 => exact tc6_); (case side2 => exact tc7_); rintro e w37 ⟨v103, rfl, ho0, hi, hb, hk⟩; refine ⟨_, rfl, ?_⟩; have n0_ := am_ (Kd.S_lower ho0 (below_size tc7_)); have n1_ := am_ (hb); have n2_ := am_ (hi); clear HB HI101; have HO104 := n0_; have HB := n1_; have HI101 := n2_; clear n0_ n1_ n2_; (try clear hb hk hi ho0); obtain ⟨Ao38, co38, eo38⟩ := Kd.S_slice HO104.out; subst eo38) | ((with_reducible refine gate_callee (f := 67) rfl ?_); refine goesL_ (some 12) rfl rfl Try.func67 (by kernel_rfl) rfl #[.slice Ao38 t102.length co38] rfl tc0_ ?_; (with_reducible refine (spec_sgGood.calls k _ _ t102 true _ ?side1 ?side2 A3.out).mono ?_); (case side1 => exact tc15_); (case side2 => exact tc59_); rintro e w39 ⟨rfl, hb⟩; refine ⟨_, rfl, ?_⟩; have n0_ := am_ (Kd.S_below tc11_ hb); have n1_ := am_ (IsS74.below tc6_ hb); have n2_ := am_ (below_step tc7_ hb); clear HO104 HI101 HB; have HO104 := n0_; have HI101 := n1_; have HB := n2_; clear n0_ n1_ n2_; (try clear hb)) | ((with_reducible refine gate_callee (f := 91) rfl ?_); refine goesL_ (some 16) rfl rfl Try.func91 (by kernel_rfl) rfl #[.slice Ao38 t102.length co38] rfl tc0_ ?_; (with_reducible refine (spec_heOf.calls k _ _ t102 t108 _ ?side1 ?side2 A5.out).mono ?_); (case side1 => exact tc15_); (case side2 => exact tc59_); rintro e w40 ⟨v109, rfl, ho0, hb⟩; refine ⟨_, rfl, ?_⟩; have n0_ := am_ (Kd.S_elder' tc11_ (Kd.S_base ho0) hb); have n1_ := am_ (Kd.S_lower (Kd.S_new' ho0 (Kd.S_lt tc11_)) (below_size tc7_)); have n2_ := am_ (IsS74.below tc6_ hb); have n3_ := am_ (below_step tc7_ hb); clear HO104 HI101 HB; have HO104 := n0_; have HO110 := n1_; have HI101 := n2_; have HB := n3_; clear n0_ n1_ n2_ n3_; (try clear hb ho0)) | ((with_reducible refine gate_callee (f := 131) rfl ?_); refine goesL_ (some 18) rfl rfl Try.func131 (by kernel_rfl) rfl #[.pointer (some ⟨gb101, 0, none⟩), .int .i64 4] rfl tc0_ ?_; (with_reducible refine (spec_l1Cur_one.calls gb101 l0 t105 t106 4 true t112 t113 w _ ?side1 ?side2 A6.out).mono ?_); (case side1 => exact tc6_); (case side2 => exact tc7_); rintro e w41 ⟨rfl, hi, hb, hk⟩; refine ⟨_, rfl, ?_⟩; have n0_ := am_ (Kd.S_mono (Kd.S_keep (IsS74.apartS (show IsS74 w _ gb101 l0 t105 t106 from tc6_) tc11_ (by decide)) hk (fun _ h => h.2)) (fun _ h => h.1)); have n1_ := am_ (Kd.S_mono (Kd.S_keep (IsS74.apartS (show IsS74 w _ gb101 l0 t105 t106 from tc6_) tc41_ (by decide)) hk (fun _ h => h.2)) (fun _ h => h.1)); have n2_ := am_ (hb); have n3_ := am_ (hi); clear HO104 HO110; clear HB HI101; have HO104 := n0_; have HO110 := n1_; have HB := n2_; have HI101 := n3_; clear n0_ n1_ n2_ n3_; (try clear hb hk hi); obtain ⟨Ao42, co42, eo42⟩ := Kd.S_slice HO110.out; subst eo42))
        have ey_ := Ny122.out
        subst ey_
        clear Ny122
        clear HO104
        have c_i0 : 0 ≤ t114 := of_decide_eq_true c9b0
        have c_i1 : t114 < (t108.length : Int) := of_decide_eq_true c10b0
        have c_j0 : 0 ≤ t118 := of_decide_eq_true c12b0
        have c_j1 : t118 < ((rd_L3 t108 t114).length : Int) := of_decide_eq_true c13b0
        obtain ⟨ad, As_, cs_, ead, _, _, _⟩ := at_L3 (Kd.S_reads' HO110.out).2.2 t114 c_i0 c_i1
        subst ead
        obtain ⟨Aw, cw, hx, hall⟩ := S_cell2k HO110.out t114 c_i0 c_i1
        obtain ⟨aw, eaw, hy, _, _, _, _⟩ := hall t118 c_j0 c_j1
        subst eaw
        clear hall
        replace hx := (show World.cell? (World.drew _) (ad.add (t114 : Int).toNat) = some (.slice (some aw) (rd_L3 t108 t114).length cw) from hx)
        replace hy := (show World.cell? (World.drew _) (aw.add (t118 : Int).toNat) = some (.int .i64 (rd (rd_L3 t108 t114) t118)) from hy)
        have HO := am_ (Kd.S_drew (Kd.S_mono (ok' := (fun _ => True)) HO110.out (fun _ _ => trivial)))
        have HI := am_ (IsS74.drew HI101.out)
        replace HB := am_ (below_drew1 HB.out)
        clear HO110 HI101
        refine start_ (n := 19) (S := fun w' => w'.cell? (ad.add (t114 : Int).toNat) = some (.slice (some aw) (rd_L3 t108 t114).length cw) ∧ w'.cell? (aw.add (t118 : Int).toNat) = some (.int .i64 (rd (rd_L3 t108 t114) t118))) (ds := [18]) #[false, false, false, false, false, false, false, false, false, false, false, false, false, false, false, false, false, false, false] (by kernel_rfl) rfl rfl ⟨hx, hy⟩ (fun hHeld => ?_)
        generalize hW_ : World.drew _ = W at HO HI HB hx hy hHeld ⊢
        clear hW_
        have HX := am_ hx
        have HY := am_ hy
        clear hx hy
        refine pure_ (i := 0) (N := some 19) (v := ?_) (a' := ?_) #[true, false, false, false, false, false, false, false, false, false, false, false, false, false, false, false, false, false, false] rfl rfl (by kernel_rfl) (fun _ _ _ h => h) (Or.inl ⟨by rfl, ?_⟩) ?_ ?_
        rotate_left
        ·intro w'
         go_simp
         with_reducible rfl
        rotate_left
        ·simp only [Act.put, List.setIfInBounds_toArray, List.set_cons_zero, List.set_cons_succ, i64_w, i32_w]
         rfl
        refine pure_ (i := 1) (N := some 20) (v := ?_) (a' := ?_) #[true, true, false, false, false, false, false, false, false, false, false, false, false, false, false, false, false, false, false] rfl rfl (by kernel_rfl) (fun _ _ _ h => h) (Or.inl ⟨by rfl, ?_⟩) ?_ ?_
        rotate_left
        ·intro w'
         go_simp
         with_reducible rfl
        rotate_left
        ·simp only [Act.put, List.setIfInBounds_toArray, List.set_cons_zero, List.set_cons_succ, i64_w, i32_w]
         rfl
        refine pure_ (i := 2) (N := some 21) (v := ?_) (a' := ?_) #[true, true, true, false, false, false, false, false, false, false, false, false, false, false, false, false, false, false, false] rfl rfl (by kernel_rfl) (fun _ _ _ h => h) (Or.inl ⟨by rfl, ?_⟩) ?_ ?_
        rotate_left
        ·intro w'
         go_simp
         with_reducible rfl
        rotate_left
        ·simp only [Act.put, List.setIfInBounds_toArray, List.set_cons_zero, List.set_cons_succ, i64_w, i32_w]
         rfl
        refine pure_ (i := 3) (N := some 22) (v := ?_) (a' := ?_) #[true, true, true, true, false, false, false, false, false, false, false, false, false, false, false, false, false, false, false] rfl rfl (by kernel_rfl) (fun _ _ _ h => h) (Or.inl ⟨by rfl, ?_⟩) ?_ ?_
        rotate_left
        ·intro w'
         go_simp
         with_reducible rfl
        rotate_left
        ·simp only [Act.put, List.setIfInBounds_toArray, List.set_cons_zero, List.set_cons_succ, i64_w, i32_w]
         rfl
        refine pure_ (i := 7) (N := some 26) (v := ?_) (a' := ?_) #[true, true, true, true, false, false, false, true, false, false, false, false, false, false, false, false, false, false, false] rfl rfl (by kernel_rfl) (fun _ _ _ h => h) (Or.inl ⟨by rfl, ?_⟩) ?_ ?_
        rotate_left
        ·intro w'
         go_simp
         with_reducible rfl
        rotate_left
        ·simp only [Act.put, List.setIfInBounds_toArray, List.set_cons_zero, List.set_cons_succ, i64_w, i32_w]
         rfl
        refine pure_ (i := 8) (N := some 27) (v := ?_) (a' := ?_) #[true, true, true, true, false, false, false, true, true, false, false, false, false, false, false, false, false, false, false] rfl rfl (by kernel_rfl) (fun _ _ _ h => h) (Or.inl ⟨by rfl, ?_⟩) ?_ ?_
        rotate_left
        ·intro w'
         go_simp
         with_reducible rfl
        rotate_left
        ·simp only [Act.put, List.setIfInBounds_toArray, List.set_cons_zero, List.set_cons_succ, i64_w, i32_w]
         rfl
        refine pure_ (i := 9) (N := some 28) (v := ?_) (a' := ?_) #[true, true, true, true, false, false, false, true, true, true, false, false, false, false, false, false, false, false, false] rfl rfl (by kernel_rfl) (fun _ _ _ h => h) (Or.inl ⟨by rfl, ?_⟩) ?_ ?_
        rotate_left
        ·intro w'
         go_simp
         with_reducible rfl
        rotate_left
        ·simp only [Act.put, List.setIfInBounds_toArray, List.set_cons_zero, List.set_cons_succ, i64_w, i32_w]
         rfl
        refine pure_ (i := 13) (N := some 32) (v := ?_) (a' := ?_) #[true, true, true, true, false, false, false, true, true, true, false, false, false, true, false, false, false, false, false] rfl rfl (by kernel_rfl) (fun _ _ _ h => h) (Or.inl ⟨by rfl, ?_⟩) ?_ ?_
        rotate_left
        ·intro w'
         go_simp
         with_reducible rfl
        rotate_left
        ·simp only [Act.put, List.setIfInBounds_toArray, List.set_cons_zero, List.set_cons_succ, i64_w, i32_w]
         rfl
        refine join_ (σ := Nat) 4 #[true, true, true, true, true, true, true, true, true, true, true, true, true, true, true, false, false, false, false] (fun s_ => [(23, .int .i64 t114), (24, .pointer (some (ad.add (t114 : Int).toNat))), (25, (.slice (some aw) (rd_L3 t108 t114).length cw)), (29, .int .i64 t118), (30, .pointer (some (aw.add (t118 : Int).toNat))), (31, (.int .i64 (rd (rd_L3 t108 t114) t118))), (33, .slice (some ⟨s_, 0, none⟩) 5 5)]) (fun s_ w' => (w'.cell? (ad.add (t114 : Int).toNat) = some (.slice (some aw) (rd_L3 t108 t114).length cw)) ∧ (w'.cell? (aw.add (t118 : Int).toNat) = some (.int .i64 (rd (rd_L3 t108 t114) t118))) ∧ Kd.S (Kd.slice 3 (Kd.int .i64)) 35 w' w.heap.size (fun _ => True) (.slice (some ad) t108.length co42) t108 ∧ IsS74 w w' gb101 l0 t119 t120 ∧ Below w.heap.size w w' ∧ Kd.R (Kd.int .i64) 3 w' w.heap.size (fun _ => True) (.slice (some ⟨s_, 0, none⟩) 5 5) ([1, (-1), 2, (-2), 4611686018427387904] : List Int)) ?_ ?_
        rotate_left
        ·intro hCont
         refine two_ (i := 4) (j := 14) (Ni := some 23) (Nj := some 33) #[true, true, true, true, true, false, false, true, true, true, false, false, false, true, false, false, false, false, false] #[true, true, true, true, false, false, false, true, true, true, false, false, false, true, true, false, false, false, false] rfl rfl rfl rfl (by kernel_rfl) (by decide) (by decide) (fun K hK => ?_) (fun K hK => ?_)
         ·skip
          refine goes_ Try.func162 (by kernel_rfl) rfl #[.pointer (some ⟨gb101, 0, none⟩), .int .i64 (t108.length : Int)] (by rfl) rfl rfl tc19_ ?_
          refine (spec_l1Cur_pick.calls gb101 l0 t112 t113 (t108.length : Int) t114 t115 t116 w _ HI.out HB.out A8.out).mono ?_
          rintro e w9 ⟨rfl, hi, hb, hk⟩
          refine ⟨_, rfl, ?_⟩
          have n1_ := am_ (Kd.S_mono (Kd.S_keep (IsS74.apartS HI.out HO.out (by decide)) hk (fun _ h => h.2)) (fun _ h => h.1))
          have n2_ := am_ (keep_cell hk HX.out tc28_)
          obtain ⟨Aw2, cw2, hx2, hall2⟩ := S_cell2k n1_.out t114 c_i0 c_i1
          have e2_ := Option.some.inj (hx2.symm.trans n2_.out)
          injection e2_ with e3_ e4_ e5_
          subst e3_ e5_
          clear e4_ hx2
          obtain ⟨aw2, ea2, hc2, _, _, _, _⟩ := hall2 t118 c_j0 c_j1
          obtain rfl := Option.some.inj ea2
          clear ea2 hall2
          have n3_ := am_ hc2
          clear hc2
          have n4_ := am_ hi
          have n5_ := am_ hb
          clear HO HX HY HI HB hk hi hb
          have HO := n1_
          have HX := n2_
          have HY := n3_
          have HI := n4_
          have HB := n5_
          clear n1_ n2_ n3_ n4_ n5_
          refine hK.out _ _ ⟨HX.out, HY.out⟩ (fun hHeld => ?_)
          clear hK K
          refine norm_ (a' := ?_) ?_ ?_
          rotate_left
          ·show Act.put _ (some 23) _ = _
           simp only [Act.put, List.setIfInBounds_toArray, List.set_cons_zero, List.set_cons_succ, i64_w, i32_w]
           rfl
          refine pure_ (i := 5) (N := some 24) (v := ?_) (a' := ?_) #[true, true, true, true, true, true, false, true, true, true, false, false, false, true, false, false, false, false, false] rfl rfl (by kernel_rfl) (fun _ _ _ h => h) (Or.inl ⟨by rfl, ?_⟩) ?_ ?_
          rotate_left
          ·intro w'
           go_simp
           with_reducible rfl
          rotate_left
          ·simp only [Act.put, List.setIfInBounds_toArray, List.set_cons_zero, List.set_cons_succ, i64_w, i32_w]
           rfl
          refine take_ (i := 6) (N := some 25) (v := ?_) (a' := ?_) #[true, true, true, true, true, true, true, true, true, true, false, false, false, true, false, false, false, false, false] rfl rfl (by kernel_rfl) (fun _ _ _ h => h) (Or.inl ⟨by rfl, ?_⟩) hHeld ?_ ?_
          rotate_left
          ·rintro w' ⟨s0, s1⟩
           go_simp
           with_reducible rfl
          rotate_left
          ·simp only [Act.put, List.setIfInBounds_toArray, List.set_cons_zero, List.set_cons_succ, i64_w, i32_w]
           rfl
          refine two_ (i := 10) (j := 14) (Ni := some 29) (Nj := some 33) #[true, true, true, true, true, true, true, true, true, true, true, false, false, true, false, false, false, false, false] #[true, true, true, true, true, true, true, true, true, true, false, false, false, true, true, false, false, false, false] rfl rfl rfl rfl (by kernel_rfl) (by decide) (by decide) (fun K hK => ?_) (fun K hK => ?_)
          ·skip
           refine goes_ Try.func162 (by kernel_rfl) rfl #[.pointer (some ⟨gb101, 0, none⟩), .int .i64 (t108.length : Int)] (by rfl) rfl rfl tc19_ ?_
           refine (spec_l1Cur_pick.calls gb101 l0 t115 t116 (t108.length : Int) t118 t119 t120 w _ HI.out HB.out A11.out).mono ?_
           rintro e w9 ⟨rfl, hi, hb, hk⟩
           refine ⟨_, rfl, ?_⟩
           have n1_ := am_ (Kd.S_mono (Kd.S_keep (IsS74.apartS HI.out HO.out (by decide)) hk (fun _ h => h.2)) (fun _ h => h.1))
           have n2_ := am_ (keep_cell hk HX.out tc28_)
           obtain ⟨Aw2, cw2, hx2, hall2⟩ := S_cell2k n1_.out t114 c_i0 c_i1
           have e2_ := Option.some.inj (hx2.symm.trans n2_.out)
           injection e2_ with e3_ e4_ e5_
           subst e3_ e5_
           clear e4_ hx2
           obtain ⟨aw2, ea2, hc2, _, _, _, _⟩ := hall2 t118 c_j0 c_j1
           obtain rfl := Option.some.inj ea2
           clear ea2 hall2
           have n3_ := am_ hc2
           clear hc2
           have n4_ := am_ hi
           have n5_ := am_ hb
           clear HO HX HY HI HB hk hi hb
           have HO := n1_
           have HX := n2_
           have HY := n3_
           have HI := n4_
           have HB := n5_
           clear n1_ n2_ n3_ n4_ n5_
           refine hK.out _ _ ⟨HX.out, HY.out⟩ (fun hHeld => ?_)
           clear hK K
           refine norm_ (a' := ?_) ?_ ?_
           rotate_left
           ·show Act.put _ (some 29) _ = _
            simp only [Act.put, List.setIfInBounds_toArray, List.set_cons_zero, List.set_cons_succ, i64_w, i32_w]
            rfl
           refine pure_ (i := 11) (N := some 30) (v := ?_) (a' := ?_) #[true, true, true, true, true, true, true, true, true, true, true, true, false, true, false, false, false, false, false] rfl rfl (by kernel_rfl) (fun _ _ _ h => h) (Or.inl ⟨by rfl, ?_⟩) ?_ ?_
           rotate_left
           ·intro w'
            go_simp
            with_reducible rfl
           rotate_left
           ·simp only [Act.put, List.setIfInBounds_toArray, List.set_cons_zero, List.set_cons_succ, i64_w, i32_w]
            rfl
           refine take_ (i := 12) (N := some 31) (v := ?_) (a' := ?_) #[true, true, true, true, true, true, true, true, true, true, true, true, true, true, false, false, false, false, false] rfl rfl (by kernel_rfl) (fun _ _ _ h => h) (Or.inl ⟨by rfl, ?_⟩) hHeld ?_ ?_
           rotate_left
           ·rintro w' ⟨s0, s1⟩
            go_simp
            with_reducible rfl
           rotate_left
           ·simp only [Act.put, List.setIfInBounds_toArray, List.set_cons_zero, List.set_cons_succ, i64_w, i32_w]
            rfl
           refine one_ (i := 14) (N := some 33) #[true, true, true, true, true, true, true, true, true, true, true, true, true, true, true, false, false, false, false] rfl rfl (by kernel_rfl) (by decide) (fun K hK => ?_)
           refine value_ (w1 := ?_) (v := ?_) (by rfl) rfl ?_ ?_
           rotate_left 2
           ·go_simp
            constructor
            ·rfl
            ·rfl
           have n6_ := am_ (R_nums (ok := fun _ => True) (e := 3) (base := w.heap.size) (xs := ([1, (-1), 2, (-2), 4611686018427387904] : List Int)) (k := .i64) (blk_new _ (.cells #[.int .i64 1, .int .i64 (-1), .int .i64 2, .int .i64 (-2), .int .i64 4611686018427387904] 3 (0, 0))) (below_size HB.out) (by decide) trivial)
           have n1_ := am_ (Kd.S_alloc HO.out (.cells #[.int .i64 1, .int .i64 (-1), .int .i64 2, .int .i64 (-2), .int .i64 4611686018427387904] 3 (0, 0)))
           have n2_ := am_ (cell_of_below (below_alloc (Below.refl _ _) (.cells #[.int .i64 1, .int .i64 (-1), .int .i64 2, .int .i64 (-2), .int .i64 4611686018427387904] 3 (0, 0))) HX.out)
           have n3_ := am_ (cell_of_below (below_alloc (Below.refl _ _) (.cells #[.int .i64 1, .int .i64 (-1), .int .i64 2, .int .i64 (-2), .int .i64 4611686018427387904] 3 (0, 0))) HY.out)
           have n4_ := am_ (IsS74.alloc HI.out (.cells #[.int .i64 1, .int .i64 (-1), .int .i64 2, .int .i64 (-2), .int .i64 4611686018427387904] 3 (0, 0)))
           have n5_ := am_ (below_alloc HB.out (.cells #[.int .i64 1, .int .i64 (-1), .int .i64 2, .int .i64 (-2), .int .i64 4611686018427387904] 3 (0, 0)))
           clear HO HX HY HI HB
           have HO := n1_
           have HX := n2_
           have HY := n3_
           have HI := n4_
           have HB := n5_
           have HV := n6_
           clear n1_ n2_ n3_ n4_ n5_ n6_
           refine hK.out _ _ ⟨HX.out, HY.out⟩ (fun hHeld => ?_)
           clear hK K
           refine norm_ (a' := ?_) ?_ ?_
           rotate_left
           ·show Act.put _ (some 33) _ = _
            simp only [Act.put, List.setIfInBounds_toArray, List.set_cons_zero, List.set_cons_succ, i64_w, i32_w]
            rfl
           exact norm_ tc43_ (hCont _ _ ⟨HX.out, HY.out, HO.out, HI.out, HB.out, HV.out⟩)
          ·skip
           refine value_ (w1 := ?_) (v := ?_) (by rfl) rfl ?_ ?_
           rotate_left 2
           ·go_simp
            constructor
            ·rfl
            ·rfl
           have n6_ := am_ (R_nums (ok := fun _ => True) (e := 3) (base := w.heap.size) (xs := ([1, (-1), 2, (-2), 4611686018427387904] : List Int)) (k := .i64) (blk_new _ (.cells #[.int .i64 1, .int .i64 (-1), .int .i64 2, .int .i64 (-2), .int .i64 4611686018427387904] 3 (0, 0))) (below_size HB.out) (by decide) trivial)
           have n1_ := am_ (Kd.S_alloc HO.out (.cells #[.int .i64 1, .int .i64 (-1), .int .i64 2, .int .i64 (-2), .int .i64 4611686018427387904] 3 (0, 0)))
           have n2_ := am_ (cell_of_below (below_alloc (Below.refl _ _) (.cells #[.int .i64 1, .int .i64 (-1), .int .i64 2, .int .i64 (-2), .int .i64 4611686018427387904] 3 (0, 0))) HX.out)
           have n3_ := am_ (cell_of_below (below_alloc (Below.refl _ _) (.cells #[.int .i64 1, .int .i64 (-1), .int .i64 2, .int .i64 (-2), .int .i64 4611686018427387904] 3 (0, 0))) HY.out)
           have n4_ := am_ (IsS74.alloc HI.out (.cells #[.int .i64 1, .int .i64 (-1), .int .i64 2, .int .i64 (-2), .int .i64 4611686018427387904] 3 (0, 0)))
           have n5_ := am_ (below_alloc HB.out (.cells #[.int .i64 1, .int .i64 (-1), .int .i64 2, .int .i64 (-2), .int .i64 4611686018427387904] 3 (0, 0)))
           clear HO HX HY HI HB
           have HO := n1_
           have HX := n2_
           have HY := n3_
           have HI := n4_
           have HB := n5_
           have HV := n6_
           clear n1_ n2_ n3_ n4_ n5_ n6_
           refine hK.out _ _ ⟨HX.out, HY.out⟩ (fun hHeld => ?_)
           clear hK K
           refine norm_ (a' := ?_) ?_ ?_
           rotate_left
           ·show Act.put _ (some 33) _ = _
            simp only [Act.put, List.setIfInBounds_toArray, List.set_cons_zero, List.set_cons_succ, i64_w, i32_w]
            rfl
           refine one_ (i := 10) (N := some 29) #[true, true, true, true, true, true, true, true, true, true, true, false, false, true, true, false, false, false, false] rfl rfl (by kernel_rfl) (by decide) (fun K hK => ?_)
           refine goes_ Try.func162 (by kernel_rfl) rfl #[.pointer (some ⟨gb101, 0, none⟩), .int .i64 (t108.length : Int)] (by rfl) rfl rfl tc19_ ?_
           refine (spec_l1Cur_pick.calls gb101 l0 t115 t116 (t108.length : Int) t118 t119 t120 w _ HI.out HB.out A11.out).mono ?_
           rintro e w9 ⟨rfl, hi, hb, hk⟩
           refine ⟨_, rfl, ?_⟩
           have n1_ := am_ (Kd.S_mono (Kd.S_keep (IsS74.apartS HI.out HO.out (by decide)) hk (fun _ h => h.2)) (fun _ h => h.1))
           have n2_ := am_ (keep_cell hk HX.out tc28_)
           obtain ⟨Aw2, cw2, hx2, hall2⟩ := S_cell2k n1_.out t114 c_i0 c_i1
           have e2_ := Option.some.inj (hx2.symm.trans n2_.out)
           injection e2_ with e3_ e4_ e5_
           subst e3_ e5_
           clear e4_ hx2
           obtain ⟨aw2, ea2, hc2, _, _, _, _⟩ := hall2 t118 c_j0 c_j1
           obtain rfl := Option.some.inj ea2
           clear ea2 hall2
           have n3_ := am_ hc2
           clear hc2
           have n4_ := am_ hi
           have n5_ := am_ hb
           have n6_ := am_ (Kd.R_mono (Kd.R_keep (IsS74.apart HI.out HV.out (by decide)) hk (fun _ h => h.2)) (fun _ h => h.1))
           clear HO HX HY HI HB hk hi hb HV
           have HO := n1_
           have HX := n2_
           have HY := n3_
           have HI := n4_
           have HB := n5_
           have HV := n6_
           clear n1_ n2_ n3_ n4_ n5_ n6_
           refine hK.out _ _ ⟨HX.out, HY.out⟩ (fun hHeld => ?_)
           clear hK K
           refine norm_ (a' := ?_) ?_ ?_
           rotate_left
           ·show Act.put _ (some 29) _ = _
            simp only [Act.put, List.setIfInBounds_toArray, List.set_cons_zero, List.set_cons_succ, i64_w, i32_w]
            rfl
           refine pure_ (i := 11) (N := some 30) (v := ?_) (a' := ?_) #[true, true, true, true, true, true, true, true, true, true, true, true, false, true, true, false, false, false, false] rfl rfl (by kernel_rfl) (fun _ _ _ h => h) (Or.inl ⟨by rfl, ?_⟩) ?_ ?_
           rotate_left
           ·intro w'
            go_simp
            with_reducible rfl
           rotate_left
           ·simp only [Act.put, List.setIfInBounds_toArray, List.set_cons_zero, List.set_cons_succ, i64_w, i32_w]
            rfl
           refine take_ (i := 12) (N := some 31) (v := ?_) (a' := ?_) #[true, true, true, true, true, true, true, true, true, true, true, true, true, true, true, false, false, false, false] rfl rfl (by kernel_rfl) (fun _ _ _ h => h) (Or.inl ⟨by rfl, ?_⟩) hHeld ?_ ?_
           rotate_left
           ·rintro w' ⟨s0, s1⟩
            go_simp
            with_reducible rfl
           rotate_left
           ·simp only [Act.put, List.setIfInBounds_toArray, List.set_cons_zero, List.set_cons_succ, i64_w, i32_w]
            rfl
           exact norm_ tc43_ (hCont _ _ ⟨HX.out, HY.out, HO.out, HI.out, HB.out, HV.out⟩)
         ·skip
          refine value_ (w1 := ?_) (v := ?_) (by rfl) rfl ?_ ?_
          rotate_left 2
          ·go_simp
           constructor
           ·rfl
           ·rfl
          have n6_ := am_ (R_nums (ok := fun _ => True) (e := 3) (base := w.heap.size) (xs := ([1, (-1), 2, (-2), 4611686018427387904] : List Int)) (k := .i64) (blk_new _ (.cells #[.int .i64 1, .int .i64 (-1), .int .i64 2, .int .i64 (-2), .int .i64 4611686018427387904] 3 (0, 0))) (below_size HB.out) (by decide) trivial)
          have n1_ := am_ (Kd.S_alloc HO.out (.cells #[.int .i64 1, .int .i64 (-1), .int .i64 2, .int .i64 (-2), .int .i64 4611686018427387904] 3 (0, 0)))
          have n2_ := am_ (cell_of_below (below_alloc (Below.refl _ _) (.cells #[.int .i64 1, .int .i64 (-1), .int .i64 2, .int .i64 (-2), .int .i64 4611686018427387904] 3 (0, 0))) HX.out)
          have n3_ := am_ (cell_of_below (below_alloc (Below.refl _ _) (.cells #[.int .i64 1, .int .i64 (-1), .int .i64 2, .int .i64 (-2), .int .i64 4611686018427387904] 3 (0, 0))) HY.out)
          have n4_ := am_ (IsS74.alloc HI.out (.cells #[.int .i64 1, .int .i64 (-1), .int .i64 2, .int .i64 (-2), .int .i64 4611686018427387904] 3 (0, 0)))
          have n5_ := am_ (below_alloc HB.out (.cells #[.int .i64 1, .int .i64 (-1), .int .i64 2, .int .i64 (-2), .int .i64 4611686018427387904] 3 (0, 0)))
          clear HO HX HY HI HB
          have HO := n1_
          have HX := n2_
          have HY := n3_
          have HI := n4_
          have HB := n5_
          have HV := n6_
          clear n1_ n2_ n3_ n4_ n5_ n6_
          refine hK.out _ _ ⟨HX.out, HY.out⟩ (fun hHeld => ?_)
          clear hK K
          refine norm_ (a' := ?_) ?_ ?_
          rotate_left
          ·show Act.put _ (some 33) _ = _
           simp only [Act.put, List.setIfInBounds_toArray, List.set_cons_zero, List.set_cons_succ, i64_w, i32_w]
           rfl
          refine one_ (i := 4) (N := some 23) #[true, true, true, true, true, false, false, true, true, true, false, false, false, true, true, false, false, false, false] rfl rfl (by kernel_rfl) (by decide) (fun K hK => ?_)
          refine goes_ Try.func162 (by kernel_rfl) rfl #[.pointer (some ⟨gb101, 0, none⟩), .int .i64 (t108.length : Int)] (by rfl) rfl rfl tc19_ ?_
          refine (spec_l1Cur_pick.calls gb101 l0 t112 t113 (t108.length : Int) t114 t115 t116 w _ HI.out HB.out A8.out).mono ?_
          rintro e w9 ⟨rfl, hi, hb, hk⟩
          refine ⟨_, rfl, ?_⟩
          have n1_ := am_ (Kd.S_mono (Kd.S_keep (IsS74.apartS HI.out HO.out (by decide)) hk (fun _ h => h.2)) (fun _ h => h.1))
          have n2_ := am_ (keep_cell hk HX.out tc28_)
          obtain ⟨Aw2, cw2, hx2, hall2⟩ := S_cell2k n1_.out t114 c_i0 c_i1
          have e2_ := Option.some.inj (hx2.symm.trans n2_.out)
          injection e2_ with e3_ e4_ e5_
          subst e3_ e5_
          clear e4_ hx2
          obtain ⟨aw2, ea2, hc2, _, _, _, _⟩ := hall2 t118 c_j0 c_j1
          obtain rfl := Option.some.inj ea2
          clear ea2 hall2
          have n3_ := am_ hc2
          clear hc2
          have n4_ := am_ hi
          have n5_ := am_ hb
          have n6_ := am_ (Kd.R_mono (Kd.R_keep (IsS74.apart HI.out HV.out (by decide)) hk (fun _ h => h.2)) (fun _ h => h.1))
          clear HO HX HY HI HB hk hi hb HV
          have HO := n1_
          have HX := n2_
          have HY := n3_
          have HI := n4_
          have HB := n5_
          have HV := n6_
          clear n1_ n2_ n3_ n4_ n5_ n6_
          refine hK.out _ _ ⟨HX.out, HY.out⟩ (fun hHeld => ?_)
          clear hK K
          refine norm_ (a' := ?_) ?_ ?_
          rotate_left
          ·show Act.put _ (some 23) _ = _
           simp only [Act.put, List.setIfInBounds_toArray, List.set_cons_zero, List.set_cons_succ, i64_w, i32_w]
           rfl
          refine pure_ (i := 5) (N := some 24) (v := ?_) (a' := ?_) #[true, true, true, true, true, true, false, true, true, true, false, false, false, true, true, false, false, false, false] rfl rfl (by kernel_rfl) (fun _ _ _ h => h) (Or.inl ⟨by rfl, ?_⟩) ?_ ?_
          rotate_left
          ·intro w'
           go_simp
           with_reducible rfl
          rotate_left
          ·simp only [Act.put, List.setIfInBounds_toArray, List.set_cons_zero, List.set_cons_succ, i64_w, i32_w]
           rfl
          refine take_ (i := 6) (N := some 25) (v := ?_) (a' := ?_) #[true, true, true, true, true, true, true, true, true, true, false, false, false, true, true, false, false, false, false] rfl rfl (by kernel_rfl) (fun _ _ _ h => h) (Or.inl ⟨by rfl, ?_⟩) hHeld ?_ ?_
          rotate_left
          ·rintro w' ⟨s0, s1⟩
           go_simp
           with_reducible rfl
          rotate_left
          ·simp only [Act.put, List.setIfInBounds_toArray, List.set_cons_zero, List.set_cons_succ, i64_w, i32_w]
           rfl
          refine one_ (i := 10) (N := some 29) #[true, true, true, true, true, true, true, true, true, true, true, false, false, true, true, false, false, false, false] rfl rfl (by kernel_rfl) (by decide) (fun K hK => ?_)
          refine goes_ Try.func162 (by kernel_rfl) rfl #[.pointer (some ⟨gb101, 0, none⟩), .int .i64 (t108.length : Int)] (by rfl) rfl rfl tc19_ ?_
          refine (spec_l1Cur_pick.calls gb101 l0 t115 t116 (t108.length : Int) t118 t119 t120 w _ HI.out HB.out A11.out).mono ?_
          rintro e w9 ⟨rfl, hi, hb, hk⟩
          refine ⟨_, rfl, ?_⟩
          have n1_ := am_ (Kd.S_mono (Kd.S_keep (IsS74.apartS HI.out HO.out (by decide)) hk (fun _ h => h.2)) (fun _ h => h.1))
          have n2_ := am_ (keep_cell hk HX.out tc28_)
          obtain ⟨Aw2, cw2, hx2, hall2⟩ := S_cell2k n1_.out t114 c_i0 c_i1
          have e2_ := Option.some.inj (hx2.symm.trans n2_.out)
          injection e2_ with e3_ e4_ e5_
          subst e3_ e5_
          clear e4_ hx2
          obtain ⟨aw2, ea2, hc2, _, _, _, _⟩ := hall2 t118 c_j0 c_j1
          obtain rfl := Option.some.inj ea2
          clear ea2 hall2
          have n3_ := am_ hc2
          clear hc2
          have n4_ := am_ hi
          have n5_ := am_ hb
          have n6_ := am_ (Kd.R_mono (Kd.R_keep (IsS74.apart HI.out HV.out (by decide)) hk (fun _ h => h.2)) (fun _ h => h.1))
          clear HO HX HY HI HB hk hi hb HV
          have HO := n1_
          have HX := n2_
          have HY := n3_
          have HI := n4_
          have HB := n5_
          have HV := n6_
          clear n1_ n2_ n3_ n4_ n5_ n6_
          refine hK.out _ _ ⟨HX.out, HY.out⟩ (fun hHeld => ?_)
          clear hK K
          refine norm_ (a' := ?_) ?_ ?_
          rotate_left
          ·show Act.put _ (some 29) _ = _
           simp only [Act.put, List.setIfInBounds_toArray, List.set_cons_zero, List.set_cons_succ, i64_w, i32_w]
           rfl
          refine pure_ (i := 11) (N := some 30) (v := ?_) (a' := ?_) #[true, true, true, true, true, true, true, true, true, true, true, true, false, true, true, false, false, false, false] rfl rfl (by kernel_rfl) (fun _ _ _ h => h) (Or.inl ⟨by rfl, ?_⟩) ?_ ?_
          rotate_left
          ·intro w'
           go_simp
           with_reducible rfl
          rotate_left
          ·simp only [Act.put, List.setIfInBounds_toArray, List.set_cons_zero, List.set_cons_succ, i64_w, i32_w]
           rfl
          refine take_ (i := 12) (N := some 31) (v := ?_) (a' := ?_) #[true, true, true, true, true, true, true, true, true, true, true, true, true, true, true, false, false, false, false] rfl rfl (by kernel_rfl) (fun _ _ _ h => h) (Or.inl ⟨by rfl, ?_⟩) hHeld ?_ ?_
          rotate_left
          ·rintro w' ⟨s0, s1⟩
           go_simp
           with_reducible rfl
          rotate_left
          ·simp only [Act.put, List.setIfInBounds_toArray, List.set_cons_zero, List.set_cons_succ, i64_w, i32_w]
           rfl
          exact norm_ tc43_ (hCont _ _ ⟨HX.out, HY.out, HO.out, HI.out, HB.out, HV.out⟩)
        rintro gl W4 ⟨hHeld0, hHeld1, ho_, hi_, hb_, hv_⟩
        have hHeld := And.intro hHeld0 hHeld1
        have HX := am_ hHeld0
        have HY := am_ hHeld1
        have HV := am_ hv_
        have HO := am_ ho_
        have HI := am_ hi_
        have HB := am_ hb_
        clear ho_ hi_ hb_ hv_ hHeld0 hHeld1
        refine norm_ (a' := ?_) ?_ ?_
        rotate_left
        ·simp only [putAll, Act.put, List.setIfInBounds_toArray, List.set_cons_zero, List.set_cons_succ]
         rfl
        refine one_ (i := 15) (N := some 34) #[true, true, true, true, true, true, true, true, true, true, true, true, true, true, true, true, false, false, false] rfl rfl (by kernel_rfl) (by decide) (fun K hK => ?_)
        refine goes_ Try.func132 (by kernel_rfl) rfl #[.pointer (some ⟨gb101, 0, none⟩), .slice (some ⟨gl, 0, none⟩) 5 5] (by rfl) rfl rfl tc19_ ?_
        refine (spec_l1Cur_among.calls gb101 l0 t119 t120 (some ⟨gl, 0, none⟩) 5 ([1, (-1), 2, (-2), 4611686018427387904] : List Int) t125 t126 t127 w _ HI.out HB.out (Kd.R_reads' HV.out).2.2 (Kd.R_reads' HV.out).2.1 (far_slice (IsS74.own_ne HI.out HV.out (by decide))) A14.out).mono ?_
        rintro e w9 ⟨rfl, hi, hb, hk⟩
        refine ⟨_, rfl, ?_⟩
        have n1_ := am_ (Kd.S_mono (Kd.S_keep (IsS74.apartS HI.out HO.out (by decide)) hk (fun _ h => h.2)) (fun _ h => h.1))
        have n2_ := am_ (keep_cell hk HX.out tc28_)
        obtain ⟨Aw2, cw2, hx2, hall2⟩ := S_cell2k n1_.out t114 c_i0 c_i1
        have e2_ := Option.some.inj (hx2.symm.trans n2_.out)
        injection e2_ with e3_ e4_ e5_
        subst e3_ e5_
        clear e4_ hx2
        obtain ⟨aw2, ea2, hc2, _, _, _, _⟩ := hall2 t118 c_j0 c_j1
        obtain rfl := Option.some.inj ea2
        clear ea2 hall2
        have n3_ := am_ hc2
        clear hc2
        have n4_ := am_ hi
        have n5_ := am_ hb
        have n6_ := am_ (Kd.R_mono (Kd.R_keep (IsS74.apart HI.out HV.out (by decide)) hk (fun _ h => h.2)) (fun _ h => h.1))
        clear HO HX HY HI HB hk hi hb HV
        have HO := n1_
        have HX := n2_
        have HY := n3_
        have HI := n4_
        have HB := n5_
        have HV := n6_
        clear n1_ n2_ n3_ n4_ n5_ n6_
        refine hK.out _ _ ⟨HX.out, HY.out⟩ (fun hHeld => ?_)
        clear hK K
        refine norm_ (a' := ?_) ?_ ?_
        rotate_left
        ·show Act.put _ (some 34) _ = _
         simp only [Act.put, List.setIfInBounds_toArray, List.set_cons_zero, List.set_cons_succ, i64_w, i32_w]
         rfl
        refine pure_ (i := 16) (N := some 35) (v := ?_) (a' := ?_) #[true, true, true, true, true, true, true, true, true, true, true, true, true, true, true, true, true, false, false] rfl rfl (by kernel_rfl) (fun _ _ _ h => h) (Or.inl ⟨by rfl, ?_⟩) ?_ ?_
        rotate_left
        ·intro w'
         go_simp
         with_reducible rfl
        rotate_left
        ·simp only [Act.put, List.setIfInBounds_toArray, List.set_cons_zero, List.set_cons_succ, i64_w, i32_w]
         rfl
        refine pure_ (i := 17) (N := some 36) (v := ?_) (a' := ?_) #[true, true, true, true, true, true, true, true, true, true, true, true, true, true, true, true, true, true, false] rfl rfl (by kernel_rfl) (fun _ _ _ h => h) (Or.inl ⟨by rfl, ?_⟩) ?_ ?_
        rotate_left
        ·intro w'
         go_simp
         with_reducible rfl
        rotate_left
        ·simp only [Act.put, List.setIfInBounds_toArray, List.set_cons_zero, List.set_cons_succ, i64_w, i32_w]
         rfl
        refine last_ (i := 18) (N := none) #[true, true, true, true, true, true, true, true, true, true, true, true, true, true, true, true, true, true, true] rfl rfl (by kernel_rfl) (by decide) (fun K hK => ?_)
        obtain ⟨Aw2, cw2, hx2, hall2⟩ := S_cell2k (IsS74.apartS HI.out HO.out (by decide)) t114 c_i0 c_i1
        have e2_ := Option.some.inj (hx2.symm.trans HX.out)
        injection e2_ with e3_ e4_ e5_
        subst e3_ e5_
        clear e4_ hx2
        obtain ⟨aw2, ea2, hc2, hf2, hg2, hok2, hback2⟩ := hall2 t118 c_j0 c_j1
        obtain rfl := Option.some.inj ea2
        clear ea2 hall2
        refine skip_ (w1 := ?_) (by rfl) rfl ?_ ?_
        rotate_left
        ·go_simp
         rfl
        refine hK.out _ _ ?_
        clear hK K
        refine done_ (by kernel_rfl) ?_
        have hb3_ := hback2 (wrap64 ((rd (rd_L3 t108 t114) t118) + t125))
        rw [show (t108.set (t114 : Int).toNat ((t108.getD (t114 : Int).toNat []).set (t118 : Int).toNat (wrap64 ((rd (rd_L3 t108 t114) t118) + t125)))) = y130 from (by rw [Ny130.out, Ny128.out]; rfl)] at hb3_
        have HO110 := am_ (Kd.S_mono (ok' := (fun _ => True)) hb3_ (fun _ _ => trivial))
        have HI101 := am_ (IsS74.far HI.out (Ne.symm hok2.2) (.int .i64 (wrap64 ((rd (rd_L3 t108 t114) t118) + t125))))
        replace HB := am_ (HB.out.setCell hg2 (.int .i64 (wrap64 ((rd (rd_L3 t108 t114) t118) + t125))))
        clear HO HI HX HY HV
        go_wp2_with (first | ((with_reducible refine gate_callee (f := 131) rfl ?_); refine goesL_ (some 38) rfl rfl Try.func131 (by kernel_rfl) rfl #[.pointer (some ⟨gb101, 0, none⟩), .int .i64 15] rfl tc0_ ?_; (with_reducible refine (spec_l1Cur_one.calls gb101 l0 t126 t127 15 false t132 t133 w _ ?side1 ?side2 A16.out).mono ?_); (case side1 => exact tc6_); (case side2 => exact tc7_); rintro e w51 ⟨rfl, hi, hb, hk⟩; refine ⟨_, rfl, ?_⟩; have n0_ := am_ (Kd.S_mono (Kd.S_keep (IsS74.apartS (show IsS74 w _ gb101 l0 t126 t127 from tc6_) tc41_ (by decide)) hk (fun _ h => h.2)) (fun _ h => h.1)); have n2_ := am_ (hb); have n3_ := am_ (hi); clear HO110 HB HI101; have HO110 := n0_; have HB := n2_; have HI101 := n3_; clear n0_ n2_ n3_; (try clear hb hk hi)))
        go_ret
        exact ⟨_, by first | rfl | (simp [errW_none, errW_some] <;> rfl) | (simp [*, errW_none, errW_some] <;> rfl), Kd.Q_of_R ((Kd.S_R tc41_)), by repeat (first | (with_reducible first | exact HB.out | apply below_alloc | apply pw_below_drewN | apply below_drew1 | refine below_set ?_ (IsS74.ge HI101.out)) | exact HB.out)⟩
      ·rw [if_neg c13] at H
       exact absurd H (by simp)
     ·rw [if_neg c12] at H
      exact absurd H (by simp)
    ·rw [if_neg c10] at H
     exact absurd H (by simp)
   ·rw [if_neg c9] at H
    exact absurd H (by simp)
  ·replace c7 := Bool.eq_false_iff.mpr c7
   subst c7
   have H1 : ((spec_l1Cur_one.f l0 t112 t113 15).bind fun bt137 => (if bt137.1 = true then (if 1 ≤ (t108.length : Int) then (some (t108.drop (1 : Int).toNat)) else (none)) else (some t108))) = some r := by rw [if_neg (show ¬ (false = true) by decide)] at H; exact H
   clear H
   have H := H1
   clear H1
   replace H := Option.bind_eq_some_iff.mp H
   obtain ⟨⟨t137, t138, t139⟩, A520, H⟩ := H
   replace H : (if t137 = true then (if 1 ≤ (t108.length : Int) then (some (t108.drop (1 : Int).toNat)) else (none)) else (some t108)) = some r := H
   have A52 := am_ A520
   clear A520
   by_cases c53 : t137 = true
   ·subst c53
    have H1 : (if 1 ≤ (t108.length : Int) then (some (t108.drop (1 : Int).toNat)) else (none)) = some r := by rw [if_pos rfl] at H; exact H
    clear H
    have H := H1
    clear H1
    by_cases c54 : 1 ≤ (t108.length : Int)
    ·rw [if_pos c54] at H
     have c54b0 := eq_true c54
     have c54b1 : decide (1 ≤ (t108.length : Int)) = true := decide_eq_true c54
     clear c54
     obtain ⟨y140, hy140⟩ : ∃ y_ : List (List Int), y_ = (t108.drop (1 : Int).toNat) := ⟨_, rfl⟩
     replace H : (some y140) = some r := by first | (rw [hy140]; with_reducible exact H) | (have H2_ := (Option.bind_some _ _).symm.trans H; rw [hy140]; with_reducible exact H2_) | (have H2_ := (Option.bind_some _ _).symm.trans H; with_reducible exact H2_) | with_reducible exact H | (rw [hy140]; exact H) | exact H
     have Ny140 := am_ hy140
     clear hy140
     obtain rfl := Option.some.inj H
     go_enter Try.func94, Try.ntmps94
     go_wp2_with (first | ((with_reducible refine gate_dst (N := 8) rfl ?_); refine box_event ?hg (N := 8) ?hd (cs := #[.slice A0 l0.length c0, .int .i64 0, .int .u64 0]) (t := 74) ?hr ?_; (case hd => rfl); (case hg => rfl); (case hr => exact tc38_); intro gb101 hg w55 hbox hb; have n0_ := am_ (below_step tc1_ hb); have n1_ := am_ ((by rw [hg]; exact (below_size tc1_) : w.heap.size ≤ gb101)); have n2_ := am_ ((by rw [hg]; exact (below_size tc1_) : w.heap.size ≤ gb101)); have n3_ := am_ ((show IsS74 w w55 gb101 l0 0 0 from ⟨A0, c0, hbox, (by rw [hg]; exact (below_size tc1_) : w.heap.size ≤ gb101), HR0.out⟩)); clear HB; have HB := n0_; have GW101 := n1_; have GE101 := n2_; have HI101 := n3_; clear n0_ n1_ n2_ n3_; clear hb hbox hg) | ((with_reducible refine gate_callee (f := 133) rfl ?_); refine goesL_ (some 10) rfl rfl Try.func133 (by kernel_rfl) rfl #[.pointer (some ⟨gb101, 0, none⟩), .int .i64 5] rfl tc0_ ?_; (with_reducible refine (spec_l1Cur_signs.calls k gb101 l0 0 0 5 t102 t105 t106 w _ ?side1 ?side2 A2.out).mono ?_); (case side1 => exact tc6_); (case side2 => exact tc7_); rintro e w56 ⟨v103, rfl, ho0, hi, hb, hk⟩; refine ⟨_, rfl, ?_⟩; have n0_ := am_ (Kd.S_lower ho0 (below_size tc7_)); have n1_ := am_ (hb); have n2_ := am_ (hi); clear HB HI101; have HO104 := n0_; have HB := n1_; have HI101 := n2_; clear n0_ n1_ n2_; (try clear hb hk hi ho0); obtain ⟨Ao57, co57, eo57⟩ := Kd.S_slice HO104.out; subst eo57) | ((with_reducible refine gate_callee (f := 67) rfl ?_); refine goesL_ (some 12) rfl rfl Try.func67 (by kernel_rfl) rfl #[.slice Ao57 t102.length co57] rfl tc0_ ?_; (with_reducible refine (spec_sgGood.calls k _ _ t102 true _ ?side1 ?side2 A3.out).mono ?_); (case side1 => exact tc15_); (case side2 => exact tc59_); rintro e w58 ⟨rfl, hb⟩; refine ⟨_, rfl, ?_⟩; have n0_ := am_ (Kd.S_below tc11_ hb); have n1_ := am_ (IsS74.below tc6_ hb); have n2_ := am_ (below_step tc7_ hb); clear HO104 HI101 HB; have HO104 := n0_; have HI101 := n1_; have HB := n2_; clear n0_ n1_ n2_; (try clear hb)) | ((with_reducible refine gate_callee (f := 91) rfl ?_); refine goesL_ (some 16) rfl rfl Try.func91 (by kernel_rfl) rfl #[.slice Ao57 t102.length co57] rfl tc0_ ?_; (with_reducible refine (spec_heOf.calls k _ _ t102 t108 _ ?side1 ?side2 A5.out).mono ?_); (case side1 => exact tc15_); (case side2 => exact tc59_); rintro e w59 ⟨v109, rfl, ho0, hb⟩; refine ⟨_, rfl, ?_⟩; have n0_ := am_ (Kd.S_elder' tc11_ (Kd.S_base ho0) hb); have n1_ := am_ (Kd.S_lower (Kd.S_new' ho0 (Kd.S_lt tc11_)) (below_size tc7_)); have n2_ := am_ (IsS74.below tc6_ hb); have n3_ := am_ (below_step tc7_ hb); clear HO104 HI101 HB; have HO104 := n0_; have HO110 := n1_; have HI101 := n2_; have HB := n3_; clear n0_ n1_ n2_ n3_; (try clear hb ho0)) | ((with_reducible refine gate_callee (f := 131) rfl ?_); refine goesL_ (some 18) rfl rfl Try.func131 (by kernel_rfl) rfl #[.pointer (some ⟨gb101, 0, none⟩), .int .i64 4] rfl tc0_ ?_; (with_reducible refine (spec_l1Cur_one.calls gb101 l0 t105 t106 4 false t112 t113 w _ ?side1 ?side2 A6.out).mono ?_); (case side1 => exact tc6_); (case side2 => exact tc7_); rintro e w60 ⟨rfl, hi, hb, hk⟩; refine ⟨_, rfl, ?_⟩; have n0_ := am_ (Kd.S_mono (Kd.S_keep (IsS74.apartS (show IsS74 w _ gb101 l0 t105 t106 from tc6_) tc11_ (by decide)) hk (fun _ h => h.2)) (fun _ h => h.1)); have n1_ := am_ (Kd.S_mono (Kd.S_keep (IsS74.apartS (show IsS74 w _ gb101 l0 t105 t106 from tc6_) tc41_ (by decide)) hk (fun _ h => h.2)) (fun _ h => h.1)); have n2_ := am_ (hb); have n3_ := am_ (hi); clear HO104 HO110; clear HB HI101; have HO104 := n0_; have HO110 := n1_; have HB := n2_; have HI101 := n3_; clear n0_ n1_ n2_ n3_; (try clear hb hk hi)) | ((with_reducible refine gate_callee (f := 131) rfl ?_); refine goesL_ (some 38) rfl rfl Try.func131 (by kernel_rfl) rfl #[.pointer (some ⟨gb101, 0, none⟩), .int .i64 15] rfl tc0_ ?_; (with_reducible refine (spec_l1Cur_one.calls gb101 l0 t112 t113 15 true t138 t139 w _ ?side1 ?side2 A52.out).mono ?_); (case side1 => exact tc6_); (case side2 => exact tc7_); rintro e w61 ⟨rfl, hi, hb, hk⟩; refine ⟨_, rfl, ?_⟩; have n0_ := am_ (Kd.S_mono (Kd.S_keep (IsS74.apartS (show IsS74 w _ gb101 l0 t112 t113 from tc6_) tc11_ (by decide)) hk (fun _ h => h.2)) (fun _ h => h.1)); have n1_ := am_ (Kd.S_mono (Kd.S_keep (IsS74.apartS (show IsS74 w _ gb101 l0 t112 t113 from tc6_) tc41_ (by decide)) hk (fun _ h => h.2)) (fun _ h => h.1)); have n2_ := am_ (hb); have n3_ := am_ (hi); clear HO104 HO110; clear HB HI101; have HO104 := n0_; have HO110 := n1_; have HB := n2_; have HI101 := n3_; clear n0_ n1_ n2_ n3_; (try clear hb hk hi); obtain ⟨Ao62, co62, eo62⟩ := Kd.S_slice HO110.out; subst eo62; have n_ := am_ (Kd.S_mono (ok' := (fun k_ => some k_ ≠ (.slice Ao57 t102.length co57 : Value).ownBlock)) HO110.out (fun k_ hk => hk.2)); clear HO110; have HO110 := n_; clear n_; have q63 : (1 : Int) ≤ ((t108.length : Int) : Int) := of_decide_eq_true tc3_; obtain ⟨i063, hi063, _, hsz63, _⟩ := info_parts info35; have hcut63 := cut_from (P := Try.prog) 24 35 .i64 Try.underlying24 hi063 1 hsz63 Ao62 t108.length co62 1 (by omega) q63; have hr63 := Kd.Q_drop (k := (1 : Int).toNat) (Kd.Q_of_R (Kd.S_R HO110.out)) (by omega); obtain ⟨A63, hA63⟩ : ∃ A1, A1 = (if co62 = (1 : Int).toNat then Ao62 else (Ao62 : Option Addr).map (·.add ((1 : Int).toNat * 1))) := ⟨_, rfl⟩; obtain ⟨c63, hc63⟩ : ∃ c1, c1 = co62 - (1 : Int).toNat := ⟨_, rfl⟩; have hy63 : y140.length = t108.length - (1 : Int).toNat := (by rw [Ny140.out, List.length_drop]); rw [← Ny140.out] at hr63; rw [← hy63, ← hA63, ← hc63] at hcut63; replace hr63 : Kd.Q (Kd.slice 3 (Kd.int .i64)) 35 w61 w.heap.size (fun k_ => some k_ ≠ (.slice Ao57 t102.length co57 : Value).ownBlock) (.slice A63 y140.length c63) y140 := (by rw [hA63, hc63, hy63]; exact hr63); have HE63 : Aside0 ((Value.slice A63 y140.length c63).ownBlock = (.slice Ao62 t108.length co62 : Value).ownBlock) := ⟨by rw [hA63]; split <;> (cases (Ao62 : Option Addr) <;> rfl)⟩; clear hy63 hi063 hsz63 HO110 hA63 hc63; have HO142 := am_ hr63; clear hr63; replace q63 := eq_true q63; have n_ := am_ (Kd.S_mono (ok' := fun k_ => (True ∧ some k_ ≠ (.slice A63 y140.length c63 : Value).ownBlock)) HO104.out (fun k_ hk => ⟨trivial, (by rw [HE63.out]; exact hk.2)⟩)); clear HO104; have HO104 := n_; clear n_))
     go_ret
     exact ⟨_, by first | rfl | (simp [errW_none, errW_some] <;> rfl) | (simp [*, errW_none, errW_some] <;> rfl), by (with_reducible repeat (first | apply Kd.Q_alloc | apply Kd.Q_drewN | apply Kd.Q_drew)); exact Kd.Q_mono HO142.out (fun _ hk => trivial), by repeat (first | (with_reducible first | exact HB.out | apply below_alloc | apply pw_below_drewN | apply below_drew1 | refine below_set ?_ (IsS74.ge HI101.out)) | exact HB.out)⟩
    ·rw [if_neg c54] at H
     exact absurd H (by simp)
   ·replace c53 := Bool.eq_false_iff.mpr c53
    subst c53
    have H1 : (some t108) = some r := by rw [if_neg (show ¬ (false = true) by decide)] at H; exact H
    clear H
    have H := H1
    clear H1
    obtain rfl := Option.some.inj H
    go_enter Try.func94, Try.ntmps94
    go_wp2_with (first | ((with_reducible refine gate_dst (N := 8) rfl ?_); refine box_event ?hg (N := 8) ?hd (cs := #[.slice A0 l0.length c0, .int .i64 0, .int .u64 0]) (t := 74) ?hr ?_; (case hd => rfl); (case hg => rfl); (case hr => exact tc38_); intro gb101 hg w64 hbox hb; have n0_ := am_ (below_step tc1_ hb); have n1_ := am_ ((by rw [hg]; exact (below_size tc1_) : w.heap.size ≤ gb101)); have n2_ := am_ ((by rw [hg]; exact (below_size tc1_) : w.heap.size ≤ gb101)); have n3_ := am_ ((show IsS74 w w64 gb101 l0 0 0 from ⟨A0, c0, hbox, (by rw [hg]; exact (below_size tc1_) : w.heap.size ≤ gb101), HR0.out⟩)); clear HB; have HB := n0_; have GW101 := n1_; have GE101 := n2_; have HI101 := n3_; clear n0_ n1_ n2_ n3_; clear hb hbox hg) | ((with_reducible refine gate_callee (f := 133) rfl ?_); refine goesL_ (some 10) rfl rfl Try.func133 (by kernel_rfl) rfl #[.pointer (some ⟨gb101, 0, none⟩), .int .i64 5] rfl tc0_ ?_; (with_reducible refine (spec_l1Cur_signs.calls k gb101 l0 0 0 5 t102 t105 t106 w _ ?side1 ?side2 A2.out).mono ?_); (case side1 => exact tc6_); (case side2 => exact tc7_); rintro e w65 ⟨v103, rfl, ho0, hi, hb, hk⟩; refine ⟨_, rfl, ?_⟩; have n0_ := am_ (Kd.S_lower ho0 (below_size tc7_)); have n1_ := am_ (hb); have n2_ := am_ (hi); clear HB HI101; have HO104 := n0_; have HB := n1_; have HI101 := n2_; clear n0_ n1_ n2_; (try clear hb hk hi ho0); obtain ⟨Ao66, co66, eo66⟩ := Kd.S_slice HO104.out; subst eo66) | ((with_reducible refine gate_callee (f := 67) rfl ?_); refine goesL_ (some 12) rfl rfl Try.func67 (by kernel_rfl) rfl #[.slice Ao66 t102.length co66] rfl tc0_ ?_; (with_reducible refine (spec_sgGood.calls k _ _ t102 true _ ?side1 ?side2 A3.out).mono ?_); (case side1 => exact tc15_); (case side2 => exact tc59_); rintro e w67 ⟨rfl, hb⟩; refine ⟨_, rfl, ?_⟩; have n0_ := am_ (Kd.S_below tc11_ hb); have n1_ := am_ (IsS74.below tc6_ hb); have n2_ := am_ (below_step tc7_ hb); clear HO104 HI101 HB; have HO104 := n0_; have HI101 := n1_; have HB := n2_; clear n0_ n1_ n2_; (try clear hb)) | ((with_reducible refine gate_callee (f := 91) rfl ?_); refine goesL_ (some 16) rfl rfl Try.func91 (by kernel_rfl) rfl #[.slice Ao66 t102.length co66] rfl tc0_ ?_; (with_reducible refine (spec_heOf.calls k _ _ t102 t108 _ ?side1 ?side2 A5.out).mono ?_); (case side1 => exact tc15_); (case side2 => exact tc59_); rintro e w68 ⟨v109, rfl, ho0, hb⟩; refine ⟨_, rfl, ?_⟩; have n0_ := am_ (Kd.S_elder' tc11_ (Kd.S_base ho0) hb); have n1_ := am_ (Kd.S_lower (Kd.S_new' ho0 (Kd.S_lt tc11_)) (below_size tc7_)); have n2_ := am_ (IsS74.below tc6_ hb); have n3_ := am_ (below_step tc7_ hb); clear HO104 HI101 HB; have HO104 := n0_; have HO110 := n1_; have HI101 := n2_; have HB := n3_; clear n0_ n1_ n2_ n3_; (try clear hb ho0)) | ((with_reducible refine gate_callee (f := 131) rfl ?_); refine goesL_ (some 18) rfl rfl Try.func131 (by kernel_rfl) rfl #[.pointer (some ⟨gb101, 0, none⟩), .int .i64 4] rfl tc0_ ?_; (with_reducible refine (spec_l1Cur_one.calls gb101 l0 t105 t106 4 false t112 t113 w _ ?side1 ?side2 A6.out).mono ?_); (case side1 => exact tc6_); (case side2 => exact tc7_); rintro e w69 ⟨rfl, hi, hb, hk⟩; refine ⟨_, rfl, ?_⟩; have n0_ := am_ (Kd.S_mono (Kd.S_keep (IsS74.apartS (show IsS74 w _ gb101 l0 t105 t106 from tc6_) tc11_ (by decide)) hk (fun _ h => h.2)) (fun _ h => h.1)); have n1_ := am_ (Kd.S_mono (Kd.S_keep (IsS74.apartS (show IsS74 w _ gb101 l0 t105 t106 from tc6_) tc41_ (by decide)) hk (fun _ h => h.2)) (fun _ h => h.1)); have n2_ := am_ (hb); have n3_ := am_ (hi); clear HO104 HO110; clear HB HI101; have HO104 := n0_; have HO110 := n1_; have HB := n2_; have HI101 := n3_; clear n0_ n1_ n2_ n3_; (try clear hb hk hi)) | ((with_reducible refine gate_callee (f := 131) rfl ?_); refine goesL_ (some 38) rfl rfl Try.func131 (by kernel_rfl) rfl #[.pointer (some ⟨gb101, 0, none⟩), .int .i64 15] rfl tc0_ ?_; (with_reducible refine (spec_l1Cur_one.calls gb101 l0 t112 t113 15 false t138 t139 w _ ?side1 ?side2 A52.out).mono ?_); (case side1 => exact tc6_); (case side2 => exact tc7_); rintro e w70 ⟨rfl, hi, hb, hk⟩; refine ⟨_, rfl, ?_⟩; have n0_ := am_ (Kd.S_mono (Kd.S_keep (IsS74.apartS (show IsS74 w _ gb101 l0 t112 t113 from tc6_) tc11_ (by decide)) hk (fun _ h => h.2)) (fun _ h => h.1)); have n1_ := am_ (Kd.S_mono (Kd.S_keep (IsS74.apartS (show IsS74 w _ gb101 l0 t112 t113 from tc6_) tc41_ (by decide)) hk (fun _ h => h.2)) (fun _ h => h.1)); have n2_ := am_ (hb); have n3_ := am_ (hi); clear HO104 HO110; clear HB HI101; have HO104 := n0_; have HO110 := n1_; have HB := n2_; have HI101 := n3_; clear n0_ n1_ n2_ n3_; (try clear hb hk hi)))
    go_ret
    exact ⟨_, by first | rfl | (simp [errW_none, errW_some] <;> rfl) | (simp [*, errW_none, errW_some] <;> rfl), Kd.Q_of_R ((Kd.S_R (by (with_reducible repeat (first | apply Kd.S_alloc | apply Kd.S_drewN | apply Kd.S_drew)); exact Kd.S_mono HO110.out (fun _ hk => trivial)))), by repeat (first | (with_reducible first | exact HB.out | apply below_alloc | apply pw_below_drewN | apply below_drew1 | refine below_set ?_ (IsS74.ge HI101.out)) | exact HB.out)⟩
 ·replace c4 := Bool.eq_false_iff.mpr c4
  subst c4
  have H1 : (some t102) = some r := by rw [if_neg (show ¬ (false = true) by decide)] at H; exact H
  clear H
  have H := H1
  clear H1
  obtain rfl := Option.some.inj H
  go_enter Try.func94, Try.ntmps94
  go_wp2_with (first | ((with_reducible refine gate_dst (N := 8) rfl ?_); refine box_event ?hg (N := 8) ?hd (cs := #[.slice A0 l0.length c0, .int .i64 0, .int .u64 0]) (t := 74) ?hr ?_; (case hd => rfl); (case hg => rfl); (case hr => exact tc38_); intro gb101 hg w71 hbox hb; have n0_ := am_ (below_step tc1_ hb); have n1_ := am_ ((by rw [hg]; exact (below_size tc1_) : w.heap.size ≤ gb101)); have n2_ := am_ ((by rw [hg]; exact (below_size tc1_) : w.heap.size ≤ gb101)); have n3_ := am_ ((show IsS74 w w71 gb101 l0 0 0 from ⟨A0, c0, hbox, (by rw [hg]; exact (below_size tc1_) : w.heap.size ≤ gb101), HR0.out⟩)); clear HB; have HB := n0_; have GW101 := n1_; have GE101 := n2_; have HI101 := n3_; clear n0_ n1_ n2_ n3_; clear hb hbox hg) | ((with_reducible refine gate_callee (f := 133) rfl ?_); refine goesL_ (some 10) rfl rfl Try.func133 (by kernel_rfl) rfl #[.pointer (some ⟨gb101, 0, none⟩), .int .i64 5] rfl tc0_ ?_; (with_reducible refine (spec_l1Cur_signs.calls k gb101 l0 0 0 5 t102 t105 t106 w _ ?side1 ?side2 A2.out).mono ?_); (case side1 => exact tc6_); (case side2 => exact tc7_); rintro e w72 ⟨v103, rfl, ho0, hi, hb, hk⟩; refine ⟨_, rfl, ?_⟩; have n0_ := am_ (Kd.S_lower ho0 (below_size tc7_)); have n1_ := am_ (hb); have n2_ := am_ (hi); clear HB HI101; have HO104 := n0_; have HB := n1_; have HI101 := n2_; clear n0_ n1_ n2_; (try clear hb hk hi ho0); obtain ⟨Ao73, co73, eo73⟩ := Kd.S_slice HO104.out; subst eo73) | ((with_reducible refine gate_callee (f := 67) rfl ?_); refine goesL_ (some 12) rfl rfl Try.func67 (by kernel_rfl) rfl #[.slice Ao73 t102.length co73] rfl tc0_ ?_; (with_reducible refine (spec_sgGood.calls k _ _ t102 false _ ?side1 ?side2 A3.out).mono ?_); (case side1 => exact tc15_); (case side2 => exact tc59_); rintro e w74 ⟨rfl, hb⟩; refine ⟨_, rfl, ?_⟩; have n0_ := am_ (Kd.S_below tc11_ hb); have n1_ := am_ (IsS74.below tc6_ hb); have n2_ := am_ (below_step tc7_ hb); clear HO104 HI101 HB; have HO104 := n0_; have HI101 := n1_; have HB := n2_; clear n0_ n1_ n2_; (try clear hb)))
  go_ret
  exact ⟨_, by first | rfl | (simp [errW_none, errW_some] <;> rfl) | (simp [*, errW_none, errW_some] <;> rfl), Kd.Q_of_R ((Kd.S_R tc11_)), by repeat (first | (with_reducible first | exact HB.out | apply below_alloc | apply pw_below_drewN | apply below_drew1 | refine below_set ?_ (IsS74.ge HI101.out)) | exact HB.out)⟩

/-! ### spec_DrawFromHeights: function 36 -/
def spec_DrawFromHeights.f (k : Nat) (l0 : List Int) : Option ((List (List Int))) := (spec_DrawAreHeights.f k l0).bind fun t101 => (some t101)
set_option maxHeartbeats 8000000 in
set_option maxRecDepth 100000 in
theorem spec_DrawFromHeights.calls (k : Nat) (A0 : Option Addr) (c0 : Nat) (l0 : List Int) (r : List (List Int)) (w : World) (hr0 : Kd.C (Kd.int .u8) w A0 l0.length l0) (hc0 : l0.length ≤ c0) (h : spec_DrawFromHeights.f k l0 = some r) :
  Calls Try.prog 36 #[.slice A0 l0.length c0] w fun e w' => ∃ v0_ : Value, e = .returned (v0_) ∧ Kd.Q (Kd.slice 3 (Kd.int .i64)) 35 w' w.heap.size (fun _ => True) v0_ r ∧ Below w.heap.size w w' := by
 have HR0 := am_ hr0
 have HC0 := am_ hc0
 clear hr0 hc0
 have HB := am_ (Below.refl w.heap.size w)
 have H : ((spec_DrawAreHeights.f k l0).bind fun t101 => (some t101)) = some r := h
 clear h
 replace H := Option.bind_eq_some_iff.mp H
 obtain ⟨t101, A20, H⟩ := H
 replace H : (some t101) = some r := H
 have A2 := am_ A20
 clear A20
 obtain rfl := Option.some.inj H
 go_enter Try.func36, Try.ntmps36
 go_wp2_with (first | ((with_reducible refine gate_callee (f := 94) rfl ?_); refine goesL_ (some 4) rfl rfl Try.func94 (by kernel_rfl) rfl #[.slice A0 l0.length c0] rfl tc0_ ?_; (with_reducible refine (spec_DrawAreHeights.calls k _ _ l0 t101 _ ?side1 ?side2 A2.out).mono ?_); (case side1 => exact tc9_); (case side2 => exact HC0.out); rintro e w3 ⟨v102, rfl, ho0, hb⟩; refine ⟨_, rfl, ?_⟩; have n0_ := am_ (Kd.Q_lower ho0 (below_size tc1_)); have n1_ := am_ (below_step tc1_ hb); clear HB; have HO103 := n0_; have HB := n1_; clear n0_ n1_; (try clear hb ho0)))
 go_ret
 exact ⟨_, by first | rfl | (simp [errW_none, errW_some] <;> rfl) | (simp [*, errW_none, errW_some] <;> rfl), by (with_reducible repeat (first | apply Kd.Q_alloc | apply Kd.Q_drewN | apply Kd.Q_drew)); exact HO103.out, by repeat (first | (with_reducible first | exact HB.out | apply below_alloc | apply pw_below_drewN | apply below_drew1) | exact HB.out)⟩

/-! ### spec_heFrom: function 96 -/
mutual
def spec_heFrom.l0 : Nat → List (List Int) → List (List Int) → Int → Int → Option ((List (List Int)))
 | 0, _, _, _, _ => none
 | k + 1, x0, x4, x13, x14 => if x14 < x13 then (spec_heFrom.l1 k x0 x4 x14 x13 x14 (x4.length : Int) 0) else ((spec_sgFrom.f k x4).bind fun t104 => (some t104))
def spec_heFrom.l1 : Nat → List (List Int) → List (List Int) → Int → Int → Int → Int → Int → Option ((List (List Int)))
 | 0, _, _, _, _, _, _, _ => none
 | k + 1, x0, x4, x5, x13, x14, x18, x19 => if x19 < x18 then (if 0 ≤ x5 then (if x5 < (x4.length : Int) then (if 0 ≤ (wrap64 (x5 + 1)) then (if (wrap64 (x5 + 1)) < (x0.length : Int) then (if 0 ≤ (wrap64 (x19 + 1)) then (if (wrap64 (x19 + 1)) < ((rd_L3 x0 (wrap64 (x5 + 1))).length : Int) then (if 0 ≤ x19 then (if x19 < ((rd_L3 x4 x5).length : Int) then (spec_heFrom.l1 k x0 (x4.set (x5 : Int).toNat ((rd_L3 x4 x5).set (x19 : Int).toNat (wrap64 (Int.tdiv (wrap64 ((wrap64 ((wrap64 (x5 + x19)) + 2)) - (rd (rd_L3 x0 (wrap64 (x5 + 1))) (wrap64 (x19 + 1))))) 2)))) x5 x13 x14 x18 (wrap64 (x19 + 1))) else (none)) else (none)) else (none)) else (none)) else (none)) else (none)) else (none)) else (none)) else (spec_heFrom.l0 k x0 x4 x13 (wrap64 (x14 + 1)))
end
def spec_heFrom.f (k : Nat) (l0 : List (List Int)) : Option ((List (List Int))) := (spec_sgZero.f k (wrap64 ((l0.length : Int) - 1))).bind fun t101 => (spec_heFrom.l0 k l0 t101 (t101.length : Int) 0)
def spec_heFrom.T9 : Bool × List (List Nat × List Nat) := (true, [([], []), ([], []), ([0, 1], [0, 1]), ([2], [2]), ([], []), ([], []), ([], []), ([5, 6], [5, 6]), ([7], [7]), ([], []), ([], []), ([10], [10]), ([9, 11], [9, 11]), ([12], [12]), ([], []), ([14], [14]), ([13, 15], [13, 15]), ([16], [16]), ([8, 17], [8, 17]), ([18], [18]), ([3, 4, 0, 1, 2, 3, 4, 5, 6, 7, 8, 9, 10, 11, 12, 13, 14, 15, 16, 17, 18, 19], [3, 4]), ([20, 19, 0, 1, 2, 3, 4, 5, 6, 7, 8, 9, 10, 11, 12, 13, 14, 15, 16, 17, 18, 19], [19, 20])])
def spec_heFrom.B9 : List Nat := [0, 0, 3, 7, 0, 0, 0, 96, 224, 0, 0, 1024, 3584, 7680, 0, 16384, 65024, 130560, 262112, 524256, 1048575, 2097151]
theorem spec_heFrom.tab9 : rtab .any (opsOf Try.f96 9) = spec_heFrom.T9 := by kernel_rfl
theorem spec_heFrom.bits9 : waitsOk spec_heFrom.T9.2 spec_heFrom.B9 = true := by kernel_rfl
set_option maxHeartbeats 8000000 in
set_option maxRecDepth 100000 in
theorem spec_heFrom.calls (k : Nat) (A0 : Option Addr) (c0 : Nat) (l0 : List (List Int)) (r : List (List Int)) (w : World) (hr0 : Kd.C (Kd.slice 3 (Kd.int .i64)) w A0 l0.length l0) (hc0 : l0.length ≤ c0) (h : spec_heFrom.f k l0 = some r) :
  Calls Try.prog 96 #[.slice A0 l0.length c0] w fun e w' => ∃ v0_ : Value, e = .returned (v0_) ∧ Kd.S (Kd.slice 3 (Kd.int .i64)) 35 w' w.heap.size (fun _ => True) v0_ r ∧ Below w.heap.size w w' := by
 have HR0 := am_ hr0
 have HC0 := am_ hc0
 clear hr0 hc0
 have HB := am_ (Below.refl w.heap.size w)
 have H : ((spec_sgZero.f k (wrap64 ((l0.length : Int) - 1))).bind fun t101 => (spec_heFrom.l0 k l0 t101 (t101.length : Int) 0)) = some r := h
 clear h
 replace H := Option.bind_eq_some_iff.mp H
 obtain ⟨t101, A20, H⟩ := H
 replace H : (spec_heFrom.l0 k l0 t101 (t101.length : Int) 0) = some r := H
 have A2 := am_ A20
 clear A20
 have H' := am_ H
 clear H
 go_enter Try.func96, Try.ntmps96
 go_wp2_with (first | ((with_reducible refine gate_callee (f := 77) rfl ?_); refine goesL_ (some 11) rfl rfl Try.func77 (by kernel_rfl) rfl #[.int .i64 (wrap64 ((l0.length : Int) - 1))] rfl tc0_ ?_; (with_reducible refine (spec_sgZero.calls k (wrap64 ((l0.length : Int) - 1)) t101 _ A2.out).mono ?_); rintro e w3 ⟨v102, rfl, ho0, hb⟩; refine ⟨_, rfl, ?_⟩; have n0_ := am_ (Kd.S_lower ho0 (below_size tc1_)); have n1_ := am_ (below_step tc1_ hb); clear HB; have HO103 := n0_; have HB := n1_; clear n0_ n1_; (try clear hb ho0); obtain ⟨Ao4, co4, eo4⟩ := Kd.S_slice HO103.out; subst eo4))
 go_loopg [14] k (fun kq v14 w' => ∃ (x4_1 : List (List Int)) (x14_1 : Int), v14 = .int .i64 x14_1 ∧ Aside0 (spec_heFrom.l0 kq l0 x4_1 (t101.length : Int) x14_1 = some r) ∧ Aside0 (kq ≤ k) ∧ Aside0 (Kd.S (Kd.slice 3 (Kd.int .i64)) 35 w' w.heap.size (fun _ => True) (.slice Ao4 t101.length co4) x4_1) ∧ Aside0 (Below w.heap.size w w'))
 case atStart => exact ⟨(t101), (0), tc8_, H', ⟨Nat.le_refl _⟩, ⟨by (with_reducible repeat (first | apply Kd.S_alloc | apply Kd.S_drewN | apply Kd.S_drew)); exact HO103.out⟩, ⟨by repeat (first | (with_reducible first | exact HB.out | apply below_alloc | apply pw_below_drewN | apply below_drew1) | exact HB.out)⟩⟩
 case round =>
  clear H'
  try clear p2
  obtain ⟨x4_1, x14_1, rfl, HA, HK1, HO_4, HB⟩ := hrel
  have hl4_1 := (Kd.S_reads' HO_4.out).1
  rw [hl4_1] at HO_4
  (try simp only [hl4_1])
  cases gk with
  | zero => exact absurd HA.out (by simp [spec_heFrom.l0])
  | succ k1 =>
   have H := HA.out
   clear HA
   simp only [spec_heFrom.l0] at H
   by_cases c5 : x14_1 < (t101.length : Int)
   ·rw [if_pos c5] at H
    have c5b0 : decide (x14_1 < (t101.length : Int)) = true := decide_eq_true c5
    (try simp only [hl4_1] at c5b0)
    clear c5
    have H' := am_ H
    clear H
    go_wp2
    go_loopg [19] k1 (fun kq v19 w' => ∃ (x4_2 : List (List Int)) (x19_2 : Int), v19 = .int .i64 x19_2 ∧ Aside0 (spec_heFrom.l1 kq l0 x4_2 x14_1 (t101.length : Int) x14_1 (x4_1.length : Int) x19_2 = some r) ∧ Aside0 (kq ≤ k1) ∧ Aside0 (Kd.S (Kd.slice 3 (Kd.int .i64)) 35 w' w.heap.size (fun _ => True) (.slice Ao4 x4_1.length co4) x4_2) ∧ Aside0 (Below w.heap.size w w'))
    case atStart => exact ⟨(x4_1), (0), tc8_, H', ⟨Nat.le_refl _⟩, ⟨by (try simp only [hl4_1]); (with_reducible repeat (first | apply Kd.S_alloc | apply Kd.S_drewN | apply Kd.S_drew)); exact HO_4.out⟩, ⟨by repeat (first | (with_reducible first | exact HB.out | apply below_alloc | apply pw_below_drewN | apply below_drew1) | exact HB.out)⟩⟩
    case round =>
     clear H'
     try clear p2
     try clear c5
     try clear c5b0
     try clear p2
     obtain ⟨x4_2, x19_2, rfl, HA, HK2, HO_4, HB⟩ := hrel
     have hl4_2 := (Kd.S_reads' HO_4.out).1
     rw [hl4_2] at HO_4
     (try simp only [hl4_2])
     cases gk with
     | zero => exact absurd HA.out (by simp [spec_heFrom.l1])
     | succ k2 =>
      have H := HA.out
      clear HA
      simp only [spec_heFrom.l1] at H
      by_cases c6 : x19_2 < (x4_1.length : Int)
      ·rw [if_pos c6] at H
       have c6b0 : decide (x19_2 < (x4_1.length : Int)) = true := decide_eq_true c6
       (try simp only [hl4_1, hl4_2] at c6b0)
       clear c6
       by_cases c7 : 0 ≤ x14_1
       ·rw [if_pos c7] at H
        have c7b0 : decide (0 ≤ x14_1) = true := decide_eq_true c7
        clear c7
        by_cases c8 : x14_1 < (x4_2.length : Int)
        ·rw [if_pos c8] at H
         have c8b0 : decide (x14_1 < (x4_2.length : Int)) = true := decide_eq_true c8
         (try simp only [hl4_1, hl4_2] at c8b0)
         clear c8
         obtain ⟨ji9, hji9⟩ : ∃ j_ : Int, (wrap64 (x14_1 + 1)) = j_ := ⟨_, rfl⟩
         replace H : (if 0 ≤ (ji9) then (if (ji9) < (l0.length : Int) then (if 0 ≤ (wrap64 (x19_2 + 1)) then (if (wrap64 (x19_2 + 1)) < ((rd_L3 l0 (ji9)).length : Int) then (if 0 ≤ x19_2 then (if x19_2 < ((rd_L3 x4_2 x14_1).length : Int) then (spec_heFrom.l1 k2 l0 (x4_2.set (x14_1 : Int).toNat ((rd_L3 x4_2 x14_1).set (x19_2 : Int).toNat (wrap64 (Int.tdiv (wrap64 ((wrap64 ((wrap64 (x14_1 + x19_2)) + 2)) - (rd (rd_L3 l0 (ji9)) (wrap64 (x19_2 + 1))))) 2)))) x14_1 (t101.length : Int) x14_1 (x4_1.length : Int) (wrap64 (x19_2 + 1))) else (none)) else (none)) else (none)) else (none)) else (none)) else (none)) = some r := by first | (rw [hji9] at H; exact H) | (simp only [hji9] at H ⊢; exact H)
         have hji9w : (IntKind.i64.wrap (x14_1 + 1)) = ji9 := (i64_w _).trans hji9
         by_cases c10 : 0 ≤ (ji9)
         ·rw [if_pos c10] at H
          have c10b0 : decide (0 ≤ (ji9)) = true := decide_eq_true c10
          clear c10
          by_cases c11 : (ji9) < (l0.length : Int)
          ·rw [if_pos c11] at H
           have c11b0 : decide ((ji9) < (l0.length : Int)) = true := decide_eq_true c11
           (try simp only [hl4_1, hl4_2] at c11b0)
           clear c11
           obtain ⟨ji12, hji12⟩ : ∃ j_ : Int, (wrap64 (x19_2 + 1)) = j_ := ⟨_, rfl⟩
           replace H : (if 0 ≤ (ji12) then (if (ji12) < ((rd_L3 l0 (ji9)).length : Int) then (if 0 ≤ x19_2 then (if x19_2 < ((rd_L3 x4_2 x14_1).length : Int) then (spec_heFrom.l1 k2 l0 (x4_2.set (x14_1 : Int).toNat ((rd_L3 x4_2 x14_1).set (x19_2 : Int).toNat (wrap64 (Int.tdiv (wrap64 ((wrap64 ((wrap64 (x14_1 + x19_2)) + 2)) - (rd (rd_L3 l0 (ji9)) (ji12)))) 2)))) x14_1 (t101.length : Int) x14_1 (x4_1.length : Int) ji12) else (none)) else (none)) else (none)) else (none)) = some r := by first | (rw [hji12] at H; exact H) | (simp only [hji12] at H ⊢; exact H)
           have hji12w : (IntKind.i64.wrap (x19_2 + 1)) = ji12 := (i64_w _).trans hji12
           by_cases c13 : 0 ≤ (ji12)
           ·rw [if_pos c13] at H
            have c13b0 : decide (0 ≤ (ji12)) = true := decide_eq_true c13
            clear c13
            by_cases c14 : (ji12) < ((rd_L3 l0 (ji9)).length : Int)
            ·rw [if_pos c14] at H
             have c14b0 : decide ((ji12) < ((rd_L3 l0 (ji9)).length : Int)) = true := decide_eq_true c14
             (try simp only [hl4_1, hl4_2] at c14b0)
             clear c14
             by_cases c15 : 0 ≤ x19_2
             ·rw [if_pos c15] at H
              have c15b0 : decide (0 ≤ x19_2) = true := decide_eq_true c15
              clear c15
              by_cases c16 : x19_2 < ((rd_L3 x4_2 x14_1).length : Int)
              ·rw [if_pos c16] at H
               have c16b0 : decide (x19_2 < ((rd_L3 x4_2 x14_1).length : Int)) = true := decide_eq_true c16
               (try simp only [hl4_1, hl4_2] at c16b0)
               clear c16
               obtain ⟨y110, hy110⟩ : ∃ y_ : List Int, y_ = ((rd_L3 x4_2 x14_1).set (x19_2 : Int).toNat (wrap64 (Int.tdiv (wrap64 ((wrap64 ((wrap64 (x14_1 + x19_2)) + 2)) - (rd (rd_L3 l0 (ji9)) (ji12)))) 2))) := ⟨_, rfl⟩
               replace H : (spec_heFrom.l1 k2 l0 (x4_2.set (x14_1 : Int).toNat y110) x14_1 (t101.length : Int) x14_1 (x4_1.length : Int) ji12) = some r := by first | (rw [hy110]; with_reducible exact H) | (have H2_ := (Option.bind_some _ _).symm.trans H; rw [hy110]; with_reducible exact H2_) | (have H2_ := (Option.bind_some _ _).symm.trans H; with_reducible exact H2_) | with_reducible exact H | (rw [hy110]; exact H) | exact H
               have Ny110 := am_ hy110
               clear hy110
               obtain ⟨y112, hy112⟩ : ∃ y_ : List (List Int), y_ = (x4_2.set (x14_1 : Int).toNat y110) := ⟨_, rfl⟩
               replace H : (spec_heFrom.l1 k2 l0 y112 x14_1 (t101.length : Int) x14_1 (x4_1.length : Int) ji12) = some r := by first | (rw [hy112]; with_reducible exact H) | (have H2_ := (Option.bind_some _ _).symm.trans H; rw [hy112]; with_reducible exact H2_) | (have H2_ := (Option.bind_some _ _).symm.trans H; with_reducible exact H2_) | with_reducible exact H | (rw [hy112]; exact H) | exact H
               have Ny112 := am_ hy112
               clear hy112
               have H' := am_ H
               clear H
               try go_wp2
               have n0_ := am_ (Kd.S_drew HO_4.out)
               have n1_ := am_ (below_drew1 HB.out)
               clear HO_4
               clear HB
               have HO_4 := n0_
               have HB := n1_
               clear n0_ n1_
               have p107 : 0 ≤ (x14_1 : Int) := of_decide_eq_true tc3_
               have q107 : x14_1 < (x4_2.length : Int) := of_decide_eq_true tc3_
               obtain ⟨ad107, A107_0, c107_0, e107, hx107_0, hl107_0, hi107_0⟩ := at_L3 (Kd.S_reads' HO_4.out).2.2 x14_1 p107 q107
               cases e107
               obtain ⟨ce107, hce107, hMe107, hcc107⟩ := Kd.S_get HO_4.out [] x14_1 p107 (by first | exact q107 | exact of_decide_eq_true tc3_ | (have e_ := (Kd.S_reads' HO_4.out).1; omega))
               obtain ⟨ve107_0, rfl, ge107_0⟩ := hMe107
               have hv107_0 := hcc107 0 _ rfl
               rw [Nat.add_zero, show ((Kd.slice 3 (Kd.int .i64))).sz = 1 from rfl, Nat.mul_one] at hv107_0
               replace hv107_0 := Option.some.inj (hv107_0.symm.trans hx107_0)
               rw [hv107_0] at ge107_0
               have HL107_0 := am_ (show Kd.R (Kd.int .i64) 3 _ _ _ _ (rd_L3 x4_2 x14_1) from ge107_0)
               clear hv107_0 ge107_0
               have HX107_0 := am_ hx107_0
               clear hcc107 hce107
               have HR107_0 := am_ hi107_0
               have HC107_0 := am_ hl107_0
               clear hi107_0 hl107_0
               replace p107 := eq_true p107
               replace q107 := eq_true q107
               have p108 : 0 ≤ ((ji9) : Int) := of_decide_eq_true tc3_
               have q108 : (ji9) < (l0.length : Int) := of_decide_eq_true tc3_
               obtain ⟨ad108, A108_0, c108_0, e108, hx108_0, hl108_0, hi108_0⟩ := at_L3 HR0.out (ji9) p108 q108
               have hw108_0 := hx108_0
               cases e108
               replace hx108_0 := (HB.out.cell (World.block_lt_of_cell? w _ hx108_0)).trans hx108_0
               have HR108_0 := am_ hi108_0
               have HC108_0 := am_ hl108_0
               clear hi108_0 hl108_0
               replace p108 := eq_true p108
               replace q108 := eq_true q108
               have p109 : 0 ≤ ((ji12) : Int) := of_decide_eq_true tc3_
               have q109 : (ji12) < ((rd_L3 l0 (ji9)).length : Int) := of_decide_eq_true tc3_
               obtain ⟨ad109, e109, hx109_0⟩ := Kd.at_int HR108_0.out (ji12) p109 q109
               have hw109_0 := hx109_0
               cases e109
               replace hx109_0 := (HB.out.cell (World.block_lt_of_cell? w _ hx109_0)).trans hx109_0
               replace p109 := eq_true p109
               replace q109 := eq_true q109
               have p17 : 0 ≤ (x19_2 : Int) := of_decide_eq_true tc3_
               have q17 : (x19_2 : Int) < (((rd_L3 x4_2 x14_1).length : Int) : Int) := of_decide_eq_true tc3_
               obtain ⟨go17, co17, eo17, gb17, gl17, cl17, HG17⟩ := Kd.R_form HL107_0.out (by omega)
               (first | cases eo17 | (injection eo17 with ea_ en_ ec_; (first | subst ea_ | (injection ea_ with ea_; subst ea_)); subst ec_; clear en_))
               have GB17 := am_ gb17
               have GG17 := am_ HG17
               clear gb17 gl17 HG17
               obtain ⟨hx17_0, hf17_0⟩ := Kd.R_celln 0 HL107_0.out (x19_2 : Int) p17 q17
               replace p17 := eq_true p17
               replace q17 := eq_true q17
               have hq19 : (x14_1 : Int) < (x4_2.length : Int) := (by have h_ : (x14_1 : Int) < ((x4_2.length : Int) : Int) := of_decide_eq_true tc3_; first | exact h_ | (have e_ := (Kd.S_reads' HO_4.out).1; omega) | simpa only [List.length_set, List.length_set] using h_)
               obtain ⟨oki19, ce19, hcl19, hM19, hcc19, hok19, hbk19⟩ := Kd.S_borrow HO_4.out [] (x14_1 : Int) (of_decide_eq_true tc3_) hq19
               obtain ⟨ve19_0, rfl, ge19_0⟩ := hM19
               have hv19 := hcc19 0 _ rfl
               rw [Nat.add_zero, show ((Kd.slice 3 (Kd.int .i64))).sz = 1 from rfl, Nat.mul_one] at hv19
               replace hv19 := Option.some.inj (hv19.symm.trans HX107_0.out)
               subst hv19
               clear hcc19 hcl19
               replace ge19_0 := (show Kd.R (Kd.int .i64) 3 _ _ _ _ (rd_L3 x4_2 x14_1) from ge19_0)
               have HP19 := Kd.R_putg ge19_0 (x19_2 : Int) (wrap64 (Int.tdiv (wrap64 ((wrap64 ((wrap64 (x14_1 + x19_2)) + 2)) - (rd (rd_L3 l0 (ji9)) (ji12)))) 2))
               rw [← Ny110.out] at HP19
               have HS19 := hbk19 HP19.2 (fun k_ e_ => by injection e_ with e_; subst e_; exact ge19_0.1 _ rfl) (x' := y110) (Kd.M_row HP19.1)
               rw [← Ny112.out] at HS19
               have HQ19 := am_ HS19
               clear HP19 HS19 hbk19 hok19
               refine start_ (n := 22) (S := fun w' => w'.cell? (ad107.add (x14_1).toNat) = some (.slice (some ⟨go17, 0, none⟩) (rd_L3 x4_2 x14_1).length c107_0) ∧ w'.cell? (ad108.add ((ji9)).toNat) = some (.slice (some ad109) (rd_L3 l0 (ji9)).length c108_0) ∧ w'.cell? (ad109.add ((ji12)).toNat) = some (.int .i64 (rd (rd_L3 l0 (ji9)) (ji12)))) (ds := [21]) #[false, false, false, false, false, false, false, false, false, false, false, false, false, false, false, false, false, false, false, false, false, false] (by kernel_rfl) rfl rfl ⟨hx107_0, ((HB.out.cell (World.block_lt_of_cell? w _ hw108_0)).trans hw108_0), ((HB.out.cell (World.block_lt_of_cell? w _ hw109_0)).trans hw109_0)⟩ (fun hHeld => ?_); refine with_tabW spec_heFrom.tab9 spec_heFrom.bits9 (fun HT_ HW_ => ?_)
               generalize wr.drew = w18 at HO_4 HB GG17 HL107_0 HQ19 HR107_0 HR108_0 HX107_0 hf17_0 hx107_0 hx108_0 hx109_0 hx17_0 hHeld ⊢
               refine pure_ (i := 0) (N := some 22) (v := ?_) (a' := ?_) #[true, false, false, false, false, false, false, false, false, false, false, false, false, false, false, false, false, false, false, false, false, false] rfl rfl (any_of HT_.out (by kernel_rfl)) (fun _ _ _ h => h) (Or.inl ⟨by rfl, ?_⟩) ?_ ?_
               rotate_left
               ·intro w'
                go_simp
                with_reducible rfl
               rotate_left
               ·simp only [Act.put, List.setIfInBounds_toArray, List.set_cons_zero, List.set_cons_succ, i64_w, i32_w]
                rfl
               refine pure_ (i := 1) (N := some 23) (v := ?_) (a' := ?_) #[true, true, false, false, false, false, false, false, false, false, false, false, false, false, false, false, false, false, false, false, false, false] rfl rfl (any_of HT_.out (by kernel_rfl)) (fun _ _ _ h => h) (Or.inl ⟨by rfl, ?_⟩) ?_ ?_
               rotate_left
               ·intro w'
                go_simp
                with_reducible rfl
               rotate_left
               ·simp only [Act.put, List.setIfInBounds_toArray, List.set_cons_zero, List.set_cons_succ, i64_w, i32_w]
                rfl
               refine pure_ (i := 2) (N := some 24) (v := ?_) (a' := ?_) #[true, true, true, false, false, false, false, false, false, false, false, false, false, false, false, false, false, false, false, false, false, false] rfl rfl (any_of HT_.out (by kernel_rfl)) (fun _ _ _ h => h) (Or.inl ⟨by rfl, ?_⟩) ?_ ?_
               rotate_left
               ·intro w'
                go_simp
                with_reducible rfl
               rotate_left
               ·simp only [Act.put, List.setIfInBounds_toArray, List.set_cons_zero, List.set_cons_succ, i64_w, i32_w]
                rfl
               refine pure_ (i := 4) (N := some 26) (v := ?_) (a' := ?_) #[true, true, true, false, true, false, false, false, false, false, false, false, false, false, false, false, false, false, false, false, false, false] rfl rfl (any_of HT_.out (by kernel_rfl)) (fun _ _ _ h => h) (Or.inl ⟨by rfl, ?_⟩) ?_ ?_
               rotate_left
               ·intro w'
                go_simp
                with_reducible rfl
               rotate_left
               ·simp only [Act.put, List.setIfInBounds_toArray, List.set_cons_zero, List.set_cons_succ, i64_w, i32_w]
                rfl
               refine pure_ (i := 5) (N := some 27) (v := ?_) (a' := ?_) #[true, true, true, false, true, true, false, false, false, false, false, false, false, false, false, false, false, false, false, false, false, false] rfl rfl (any_of HT_.out (by kernel_rfl)) (fun _ _ _ h => h) (Or.inl ⟨by rfl, ?_⟩) ?_ ?_
               rotate_left
               ·intro w'
                go_simp
                with_reducible rfl
               rotate_left
               ·simp only [Act.put, List.setIfInBounds_toArray, List.set_cons_zero, List.set_cons_succ, i64_w, i32_w]
                rfl
               refine pure_ (i := 6) (N := some 28) (v := ?_) (a' := ?_) #[true, true, true, false, true, true, true, false, false, false, false, false, false, false, false, false, false, false, false, false, false, false] rfl rfl (any_of HT_.out (by kernel_rfl)) (fun _ _ _ h => h) (Or.inl ⟨by rfl, ?_⟩) ?_ ?_
               rotate_left
               ·intro w'
                go_simp
                with_reducible rfl
               rotate_left
               ·simp only [Act.put, List.setIfInBounds_toArray, List.set_cons_zero, List.set_cons_succ, i64_w, i32_w]
                rfl
               refine pure_ (i := 7) (N := some 29) (v := ?_) (a' := ?_) #[true, true, true, false, true, true, true, true, false, false, false, false, false, false, false, false, false, false, false, false, false, false] rfl rfl (any_of HT_.out (by kernel_rfl)) (fun _ _ _ h => h) (Or.inl ⟨by rfl, ?_⟩) ?_ ?_
               rotate_left
               ·intro w'
                go_simp
                with_reducible rfl
               rotate_left
               ·simp only [Act.put, List.setIfInBounds_toArray, List.set_cons_zero, List.set_cons_succ, i64_w, i32_w]
                rfl
               refine pure_ (i := 8) (N := some 30) (v := ?_) (a' := ?_) #[true, true, true, false, true, true, true, true, true, false, false, false, false, false, false, false, false, false, false, false, false, false] rfl rfl (any_of HT_.out (by kernel_rfl)) (fun _ _ _ h => h) (Or.inl ⟨by rfl, ?_⟩) ?_ ?_
               rotate_left
               ·intro w'
                go_simp
                with_reducible rfl
               rotate_left
               ·simp only [Act.put, List.setIfInBounds_toArray, List.set_cons_zero, List.set_cons_succ, i64_w, i32_w]
                rfl
               refine pure_ (i := 9) (N := some 31) (v := ?_) (a' := ?_) #[true, true, true, false, true, true, true, true, true, true, false, false, false, false, false, false, false, false, false, false, false, false] rfl rfl (any_of HT_.out (by kernel_rfl)) (fun _ _ _ h => h) (Or.inl ⟨by rfl, ?_⟩) ?_ ?_
               rotate_left
               ·intro w'
                go_simp
                with_reducible rfl
               rotate_left
               ·simp only [Act.put, List.setIfInBounds_toArray, List.set_cons_zero, List.set_cons_succ, i64_w, i32_w]
                rfl
               refine pure_ (i := 10) (N := some 32) (v := ?_) (a' := ?_) #[true, true, true, false, true, true, true, true, true, true, true, false, false, false, false, false, false, false, false, false, false, false] rfl rfl (any_of HT_.out (by kernel_rfl)) (fun _ _ _ h => h) (Or.inl ⟨by rfl, ?_⟩) ?_ ?_
               rotate_left
               ·intro w'
                go_simp
                with_reducible rfl
               rotate_left
               ·simp only [Act.put, List.setIfInBounds_toArray, List.set_cons_zero, List.set_cons_succ, i64_w, i32_w]
                rfl
               refine pure_ (i := 11) (N := some 33) (v := ?_) (a' := ?_) #[true, true, true, false, true, true, true, true, true, true, true, true, false, false, false, false, false, false, false, false, false, false] rfl rfl (any_of HT_.out (by kernel_rfl)) (fun _ _ _ h => h) (Or.inl ⟨by rfl, ?_⟩) ?_ ?_
               rotate_left
               ·intro w'
                go_simp
                with_reducible rfl
               rotate_left
               ·simp only [Act.put, List.setIfInBounds_toArray, List.set_cons_zero, List.set_cons_succ, i64_w, i32_w]
                rfl
               refine pure_ (i := 12) (N := some 34) (v := ?_) (a' := ?_) #[true, true, true, false, true, true, true, true, true, true, true, true, true, false, false, false, false, false, false, false, false, false] rfl rfl (any_of HT_.out (by kernel_rfl)) (fun _ _ _ h => h) (Or.inl ⟨by rfl, ?_⟩) ?_ ?_
               rotate_left
               ·intro w'
                go_simp
                with_reducible rfl
               rotate_left
               ·simp only [Act.put, List.setIfInBounds_toArray, List.set_cons_zero, List.set_cons_succ, i64_w, i32_w]
                rfl
               refine pure_ (i := 14) (N := some 36) (v := ?_) (a' := ?_) #[true, true, true, false, true, true, true, true, true, true, true, true, true, false, true, false, false, false, false, false, false, false] rfl rfl (any_of HT_.out (by kernel_rfl)) (fun _ _ _ h => h) (Or.inl ⟨by rfl, ?_⟩) ?_ ?_
               rotate_left
               ·intro w'
                go_simp
                with_reducible rfl
               rotate_left
               ·simp only [Act.put, List.setIfInBounds_toArray, List.set_cons_zero, List.set_cons_succ, i64_w, i32_w]
                rfl
               refine pure_ (i := 15) (N := some 37) (v := ?_) (a' := ?_) #[true, true, true, false, true, true, true, true, true, true, true, true, true, false, true, true, false, false, false, false, false, false] rfl rfl (any_of HT_.out (by kernel_rfl)) (fun _ _ _ h => h) (Or.inl ⟨by rfl, ?_⟩) ?_ ?_
               rotate_left
               ·intro w'
                go_simp
                with_reducible rfl
               rotate_left
               ·simp only [Act.put, List.setIfInBounds_toArray, List.set_cons_zero, List.set_cons_succ, i64_w, i32_w]
                rfl
               refine take_ (i := 3) (N := some 25) (v := ?_) (a' := ?_) #[true, true, true, true, true, true, true, true, true, true, true, true, true, false, true, true, false, false, false, false, false, false] rfl rfl (take_ofW HT_.out HW_.out (by kernel_rfl)) (fun _ _ _ h => h) (Or.inl ⟨by rfl, ?_⟩) hHeld ?_ ?_
               rotate_left
               ·rintro w' ⟨s0, s1, s2⟩
                go_simp
                with_reducible rfl
               rotate_left
               ·simp only [Act.put, List.setIfInBounds_toArray, List.set_cons_zero, List.set_cons_succ, i64_w, i32_w]
                rfl
               refine take_ (i := 13) (N := some 35) (v := ?_) (a' := ?_) #[true, true, true, true, true, true, true, true, true, true, true, true, true, true, true, true, false, false, false, false, false, false] rfl rfl (take_ofW HT_.out HW_.out (by kernel_rfl)) (fun _ _ _ h => h) (Or.inl ⟨by rfl, ?_⟩) hHeld ?_ ?_
               rotate_left
               ·rintro w' ⟨s0, s1, s2⟩
                go_simp
                with_reducible rfl
               rotate_left
               ·simp only [Act.put, List.setIfInBounds_toArray, List.set_cons_zero, List.set_cons_succ, i64_w, i32_w]
                rfl
               refine pure_ (i := 16) (N := some 38) (v := ?_) (a' := ?_) #[true, true, true, true, true, true, true, true, true, true, true, true, true, true, true, true, true, false, false, false, false, false] rfl rfl (any_of HT_.out (by kernel_rfl)) (fun _ _ _ h => h) (Or.inl ⟨by rfl, ?_⟩) ?_ ?_
               rotate_left
               ·intro w'
                go_simp
                with_reducible rfl
               rotate_left
               ·simp only [Act.put, List.setIfInBounds_toArray, List.set_cons_zero, List.set_cons_succ, i64_w, i32_w]
                rfl
               refine take_ (i := 17) (N := some 39) (v := ?_) (a' := ?_) #[true, true, true, true, true, true, true, true, true, true, true, true, true, true, true, true, true, true, false, false, false, false] rfl rfl (take_ofW HT_.out HW_.out (by kernel_rfl)) (fun _ _ _ h => h) (Or.inl ⟨by rfl, ?_⟩) hHeld ?_ ?_
               rotate_left
               ·rintro w' ⟨s0, s1, s2⟩
                go_simp
                with_reducible rfl
               rotate_left
               ·simp only [Act.put, List.setIfInBounds_toArray, List.set_cons_zero, List.set_cons_succ, i64_w, i32_w]
                rfl
               refine pure_ (i := 18) (N := some 40) (v := ?_) (a' := ?_) #[true, true, true, true, true, true, true, true, true, true, true, true, true, true, true, true, true, true, true, false, false, false] rfl rfl (any_of HT_.out (by kernel_rfl)) (fun _ _ _ h => h) (Or.inl ⟨by rfl, ?_⟩) ?_ ?_
               rotate_left
               ·intro w'
                go_simp
                with_reducible rfl
               rotate_left
               ·simp only [Act.put, List.setIfInBounds_toArray, List.set_cons_zero, List.set_cons_succ, i64_w, i32_w]
                rfl
               refine pure_ (i := 19) (N := some 41) (v := ?_) (a' := ?_) #[true, true, true, true, true, true, true, true, true, true, true, true, true, true, true, true, true, true, true, true, false, false] rfl rfl (any_of HT_.out (by kernel_rfl)) (fun _ _ _ h => h) (Or.inl ⟨by rfl, ?_⟩) ?_ ?_
               rotate_left
               ·intro w'
                go_simp
                with_reducible rfl
               rotate_left
               ·simp only [Act.put, List.setIfInBounds_toArray, List.set_cons_zero, List.set_cons_succ, i64_w, i32_w]
                rfl
               refine pure_ (i := 20) (N := some 42) (v := ?_) (a' := ?_) #[true, true, true, true, true, true, true, true, true, true, true, true, true, true, true, true, true, true, true, true, true, false] rfl rfl (any_of HT_.out (by kernel_rfl)) (fun _ _ _ h => h) (Or.inl ⟨by rfl, ?_⟩) ?_ ?_
               rotate_left
               ·intro w'
                go_simp
                with_reducible rfl
               rotate_left
               ·simp only [Act.put, List.setIfInBounds_toArray, List.set_cons_zero, List.set_cons_succ, i64_w, i32_w]
                rfl
               refine last_ (i := 21) (N := none) #[true, true, true, true, true, true, true, true, true, true, true, true, true, true, true, true, true, true, true, true, true, true] rfl rfl (one_of HT_.out (by kernel_rfl)) (by decide) (fun K hK => ?_)
               refine skip_ (w1 := ?_) (by rfl) rfl ?_ ?_
               rotate_left
               ·go_simp
                rfl
               refine hK.out _ _ ?_
               clear hK K
               refine done_ (done_of HT_.out (by kernel_rfl)) ?_
               try go_wp2
               (try simp only [← hl4_2])
               go_roundg k2
               case measure => have := HK1.out; have := HK2.out; omega
               case rel => exact ⟨(y112), (ji12), (by first | rfl | (simp; done) | (simp only [← hji12] <;> (first | rfl | simp)) | (simp [*]; done)), H', ⟨by have := HK1.out; have := HK2.out; omega⟩, ⟨by (try simp only [hl4_1]); (try simp only [hl4_2]); (with_reducible repeat (first | apply Kd.S_alloc | apply Kd.S_drewN | apply Kd.S_drew)); exact HQ19.out⟩, ⟨by repeat (first | (with_reducible first | exact HB.out | apply below_alloc | apply pw_below_drewN | apply below_drew1 | refine below_set ?_ GB17.out) | exact HB.out)⟩⟩
              ·rw [if_neg c16] at H
               exact absurd H (by simp)
             ·rw [if_neg c15] at H
              exact absurd H (by simp)
            ·rw [if_neg c14] at H
             exact absurd H (by simp)
           ·rw [if_neg c13] at H
            exact absurd H (by simp)
          ·rw [if_neg c11] at H
           exact absurd H (by simp)
         ·rw [if_neg c10] at H
          exact absurd H (by simp)
        ·rw [if_neg c8] at H
         exact absurd H (by simp)
       ·rw [if_neg c7] at H
        exact absurd H (by simp)
      ·rw [if_neg c6] at H
       have c6b0 : decide (x19_2 < (x4_1.length : Int)) = false := decide_eq_false c6
       (try simp only [hl4_1, hl4_2] at c6b0)
       clear c6
       have H' := am_ H
       clear H
       go_wp2
       (try simp only [← hl4_1, ← hl4_2])
       go_roundg k2
       case measure => have := HK1.out; have := HK2.out; omega
       case rel => exact ⟨(x4_2), (wrap64 (x14_1 + 1)), tc8_, H', ⟨by have := HK1.out; have := HK2.out; omega⟩, ⟨by (try simp only [hl4_1]); (try simp only [hl4_2]); (with_reducible repeat (first | apply Kd.S_alloc | apply Kd.S_drewN | apply Kd.S_drew)); exact HO_4.out⟩, ⟨by repeat (first | (with_reducible first | exact HB.out | apply below_alloc | apply pw_below_drewN | apply below_drew1) | exact HB.out)⟩⟩
   ·rw [if_neg c5] at H
    have c5b0 : decide (x14_1 < (t101.length : Int)) = false := decide_eq_false c5
    (try simp only [hl4_1] at c5b0)
    clear c5
    replace H := Option.bind_eq_some_iff.mp H
    obtain ⟨t104, A210, H⟩ := H
    replace H : (some t104) = some r := H
    have A21 := am_ A210
    clear A210
    obtain rfl := Option.some.inj H
    go_wp2_with (first | ((with_reducible refine gate_callee (f := 165) rfl ?_); refine goesL_ (some 46) rfl rfl Try.func165 (by kernel_rfl) rfl #[.slice Ao4 x4_1.length co4] rfl tc0_ ?_; (with_reducible refine (spec_sgFrom.calls k1 _ _ x4_1 t104 _ ?side1 ?side2 A21.out).mono ?_); (case side1 => repeat (first | exact (Kd.S_reads' HO_4.out).2.2 | (with_reducible refine Kd.C_alloc ?_ _) | (with_reducible refine Kd.C_drewN ?_ _) | (with_reducible refine Kd.C_drew ?_))); (case side2 => exact (Kd.S_reads' HO_4.out).2.1); rintro e w22 ⟨v105, rfl, ho0, hb⟩; refine ⟨_, rfl, ?_⟩; have n0_ := am_ (Kd.S_elder' tc68_ (Kd.S_base ho0) hb); have n1_ := am_ (Kd.S_lower (Kd.S_new' ho0 (Kd.S_lt tc68_)) (below_size tc1_)); have n2_ := am_ (below_step tc1_ hb); clear HO_4 HB; have HO_4 := n0_; have HO106 := n1_; have HB := n2_; clear n0_ n1_ n2_; (try clear hb ho0)))
    go_ret
    exact ⟨_, by first | rfl | (simp [errW_none, errW_some] <;> rfl) | (simp [*, errW_none, errW_some] <;> rfl), by (with_reducible repeat (first | apply Kd.S_alloc | apply Kd.S_drewN | apply Kd.S_drew)); exact Kd.S_mono HO106.out (fun _ hk => trivial), by repeat (first | (with_reducible first | exact HB.out | apply below_alloc | apply pw_below_drewN | apply below_drew1) | exact HB.out)⟩

/-! ### spec_l1All: function 163 -/
def spec_l1All.l0 : Nat → Int → Int → List Int → Int → Int → Option (Bool)
 | 0, _, _, _, _, _ => none
 | k + 1, x1, x2, x9, x10, x11 => if x11 < x10 then (if 0 ≤ x11 then (if x11 < (x9.length : Int) then ((spec_l1In.f (rd x9 x11) x1 x2).bind fun t102 => (if t102 = true then (spec_l1All.l0 k x1 x2 x9 x10 (wrap64 (x11 + 1))) else (some false))) else (none)) else (none)) else (some true)
def spec_l1All.f (k : Nat) (l0 : List Int) (a1 : Int) (a2 : Int) : Option (Bool) := spec_l1All.l0 k a1 a2 l0 (l0.length : Int) 0
set_option maxHeartbeats 8000000 in
set_option maxRecDepth 100000 in
theorem spec_l1All.calls (k : Nat) (A0 : Option Addr) (c0 : Nat) (l0 : List Int) (a1 : Int) (a2 : Int) (r : Bool) (w : World) (hr0 : Kd.C (Kd.int .i64) w A0 l0.length l0) (hc0 : l0.length ≤ c0) (h : spec_l1All.f k l0 a1 a2 = some r) :
  Calls Try.prog 163 #[.slice A0 l0.length c0, .int .i64 a1, .int .i64 a2] w fun e w' => e = .returned (.bool r) ∧ Drawn0 w w' := by
 have HR0 := am_ hr0
 have HC0 := am_ hc0
 clear hr0 hc0
 have H : (spec_l1All.l0 k a1 a2 l0 (l0.length : Int) 0) = some r := h
 clear h
 have H' := am_ H
 clear H
 go_enter Try.func163, Try.ntmps163
 go_wp2
 go_loopg [11] k (fun kq v11 w' => ∃ (x11_1 : Int), v11 = .int .i64 x11_1 ∧ Aside0 (spec_l1All.l0 kq a1 a2 l0 (l0.length : Int) x11_1 = some r) ∧ Aside0 (kq ≤ k) ∧ Drawn0 w w')
 case atStart => exact ⟨(0), tc8_, H', ⟨Nat.le_refl _⟩, by repeat (first | exact Drawn0.refl _ | apply Drawn0.step)⟩
 case round =>
  clear H'
  try clear c1
  try clear p2
  obtain ⟨x11_1, rfl, HA, HK1, ⟨m1, rfl⟩⟩ := hrel
  cases gk with
  | zero => exact absurd HA.out (by simp [spec_l1All.l0])
  | succ k1 =>
   have H := HA.out
   clear HA
   simp only [spec_l1All.l0] at H
   by_cases c4 : x11_1 < (l0.length : Int)
   ·rw [if_pos c4] at H
    have c4b0 : decide (x11_1 < (l0.length : Int)) = true := decide_eq_true c4
    clear c4
    by_cases c5 : 0 ≤ x11_1
    ·rw [if_pos c5] at H
     have c5b0 : decide (0 ≤ x11_1) = true := decide_eq_true c5
     clear c5
     by_cases c6 : x11_1 < (l0.length : Int)
     ·rw [if_pos c6] at H
      have c6b0 : decide (x11_1 < (l0.length : Int)) = true := decide_eq_true c6
      clear c6
      replace H := Option.bind_eq_some_iff.mp H
      obtain ⟨t102, A70, H⟩ := H
      replace H : (if t102 = true then (spec_l1All.l0 k1 a1 a2 l0 (l0.length : Int) (wrap64 (x11_1 + 1))) else (some false)) = some r := H
      have A7 := am_ A70
      clear A70
      by_cases c8 : t102 = true
      ·subst c8
       have H1 : (spec_l1All.l0 k1 a1 a2 l0 (l0.length : Int) (wrap64 (x11_1 + 1))) = some r := by rw [if_pos rfl] at H; exact H
       clear H
       have H := H1
       clear H1
       have H' := am_ H
       clear H
       have p101 : 0 ≤ (x11_1 : Int) := of_decide_eq_true tc3_
       have q101 : x11_1 < (l0.length : Int) := of_decide_eq_true tc3_
       obtain ⟨ad101, e101, hx101_0⟩ := Kd.at_int HR0.out x11_1 p101 q101
       cases e101
       replace p101 := eq_true p101
       replace q101 := eq_true q101
       go_wp2_with (first | ((with_reducible refine gate_callee (f := 112) rfl ?_); refine goesL_ (some 18) rfl rfl Try.func112 (by kernel_rfl) rfl #[.int .i64 (rd l0 x11_1), .int .i64 a1, .int .i64 a2] rfl tc0_ ?_; (with_reducible refine (spec_l1In.calls (rd l0 x11_1) a1 a2 true _ A7.out).mono ?_); rintro e w' ⟨rfl, ⟨nd, rfl⟩⟩; refine ⟨_, rfl, ?_⟩))
       go_roundg k1
       case measure => have := HK1.out; omega
       case rel => exact ⟨(wrap64 (x11_1 + 1)), tc8_, H', ⟨by have := HK1.out; omega⟩, by repeat (first | exact Drawn0.refl _ | apply Drawn0.step)⟩
      ·replace c8 := Bool.eq_false_iff.mpr c8
       subst c8
       have H1 : (some false) = some r := by rw [if_neg (show ¬ (false = true) by decide)] at H; exact H
       clear H
       have H := H1
       clear H1
       obtain rfl := Option.some.inj H
       have p101 : 0 ≤ (x11_1 : Int) := of_decide_eq_true tc3_
       have q101 : x11_1 < (l0.length : Int) := of_decide_eq_true tc3_
       obtain ⟨ad101, e101, hx101_0⟩ := Kd.at_int HR0.out x11_1 p101 q101
       cases e101
       replace p101 := eq_true p101
       replace q101 := eq_true q101
       go_wp2_with (first | ((with_reducible refine gate_callee (f := 112) rfl ?_); refine goesL_ (some 18) rfl rfl Try.func112 (by kernel_rfl) rfl #[.int .i64 (rd l0 x11_1), .int .i64 a1, .int .i64 a2] rfl tc0_ ?_; (with_reducible refine (spec_l1In.calls (rd l0 x11_1) a1 a2 false _ A7.out).mono ?_); rintro e w' ⟨rfl, ⟨nd, rfl⟩⟩; refine ⟨_, rfl, ?_⟩))
       go_ret
       exact ⟨by first | rfl | (simp; done) | (simp [*]; done), by repeat (first | exact Drawn0.refl _ | apply Drawn0.step)⟩
     ·rw [if_neg c6] at H
      exact absurd H (by simp)
    ·rw [if_neg c5] at H
     exact absurd H (by simp)
   ·rw [if_neg c4] at H
    have c4b0 : decide (x11_1 < (l0.length : Int)) = false := decide_eq_false c4
    clear c4
    obtain rfl := Option.some.inj H
    go_wp2
    go_ret
    exact ⟨by first | rfl | (simp; done) | (simp [*]; done), by repeat (first | exact Drawn0.refl _ | apply Drawn0.step)⟩

/-! ### spec_l1Same: function 193 -/
def spec_l1Same.l0 : Nat → List Int → List Int → Int → Int → Option (Bool)
 | 0, _, _, _, _ => none
 | k + 1, x0, x1, x12, x13 => if x13 < x12 then (if 0 ≤ x13 then (if x13 < (x0.length : Int) then (if x13 < (x1.length : Int) then (if (rd x0 x13) = (rd x1 x13) then (spec_l1Same.l0 k x0 x1 x12 (wrap64 (x13 + 1))) else (some false)) else (none)) else (none)) else (none)) else (some true)
def spec_l1Same.f (k : Nat) (l0 : List Int) (l1 : List Int) : Option (Bool) := if (l0.length : Int) = (l1.length : Int) then (spec_l1Same.l0 k l0 l1 (l0.length : Int) 0) else (some false)
set_option maxHeartbeats 8000000 in
set_option maxRecDepth 100000 in
theorem spec_l1Same.calls (k : Nat) (A0 : Option Addr) (c0 : Nat) (l0 : List Int) (A1 : Option Addr) (c1 : Nat) (l1 : List Int) (r : Bool) (w : World) (hr0 : Kd.C (Kd.int .i64) w A0 l0.length l0) (hc0 : l0.length ≤ c0) (hr1 : Kd.C (Kd.int .i64) w A1 l1.length l1) (hc1 : l1.length ≤ c1) (h : spec_l1Same.f k l0 l1 = some r) :
  Calls Try.prog 193 #[.slice A0 l0.length c0, .slice A1 l1.length c1] w fun e w' => e = .returned (.bool r) ∧ Drawn0 w w' := by
 have HR0 := am_ hr0
 have HC0 := am_ hc0
 clear hr0 hc0
 have HR1 := am_ hr1
 have HC1 := am_ hc1
 clear hr1 hc1
 have H : (if (l0.length : Int) = (l1.length : Int) then (spec_l1Same.l0 k l0 l1 (l0.length : Int) 0) else (some false)) = some r := h
 clear h
 by_cases c3 : (l0.length : Int) = (l1.length : Int)
 ·rw [if_pos c3] at H
  have c3b0 : ((l0.length : Int) == (l1.length : Int)) = true := beq_iff_eq.mpr c3
  have c3b1 : ((l0.length : Int) != (l1.length : Int)) = false := bne_eq_false_iff_eq.mpr c3
  have c3b2 : (l0.length == l1.length) = true := by first | simpa using c3 | (simp at c3 ⊢; omega)
  clear c3
  have H' := am_ H
  clear H
  go_enter Try.func193, Try.ntmps193
  go_wp2
  repeat (go_quiet (fail); try go_wp2)
  go_loopg [13] k (fun kq v13 w' => ∃ (x13_1 : Int), v13 = .int .i64 x13_1 ∧ Aside0 (spec_l1Same.l0 kq l0 l1 (l0.length : Int) x13_1 = some r) ∧ Aside0 (kq ≤ k) ∧ Drawn0 w w')
  case atStart => exact ⟨(0), tc8_, H', ⟨Nat.le_refl _⟩, by repeat (first | exact Drawn0.refl _ | apply Drawn0.step)⟩
  case round =>
   clear H'
   try clear c1
   try clear p2
   try clear c3
   try clear c3b0
   try clear c3b1
   try clear c3b2
   obtain ⟨x13_1, rfl, HA, HK1, ⟨m1, rfl⟩⟩ := hrel
   cases gk with
   | zero => exact absurd HA.out (by simp [spec_l1Same.l0])
   | succ k1 =>
    have H := HA.out
    clear HA
    simp only [spec_l1Same.l0] at H
    by_cases c4 : x13_1 < (l0.length : Int)
    ·rw [if_pos c4] at H
     have c4b0 : decide (x13_1 < (l0.length : Int)) = true := decide_eq_true c4
     clear c4
     by_cases c5 : 0 ≤ x13_1
     ·rw [if_pos c5] at H
      have c5b0 : decide (0 ≤ x13_1) = true := decide_eq_true c5
      clear c5
      by_cases c6 : x13_1 < (l0.length : Int)
      ·rw [if_pos c6] at H
       have c6b0 : decide (x13_1 < (l0.length : Int)) = true := decide_eq_true c6
       clear c6
       by_cases c7 : x13_1 < (l1.length : Int)
       ·rw [if_pos c7] at H
        have c7b0 : decide (x13_1 < (l1.length : Int)) = true := decide_eq_true c7
        clear c7
        by_cases c8 : (rd l0 x13_1) = (rd l1 x13_1)
        ·rw [if_pos c8] at H
         have c8b0 : ((rd l0 x13_1) == (rd l1 x13_1)) = true := beq_iff_eq.mpr c8
         have c8b1 : ((rd l0 x13_1) != (rd l1 x13_1)) = false := bne_eq_false_iff_eq.mpr c8
         clear c8
         have H' := am_ H
         clear H
         have p101 : 0 ≤ (x13_1 : Int) := of_decide_eq_true tc3_
         have q101 : x13_1 < (l0.length : Int) := of_decide_eq_true tc3_
         obtain ⟨ad101, e101, hx101_0⟩ := Kd.at_int HR0.out x13_1 p101 q101
         cases e101
         replace p101 := eq_true p101
         replace q101 := eq_true q101
         have p102 : 0 ≤ (x13_1 : Int) := of_decide_eq_true tc3_
         have q102 : x13_1 < (l1.length : Int) := of_decide_eq_true tc3_
         obtain ⟨ad102, e102, hx102_0⟩ := Kd.at_int HR1.out x13_1 p102 q102
         cases e102
         replace p102 := eq_true p102
         replace q102 := eq_true q102
         go_wp2
         repeat (go_quiet (fail); try go_wp2)
         go_roundg k1
         case measure => have := HK1.out; omega
         case rel => exact ⟨(wrap64 (x13_1 + 1)), tc8_, H', ⟨by have := HK1.out; omega⟩, by repeat (first | exact Drawn0.refl _ | apply Drawn0.step)⟩
        ·rw [if_neg c8] at H
         have c8b0 : ((rd l0 x13_1) == (rd l1 x13_1)) = false := beq_eq_false_iff_ne.mpr c8
         have c8b1 : ((rd l0 x13_1) != (rd l1 x13_1)) = true := bne_iff_ne.mpr c8
         obtain rfl := Option.some.inj H
         have p101 : 0 ≤ (x13_1 : Int) := of_decide_eq_true tc3_
         have q101 : x13_1 < (l0.length : Int) := of_decide_eq_true tc3_
         obtain ⟨ad101, e101, hx101_0⟩ := Kd.at_int HR0.out x13_1 p101 q101
         cases e101
         replace p101 := eq_true p101
         replace q101 := eq_true q101
         have p102 : 0 ≤ (x13_1 : Int) := of_decide_eq_true tc3_
         have q102 : x13_1 < (l1.length : Int) := of_decide_eq_true tc3_
         obtain ⟨ad102, e102, hx102_0⟩ := Kd.at_int HR1.out x13_1 p102 q102
         cases e102
         replace p102 := eq_true p102
         replace q102 := eq_true q102
         go_wp2
         repeat (go_quiet (fail); try go_wp2)
         go_ret
         exact ⟨by first | rfl | (simp; done) | (simp [*]; done), by repeat (first | exact Drawn0.refl _ | apply Drawn0.step)⟩
       ·rw [if_neg c7] at H
        exact absurd H (by simp)
      ·rw [if_neg c6] at H
       exact absurd H (by simp)
     ·rw [if_neg c5] at H
      exact absurd H (by simp)
    ·rw [if_neg c4] at H
     have c4b0 : decide (x13_1 < (l0.length : Int)) = false := decide_eq_false c4
     clear c4
     obtain rfl := Option.some.inj H
     go_wp2
     repeat (go_quiet (fail); try go_wp2)
     go_ret
     exact ⟨by first | rfl | (simp; done) | (simp [*]; done), by repeat (first | exact Drawn0.refl _ | apply Drawn0.step)⟩
 ·rw [if_neg c3] at H
  have c3b0 : ((l0.length : Int) == (l1.length : Int)) = false := beq_eq_false_iff_ne.mpr c3
  have c3b1 : ((l0.length : Int) != (l1.length : Int)) = true := bne_iff_ne.mpr c3
  have c3b2 : (l0.length == l1.length) = false := by first | simpa using c3 | (simp at c3 ⊢; omega)
  obtain rfl := Option.some.inj H
  go_enter Try.func193, Try.ntmps193
  go_wp2
  repeat (go_quiet (fail); try go_wp2)
  go_ret
  exact ⟨by first | rfl | (simp; done) | (simp [*]; done), by repeat (first | exact Drawn0.refl _ | apply Drawn0.step)⟩

/-! ### spec_heSame: function 164 -/
def spec_heSame.l0 : Nat → List (List Int) → List (List Int) → Int → Int → Option (Bool)
 | 0, _, _, _, _ => none
 | k + 1, x1, x12, x13, x14 => if x14 < x13 then (if 0 ≤ x14 then (if x14 < (x12.length : Int) then (if x14 < (x1.length : Int) then ((spec_l1Same.f k (rd_L3 x12 x14) (rd_L3 x1 x14)).bind fun t103 => (if t103 = true then (spec_heSame.l0 k x1 x12 x13 (wrap64 (x14 + 1))) else (some false))) else (none)) else (none)) else (none)) else (some true)
def spec_heSame.f (k : Nat) (l0 : List (List Int)) (l1 : List (List Int)) : Option (Bool) := if (l0.length : Int) = (l1.length : Int) then (spec_heSame.l0 k l1 l0 (l0.length : Int) 0) else (some false)
set_option maxHeartbeats 8000000 in
set_option maxRecDepth 100000 in
theorem spec_heSame.calls (k : Nat) (A0 : Option Addr) (c0 : Nat) (l0 : List (List Int)) (A1 : Option Addr) (c1 : Nat) (l1 : List (List Int)) (r : Bool) (w : World) (hr0 : Kd.C (Kd.slice 3 (Kd.int .i64)) w A0 l0.length l0) (hc0 : l0.length ≤ c0) (hr1 : Kd.C (Kd.slice 3 (Kd.int .i64)) w A1 l1.length l1) (hc1 : l1.length ≤ c1) (h : spec_heSame.f k l0 l1 = some r) :
  Calls Try.prog 164 #[.slice A0 l0.length c0, .slice A1 l1.length c1] w fun e w' => e = .returned (.bool r) ∧ Drawn0 w w' := by
 have HR0 := am_ hr0
 have HC0 := am_ hc0
 clear hr0 hc0
 have HR1 := am_ hr1
 have HC1 := am_ hc1
 clear hr1 hc1
 have H : (if (l0.length : Int) = (l1.length : Int) then (spec_heSame.l0 k l1 l0 (l0.length : Int) 0) else (some false)) = some r := h
 clear h
 by_cases c3 : (l0.length : Int) = (l1.length : Int)
 ·rw [if_pos c3] at H
  have c3b0 : ((l0.length : Int) == (l1.length : Int)) = true := beq_iff_eq.mpr c3
  have c3b1 : ((l0.length : Int) != (l1.length : Int)) = false := bne_eq_false_iff_eq.mpr c3
  have c3b2 : (l0.length == l1.length) = true := by first | simpa using c3 | (simp at c3 ⊢; omega)
  clear c3
  have H' := am_ H
  clear H
  go_enter Try.func164, Try.ntmps164
  go_wp2
  go_loopg [14] k (fun kq v14 w' => ∃ (x14_1 : Int), v14 = .int .i64 x14_1 ∧ Aside0 (spec_heSame.l0 kq l1 l0 (l0.length : Int) x14_1 = some r) ∧ Aside0 (kq ≤ k) ∧ Drawn0 w w')
  case atStart => exact ⟨(0), tc8_, H', ⟨Nat.le_refl _⟩, by repeat (first | exact Drawn0.refl _ | apply Drawn0.step)⟩
  case round =>
   clear H'
   try clear c1
   try clear p2
   try clear c3
   try clear c3b0
   try clear c3b1
   try clear c3b2
   obtain ⟨x14_1, rfl, HA, HK1, ⟨m1, rfl⟩⟩ := hrel
   cases gk with
   | zero => exact absurd HA.out (by simp [spec_heSame.l0])
   | succ k1 =>
    have H := HA.out
    clear HA
    simp only [spec_heSame.l0] at H
    by_cases c4 : x14_1 < (l0.length : Int)
    ·rw [if_pos c4] at H
     have c4b0 : decide (x14_1 < (l0.length : Int)) = true := decide_eq_true c4
     clear c4
     by_cases c5 : 0 ≤ x14_1
     ·rw [if_pos c5] at H
      have c5b0 : decide (0 ≤ x14_1) = true := decide_eq_true c5
      clear c5
      by_cases c6 : x14_1 < (l0.length : Int)
      ·rw [if_pos c6] at H
       have c6b0 : decide (x14_1 < (l0.length : Int)) = true := decide_eq_true c6
       clear c6
       by_cases c7 : x14_1 < (l1.length : Int)
       ·rw [if_pos c7] at H
        have c7b0 : decide (x14_1 < (l1.length : Int)) = true := decide_eq_true c7
        clear c7
        replace H := Option.bind_eq_some_iff.mp H
        obtain ⟨t103, A80, H⟩ := H
        replace H : (if t103 = true then (spec_heSame.l0 k1 l1 l0 (l0.length : Int) (wrap64 (x14_1 + 1))) else (some false)) = some r := H
        have A8 := am_ A80
        clear A80
        by_cases c9 : t103 = true
        ·subst c9
         have H1 : (spec_heSame.l0 k1 l1 l0 (l0.length : Int) (wrap64 (x14_1 + 1))) = some r := by rw [if_pos rfl] at H; exact H
         clear H
         have H := H1
         clear H1
         have H' := am_ H
         clear H
         have p101 : 0 ≤ (x14_1 : Int) := of_decide_eq_true tc3_
         have q101 : x14_1 < (l0.length : Int) := of_decide_eq_true tc3_
         obtain ⟨ad101, A101_0, c101_0, e101, hx101_0, hl101_0, hi101_0⟩ := at_L3 HR0.out x14_1 p101 q101
         cases e101
         have HR101_0 := am_ hi101_0
         have HC101_0 := am_ hl101_0
         clear hi101_0 hl101_0
         replace p101 := eq_true p101
         replace q101 := eq_true q101
         have p102 : 0 ≤ (x14_1 : Int) := of_decide_eq_true tc3_
         have q102 : x14_1 < (l1.length : Int) := of_decide_eq_true tc3_
         obtain ⟨ad102, A102_0, c102_0, e102, hx102_0, hl102_0, hi102_0⟩ := at_L3 HR1.out x14_1 p102 q102
         cases e102
         have HR102_0 := am_ hi102_0
         have HC102_0 := am_ hl102_0
         clear hi102_0 hl102_0
         replace p102 := eq_true p102
         replace q102 := eq_true q102
         go_wp2_with (first | ((with_reducible refine gate_callee (f := 193) rfl ?_); refine goesL_ (some 24) rfl rfl Try.func193 (by kernel_rfl) rfl #[.slice A101_0 (rd_L3 l0 x14_1).length c101_0, .slice A102_0 (rd_L3 l1 x14_1).length c102_0] rfl tc0_ ?_; (with_reducible refine (spec_l1Same.calls k1 _ _ (rd_L3 l0 x14_1) _ _ (rd_L3 l1 x14_1) true _ ?side1 ?side2 ?side3 ?side4 A8.out).mono ?_); (case side1 => exact tc31_); (case side2 => exact HC101_0.out); (case side3 => exact tc32_); (case side4 => exact HC102_0.out); rintro e w' ⟨rfl, ⟨nd, rfl⟩⟩; refine ⟨_, rfl, ?_⟩))
         go_roundg k1
         case measure => have := HK1.out; omega
         case rel => exact ⟨(wrap64 (x14_1 + 1)), tc8_, H', ⟨by have := HK1.out; omega⟩, by repeat (first | exact Drawn0.refl _ | apply Drawn0.step)⟩
        ·replace c9 := Bool.eq_false_iff.mpr c9
         subst c9
         have H1 : (some false) = some r := by rw [if_neg (show ¬ (false = true) by decide)] at H; exact H
         clear H
         have H := H1
         clear H1
         obtain rfl := Option.some.inj H
         have p101 : 0 ≤ (x14_1 : Int) := of_decide_eq_true tc3_
         have q101 : x14_1 < (l0.length : Int) := of_decide_eq_true tc3_
         obtain ⟨ad101, A101_0, c101_0, e101, hx101_0, hl101_0, hi101_0⟩ := at_L3 HR0.out x14_1 p101 q101
         cases e101
         have HR101_0 := am_ hi101_0
         have HC101_0 := am_ hl101_0
         clear hi101_0 hl101_0
         replace p101 := eq_true p101
         replace q101 := eq_true q101
         have p102 : 0 ≤ (x14_1 : Int) := of_decide_eq_true tc3_
         have q102 : x14_1 < (l1.length : Int) := of_decide_eq_true tc3_
         obtain ⟨ad102, A102_0, c102_0, e102, hx102_0, hl102_0, hi102_0⟩ := at_L3 HR1.out x14_1 p102 q102
         cases e102
         have HR102_0 := am_ hi102_0
         have HC102_0 := am_ hl102_0
         clear hi102_0 hl102_0
         replace p102 := eq_true p102
         replace q102 := eq_true q102
         go_wp2_with (first | ((with_reducible refine gate_callee (f := 193) rfl ?_); refine goesL_ (some 24) rfl rfl Try.func193 (by kernel_rfl) rfl #[.slice A101_0 (rd_L3 l0 x14_1).length c101_0, .slice A102_0 (rd_L3 l1 x14_1).length c102_0] rfl tc0_ ?_; (with_reducible refine (spec_l1Same.calls k1 _ _ (rd_L3 l0 x14_1) _ _ (rd_L3 l1 x14_1) false _ ?side1 ?side2 ?side3 ?side4 A8.out).mono ?_); (case side1 => exact tc31_); (case side2 => exact HC101_0.out); (case side3 => exact tc32_); (case side4 => exact HC102_0.out); rintro e w' ⟨rfl, ⟨nd, rfl⟩⟩; refine ⟨_, rfl, ?_⟩))
         go_ret
         exact ⟨by first | rfl | (simp; done) | (simp [*]; done), by repeat (first | exact Drawn0.refl _ | apply Drawn0.step)⟩
       ·rw [if_neg c7] at H
        exact absurd H (by simp)
      ·rw [if_neg c6] at H
       exact absurd H (by simp)
     ·rw [if_neg c5] at H
      exact absurd H (by simp)
    ·rw [if_neg c4] at H
     have c4b0 : decide (x14_1 < (l0.length : Int)) = false := decide_eq_false c4
     clear c4
     obtain rfl := Option.some.inj H
     go_wp2
     go_ret
     exact ⟨by first | rfl | (simp; done) | (simp [*]; done), by repeat (first | exact Drawn0.refl _ | apply Drawn0.step)⟩
 ·rw [if_neg c3] at H
  have c3b0 : ((l0.length : Int) == (l1.length : Int)) = false := beq_eq_false_iff_ne.mpr c3
  have c3b1 : ((l0.length : Int) != (l1.length : Int)) = true := bne_iff_ne.mpr c3
  have c3b2 : (l0.length == l1.length) = false := by first | simpa using c3 | (simp at c3 ⊢; omega)
  obtain rfl := Option.some.inj H
  go_enter Try.func164, Try.ntmps164
  go_wp2
  go_ret
  exact ⟨by first | rfl | (simp; done) | (simp [*]; done), by repeat (first | exact Drawn0.refl _ | apply Drawn0.step)⟩

/-! ### spec_heGood: function 95 -/
def spec_heGood.l0 : Nat → List (List Int) → List (List Int) → Int → Int → Option (Bool)
 | 0, _, _, _, _ => none
 | k + 1, x0, x10, x11, x12 => if x12 < x11 then (if 0 ≤ x12 then (if x12 < (x10.length : Int) then (if ((rd_L3 x10 x12).length : Int) = (x0.length : Int) then ((spec_l1All.f k (rd_L3 x10 x12) 0 6).bind fun t103 => (if t103 = true then (spec_heGood.l0 k x0 x10 x11 (wrap64 (x12 + 1))) else (some false))) else (some false)) else (none)) else (none)) else ((spec_heFrom.f k x0).bind fun t104 => ((spec_sgGood.f k t104).bind fun t107 => (if t107 = true then ((spec_heOf.f k t104).bind fun t108 => ((spec_heSame.f k t108 x0).bind fun t111 => (some t111))) else (some false))))
def spec_heGood.f (k : Nat) (l0 : List (List Int)) : Option (Bool) := (spec_l1In.f (l0.length : Int) 2 7).bind fun t101 => (if t101 = true then (spec_heGood.l0 k l0 l0 (l0.length : Int) 0) else (some false))
set_option maxHeartbeats 8000000 in
set_option maxRecDepth 100000 in
theorem spec_heGood.calls (k : Nat) (A0 : Option Addr) (c0 : Nat) (l0 : List (List Int)) (r : Bool) (w : World) (hr0 : Kd.C (Kd.slice 3 (Kd.int .i64)) w A0 l0.length l0) (hc0 : l0.length ≤ c0) (h : spec_heGood.f k l0 = some r) :
  Calls Try.prog 95 #[.slice A0 l0.length c0] w fun e w' => e = .returned (.bool r) ∧ Below w.heap.size w w' := by
 have HR0 := am_ hr0
 have HC0 := am_ hc0
 clear hr0 hc0
 have HB := am_ (Below.refl w.heap.size w)
 have H : ((spec_l1In.f (l0.length : Int) 2 7).bind fun t101 => (if t101 = true then (spec_heGood.l0 k l0 l0 (l0.length : Int) 0) else (some false))) = some r := h
 clear h
 replace H := Option.bind_eq_some_iff.mp H
 obtain ⟨t101, A20, H⟩ := H
 replace H : (if t101 = true then (spec_heGood.l0 k l0 l0 (l0.length : Int) 0) else (some false)) = some r := H
 have A2 := am_ A20
 clear A20
 by_cases c3 : t101 = true
 ·subst c3
  have H1 : (spec_heGood.l0 k l0 l0 (l0.length : Int) 0) = some r := by rw [if_pos rfl] at H; exact H
  clear H
  have H := H1
  clear H1
  have H' := am_ H
  clear H
  go_enter Try.func95, Try.ntmps95
  go_wp2_with (first | ((with_reducible refine gate_callee (f := 112) rfl ?_); refine goesL_ (some 8) rfl rfl Try.func112 (by kernel_rfl) rfl #[.int .i64 (l0.length : Int), .int .i64 2, .int .i64 7] rfl tc0_ ?_; (with_reducible refine (spec_l1In.calls (l0.length : Int) 2 7 true _ A2.out).mono ?_); rintro e w' ⟨rfl, ⟨nd, rfl⟩⟩; refine ⟨_, rfl, ?_⟩))
  go_loopg [12] k (fun kq v12 w' => ∃ (x12_1 : Int), v12 = .int .i64 x12_1 ∧ Aside0 (spec_heGood.l0 kq l0 l0 (l0.length : Int) x12_1 = some r) ∧ Aside0 (kq ≤ k) ∧ Aside0 (Below w.heap.size w w'))
  case atStart => exact ⟨(0), tc8_, H', ⟨Nat.le_refl _⟩, ⟨by repeat (first | (with_reducible first | exact HB.out | apply below_alloc | apply pw_below_drewN | apply below_drew1) | exact HB.out)⟩⟩
  case round =>
   clear H'
   try clear c1
   try clear p2
   try clear c3
   obtain ⟨x12_1, rfl, HA, HK1, HB⟩ := hrel
   cases gk with
   | zero => exact absurd HA.out (by simp [spec_heGood.l0])
   | succ k1 =>
    have H := HA.out
    clear HA
    simp only [spec_heGood.l0] at H
    by_cases c4 : x12_1 < (l0.length : Int)
    ·rw [if_pos c4] at H
     have c4b0 : decide (x12_1 < (l0.length : Int)) = true := decide_eq_true c4
     clear c4
     by_cases c5 : 0 ≤ x12_1
     ·rw [if_pos c5] at H
      have c5b0 : decide (0 ≤ x12_1) = true := decide_eq_true c5
      clear c5
      by_cases c6 : x12_1 < (l0.length : Int)
      ·rw [if_pos c6] at H
       have c6b0 : decide (x12_1 < (l0.length : Int)) = true := decide_eq_true c6
       clear c6
       by_cases c7 : ((rd_L3 l0 x12_1).length : Int) = (l0.length : Int)
       ·rw [if_pos c7] at H
        have c7b0 : (((rd_L3 l0 x12_1).length : Int) == (l0.length : Int)) = true := beq_iff_eq.mpr c7
        have c7b1 : (((rd_L3 l0 x12_1).length : Int) != (l0.length : Int)) = false := bne_eq_false_iff_eq.mpr c7
        have c7b2 : ((rd_L3 l0 x12_1).length == l0.length) = true := by first | simpa using c7 | (simp at c7 ⊢; omega)
        clear c7
        replace H := Option.bind_eq_some_iff.mp H
        obtain ⟨t103, A80, H⟩ := H
        replace H : (if t103 = true then (spec_heGood.l0 k1 l0 l0 (l0.length : Int) (wrap64 (x12_1 + 1))) else (some false)) = some r := H
        have A8 := am_ A80
        clear A80
        by_cases c9 : t103 = true
        ·subst c9
         have H1 : (spec_heGood.l0 k1 l0 l0 (l0.length : Int) (wrap64 (x12_1 + 1))) = some r := by rw [if_pos rfl] at H; exact H
         clear H
         have H := H1
         clear H1
         have H' := am_ H
         clear H
         have p102 : 0 ≤ (x12_1 : Int) := of_decide_eq_true tc3_
         have q102 : x12_1 < (l0.length : Int) := of_decide_eq_true tc3_
         obtain ⟨ad102, A102_0, c102_0, e102, hx102_0, hl102_0, hi102_0⟩ := at_L3 HR0.out x12_1 p102 q102
         cases e102
         replace hx102_0 := (HB.out.cell (World.block_lt_of_cell? w _ hx102_0)).trans hx102_0
         have HR102_0 := am_ hi102_0
         have HC102_0 := am_ hl102_0
         clear hi102_0 hl102_0
         replace p102 := eq_true p102
         replace q102 := eq_true q102
         go_wp2_with (first | (go_at_call 163; (with_reducible refine (spec_l1All.calls k1 _ _ (rd_L3 l0 x12_1) 0 6 true _ ?side1 ?side2 A8.out).mono ?_); (case side1 => exact tc48_); (case side2 => exact HC102_0.out); rintro e w' ⟨rfl, ⟨nd, rfl⟩⟩))
         go_roundg k1
         case measure => have := HK1.out; omega
         case rel => exact ⟨(wrap64 (x12_1 + 1)), tc8_, H', ⟨by have := HK1.out; omega⟩, ⟨by repeat (first | (with_reducible first | exact HB.out | apply below_alloc | apply pw_below_drewN | apply below_drew1) | exact HB.out)⟩⟩
        ·replace c9 := Bool.eq_false_iff.mpr c9
         subst c9
         have H1 : (some false) = some r := by rw [if_neg (show ¬ (false = true) by decide)] at H; exact H
         clear H
         have H := H1
         clear H1
         obtain rfl := Option.some.inj H
         have p102 : 0 ≤ (x12_1 : Int) := of_decide_eq_true tc3_
         have q102 : x12_1 < (l0.length : Int) := of_decide_eq_true tc3_
         obtain ⟨ad102, A102_0, c102_0, e102, hx102_0, hl102_0, hi102_0⟩ := at_L3 HR0.out x12_1 p102 q102
         cases e102
         replace hx102_0 := (HB.out.cell (World.block_lt_of_cell? w _ hx102_0)).trans hx102_0
         have HR102_0 := am_ hi102_0
         have HC102_0 := am_ hl102_0
         clear hi102_0 hl102_0
         replace p102 := eq_true p102
         replace q102 := eq_true q102
         go_wp2_with (first | (go_at_call 163; (with_reducible refine (spec_l1All.calls k1 _ _ (rd_L3 l0 x12_1) 0 6 false _ ?side1 ?side2 A8.out).mono ?_); (case side1 => exact tc48_); (case side2 => exact HC102_0.out); rintro e w' ⟨rfl, ⟨nd, rfl⟩⟩))
         go_ret
         exact ⟨by first | rfl | (simp [errW_none, errW_some] <;> rfl) | (simp [*, errW_none, errW_some] <;> rfl), by repeat (first | (with_reducible first | exact HB.out | apply below_alloc | apply pw_below_drewN | apply below_drew1) | exact HB.out)⟩
       ·rw [if_neg c7] at H
        have c7b0 : (((rd_L3 l0 x12_1).length : Int) == (l0.length : Int)) = false := beq_eq_false_iff_ne.mpr c7
        have c7b1 : (((rd_L3 l0 x12_1).length : Int) != (l0.length : Int)) = true := bne_iff_ne.mpr c7
        have c7b2 : ((rd_L3 l0 x12_1).length == l0.length) = false := by first | simpa using c7 | (simp at c7 ⊢; omega)
        obtain rfl := Option.some.inj H
        have p102 : 0 ≤ (x12_1 : Int) := of_decide_eq_true tc3_
        have q102 : x12_1 < (l0.length : Int) := of_decide_eq_true tc3_
        obtain ⟨ad102, A102_0, c102_0, e102, hx102_0, hl102_0, hi102_0⟩ := at_L3 HR0.out x12_1 p102 q102
        cases e102
        replace hx102_0 := (HB.out.cell (World.block_lt_of_cell? w _ hx102_0)).trans hx102_0
        have HR102_0 := am_ hi102_0
        have HC102_0 := am_ hl102_0
        clear hi102_0 hl102_0
        replace p102 := eq_true p102
        replace q102 := eq_true q102
        go_wp2
        go_ret
        exact ⟨by first | rfl | (simp [errW_none, errW_some] <;> rfl) | (simp [*, errW_none, errW_some] <;> rfl), by repeat (first | (with_reducible first | exact HB.out | apply below_alloc | apply pw_below_drewN | apply below_drew1) | exact HB.out)⟩
      ·rw [if_neg c6] at H
       exact absurd H (by simp)
     ·rw [if_neg c5] at H
      exact absurd H (by simp)
    ·rw [if_neg c4] at H
     have c4b0 : decide (x12_1 < (l0.length : Int)) = false := decide_eq_false c4
     clear c4
     replace H := Option.bind_eq_some_iff.mp H
     obtain ⟨t104, A100, H⟩ := H
     replace H : ((spec_sgGood.f k1 t104).bind fun t107 => (if t107 = true then ((spec_heOf.f k1 t104).bind fun t108 => ((spec_heSame.f k1 t108 l0).bind fun t111 => (some t111))) else (some false))) = some r := H
     have A10 := am_ A100
     clear A100
     replace H := Option.bind_eq_some_iff.mp H
     obtain ⟨t107, A110, H⟩ := H
     replace H : (if t107 = true then ((spec_heOf.f k1 t104).bind fun t108 => ((spec_heSame.f k1 t108 l0).bind fun t111 => (some t111))) else (some false)) = some r := H
     have A11 := am_ A110
     clear A110
     by_cases c12 : t107 = true
     ·subst c12
      have H1 : ((spec_heOf.f k1 t104).bind fun t108 => ((spec_heSame.f k1 t108 l0).bind fun t111 => (some t111))) = some r := by rw [if_pos rfl] at H; exact H
      clear H
      have H := H1
      clear H1
      replace H := Option.bind_eq_some_iff.mp H
      obtain ⟨t108, A130, H⟩ := H
      replace H : ((spec_heSame.f k1 t108 l0).bind fun t111 => (some t111)) = some r := H
      have A13 := am_ A130
      clear A130
      replace H := Option.bind_eq_some_iff.mp H
      obtain ⟨t111, A140, H⟩ := H
      replace H : (some t111) = some r := H
      have A14 := am_ A140
      clear A140
      obtain rfl := Option.some.inj H
      go_wp2_with (first | ((with_reducible refine gate_callee (f := 96) rfl ?_); refine goesL_ (some 28) rfl rfl Try.func96 (by kernel_rfl) rfl #[.slice A0 l0.length c0] rfl tc0_ ?_; (with_reducible refine (spec_heFrom.calls k1 _ _ l0 t104 _ ?side1 ?side2 A10.out).mono ?_); (case side1 => exact tc10_); (case side2 => exact HC0.out); rintro e w15 ⟨v105, rfl, ho0, hb⟩; refine ⟨_, rfl, ?_⟩; have n0_ := am_ (Kd.S_lower ho0 (below_size tc1_)); have n1_ := am_ (below_step tc1_ hb); clear HB; have HO106 := n0_; have HB := n1_; clear n0_ n1_; (try clear hb ho0); obtain ⟨Ao16, co16, eo16⟩ := Kd.S_slice HO106.out; subst eo16) | ((with_reducible refine gate_callee (f := 67) rfl ?_); refine goesL_ (some 30) rfl rfl Try.func67 (by kernel_rfl) rfl #[.slice Ao16 t104.length co16] rfl tc0_ ?_; (with_reducible refine (spec_sgGood.calls k1 _ _ t104 true _ ?side1 ?side2 A11.out).mono ?_); (case side1 => exact tc57_); (case side2 => exact (Kd.S_reads' HO106.out).2.1); rintro e w17 ⟨rfl, hb⟩; refine ⟨_, rfl, ?_⟩; have n0_ := am_ (Kd.S_below tc20_ hb); have n1_ := am_ (below_step tc1_ hb); clear HO106 HB; have HO106 := n0_; have HB := n1_; clear n0_ n1_; (try clear hb)) | (go_at_call 91; (with_reducible refine (spec_heOf.calls k1 _ _ t104 t108 _ ?side1 ?side2 A13.out).mono ?_); (case side1 => exact tc57_); (case side2 => exact (Kd.S_reads' HO106.out).2.1); rintro e w18 ⟨v109, rfl, ho0, hb⟩; have n0_ := am_ (Kd.S_elder' tc20_ (Kd.S_base ho0) hb); have n1_ := am_ (Kd.S_lower (Kd.S_new' ho0 (Kd.S_lt tc20_)) (below_size tc1_)); have n2_ := am_ (below_step tc1_ hb); clear HO106 HB; have HO106 := n0_; have HO110 := n1_; have HB := n2_; clear n0_ n1_ n2_; (try clear hb hb2 hk hi ho0); obtain ⟨Ao19, co19, eo19⟩ := Kd.S_slice HO110.out; subst eo19) | (go_at_call 164; (with_reducible refine (spec_heSame.calls k1 _ _ t108 _ _ l0 t111 _ ?side1 ?side2 ?side3 ?side4 A14.out).mono ?_); (case side1 => repeat (first | exact (Kd.S_reads' HO110.out).2.2 | (with_reducible refine Kd.C_alloc ?_ _) | (with_reducible refine Kd.C_drewN ?_ _) | (with_reducible refine Kd.C_drew ?_))); (case side2 => exact (Kd.S_reads' HO110.out).2.1); (case side3 => exact tc10_); (case side4 => exact HC0.out); rintro e w' ⟨rfl, ⟨nd, rfl⟩⟩))
      go_ret
      exact ⟨by first | rfl | (simp [errW_none, errW_some] <;> rfl) | (simp [*, errW_none, errW_some] <;> rfl), by repeat (first | (with_reducible first | exact HB.out | apply below_alloc | apply pw_below_drewN | apply below_drew1) | exact HB.out)⟩
     ·replace c12 := Bool.eq_false_iff.mpr c12
      subst c12
      have H1 : (some false) = some r := by rw [if_neg (show ¬ (false = true) by decide)] at H; exact H
      clear H
      have H := H1
      clear H1
      obtain rfl := Option.some.inj H
      go_wp2_with (first | ((with_reducible refine gate_callee (f := 96) rfl ?_); refine goesL_ (some 28) rfl rfl Try.func96 (by kernel_rfl) rfl #[.slice A0 l0.length c0] rfl tc0_ ?_; (with_reducible refine (spec_heFrom.calls k1 _ _ l0 t104 _ ?side1 ?side2 A10.out).mono ?_); (case side1 => exact tc10_); (case side2 => exact HC0.out); rintro e w20 ⟨v105, rfl, ho0, hb⟩; refine ⟨_, rfl, ?_⟩; have n0_ := am_ (Kd.S_lower ho0 (below_size tc1_)); have n1_ := am_ (below_step tc1_ hb); clear HB; have HO106 := n0_; have HB := n1_; clear n0_ n1_; (try clear hb ho0); obtain ⟨Ao21, co21, eo21⟩ := Kd.S_slice HO106.out; subst eo21) | ((with_reducible refine gate_callee (f := 67) rfl ?_); refine goesL_ (some 30) rfl rfl Try.func67 (by kernel_rfl) rfl #[.slice Ao21 t104.length co21] rfl tc0_ ?_; (with_reducible refine (spec_sgGood.calls k1 _ _ t104 false _ ?side1 ?side2 A11.out).mono ?_); (case side1 => exact tc57_); (case side2 => exact (Kd.S_reads' HO106.out).2.1); rintro e w22 ⟨rfl, hb⟩; refine ⟨_, rfl, ?_⟩; have n0_ := am_ (Kd.S_below tc20_ hb); have n1_ := am_ (below_step tc1_ hb); clear HO106 HB; have HO106 := n0_; have HB := n1_; clear n0_ n1_; (try clear hb)))
      go_ret
      exact ⟨by first | rfl | (simp [errW_none, errW_some] <;> rfl) | (simp [*, errW_none, errW_some] <;> rfl), by repeat (first | (with_reducible first | exact HB.out | apply below_alloc | apply pw_below_drewN | apply below_drew1) | exact HB.out)⟩
 ·replace c3 := Bool.eq_false_iff.mpr c3
  subst c3
  have H1 : (some false) = some r := by rw [if_neg (show ¬ (false = true) by decide)] at H; exact H
  clear H
  have H := H1
  clear H1
  obtain rfl := Option.some.inj H
  go_enter Try.func95, Try.ntmps95
  go_wp2_with (first | ((with_reducible refine gate_callee (f := 112) rfl ?_); refine goesL_ (some 8) rfl rfl Try.func112 (by kernel_rfl) rfl #[.int .i64 (l0.length : Int), .int .i64 2, .int .i64 7] rfl tc0_ ?_; (with_reducible refine (spec_l1In.calls (l0.length : Int) 2 7 false _ A2.out).mono ?_); rintro e w' ⟨rfl, ⟨nd, rfl⟩⟩; refine ⟨_, rfl, ?_⟩))
  go_ret
  exact ⟨by first | rfl | (simp [errW_none, errW_some] <;> rfl) | (simp [*, errW_none, errW_some] <;> rfl), by repeat (first | (with_reducible first | exact HB.out | apply below_alloc | apply pw_below_drewN | apply below_drew1) | exact HB.out)⟩

/-! ### spec_FromHeights: function 37 -/
def spec_FromHeights.f (k : Nat) (l0 : List (List Int)) : Option ((List (List Int)) × Bool) := (spec_heGood.f k l0).bind fun t101 => (if t101 = true then ((spec_heFrom.f k l0).bind fun t102 => (some (t102, true))) else (some (([] : List (List Int)), false)))
set_option maxHeartbeats 8000000 in
set_option maxRecDepth 100000 in
theorem spec_FromHeights.calls (k : Nat) (A0 : Option Addr) (c0 : Nat) (l0 : List (List Int)) (r1 : List (List Int)) (r2 : Bool) (w : World) (hr0 : Kd.C (Kd.slice 3 (Kd.int .i64)) w A0 l0.length l0) (hc0 : l0.length ≤ c0) (h : spec_FromHeights.f k l0 = some (r1, r2)) :
  Calls Try.prog 37 #[.slice A0 l0.length c0] w fun e w' => ∃ v0_ : Value, e = .returned (.tuple #[v0_, .bool r2]) ∧ Kd.S (Kd.slice 3 (Kd.int .i64)) 35 w' w.heap.size (fun _ => True) v0_ r1 ∧ Below w.heap.size w w' := by
 have HR0 := am_ hr0
 have HC0 := am_ hc0
 clear hr0 hc0
 have HB := am_ (Below.refl w.heap.size w)
 have H : ((spec_heGood.f k l0).bind fun t101 => (if t101 = true then ((spec_heFrom.f k l0).bind fun t102 => (some (t102, true))) else (some (([] : List (List Int)), false)))) = some (r1, r2) := h
 clear h
 replace H := Option.bind_eq_some_iff.mp H
 obtain ⟨t101, A20, H⟩ := H
 replace H : (if t101 = true then ((spec_heFrom.f k l0).bind fun t102 => (some (t102, true))) else (some (([] : List (List Int)), false))) = some (r1, r2) := H
 have A2 := am_ A20
 clear A20
 by_cases c3 : t101 = true
 ·subst c3
  have H1 : ((spec_heFrom.f k l0).bind fun t102 => (some (t102, true))) = some (r1, r2) := by rw [if_pos rfl] at H; exact H
  clear H
  have H := H1
  clear H1
  replace H := Option.bind_eq_some_iff.mp H
  obtain ⟨t102, A40, H⟩ := H
  replace H : (some (t102, true)) = some (r1, r2) := H
  have A4 := am_ A40
  clear A40
  simp only [Option.some.injEq, Prod.mk.injEq] at H
  obtain ⟨rfl, rfl⟩ := H
  go_enter Try.func37, Try.ntmps37
  go_wp2_with (first | ((with_reducible refine gate_callee (f := 95) rfl ?_); refine goesL_ (some 5) rfl rfl Try.func95 (by kernel_rfl) rfl #[.slice A0 l0.length c0] rfl tc0_ ?_; (with_reducible refine (spec_heGood.calls k _ _ l0 true _ ?side1 ?side2 A2.out).mono ?_); (case side1 => exact tc9_); (case side2 => exact HC0.out); rintro e w5 ⟨rfl, hb⟩; refine ⟨_, rfl, ?_⟩; have n0_ := am_ (below_step tc1_ hb); clear HB; have HB := n0_; clear n0_; (try clear hb)) | ((with_reducible refine gate_callee (f := 96) rfl ?_); refine goesL_ (some 8) rfl rfl Try.func96 (by kernel_rfl) rfl #[.slice A0 l0.length c0] rfl tc0_ ?_; (with_reducible refine (spec_heFrom.calls k _ _ l0 t102 _ ?side1 ?side2 A4.out).mono ?_); (case side1 => exact tc10_); (case side2 => exact HC0.out); rintro e w6 ⟨v103, rfl, ho0, hb⟩; refine ⟨_, rfl, ?_⟩; have n0_ := am_ (Kd.S_lower ho0 (below_size tc1_)); have n1_ := am_ (below_step tc1_ hb); clear HB; have HO104 := n0_; have HB := n1_; clear n0_ n1_; (try clear hb ho0)))
  go_ret2
  exact ⟨_, by first | rfl | (simp [errW_none, errW_some] <;> rfl) | (simp [*, errW_none, errW_some] <;> rfl), by (with_reducible repeat (first | apply Kd.S_alloc | apply Kd.S_drewN | apply Kd.S_drew)); exact HO104.out, by repeat (first | (with_reducible first | exact HB.out | apply below_alloc | apply pw_below_drewN | apply below_drew1) | exact HB.out)⟩
 ·replace c3 := Bool.eq_false_iff.mpr c3
  subst c3
  have H1 : (some (([] : List (List Int)), false)) = some (r1, r2) := by rw [if_neg (show ¬ (false = true) by decide)] at H; exact H
  clear H
  have H := H1
  clear H1
  simp only [Option.some.injEq, Prod.mk.injEq] at H
  obtain ⟨rfl, rfl⟩ := H
  go_enter Try.func37, Try.ntmps37
  go_wp2_with (first | ((with_reducible refine gate_callee (f := 95) rfl ?_); refine goesL_ (some 5) rfl rfl Try.func95 (by kernel_rfl) rfl #[.slice A0 l0.length c0] rfl tc0_ ?_; (with_reducible refine (spec_heGood.calls k _ _ l0 false _ ?side1 ?side2 A2.out).mono ?_); (case side1 => exact tc9_); (case side2 => exact HC0.out); rintro e w7 ⟨rfl, hb⟩; refine ⟨_, rfl, ?_⟩; have n0_ := am_ (below_step tc1_ hb); clear HB; have HB := n0_; clear n0_; (try clear hb)))
  go_ret2
  exact ⟨_, by first | rfl | (simp [errW_none, errW_some] <;> rfl) | (simp [*, errW_none, errW_some] <;> rfl), by first | exact Kd.S_nil _ _ _ _ _ | exact Kd.N_nil _ _ _ _ _ | exact Kd.V_nil _ _ _ _ _ | exact Kd.Q_nil _ _ _ _ _ | exact Kd.R_nil _ _ _ _ _, by repeat (first | (with_reducible first | exact HB.out | apply below_alloc | apply pw_below_drewN | apply below_drew1) | exact HB.out)⟩

/-! ### spec_AreHeights: function 38 -/
def spec_AreHeights.f (k : Nat) (l0 : List (List Int)) : Option (Bool) := (spec_heGood.f k l0).bind fun t101 => (some t101)
set_option maxHeartbeats 8000000 in
set_option maxRecDepth 100000 in
theorem spec_AreHeights.calls (k : Nat) (A0 : Option Addr) (c0 : Nat) (l0 : List (List Int)) (r : Bool) (w : World) (hr0 : Kd.C (Kd.slice 3 (Kd.int .i64)) w A0 l0.length l0) (hc0 : l0.length ≤ c0) (h : spec_AreHeights.f k l0 = some r) :
  Calls Try.prog 38 #[.slice A0 l0.length c0] w fun e w' => e = .returned (.bool r) ∧ Below w.heap.size w w' := by
 have HR0 := am_ hr0
 have HC0 := am_ hc0
 clear hr0 hc0
 have HB := am_ (Below.refl w.heap.size w)
 have H : ((spec_heGood.f k l0).bind fun t101 => (some t101)) = some r := h
 clear h
 replace H := Option.bind_eq_some_iff.mp H
 obtain ⟨t101, A20, H⟩ := H
 replace H : (some t101) = some r := H
 have A2 := am_ A20
 clear A20
 obtain rfl := Option.some.inj H
 go_enter Try.func38, Try.ntmps38
 go_wp2_with (first | ((with_reducible refine gate_callee (f := 95) rfl ?_); refine goesL_ (some 4) rfl rfl Try.func95 (by kernel_rfl) rfl #[.slice A0 l0.length c0] rfl tc0_ ?_; (with_reducible refine (spec_heGood.calls k _ _ l0 t101 _ ?side1 ?side2 A2.out).mono ?_); (case side1 => exact tc9_); (case side2 => exact HC0.out); rintro e w3 ⟨rfl, hb⟩; refine ⟨_, rfl, ?_⟩; have n0_ := am_ (below_step tc1_ hb); clear HB; have HB := n0_; clear n0_; (try clear hb)))
 go_ret
 exact ⟨by first | rfl | (simp [errW_none, errW_some] <;> rfl) | (simp [*, errW_none, errW_some] <;> rfl), by repeat (first | (with_reducible first | exact HB.out | apply below_alloc | apply pw_below_drewN | apply below_drew1) | exact HB.out)⟩

end Go.Proofs.Ytkbehdgneojdbaa.X
