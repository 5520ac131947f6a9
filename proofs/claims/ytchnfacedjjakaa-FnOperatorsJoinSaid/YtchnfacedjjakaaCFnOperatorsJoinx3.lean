-- Written by a program of this session (wip/xprint.py) that drives the kit's print; the contracts of what it does not take are this session's own.
import Derived.Test.YtchnfacedjjakaaCFnOperatorsJoinx0
import Derived.Test.YtchnfacedjjakaaCFnOperatorsJoinx1
import Derived.Test.YtchnfacedjjakaaCFnOperatorsJoinx2
namespace Go.Proofs.Ytchnfacedjjakaa.X
open Go.RowKit Go.Proofs.YtchnfacedjjakaaW.PrintWords Go.Proofs.YtchnfacedjjakaaW.PrintLast Go.Proofs.YtchnfacedjjakaaW.PrintMore
attribute [local go_sem] max2_int min2_int max_two min_two max_three min_three max_four min_four   -- for this text's walks alone
set_option linter.unusedVariables false
set_option linter.unusedSimpArgs false

/-! ### laws_FnOperatorsJoin: function 4 -/
mutual
def laws_FnOperatorsJoin.j0 : Nat → List Int → List Int → Int → List Int → Bool → Bool → Option (Bool)
  | 0, _, _, _, _, _, _ => none
  | k + 1, x1, x5, x6, x7, x10, x70 => if x70 = true then (some false) else ((spec_DrawJoinWord.f k x1).bind fun bt115 => ((impl_JoinWord.f k bt115.1 bt115.2).bind fun bt121 => ((spec_JoinWord.f k bt115.1 bt115.2).bind fun bt125 => (if (bt121.2 != bt125.2) = true then (laws_FnOperatorsJoin.j1 k x5 x6 x7 x10 bt115.1 bt115.2 bt121.1 bt121.2 true) else ((laws_uSame.f k bt121.1 bt125.1).bind fun t129 => (laws_FnOperatorsJoin.j1 k x5 x6 x7 x10 bt115.1 bt115.2 bt121.1 bt121.2 (!t129)))))))
def laws_FnOperatorsJoin.j1 : Nat → List Int → Int → List Int → Bool → List Int → List Int → List Int → Bool → Bool → Option (Bool)
  | 0, _, _, _, _, _, _, _, _, _ => none
  | k + 1, x5, x6, x7, x10, x11, x12, x13, x14, x96 => if x96 = true then (some false) else (if x14 = true then (laws_FnOperatorsJoin.l0 k x5 x6 x7 x10 x13 x11 x12 (x12.length : Int) 0) else (laws_FnOperatorsJoin.j3 k x5 x6 x7 x10))
def laws_FnOperatorsJoin.j3 : Nat → List Int → Int → List Int → Bool → Option (Bool)
  | 0, _, _, _, _ => none
  | k + 1, x5, x6, x7, x10 => if x10 = true then ((impl_JoinAt.f k x7 x6).bind fun bt136 => (if (x5.length : Int) = 0 then (none) else ((impl_JoinWord.f k x5 (([x6, Int.tmod (wrap64 (x6 + 1)) (x5.length : Int), x6] : List Int))).bind fun bt143 => ((impl_JoinWord.f k x5 (([x6, Int.tmod (wrap64 ((wrap64 (x6 + (x5.length : Int))) - 1)) (x5.length : Int), x6] : List Int))).bind fun bt150 => ((impl_SmallArcs.f k x7).bind fun bt154 => (if bt136.2 = true then (if bt143.2 = true then (if bt150.2 = true then (if bt154.2 = true then ((impl_IsPattern.f k x7).bind fun t158 => (if t158 = true then ((laws_uSame.f k bt136.1 x7).bind fun t159 => (if t159 = true then ((laws_uSame.f k bt143.1 x7).bind fun t160 => (if t160 = true then ((laws_uSame.f k bt150.1 x7).bind fun t161 => (if t161 = true then ((laws_uHas.f k bt154.1 x6).bind fun t162 => (laws_FnOperatorsJoin.j4 k x5 x6 x7 (x5.length : Int) (!t162))) else (laws_FnOperatorsJoin.j4 k x5 x6 x7 (x5.length : Int) true))) else (laws_FnOperatorsJoin.j4 k x5 x6 x7 (x5.length : Int) true))) else (laws_FnOperatorsJoin.j4 k x5 x6 x7 (x5.length : Int) true))) else (laws_FnOperatorsJoin.j4 k x5 x6 x7 (x5.length : Int) true))) else (laws_FnOperatorsJoin.j4 k x5 x6 x7 (x5.length : Int) true)) else (laws_FnOperatorsJoin.j4 k x5 x6 x7 (x5.length : Int) true)) else (laws_FnOperatorsJoin.j4 k x5 x6 x7 (x5.length : Int) true)) else (laws_FnOperatorsJoin.j4 k x5 x6 x7 (x5.length : Int) true))))))) else (some true)
def laws_FnOperatorsJoin.j4 : Nat → List Int → Int → List Int → Int → Bool → Option (Bool)
  | 0, _, _, _, _, _ => none
  | k + 1, x5, x6, x7, x22, x202 => if x202 = true then (some false) else (laws_FnOperatorsJoin.l1 k x5 x6 x7 x22 0)
def laws_FnOperatorsJoin.l1 : Nat → List Int → Int → List Int → Int → Int → Option (Bool)
  | 0, _, _, _, _, _ => none
  | k + 1, x5, x6, x7, x22, x31 => if x31 < x22 then (if x31 = x6 then (laws_FnOperatorsJoin.j6 k x5 x6 x7 x22 x31 true) else (if x22 = 0 then (none) else (if (Int.tmod (wrap64 (x31 + 1)) x22) = x6 then (laws_FnOperatorsJoin.j6 k x5 x6 x7 x22 x31 true) else (laws_FnOperatorsJoin.j6 k x5 x6 x7 x22 x31 ((Int.tmod (wrap64 (x6 + 1)) x22) == x31))))) else ((impl_TurnPattern.f k x5 1).bind fun bt178 => (if x22 = 0 then (none) else ((impl_JoinAt.f k bt178.1 (Int.tmod (wrap64 (x6 + 1)) x22)).bind fun bt182 => ((impl_TurnPattern.f k bt182.1 (-1)).bind fun bt186 => (if bt178.2 = true then (if bt182.2 = true then (if bt186.2 = true then ((laws_uSame.f k bt186.1 x7).bind fun t190 => (some t190)) else (some false)) else (some false)) else (some false))))))
def laws_FnOperatorsJoin.j6 : Nat → List Int → Int → List Int → Int → Int → Bool → Option (Bool)
  | 0, _, _, _, _, _, _ => none
  | k + 1, x5, x6, x7, x22, x31, x226 => if x226 = true then (laws_FnOperatorsJoin.l1 k x5 x6 x7 x22 (wrap64 (x31 + 1))) else ((impl_JoinWord.f k x5 (([x6, x31] : List Int))).bind fun bt166 => ((impl_JoinWord.f k x5 (([x31, x6] : List Int))).bind fun bt173 => (if bt166.2 = true then (if bt173.2 = true then ((laws_uSame.f k bt166.1 bt173.1).bind fun t177 => (if t177 = true then (laws_FnOperatorsJoin.l1 k x5 x6 x7 x22 (wrap64 (x31 + 1))) else (some false))) else (some false)) else (some false))))
def laws_FnOperatorsJoin.l0 : Nat → List Int → Int → List Int → Bool → List Int → List Int → List Int → Int → Int → Option (Bool)
  | 0, _, _, _, _, _, _, _, _, _ => none
  | k + 1, x5, x6, x7, x10, x13, x17, x99, x100, x101 => if x101 < x100 then (if 0 ≤ x101 then (if x101 < (x99.length : Int) then ((impl_JoinAt.f k x17 (rd x99 x101)).bind fun bt131 => (if bt131.2 = true then (laws_FnOperatorsJoin.l0 k x5 x6 x7 x10 x13 bt131.1 x99 x100 (wrap64 (x101 + 1))) else (some false))) else (none)) else (none)) else ((laws_uSame.f k x17 x13).bind fun t135 => (if t135 = true then (laws_FnOperatorsJoin.j3 k x5 x6 x7 x10) else (some false)))
end
def laws_FnOperatorsJoin.f (k : Nat) (l0 : List Int) (l1 : List Int) : Option (Bool) := (laws_big.f l0 l1).bind fun t101 => (if t101 = true then (some true) else ((spec_DrawJoinAt.f k l0).bind fun bt102 => ((impl_JoinAt.f k bt102.1 bt102.2).bind fun bt106 => ((spec_JoinAt.f k bt102.1 bt102.2).bind fun bt110 => (if (bt106.2 != bt110.2) = true then (laws_FnOperatorsJoin.j0 k l1 bt102.1 bt102.2 bt106.1 bt110.2 true) else ((laws_uSame.f k bt106.1 bt110.1).bind fun t114 => (laws_FnOperatorsJoin.j0 k l1 bt102.1 bt102.2 bt106.1 bt110.2 (!t114))))))))
theorem laws_FnOperatorsJoin.mono_l : ∀ k, (∀ y0 y1 y2 y3 y4 y5, LeO (laws_FnOperatorsJoin.j0 k y0 y1 y2 y3 y4 y5) (laws_FnOperatorsJoin.j0 (k + 1) y0 y1 y2 y3 y4 y5)) ∧ (∀ y0 y1 y2 y3 y4 y5 y6 y7 y8, LeO (laws_FnOperatorsJoin.j1 k y0 y1 y2 y3 y4 y5 y6 y7 y8) (laws_FnOperatorsJoin.j1 (k + 1) y0 y1 y2 y3 y4 y5 y6 y7 y8)) ∧ (∀ y0 y1 y2 y3, LeO (laws_FnOperatorsJoin.j3 k y0 y1 y2 y3) (laws_FnOperatorsJoin.j3 (k + 1) y0 y1 y2 y3)) ∧ (∀ y0 y1 y2 y3 y4, LeO (laws_FnOperatorsJoin.j4 k y0 y1 y2 y3 y4) (laws_FnOperatorsJoin.j4 (k + 1) y0 y1 y2 y3 y4)) ∧ (∀ y0 y1 y2 y3 y4, LeO (laws_FnOperatorsJoin.l1 k y0 y1 y2 y3 y4) (laws_FnOperatorsJoin.l1 (k + 1) y0 y1 y2 y3 y4)) ∧ (∀ y0 y1 y2 y3 y4 y5, LeO (laws_FnOperatorsJoin.j6 k y0 y1 y2 y3 y4 y5) (laws_FnOperatorsJoin.j6 (k + 1) y0 y1 y2 y3 y4 y5)) ∧ (∀ y0 y1 y2 y3 y4 y5 y6 y7 y8, LeO (laws_FnOperatorsJoin.l0 k y0 y1 y2 y3 y4 y5 y6 y7 y8) (laws_FnOperatorsJoin.l0 (k + 1) y0 y1 y2 y3 y4 y5 y6 y7 y8))
  | 0 => ⟨fun _ _ _ _ _ _ r h => by simp [laws_FnOperatorsJoin.j0] at h, fun _ _ _ _ _ _ _ _ _ r h => by simp [laws_FnOperatorsJoin.j1] at h, fun _ _ _ _ r h => by simp [laws_FnOperatorsJoin.j3] at h, fun _ _ _ _ _ r h => by simp [laws_FnOperatorsJoin.j4] at h, fun _ _ _ _ _ r h => by simp [laws_FnOperatorsJoin.l1] at h, fun _ _ _ _ _ _ r h => by simp [laws_FnOperatorsJoin.j6] at h, fun _ _ _ _ _ _ _ _ _ r h => by simp [laws_FnOperatorsJoin.l0] at h⟩
  | k + 1 => by
    obtain ⟨ih0, ih1, ih2, ih3, ih4, ih5, ih6⟩ := laws_FnOperatorsJoin.mono_l k
    refine ⟨?_, ?_, ?_, ?_, ?_, ?_, ?_⟩
    · intro y0 y1 y2 y3 y4 y5
      unfold laws_FnOperatorsJoin.j0
      repeat' first
      | (with_reducible exact ih0 _ _ _ _ _ _)
      | (with_reducible exact ih1 _ _ _ _ _ _ _ _ _)
      | (with_reducible exact ih2 _ _ _ _)
      | (with_reducible exact ih3 _ _ _ _ _)
      | (with_reducible exact ih4 _ _ _ _ _)
      | (with_reducible exact ih5 _ _ _ _ _ _)
      | (with_reducible exact ih6 _ _ _ _ _ _ _ _ _)
      | (with_reducible exact impl_IsPattern.mono _ _)
      | (with_reducible exact impl_JoinAt.mono _ _ _)
      | (with_reducible exact impl_JoinWord.mono _ _ _)
      | (with_reducible exact impl_SmallArcs.mono _ _)
      | (with_reducible exact impl_TurnPattern.mono _ _ _)
      | (with_reducible exact laws_uHas.mono _ _ _)
      | (with_reducible exact laws_uSame.mono _ _ _)
      | (with_reducible exact spec_DrawJoinAt.mono _ _)
      | (with_reducible exact spec_DrawJoinWord.mono _ _)
      | (with_reducible exact spec_JoinAt.mono _ _ _)
      | (with_reducible exact spec_JoinWord.mono _ _ _)
      | (with_reducible exact LeO.refl _)
      | (with_reducible exact LeO.none _)
      | (with_reducible refine LeO.ite ?_ ?_)
      | (with_reducible refine LeO.bind ?_ (fun _ => ?_))
      | exact ih0 _ _ _ _ _ _
      | exact ih1 _ _ _ _ _ _ _ _ _
      | exact ih2 _ _ _ _
      | exact ih3 _ _ _ _ _
      | exact ih4 _ _ _ _ _
      | exact ih5 _ _ _ _ _ _
      | exact ih6 _ _ _ _ _ _ _ _ _
      | exact impl_IsPattern.mono _ _
      | exact impl_JoinAt.mono _ _ _
      | exact impl_JoinWord.mono _ _ _
      | exact impl_SmallArcs.mono _ _
      | exact impl_TurnPattern.mono _ _ _
      | exact laws_uHas.mono _ _ _
      | exact laws_uSame.mono _ _ _
      | exact spec_DrawJoinAt.mono _ _
      | exact spec_DrawJoinWord.mono _ _
      | exact spec_JoinAt.mono _ _ _
      | exact spec_JoinWord.mono _ _ _
      | exact LeO.none _
      | refine LeO.ite ?_ ?_
      | refine LeO.bind ?_ (fun _ => ?_)
    · intro y0 y1 y2 y3 y4 y5 y6 y7 y8
      unfold laws_FnOperatorsJoin.j1
      repeat' first
      | (with_reducible exact ih0 _ _ _ _ _ _)
      | (with_reducible exact ih1 _ _ _ _ _ _ _ _ _)
      | (with_reducible exact ih2 _ _ _ _)
      | (with_reducible exact ih3 _ _ _ _ _)
      | (with_reducible exact ih4 _ _ _ _ _)
      | (with_reducible exact ih5 _ _ _ _ _ _)
      | (with_reducible exact ih6 _ _ _ _ _ _ _ _ _)
      | (with_reducible exact impl_IsPattern.mono _ _)
      | (with_reducible exact impl_JoinAt.mono _ _ _)
      | (with_reducible exact impl_JoinWord.mono _ _ _)
      | (with_reducible exact impl_SmallArcs.mono _ _)
      | (with_reducible exact impl_TurnPattern.mono _ _ _)
      | (with_reducible exact laws_uHas.mono _ _ _)
      | (with_reducible exact laws_uSame.mono _ _ _)
      | (with_reducible exact spec_DrawJoinAt.mono _ _)
      | (with_reducible exact spec_DrawJoinWord.mono _ _)
      | (with_reducible exact spec_JoinAt.mono _ _ _)
      | (with_reducible exact spec_JoinWord.mono _ _ _)
      | (with_reducible exact LeO.refl _)
      | (with_reducible exact LeO.none _)
      | (with_reducible refine LeO.ite ?_ ?_)
      | (with_reducible refine LeO.bind ?_ (fun _ => ?_))
      | exact ih0 _ _ _ _ _ _
      | exact ih1 _ _ _ _ _ _ _ _ _
      | exact ih2 _ _ _ _
      | exact ih3 _ _ _ _ _
      | exact ih4 _ _ _ _ _
      | exact ih5 _ _ _ _ _ _
      | exact ih6 _ _ _ _ _ _ _ _ _
      | exact impl_IsPattern.mono _ _
      | exact impl_JoinAt.mono _ _ _
      | exact impl_JoinWord.mono _ _ _
      | exact impl_SmallArcs.mono _ _
      | exact impl_TurnPattern.mono _ _ _
      | exact laws_uHas.mono _ _ _
      | exact laws_uSame.mono _ _ _
      | exact spec_DrawJoinAt.mono _ _
      | exact spec_DrawJoinWord.mono _ _
      | exact spec_JoinAt.mono _ _ _
      | exact spec_JoinWord.mono _ _ _
      | exact LeO.none _
      | refine LeO.ite ?_ ?_
      | refine LeO.bind ?_ (fun _ => ?_)
    · intro y0 y1 y2 y3
      unfold laws_FnOperatorsJoin.j3
      repeat' first
      | (with_reducible exact ih0 _ _ _ _ _ _)
      | (with_reducible exact ih1 _ _ _ _ _ _ _ _ _)
      | (with_reducible exact ih2 _ _ _ _)
      | (with_reducible exact ih3 _ _ _ _ _)
      | (with_reducible exact ih4 _ _ _ _ _)
      | (with_reducible exact ih5 _ _ _ _ _ _)
      | (with_reducible exact ih6 _ _ _ _ _ _ _ _ _)
      | (with_reducible exact impl_IsPattern.mono _ _)
      | (with_reducible exact impl_JoinAt.mono _ _ _)
      | (with_reducible exact impl_JoinWord.mono _ _ _)
      | (with_reducible exact impl_SmallArcs.mono _ _)
      | (with_reducible exact impl_TurnPattern.mono _ _ _)
      | (with_reducible exact laws_uHas.mono _ _ _)
      | (with_reducible exact laws_uSame.mono _ _ _)
      | (with_reducible exact spec_DrawJoinAt.mono _ _)
      | (with_reducible exact spec_DrawJoinWord.mono _ _)
      | (with_reducible exact spec_JoinAt.mono _ _ _)
      | (with_reducible exact spec_JoinWord.mono _ _ _)
      | (with_reducible exact LeO.refl _)
      | (with_reducible exact LeO.none _)
      | (with_reducible refine LeO.ite ?_ ?_)
      | (with_reducible refine LeO.bind ?_ (fun _ => ?_))
      | exact ih0 _ _ _ _ _ _
      | exact ih1 _ _ _ _ _ _ _ _ _
      | exact ih2 _ _ _ _
      | exact ih3 _ _ _ _ _
      | exact ih4 _ _ _ _ _
      | exact ih5 _ _ _ _ _ _
      | exact ih6 _ _ _ _ _ _ _ _ _
      | exact impl_IsPattern.mono _ _
      | exact impl_JoinAt.mono _ _ _
      | exact impl_JoinWord.mono _ _ _
      | exact impl_SmallArcs.mono _ _
      | exact impl_TurnPattern.mono _ _ _
      | exact laws_uHas.mono _ _ _
      | exact laws_uSame.mono _ _ _
      | exact spec_DrawJoinAt.mono _ _
      | exact spec_DrawJoinWord.mono _ _
      | exact spec_JoinAt.mono _ _ _
      | exact spec_JoinWord.mono _ _ _
      | exact LeO.none _
      | refine LeO.ite ?_ ?_
      | refine LeO.bind ?_ (fun _ => ?_)
    · intro y0 y1 y2 y3 y4
      unfold laws_FnOperatorsJoin.j4
      repeat' first
      | (with_reducible exact ih0 _ _ _ _ _ _)
      | (with_reducible exact ih1 _ _ _ _ _ _ _ _ _)
      | (with_reducible exact ih2 _ _ _ _)
      | (with_reducible exact ih3 _ _ _ _ _)
      | (with_reducible exact ih4 _ _ _ _ _)
      | (with_reducible exact ih5 _ _ _ _ _ _)
      | (with_reducible exact ih6 _ _ _ _ _ _ _ _ _)
      | (with_reducible exact impl_IsPattern.mono _ _)
      | (with_reducible exact impl_JoinAt.mono _ _ _)
      | (with_reducible exact impl_JoinWord.mono _ _ _)
      | (with_reducible exact impl_SmallArcs.mono _ _)
      | (with_reducible exact impl_TurnPattern.mono _ _ _)
      | (with_reducible exact laws_uHas.mono _ _ _)
      | (with_reducible exact laws_uSame.mono _ _ _)
      | (with_reducible exact spec_DrawJoinAt.mono _ _)
      | (with_reducible exact spec_DrawJoinWord.mono _ _)
      | (with_reducible exact spec_JoinAt.mono _ _ _)
      | (with_reducible exact spec_JoinWord.mono _ _ _)
      | (with_reducible exact LeO.refl _)
      | (with_reducible exact LeO.none _)
      | (with_reducible refine LeO.ite ?_ ?_)
      | (with_reducible refine LeO.bind ?_ (fun _ => ?_))
      | exact ih0 _ _ _ _ _ _
      | exact ih1 _ _ _ _ _ _ _ _ _
      | exact ih2 _ _ _ _
      | exact ih3 _ _ _ _ _
      | exact ih4 _ _ _ _ _
      | exact ih5 _ _ _ _ _ _
      | exact ih6 _ _ _ _ _ _ _ _ _
      | exact impl_IsPattern.mono _ _
      | exact impl_JoinAt.mono _ _ _
      | exact impl_JoinWord.mono _ _ _
      | exact impl_SmallArcs.mono _ _
      | exact impl_TurnPattern.mono _ _ _
      | exact laws_uHas.mono _ _ _
      | exact laws_uSame.mono _ _ _
      | exact spec_DrawJoinAt.mono _ _
      | exact spec_DrawJoinWord.mono _ _
      | exact spec_JoinAt.mono _ _ _
      | exact spec_JoinWord.mono _ _ _
      | exact LeO.none _
      | refine LeO.ite ?_ ?_
      | refine LeO.bind ?_ (fun _ => ?_)
    · intro y0 y1 y2 y3 y4
      unfold laws_FnOperatorsJoin.l1
      repeat' first
      | (with_reducible exact ih0 _ _ _ _ _ _)
      | (with_reducible exact ih1 _ _ _ _ _ _ _ _ _)
      | (with_reducible exact ih2 _ _ _ _)
      | (with_reducible exact ih3 _ _ _ _ _)
      | (with_reducible exact ih4 _ _ _ _ _)
      | (with_reducible exact ih5 _ _ _ _ _ _)
      | (with_reducible exact ih6 _ _ _ _ _ _ _ _ _)
      | (with_reducible exact impl_IsPattern.mono _ _)
      | (with_reducible exact impl_JoinAt.mono _ _ _)
      | (with_reducible exact impl_JoinWord.mono _ _ _)
      | (with_reducible exact impl_SmallArcs.mono _ _)
      | (with_reducible exact impl_TurnPattern.mono _ _ _)
      | (with_reducible exact laws_uHas.mono _ _ _)
      | (with_reducible exact laws_uSame.mono _ _ _)
      | (with_reducible exact spec_DrawJoinAt.mono _ _)
      | (with_reducible exact spec_DrawJoinWord.mono _ _)
      | (with_reducible exact spec_JoinAt.mono _ _ _)
      | (with_reducible exact spec_JoinWord.mono _ _ _)
      | (with_reducible exact LeO.refl _)
      | (with_reducible exact LeO.none _)
      | (with_reducible refine LeO.ite ?_ ?_)
      | (with_reducible refine LeO.bind ?_ (fun _ => ?_))
      | exact ih0 _ _ _ _ _ _
      | exact ih1 _ _ _ _ _ _ _ _ _
      | exact ih2 _ _ _ _
      | exact ih3 _ _ _ _ _
      | exact ih4 _ _ _ _ _
      | exact ih5 _ _ _ _ _ _
      | exact ih6 _ _ _ _ _ _ _ _ _
      | exact impl_IsPattern.mono _ _
      | exact impl_JoinAt.mono _ _ _
      | exact impl_JoinWord.mono _ _ _
      | exact impl_SmallArcs.mono _ _
      | exact impl_TurnPattern.mono _ _ _
      | exact laws_uHas.mono _ _ _
      | exact laws_uSame.mono _ _ _
      | exact spec_DrawJoinAt.mono _ _
      | exact spec_DrawJoinWord.mono _ _
      | exact spec_JoinAt.mono _ _ _
      | exact spec_JoinWord.mono _ _ _
      | exact LeO.none _
      | refine LeO.ite ?_ ?_
      | refine LeO.bind ?_ (fun _ => ?_)
    · intro y0 y1 y2 y3 y4 y5
      unfold laws_FnOperatorsJoin.j6
      repeat' first
      | (with_reducible exact ih0 _ _ _ _ _ _)
      | (with_reducible exact ih1 _ _ _ _ _ _ _ _ _)
      | (with_reducible exact ih2 _ _ _ _)
      | (with_reducible exact ih3 _ _ _ _ _)
      | (with_reducible exact ih4 _ _ _ _ _)
      | (with_reducible exact ih5 _ _ _ _ _ _)
      | (with_reducible exact ih6 _ _ _ _ _ _ _ _ _)
      | (with_reducible exact impl_IsPattern.mono _ _)
      | (with_reducible exact impl_JoinAt.mono _ _ _)
      | (with_reducible exact impl_JoinWord.mono _ _ _)
      | (with_reducible exact impl_SmallArcs.mono _ _)
      | (with_reducible exact impl_TurnPattern.mono _ _ _)
      | (with_reducible exact laws_uHas.mono _ _ _)
      | (with_reducible exact laws_uSame.mono _ _ _)
      | (with_reducible exact spec_DrawJoinAt.mono _ _)
      | (with_reducible exact spec_DrawJoinWord.mono _ _)
      | (with_reducible exact spec_JoinAt.mono _ _ _)
      | (with_reducible exact spec_JoinWord.mono _ _ _)
      | (with_reducible exact LeO.refl _)
      | (with_reducible exact LeO.none _)
      | (with_reducible refine LeO.ite ?_ ?_)
      | (with_reducible refine LeO.bind ?_ (fun _ => ?_))
      | exact ih0 _ _ _ _ _ _
      | exact ih1 _ _ _ _ _ _ _ _ _
      | exact ih2 _ _ _ _
      | exact ih3 _ _ _ _ _
      | exact ih4 _ _ _ _ _
      | exact ih5 _ _ _ _ _ _
      | exact ih6 _ _ _ _ _ _ _ _ _
      | exact impl_IsPattern.mono _ _
      | exact impl_JoinAt.mono _ _ _
      | exact impl_JoinWord.mono _ _ _
      | exact impl_SmallArcs.mono _ _
      | exact impl_TurnPattern.mono _ _ _
      | exact laws_uHas.mono _ _ _
      | exact laws_uSame.mono _ _ _
      | exact spec_DrawJoinAt.mono _ _
      | exact spec_DrawJoinWord.mono _ _
      | exact spec_JoinAt.mono _ _ _
      | exact spec_JoinWord.mono _ _ _
      | exact LeO.none _
      | refine LeO.ite ?_ ?_
      | refine LeO.bind ?_ (fun _ => ?_)
    · intro y0 y1 y2 y3 y4 y5 y6 y7 y8
      unfold laws_FnOperatorsJoin.l0
      repeat' first
      | (with_reducible exact ih0 _ _ _ _ _ _)
      | (with_reducible exact ih1 _ _ _ _ _ _ _ _ _)
      | (with_reducible exact ih2 _ _ _ _)
      | (with_reducible exact ih3 _ _ _ _ _)
      | (with_reducible exact ih4 _ _ _ _ _)
      | (with_reducible exact ih5 _ _ _ _ _ _)
      | (with_reducible exact ih6 _ _ _ _ _ _ _ _ _)
      | (with_reducible exact impl_IsPattern.mono _ _)
      | (with_reducible exact impl_JoinAt.mono _ _ _)
      | (with_reducible exact impl_JoinWord.mono _ _ _)
      | (with_reducible exact impl_SmallArcs.mono _ _)
      | (with_reducible exact impl_TurnPattern.mono _ _ _)
      | (with_reducible exact laws_uHas.mono _ _ _)
      | (with_reducible exact laws_uSame.mono _ _ _)
      | (with_reducible exact spec_DrawJoinAt.mono _ _)
      | (with_reducible exact spec_DrawJoinWord.mono _ _)
      | (with_reducible exact spec_JoinAt.mono _ _ _)
      | (with_reducible exact spec_JoinWord.mono _ _ _)
      | (with_reducible exact LeO.refl _)
      | (with_reducible exact LeO.none _)
      | (with_reducible refine LeO.ite ?_ ?_)
      | (with_reducible refine LeO.bind ?_ (fun _ => ?_))
      | exact ih0 _ _ _ _ _ _
      | exact ih1 _ _ _ _ _ _ _ _ _
      | exact ih2 _ _ _ _
      | exact ih3 _ _ _ _ _
      | exact ih4 _ _ _ _ _
      | exact ih5 _ _ _ _ _ _
      | exact ih6 _ _ _ _ _ _ _ _ _
      | exact impl_IsPattern.mono _ _
      | exact impl_JoinAt.mono _ _ _
      | exact impl_JoinWord.mono _ _ _
      | exact impl_SmallArcs.mono _ _
      | exact impl_TurnPattern.mono _ _ _
      | exact laws_uHas.mono _ _ _
      | exact laws_uSame.mono _ _ _
      | exact spec_DrawJoinAt.mono _ _
      | exact spec_DrawJoinWord.mono _ _
      | exact spec_JoinAt.mono _ _ _
      | exact spec_JoinWord.mono _ _ _
      | exact LeO.none _
      | refine LeO.ite ?_ ?_
      | refine LeO.bind ?_ (fun _ => ?_)
theorem laws_FnOperatorsJoin.mono : ∀ a0 a1  k, LeO (laws_FnOperatorsJoin.f k a0 a1) (laws_FnOperatorsJoin.f (k + 1) a0 a1) := by
  intro a0 a1 k
  obtain ⟨ih0, ih1, ih2, ih3, ih4, ih5, ih6⟩ := laws_FnOperatorsJoin.mono_l k
  unfold laws_FnOperatorsJoin.f
  repeat' first
      | (with_reducible exact ih0 _ _ _ _ _ _)
      | (with_reducible exact ih1 _ _ _ _ _ _ _ _ _)
      | (with_reducible exact ih2 _ _ _ _)
      | (with_reducible exact ih3 _ _ _ _ _)
      | (with_reducible exact ih4 _ _ _ _ _)
      | (with_reducible exact ih5 _ _ _ _ _ _)
      | (with_reducible exact ih6 _ _ _ _ _ _ _ _ _)
      | (with_reducible exact impl_IsPattern.mono _ _)
      | (with_reducible exact impl_JoinAt.mono _ _ _)
      | (with_reducible exact impl_JoinWord.mono _ _ _)
      | (with_reducible exact impl_SmallArcs.mono _ _)
      | (with_reducible exact impl_TurnPattern.mono _ _ _)
      | (with_reducible exact laws_uHas.mono _ _ _)
      | (with_reducible exact laws_uSame.mono _ _ _)
      | (with_reducible exact spec_DrawJoinAt.mono _ _)
      | (with_reducible exact spec_DrawJoinWord.mono _ _)
      | (with_reducible exact spec_JoinAt.mono _ _ _)
      | (with_reducible exact spec_JoinWord.mono _ _ _)
      | (with_reducible exact LeO.refl _)
      | (with_reducible exact LeO.none _)
      | (with_reducible refine LeO.ite ?_ ?_)
      | (with_reducible refine LeO.bind ?_ (fun _ => ?_))
      | exact ih0 _ _ _ _ _ _
      | exact ih1 _ _ _ _ _ _ _ _ _
      | exact ih2 _ _ _ _
      | exact ih3 _ _ _ _ _
      | exact ih4 _ _ _ _ _
      | exact ih5 _ _ _ _ _ _
      | exact ih6 _ _ _ _ _ _ _ _ _
      | exact impl_IsPattern.mono _ _
      | exact impl_JoinAt.mono _ _ _
      | exact impl_JoinWord.mono _ _ _
      | exact impl_SmallArcs.mono _ _
      | exact impl_TurnPattern.mono _ _ _
      | exact laws_uHas.mono _ _ _
      | exact laws_uSame.mono _ _ _
      | exact spec_DrawJoinAt.mono _ _
      | exact spec_DrawJoinWord.mono _ _
      | exact spec_JoinAt.mono _ _ _
      | exact spec_JoinWord.mono _ _ _
      | exact LeO.none _
      | refine LeO.ite ?_ ?_
      | refine LeO.bind ?_ (fun _ => ?_)
set_option maxHeartbeats 8000000 in
set_option maxRecDepth 100000 in
theorem laws_FnOperatorsJoin.calls (k : Nat) (A0 : Option Addr) (c0 : Nat) (l0 : List Int) (A1 : Option Addr) (c1 : Nat) (l1 : List Int) (r : Bool) (w : World) (hr_ : r = true) (hr0 : Kd.C (Kd.int .u8) w A0 l0.length l0) (hc0 : l0.length ≤ c0) (hr1 : Kd.C (Kd.int .u8) w A1 l1.length l1) (hc1 : l1.length ≤ c1) (h : laws_FnOperatorsJoin.f k l0 l1 = some r) :
    Calls Try.prog 4 #[.slice A0 l0.length c0, .slice A1 l1.length c1] w fun e w' => e = .returned (.bool r) ∧ Below w.heap.size w w' := by
  have HR_ := Aside0.mk hr_
  clear hr_
  have HR0 := Aside0.mk hr0
  have HC0 := Aside0.mk hc0
  clear hr0 hc0
  have HR1 := Aside0.mk hr1
  have HC1 := Aside0.mk hc1
  clear hr1 hc1
  have HB := Aside0.mk (Below.refl w.heap.size w)
  have H : ((laws_big.f l0 l1).bind fun t101 => (if t101 = true then (some true) else ((spec_DrawJoinAt.f k l0).bind fun bt102 => ((impl_JoinAt.f k bt102.1 bt102.2).bind fun bt106 => ((spec_JoinAt.f k bt102.1 bt102.2).bind fun bt110 => (if (bt106.2 != bt110.2) = true then (laws_FnOperatorsJoin.j0 k l1 bt102.1 bt102.2 bt106.1 bt110.2 true) else ((laws_uSame.f k bt106.1 bt110.1).bind fun t114 => (laws_FnOperatorsJoin.j0 k l1 bt102.1 bt102.2 bt106.1 bt110.2 (!t114))))))))) = some r := h
  clear h
  replace H := Option.bind_eq_some_iff.mp H
  obtain ⟨t101, A30, H⟩ := H
  replace H : (if t101 = true then (some true) else ((spec_DrawJoinAt.f k l0).bind fun bt102 => ((impl_JoinAt.f k bt102.1 bt102.2).bind fun bt106 => ((spec_JoinAt.f k bt102.1 bt102.2).bind fun bt110 => (if (bt106.2 != bt110.2) = true then (laws_FnOperatorsJoin.j0 k l1 bt102.1 bt102.2 bt106.1 bt110.2 true) else ((laws_uSame.f k bt106.1 bt110.1).bind fun t114 => (laws_FnOperatorsJoin.j0 k l1 bt102.1 bt102.2 bt106.1 bt110.2 (!t114)))))))) = some r := H
  have A3 := Aside0.mk A30
  clear A30
  by_cases c4 : t101 = true
  · subst c4
    have H1 : (some true) = some r := by rw [if_pos rfl] at H; exact H
    clear H
    have H := H1
    clear H1
    obtain rfl := Option.some.inj H
    go_enter Try.func4, Try.ntmps4
    go_wp2_with (first | ((with_reducible refine gate_callee (f := 18) rfl ?_); refine goesL_ (some 44) rfl rfl Try.func18 (by kernel_rfl) rfl #[.slice A0 l0.length c0, .slice A1 l1.length c1] rfl (by (try simp only [List.map_toArray, List.map_cons, List.map_nil]); first | done | rfl | (simp only [List.length_drop, List.length_take]; rfl)) ?_; (with_reducible refine (laws_big.calls _ _ l0 _ _ l1 true _ ?side1 ?side2 ?side3 ?side4 A3.out).mono ?_); (case side1 => repeat (first | exact HR0.out | (with_reducible refine Kd.C_alloc ?_ _) | (with_reducible refine Kd.C_drewN ?_ _) | (with_reducible refine Kd.C_drew ?_))); (case side2 => exact HC0.out); (case side3 => repeat (first | exact HR1.out | (with_reducible refine Kd.C_alloc ?_ _) | (with_reducible refine Kd.C_drewN ?_ _) | (with_reducible refine Kd.C_drew ?_))); (case side4 => exact HC1.out); rintro e w' ⟨rfl, ⟨nd, rfl⟩⟩; refine ⟨_, rfl, ?_⟩))
    go_ret
    exact ⟨by first | rfl | (simp [errW_none, errW_some] <;> rfl) | (simp [*, errW_none, errW_some] <;> rfl), by repeat (first | (with_reducible first | exact HB.out | apply below_alloc | apply pw_below_drewN | apply below_drew1) | exact HB.out)⟩
  · replace c4 := Bool.eq_false_iff.mpr c4
    subst c4
    have H1 : ((spec_DrawJoinAt.f k l0).bind fun bt102 => ((impl_JoinAt.f k bt102.1 bt102.2).bind fun bt106 => ((spec_JoinAt.f k bt102.1 bt102.2).bind fun bt110 => (if (bt106.2 != bt110.2) = true then (laws_FnOperatorsJoin.j0 k l1 bt102.1 bt102.2 bt106.1 bt110.2 true) else ((laws_uSame.f k bt106.1 bt110.1).bind fun t114 => (laws_FnOperatorsJoin.j0 k l1 bt102.1 bt102.2 bt106.1 bt110.2 (!t114))))))) = some r := by rw [if_neg (show ¬ (false = true) by decide)] at H; exact H
    clear H
    have H := H1
    clear H1
    replace H := Option.bind_eq_some_iff.mp H
    obtain ⟨⟨t102, t103⟩, A50, H⟩ := H
    replace H : ((impl_JoinAt.f k t102 t103).bind fun bt106 => ((spec_JoinAt.f k t102 t103).bind fun bt110 => (if (bt106.2 != bt110.2) = true then (laws_FnOperatorsJoin.j0 k l1 t102 t103 bt106.1 bt110.2 true) else ((laws_uSame.f k bt106.1 bt110.1).bind fun t114 => (laws_FnOperatorsJoin.j0 k l1 t102 t103 bt106.1 bt110.2 (!t114)))))) = some r := H
    have A5 := Aside0.mk A50
    clear A50
    replace H := Option.bind_eq_some_iff.mp H
    obtain ⟨⟨t106, t107⟩, A60, H⟩ := H
    replace H : ((spec_JoinAt.f k t102 t103).bind fun bt110 => (if (t107 != bt110.2) = true then (laws_FnOperatorsJoin.j0 k l1 t102 t103 t106 bt110.2 true) else ((laws_uSame.f k t106 bt110.1).bind fun t114 => (laws_FnOperatorsJoin.j0 k l1 t102 t103 t106 bt110.2 (!t114))))) = some r := H
    have A6 := Aside0.mk A60
    clear A60
    replace H := Option.bind_eq_some_iff.mp H
    obtain ⟨⟨t110, t111⟩, A70, H⟩ := H
    replace H : (if (t107 != t111) = true then (laws_FnOperatorsJoin.j0 k l1 t102 t103 t106 t111 true) else ((laws_uSame.f k t106 t110).bind fun t114 => (laws_FnOperatorsJoin.j0 k l1 t102 t103 t106 t111 (!t114)))) = some r := H
    have A7 := Aside0.mk A70
    clear A70
    have HC8 := Aside0.mk H
    clear H
    go_enter Try.func4, Try.ntmps4
    go_upto_region 6 with (first | ((with_reducible refine gate_callee (f := 18) rfl ?_); refine goesL_ (some 44) rfl rfl Try.func18 (by kernel_rfl) rfl #[.slice A0 l0.length c0, .slice A1 l1.length c1] rfl (by (try simp only [List.map_toArray, List.map_cons, List.map_nil]); first | done | rfl | (simp only [List.length_drop, List.length_take]; rfl)) ?_; (with_reducible refine (laws_big.calls _ _ l0 _ _ l1 false _ ?side1 ?side2 ?side3 ?side4 A3.out).mono ?_); (case side1 => repeat (first | exact HR0.out | (with_reducible refine Kd.C_alloc ?_ _) | (with_reducible refine Kd.C_drewN ?_ _) | (with_reducible refine Kd.C_drew ?_))); (case side2 => exact HC0.out); (case side3 => repeat (first | exact HR1.out | (with_reducible refine Kd.C_alloc ?_ _) | (with_reducible refine Kd.C_drewN ?_ _) | (with_reducible refine Kd.C_drew ?_))); (case side4 => exact HC1.out); rintro e w' ⟨rfl, ⟨nd, rfl⟩⟩; refine ⟨_, rfl, ?_⟩) | ((with_reducible refine gate_callee (f := 19) rfl ?_); refine goesL_ (some 47) rfl rfl Try.func19 (by kernel_rfl) rfl #[.slice A0 l0.length c0] rfl (by (try simp only [List.map_toArray, List.map_cons, List.map_nil]); first | done | rfl | (simp only [List.length_drop, List.length_take]; rfl)) ?_; (with_reducible refine (spec_DrawJoinAt.calls k _ _ l0 t102 t103 _ ?side1 ?side2 A5.out).mono ?_); (case side1 => repeat (first | exact HR0.out | (with_reducible refine Kd.C_alloc ?_ _) | (with_reducible refine Kd.C_drewN ?_ _) | (with_reducible refine Kd.C_drew ?_))); (case side2 => exact HC0.out); rintro e w9 ⟨v104, rfl, ho0, hb⟩; refine ⟨_, rfl, ?_⟩; have n0_ := Aside0.mk (Kd.R_lower ho0 (below_size (by repeat (first | (with_reducible first | exact HB.out | apply below_alloc | apply pw_below_drewN | apply below_drew1) | exact HB.out)))); have n1_ := Aside0.mk (below_step (by repeat (first | (with_reducible first | exact HB.out | apply below_alloc | apply pw_below_drewN | apply below_drew1) | exact HB.out)) hb); clear HB; have HO105 := n0_; have HB := n1_; clear n0_ n1_; (try clear hb); (try clear hb2); (try clear hk); (try clear hi); (try clear ho0); obtain ⟨Ao10, co10, eo10⟩ := Kd.R_slice HO105.out; subst eo10) | ((with_reducible refine gate_callee (f := 20) rfl ?_); refine goesL_ (some 53) rfl rfl Try.func20 (by kernel_rfl) rfl #[.slice Ao10 t102.length co10, .int .i64 t103] rfl (by (try simp only [List.map_toArray, List.map_cons, List.map_nil]); first | done | rfl | (simp only [List.length_drop, List.length_take]; rfl)) ?_; (with_reducible refine (impl_JoinAt.calls k _ _ t102 t103 t106 t107 _ ?side1 ?side2 A6.out).mono ?_); (case side1 => repeat (first | exact (Kd.R_reads' HO105.out).2.2 | (with_reducible refine Kd.C_alloc ?_ _) | (with_reducible refine Kd.C_drewN ?_ _) | (with_reducible refine Kd.C_drew ?_))); (case side2 => exact (Kd.R_reads' HO105.out).2.1); rintro e w11 ⟨v108, rfl, ho0, hb⟩; refine ⟨_, rfl, ?_⟩; have n0_ := Aside0.mk (Kd.R_elder' (by (with_reducible repeat (first | apply Kd.R_alloc | apply Kd.R_drewN | apply Kd.R_drew)); exact HO105.out) (Kd.R_base ho0) hb); have n1_ := Aside0.mk (Kd.R_lower (Kd.R_new' ho0 (Kd.R_lt (by (with_reducible repeat (first | apply Kd.R_alloc | apply Kd.R_drewN | apply Kd.R_drew)); exact HO105.out))) (below_size (by repeat (first | (with_reducible first | exact HB.out | apply below_alloc | apply pw_below_drewN | apply below_drew1) | exact HB.out)))); have n2_ := Aside0.mk (below_step (by repeat (first | (with_reducible first | exact HB.out | apply below_alloc | apply pw_below_drewN | apply below_drew1) | exact HB.out)) hb); clear HO105; clear HB; have HO105 := n0_; have HO109 := n1_; have HB := n2_; clear n0_ n1_ n2_; (try clear hb); (try clear hb2); (try clear hk); (try clear hi); (try clear ho0)) | ((with_reducible refine gate_callee (f := 21) rfl ?_); refine goesL_ (some 59) rfl rfl Try.func21 (by kernel_rfl) rfl #[.slice Ao10 t102.length co10, .int .i64 t103] rfl (by (try simp only [List.map_toArray, List.map_cons, List.map_nil]); first | done | rfl | (simp only [List.length_drop, List.length_take]; rfl)) ?_; (with_reducible refine (spec_JoinAt.calls k _ _ t102 t103 t110 t111 _ ?side1 ?side2 A7.out).mono ?_); (case side1 => repeat (first | exact (Kd.R_reads' HO105.out).2.2 | (with_reducible refine Kd.C_alloc ?_ _) | (with_reducible refine Kd.C_drewN ?_ _) | (with_reducible refine Kd.C_drew ?_))); (case side2 => exact (Kd.R_reads' HO105.out).2.1); rintro e w12 ⟨v112, rfl, ho0, hb⟩; refine ⟨_, rfl, ?_⟩; have n0_ := Aside0.mk (Kd.R_elder' (by (with_reducible repeat (first | apply Kd.R_alloc | apply Kd.R_drewN | apply Kd.R_drew)); exact HO105.out) (Kd.R_base ho0) hb); have n1_ := Aside0.mk (Kd.R_elder' (by (with_reducible repeat (first | apply Kd.R_alloc | apply Kd.R_drewN | apply Kd.R_drew)); exact HO109.out) (Kd.R_base ho0) hb); have n2_ := Aside0.mk (Kd.R_lower (Kd.R_new' (Kd.R_new' ho0 (Kd.R_lt (by (with_reducible repeat (first | apply Kd.R_alloc | apply Kd.R_drewN | apply Kd.R_drew)); exact HO105.out))) (Kd.R_lt (by (with_reducible repeat (first | apply Kd.R_alloc | apply Kd.R_drewN | apply Kd.R_drew)); exact HO109.out))) (below_size (by repeat (first | (with_reducible first | exact HB.out | apply below_alloc | apply pw_below_drewN | apply below_drew1) | exact HB.out)))); have n3_ := Aside0.mk (below_step (by repeat (first | (with_reducible first | exact HB.out | apply below_alloc | apply pw_below_drewN | apply below_drew1) | exact HB.out)) hb); clear HO105; clear HO109; clear HB; have HO105 := n0_; have HO109 := n1_; have HO113 := n2_; have HB := n3_; clear n0_ n1_ n2_ n3_; (try clear hb); (try clear hb2); (try clear hk); (try clear hi); (try clear ho0)))
    (try simp only [Act.put, List.setIfInBounds_toArray, List.set_cons_zero, List.set_cons_succ])
    go_cut [70] (fun v70 wc => ∃ (kq : Nat) (x70_7 : Bool), v70 = .bool x70_7 ∧ Aside0 (laws_FnOperatorsJoin.j0 kq l1 t102 t103 t106 t111 x70_7 = some r) ∧ Aside0 (kq ≤ k) ∧ Aside0 (Kd.R (Kd.int .i64) 3 wc w.heap.size (fun k_ => some k_ ≠ (v108 : Value).ownBlock) (.slice Ao10 t102.length co10) t102) ∧ Aside0 (Kd.R (Kd.int .i64) 3 wc w.heap.size (fun k_ => some k_ ≠ ((.slice Ao10 t102.length co10) : Value).ownBlock) v108 t106) ∧ Aside0 (Below w.heap.size w wc))
    case first => as_aux_lemma =>
      have H := HC8.out
      clear HC8
      by_cases c13 : (t107 != t111) = true
      · rw [if_pos c13] at H
        have c13b0 : (t107 != t111) = true := c13
        (try (have c13b1 : decide (t107 = t111) = false := by simpa using c13))
        (try (have c13b2 : (t107 == t111) = false := by simpa using c13))
        (try (have c13b3 : ¬ (t107 = t111) := by simpa using c13))
        clear c13
        (first | rw [c13b0] | (simp only [i64_w, i32_w]; rw [c13b0]) | skip)
        have H' := Aside0.mk H
        clear H
        go_wp2
        go_meet
        case rel => exact ⟨_, (true), (by first | rfl | (simp; done) | (simp [*]; done)), H', ⟨by first | omega | exact Nat.le_refl _⟩, ⟨by (with_reducible repeat (first | apply Kd.R_alloc | apply Kd.R_drewN | apply Kd.R_drew)); exact Kd.R_mono HO105.out (fun _ hk => hk.1.2)⟩, ⟨by (with_reducible repeat (first | apply Kd.R_alloc | apply Kd.R_drewN | apply Kd.R_drew)); exact Kd.R_mono HO109.out (fun _ hk => hk.1.2)⟩, ⟨by repeat (first | (with_reducible first | exact HB.out | apply below_alloc | apply pw_below_drewN | apply below_drew1) | exact HB.out)⟩⟩
      · rw [if_neg c13] at H
        have c13b0 : (t107 != t111) = false := by simpa using c13
        (try (have c13b1 : decide (t107 = t111) = true := by simpa using c13))
        (try (have c13b2 : (t107 == t111) = true := by simpa using c13))
        clear c13
        (first | rw [c13b0] | (simp only [i64_w, i32_w]; rw [c13b0]) | skip)
        replace H := Option.bind_eq_some_iff.mp H
        obtain ⟨t114, A140, H⟩ := H
        replace H : (laws_FnOperatorsJoin.j0 k l1 t102 t103 t106 t111 (!t114)) = some r := H
        have A14 := Aside0.mk A140
        clear A140
        have H' := Aside0.mk H
        clear H
        obtain ⟨Ao15, co15, eo15⟩ := Kd.R_slice HO109.out
        subst eo15
        obtain ⟨Ao16, co16, eo16⟩ := Kd.R_slice HO113.out
        subst eo16
        go_wp2_with (first | (go_at_call 22; (with_reducible refine (laws_uSame.calls k _ _ t106 _ _ t110 t114 _ ?side1 ?side2 ?side3 ?side4 A14.out).mono ?_); (case side1 => repeat (first | exact (Kd.R_reads' HO109.out).2.2 | (with_reducible refine Kd.C_alloc ?_ _) | (with_reducible refine Kd.C_drewN ?_ _) | (with_reducible refine Kd.C_drew ?_))); (case side2 => exact (Kd.R_reads' HO109.out).2.1); (case side3 => repeat (first | exact (Kd.R_reads' HO113.out).2.2 | (with_reducible refine Kd.C_alloc ?_ _) | (with_reducible refine Kd.C_drewN ?_ _) | (with_reducible refine Kd.C_drew ?_))); (case side4 => exact (Kd.R_reads' HO113.out).2.1); rintro e w' ⟨rfl, ⟨nd, rfl⟩⟩))
        go_meet
        case rel => exact ⟨_, (!t114), (by first | rfl | (simp; done) | (simp [*]; done)), H', ⟨by first | omega | exact Nat.le_refl _⟩, ⟨by (with_reducible repeat (first | apply Kd.R_alloc | apply Kd.R_drewN | apply Kd.R_drew)); exact Kd.R_mono HO105.out (fun _ hk => hk.1.2)⟩, ⟨by (with_reducible repeat (first | apply Kd.R_alloc | apply Kd.R_drewN | apply Kd.R_drew)); exact Kd.R_mono HO109.out (fun _ hk => hk.1.2)⟩, ⟨by repeat (first | (with_reducible first | exact HB.out | apply below_alloc | apply pw_below_drewN | apply below_drew1) | exact HB.out)⟩⟩
    case rest => as_aux_lemma =>
      clear HC8
      try clear c1
      try clear c2
      try clear p2
      try clear c4
      try clear c13
      try clear c13b0
      try clear c13b1
      try clear c13b2
      obtain ⟨kq, x70_7, rfl, HA, HJ7, HO_5, HO_7, HB⟩ := hcut
      cases kq with
      | zero => exact absurd HA.out (by simp [laws_FnOperatorsJoin.j0])
      | succ kj7 =>
        have H := HA.out
        clear HA
        simp only [laws_FnOperatorsJoin.j0] at H
        by_cases c17 : x70_7 = true
        · subst c17
          exact absurd ((show (some false : Option Bool) = some r from by rw [if_pos rfl] at H; exact H).trans (congrArg some HR_.out)) (by simp)
        · replace c17 := Bool.eq_false_iff.mpr c17
          subst c17
          have H1 : ((spec_DrawJoinWord.f kj7 l1).bind fun bt115 => ((impl_JoinWord.f kj7 bt115.1 bt115.2).bind fun bt121 => ((spec_JoinWord.f kj7 bt115.1 bt115.2).bind fun bt125 => (if (bt121.2 != bt125.2) = true then (laws_FnOperatorsJoin.j1 kj7 t102 t103 t106 t111 bt115.1 bt115.2 bt121.1 bt121.2 true) else ((laws_uSame.f kj7 bt121.1 bt125.1).bind fun t129 => (laws_FnOperatorsJoin.j1 kj7 t102 t103 t106 t111 bt115.1 bt115.2 bt121.1 bt121.2 (!t129))))))) = some r := by rw [if_neg (show ¬ (false = true) by decide)] at H; exact H
          clear H
          have H := H1
          clear H1
          replace H := Option.bind_eq_some_iff.mp H
          obtain ⟨⟨t115, t116⟩, A180, H⟩ := H
          replace H : ((impl_JoinWord.f kj7 t115 t116).bind fun bt121 => ((spec_JoinWord.f kj7 t115 t116).bind fun bt125 => (if (bt121.2 != bt125.2) = true then (laws_FnOperatorsJoin.j1 kj7 t102 t103 t106 t111 t115 t116 bt121.1 bt121.2 true) else ((laws_uSame.f kj7 bt121.1 bt125.1).bind fun t129 => (laws_FnOperatorsJoin.j1 kj7 t102 t103 t106 t111 t115 t116 bt121.1 bt121.2 (!t129)))))) = some r := H
          have A18 := Aside0.mk A180
          clear A180
          replace H := Option.bind_eq_some_iff.mp H
          obtain ⟨⟨t121, t122⟩, A190, H⟩ := H
          replace H : ((spec_JoinWord.f kj7 t115 t116).bind fun bt125 => (if (t122 != bt125.2) = true then (laws_FnOperatorsJoin.j1 kj7 t102 t103 t106 t111 t115 t116 t121 t122 true) else ((laws_uSame.f kj7 t121 bt125.1).bind fun t129 => (laws_FnOperatorsJoin.j1 kj7 t102 t103 t106 t111 t115 t116 t121 t122 (!t129))))) = some r := H
          have A19 := Aside0.mk A190
          clear A190
          replace H := Option.bind_eq_some_iff.mp H
          obtain ⟨⟨t125, t126⟩, A200, H⟩ := H
          replace H : (if (t122 != t126) = true then (laws_FnOperatorsJoin.j1 kj7 t102 t103 t106 t111 t115 t116 t121 t122 true) else ((laws_uSame.f kj7 t121 t125).bind fun t129 => (laws_FnOperatorsJoin.j1 kj7 t102 t103 t106 t111 t115 t116 t121 t122 (!t129)))) = some r := H
          have A20 := Aside0.mk A200
          clear A200
          have HC21 := Aside0.mk H
          clear H
          go_upto_region 11 with (first | ((with_reducible refine gate_callee (f := 23) rfl ?_); refine goesL_ (some 73) rfl rfl Try.func23 (by kernel_rfl) rfl #[.slice A1 l1.length c1] rfl (by (try simp only [List.map_toArray, List.map_cons, List.map_nil]); first | done | rfl | (simp only [List.length_drop, List.length_take]; rfl)) ?_; (with_reducible refine (spec_DrawJoinWord.calls kj7 _ _ l1 t115 t116 _ ?side1 ?side2 A18.out).mono ?_); (case side1 => repeat (first | exact (Kd.C_below HR1.out HB.out) | (with_reducible refine Kd.C_alloc ?_ _) | (with_reducible refine Kd.C_drewN ?_ _) | (with_reducible refine Kd.C_drew ?_))); (case side2 => exact HC1.out); rintro e w22 ⟨v117, v119, rfl, ho0, ho1, hb⟩; refine ⟨_, rfl, ?_⟩; have n0_ := Aside0.mk (Kd.R_mono (Kd.R_told (Kd.R_told (Kd.R_old (by (with_reducible repeat (first | apply Kd.R_alloc | apply Kd.R_drewN | apply Kd.R_drew)); exact HO_5.out) hb) (Kd.R_base ho0)) (Kd.R_base ho1)) (fun _ h_ => h_.1)); have n1_ := Aside0.mk (Kd.R_mono (Kd.R_told (Kd.R_told (Kd.R_old (by (with_reducible repeat (first | apply Kd.R_alloc | apply Kd.R_drewN | apply Kd.R_drew)); exact HO_7.out) hb) (Kd.R_base ho0)) (Kd.R_base ho1)) (fun _ h_ => h_.1)); have n2_ := Aside0.mk (Kd.R_lower (Kd.R_new' (Kd.R_new' ho0 (Kd.R_lt (by (with_reducible repeat (first | apply Kd.R_alloc | apply Kd.R_drewN | apply Kd.R_drew)); exact HO_5.out))) (Kd.R_lt (by (with_reducible repeat (first | apply Kd.R_alloc | apply Kd.R_drewN | apply Kd.R_drew)); exact HO_7.out))) (below_size (by repeat (first | (with_reducible first | exact HB.out | apply below_alloc | apply pw_below_drewN | apply below_drew1) | exact HB.out)))); have n3_ := Aside0.mk (Kd.R_lower (Kd.R_new' (Kd.R_new' ho1 (Kd.R_lt (by (with_reducible repeat (first | apply Kd.R_alloc | apply Kd.R_drewN | apply Kd.R_drew)); exact HO_5.out))) (Kd.R_lt (by (with_reducible repeat (first | apply Kd.R_alloc | apply Kd.R_drewN | apply Kd.R_drew)); exact HO_7.out))) (below_size (by repeat (first | (with_reducible first | exact HB.out | apply below_alloc | apply pw_below_drewN | apply below_drew1) | exact HB.out)))); have n4_ := Aside0.mk (below_step (by repeat (first | (with_reducible first | exact HB.out | apply below_alloc | apply pw_below_drewN | apply below_drew1) | exact HB.out)) hb); clear HO_5; clear HO_7; clear HB; have HO_5 := n0_; have HO_7 := n1_; have HO118 := n2_; have HO120 := n3_; have HB := n4_; clear n0_ n1_ n2_ n3_ n4_; (try clear hb); (try clear hb2); (try clear hk); (try clear hi); (try clear ho0); (try clear ho1); obtain ⟨Ao23, co23, eo23⟩ := Kd.R_slice HO118.out; subst eo23; obtain ⟨Ao24, co24, eo24⟩ := Kd.R_slice HO120.out; subst eo24) | ((with_reducible refine gate_callee (f := 24) rfl ?_); refine goesL_ (some 79) rfl rfl Try.func24 (by kernel_rfl) rfl #[.slice Ao23 t115.length co23, .slice Ao24 t116.length co24] rfl (by (try simp only [List.map_toArray, List.map_cons, List.map_nil]); first | done | rfl | (simp only [List.length_drop, List.length_take]; rfl)) ?_; (with_reducible refine (impl_JoinWord.calls kj7 _ _ t115 _ _ t116 t121 t122 _ ?side1 ?side2 ?side3 ?side4 A19.out).mono ?_); (case side1 => repeat (first | exact (Kd.R_reads' HO118.out).2.2 | (with_reducible refine Kd.C_alloc ?_ _) | (with_reducible refine Kd.C_drewN ?_ _) | (with_reducible refine Kd.C_drew ?_))); (case side2 => exact (Kd.R_reads' HO118.out).2.1); (case side3 => repeat (first | exact (Kd.R_reads' HO120.out).2.2 | (with_reducible refine Kd.C_alloc ?_ _) | (with_reducible refine Kd.C_drewN ?_ _) | (with_reducible refine Kd.C_drew ?_))); (case side4 => exact (Kd.R_reads' HO120.out).2.1); rintro e w25 ⟨v123, rfl, ho0, hb⟩; refine ⟨_, rfl, ?_⟩; have n0_ := Aside0.mk (Kd.R_elder' (by (with_reducible repeat (first | apply Kd.R_alloc | apply Kd.R_drewN | apply Kd.R_drew)); exact HO_5.out) (Kd.R_base ho0) hb); have n1_ := Aside0.mk (Kd.R_elder' (by (with_reducible repeat (first | apply Kd.R_alloc | apply Kd.R_drewN | apply Kd.R_drew)); exact HO_7.out) (Kd.R_base ho0) hb); have n2_ := Aside0.mk (Kd.R_elder' (by (with_reducible repeat (first | apply Kd.R_alloc | apply Kd.R_drewN | apply Kd.R_drew)); exact HO118.out) (Kd.R_base ho0) hb); have n3_ := Aside0.mk (Kd.R_elder' (by (with_reducible repeat (first | apply Kd.R_alloc | apply Kd.R_drewN | apply Kd.R_drew)); exact HO120.out) (Kd.R_base ho0) hb); have n4_ := Aside0.mk (Kd.R_lower (Kd.R_new' (Kd.R_new' (Kd.R_new' (Kd.R_new' ho0 (Kd.R_lt (by (with_reducible repeat (first | apply Kd.R_alloc | apply Kd.R_drewN | apply Kd.R_drew)); exact HO_5.out))) (Kd.R_lt (by (with_reducible repeat (first | apply Kd.R_alloc | apply Kd.R_drewN | apply Kd.R_drew)); exact HO_7.out))) (Kd.R_lt (by (with_reducible repeat (first | apply Kd.R_alloc | apply Kd.R_drewN | apply Kd.R_drew)); exact HO118.out))) (Kd.R_lt (by (with_reducible repeat (first | apply Kd.R_alloc | apply Kd.R_drewN | apply Kd.R_drew)); exact HO120.out))) (below_size (by repeat (first | (with_reducible first | exact HB.out | apply below_alloc | apply pw_below_drewN | apply below_drew1) | exact HB.out)))); have n5_ := Aside0.mk (below_step (by repeat (first | (with_reducible first | exact HB.out | apply below_alloc | apply pw_below_drewN | apply below_drew1) | exact HB.out)) hb); clear HO_5; clear HO_7; clear HO118; clear HO120; clear HB; have HO_5 := n0_; have HO_7 := n1_; have HO118 := n2_; have HO120 := n3_; have HO124 := n4_; have HB := n5_; clear n0_ n1_ n2_ n3_ n4_ n5_; (try clear hb); (try clear hb2); (try clear hk); (try clear hi); (try clear ho0)) | ((with_reducible refine gate_callee (f := 25) rfl ?_); refine goesL_ (some 85) rfl rfl Try.func25 (by kernel_rfl) rfl #[.slice Ao23 t115.length co23, .slice Ao24 t116.length co24] rfl (by (try simp only [List.map_toArray, List.map_cons, List.map_nil]); first | done | rfl | (simp only [List.length_drop, List.length_take]; rfl)) ?_; (with_reducible refine (spec_JoinWord.calls kj7 _ _ t115 _ _ t116 t125 t126 _ ?side1 ?side2 ?side3 ?side4 A20.out).mono ?_); (case side1 => repeat (first | exact (Kd.R_reads' HO118.out).2.2 | (with_reducible refine Kd.C_alloc ?_ _) | (with_reducible refine Kd.C_drewN ?_ _) | (with_reducible refine Kd.C_drew ?_))); (case side2 => exact (Kd.R_reads' HO118.out).2.1); (case side3 => repeat (first | exact (Kd.R_reads' HO120.out).2.2 | (with_reducible refine Kd.C_alloc ?_ _) | (with_reducible refine Kd.C_drewN ?_ _) | (with_reducible refine Kd.C_drew ?_))); (case side4 => exact (Kd.R_reads' HO120.out).2.1); rintro e w26 ⟨v127, rfl, ho0, hb⟩; refine ⟨_, rfl, ?_⟩; have n0_ := Aside0.mk (Kd.R_elder' (by (with_reducible repeat (first | apply Kd.R_alloc | apply Kd.R_drewN | apply Kd.R_drew)); exact HO_5.out) (Kd.R_base ho0) hb); have n1_ := Aside0.mk (Kd.R_elder' (by (with_reducible repeat (first | apply Kd.R_alloc | apply Kd.R_drewN | apply Kd.R_drew)); exact HO_7.out) (Kd.R_base ho0) hb); have n2_ := Aside0.mk (Kd.R_elder' (by (with_reducible repeat (first | apply Kd.R_alloc | apply Kd.R_drewN | apply Kd.R_drew)); exact HO118.out) (Kd.R_base ho0) hb); have n3_ := Aside0.mk (Kd.R_elder' (by (with_reducible repeat (first | apply Kd.R_alloc | apply Kd.R_drewN | apply Kd.R_drew)); exact HO120.out) (Kd.R_base ho0) hb); have n4_ := Aside0.mk (Kd.R_elder' (by (with_reducible repeat (first | apply Kd.R_alloc | apply Kd.R_drewN | apply Kd.R_drew)); exact HO124.out) (Kd.R_base ho0) hb); have n5_ := Aside0.mk (Kd.R_lower (Kd.R_new' (Kd.R_new' (Kd.R_new' (Kd.R_new' (Kd.R_new' ho0 (Kd.R_lt (by (with_reducible repeat (first | apply Kd.R_alloc | apply Kd.R_drewN | apply Kd.R_drew)); exact HO_5.out))) (Kd.R_lt (by (with_reducible repeat (first | apply Kd.R_alloc | apply Kd.R_drewN | apply Kd.R_drew)); exact HO_7.out))) (Kd.R_lt (by (with_reducible repeat (first | apply Kd.R_alloc | apply Kd.R_drewN | apply Kd.R_drew)); exact HO118.out))) (Kd.R_lt (by (with_reducible repeat (first | apply Kd.R_alloc | apply Kd.R_drewN | apply Kd.R_drew)); exact HO120.out))) (Kd.R_lt (by (with_reducible repeat (first | apply Kd.R_alloc | apply Kd.R_drewN | apply Kd.R_drew)); exact HO124.out))) (below_size (by repeat (first | (with_reducible first | exact HB.out | apply below_alloc | apply pw_below_drewN | apply below_drew1) | exact HB.out)))); have n6_ := Aside0.mk (below_step (by repeat (first | (with_reducible first | exact HB.out | apply below_alloc | apply pw_below_drewN | apply below_drew1) | exact HB.out)) hb); clear HO_5; clear HO_7; clear HO118; clear HO120; clear HO124; clear HB; have HO_5 := n0_; have HO_7 := n1_; have HO118 := n2_; have HO120 := n3_; have HO124 := n4_; have HO128 := n5_; have HB := n6_; clear n0_ n1_ n2_ n3_ n4_ n5_ n6_; (try clear hb); (try clear hb2); (try clear hk); (try clear hi); (try clear ho0)))
          (try simp only [Act.put, List.setIfInBounds_toArray, List.set_cons_zero, List.set_cons_succ])
          go_cut [96] (fun v96 wc => ∃ (kq : Nat) (x96_20 : Bool), v96 = .bool x96_20 ∧ Aside0 (laws_FnOperatorsJoin.j1 kq t102 t103 t106 t111 t115 t116 t121 t122 x96_20 = some r) ∧ Aside0 (kq ≤ kj7) ∧ Aside0 (Kd.R (Kd.int .i64) 3 wc w.heap.size (fun k_ => some k_ ≠ (v108 : Value).ownBlock ∧ some k_ ≠ ((.slice Ao23 t115.length co23) : Value).ownBlock ∧ some k_ ≠ ((.slice Ao24 t116.length co24) : Value).ownBlock ∧ some k_ ≠ (v123 : Value).ownBlock) (.slice Ao10 t102.length co10) t102) ∧ Aside0 (Kd.R (Kd.int .i64) 3 wc w.heap.size (fun k_ => some k_ ≠ ((.slice Ao10 t102.length co10) : Value).ownBlock ∧ some k_ ≠ ((.slice Ao23 t115.length co23) : Value).ownBlock ∧ some k_ ≠ ((.slice Ao24 t116.length co24) : Value).ownBlock ∧ some k_ ≠ (v123 : Value).ownBlock) v108 t106) ∧ Aside0 (Kd.R (Kd.int .i64) 3 wc w.heap.size (fun k_ => some k_ ≠ ((.slice Ao10 t102.length co10) : Value).ownBlock ∧ some k_ ≠ (v108 : Value).ownBlock ∧ some k_ ≠ ((.slice Ao24 t116.length co24) : Value).ownBlock ∧ some k_ ≠ (v123 : Value).ownBlock) (.slice Ao23 t115.length co23) t115) ∧ Aside0 (Kd.R (Kd.int .i64) 3 wc w.heap.size (fun k_ => some k_ ≠ ((.slice Ao10 t102.length co10) : Value).ownBlock ∧ some k_ ≠ (v108 : Value).ownBlock ∧ some k_ ≠ ((.slice Ao23 t115.length co23) : Value).ownBlock ∧ some k_ ≠ (v123 : Value).ownBlock) (.slice Ao24 t116.length co24) t116) ∧ Aside0 (Kd.R (Kd.int .i64) 3 wc w.heap.size (fun k_ => some k_ ≠ ((.slice Ao10 t102.length co10) : Value).ownBlock ∧ some k_ ≠ (v108 : Value).ownBlock ∧ some k_ ≠ ((.slice Ao23 t115.length co23) : Value).ownBlock ∧ some k_ ≠ ((.slice Ao24 t116.length co24) : Value).ownBlock) v123 t121) ∧ Aside0 (Below w.heap.size w wc))
          case first => as_aux_lemma =>
            have H := HC21.out
            clear HC21
            by_cases c27 : (t122 != t126) = true
            · rw [if_pos c27] at H
              have c27b0 : (t122 != t126) = true := c27
              (try (have c27b1 : decide (t122 = t126) = false := by simpa using c27))
              (try (have c27b2 : (t122 == t126) = false := by simpa using c27))
              (try (have c27b3 : ¬ (t122 = t126) := by simpa using c27))
              clear c27
              (first | rw [c27b0] | (simp only [i64_w, i32_w]; rw [c27b0]) | skip)
              have H' := Aside0.mk H
              clear H
              go_wp2
              go_meet
              case rel => exact ⟨_, (true), (by first | rfl | (simp; done) | (simp [*]; done)), H', ⟨by have := HJ7.out; first | omega | exact Nat.le_refl _⟩, ⟨by (with_reducible repeat (first | apply Kd.R_alloc | apply Kd.R_drewN | apply Kd.R_drew)); exact Kd.R_mono HO_5.out (fun _ hk => ⟨hk.1.1.1.1, ⟨hk.1.1.1.2, ⟨hk.1.1.2, hk.1.2⟩⟩⟩)⟩, ⟨by (with_reducible repeat (first | apply Kd.R_alloc | apply Kd.R_drewN | apply Kd.R_drew)); exact Kd.R_mono HO_7.out (fun _ hk => ⟨hk.1.1.1.1, ⟨hk.1.1.1.2, ⟨hk.1.1.2, hk.1.2⟩⟩⟩)⟩, ⟨by (with_reducible repeat (first | apply Kd.R_alloc | apply Kd.R_drewN | apply Kd.R_drew)); exact Kd.R_mono HO118.out (fun _ hk => ⟨hk.1.1.1.2, ⟨hk.1.1.2, ⟨hk.1.1.1.1, hk.1.2⟩⟩⟩)⟩, ⟨by (with_reducible repeat (first | apply Kd.R_alloc | apply Kd.R_drewN | apply Kd.R_drew)); exact Kd.R_mono HO120.out (fun _ hk => ⟨hk.1.1.1.2, ⟨hk.1.1.2, ⟨hk.1.1.1.1, hk.1.2⟩⟩⟩)⟩, ⟨by (with_reducible repeat (first | apply Kd.R_alloc | apply Kd.R_drewN | apply Kd.R_drew)); exact Kd.R_mono HO124.out (fun _ hk => ⟨hk.1.1.1.1.2, ⟨hk.1.1.1.2, ⟨hk.1.1.2, hk.1.2⟩⟩⟩)⟩, ⟨by repeat (first | (with_reducible first | exact HB.out | apply below_alloc | apply pw_below_drewN | apply below_drew1) | exact HB.out)⟩⟩
            · rw [if_neg c27] at H
              have c27b0 : (t122 != t126) = false := by simpa using c27
              (try (have c27b1 : decide (t122 = t126) = true := by simpa using c27))
              (try (have c27b2 : (t122 == t126) = true := by simpa using c27))
              clear c27
              (first | rw [c27b0] | (simp only [i64_w, i32_w]; rw [c27b0]) | skip)
              replace H := Option.bind_eq_some_iff.mp H
              obtain ⟨t129, A280, H⟩ := H
              replace H : (laws_FnOperatorsJoin.j1 kj7 t102 t103 t106 t111 t115 t116 t121 t122 (!t129)) = some r := H
              have A28 := Aside0.mk A280
              clear A280
              have H' := Aside0.mk H
              clear H
              obtain ⟨Ao29, co29, eo29⟩ := Kd.R_slice HO124.out
              subst eo29
              obtain ⟨Ao30, co30, eo30⟩ := Kd.R_slice HO128.out
              subst eo30
              go_wp2_with (first | (go_at_call 22; (with_reducible refine (laws_uSame.calls kj7 _ _ t121 _ _ t125 t129 _ ?side1 ?side2 ?side3 ?side4 A28.out).mono ?_); (case side1 => repeat (first | exact (Kd.R_reads' HO124.out).2.2 | (with_reducible refine Kd.C_alloc ?_ _) | (with_reducible refine Kd.C_drewN ?_ _) | (with_reducible refine Kd.C_drew ?_))); (case side2 => exact (Kd.R_reads' HO124.out).2.1); (case side3 => repeat (first | exact (Kd.R_reads' HO128.out).2.2 | (with_reducible refine Kd.C_alloc ?_ _) | (with_reducible refine Kd.C_drewN ?_ _) | (with_reducible refine Kd.C_drew ?_))); (case side4 => exact (Kd.R_reads' HO128.out).2.1); rintro e w' ⟨rfl, ⟨nd, rfl⟩⟩))
              go_meet
              case rel => exact ⟨_, (!t129), (by first | rfl | (simp; done) | (simp [*]; done)), H', ⟨by have := HJ7.out; first | omega | exact Nat.le_refl _⟩, ⟨by (with_reducible repeat (first | apply Kd.R_alloc | apply Kd.R_drewN | apply Kd.R_drew)); exact Kd.R_mono HO_5.out (fun _ hk => ⟨hk.1.1.1.1, ⟨hk.1.1.1.2, ⟨hk.1.1.2, hk.1.2⟩⟩⟩)⟩, ⟨by (with_reducible repeat (first | apply Kd.R_alloc | apply Kd.R_drewN | apply Kd.R_drew)); exact Kd.R_mono HO_7.out (fun _ hk => ⟨hk.1.1.1.1, ⟨hk.1.1.1.2, ⟨hk.1.1.2, hk.1.2⟩⟩⟩)⟩, ⟨by (with_reducible repeat (first | apply Kd.R_alloc | apply Kd.R_drewN | apply Kd.R_drew)); exact Kd.R_mono HO118.out (fun _ hk => ⟨hk.1.1.1.2, ⟨hk.1.1.2, ⟨hk.1.1.1.1, hk.1.2⟩⟩⟩)⟩, ⟨by (with_reducible repeat (first | apply Kd.R_alloc | apply Kd.R_drewN | apply Kd.R_drew)); exact Kd.R_mono HO120.out (fun _ hk => ⟨hk.1.1.1.2, ⟨hk.1.1.2, ⟨hk.1.1.1.1, hk.1.2⟩⟩⟩)⟩, ⟨by (with_reducible repeat (first | apply Kd.R_alloc | apply Kd.R_drewN | apply Kd.R_drew)); exact Kd.R_mono HO124.out (fun _ hk => ⟨hk.1.1.1.1.2, ⟨hk.1.1.1.2, ⟨hk.1.1.2, hk.1.2⟩⟩⟩)⟩, ⟨by repeat (first | (with_reducible first | exact HB.out | apply below_alloc | apply pw_below_drewN | apply below_drew1) | exact HB.out)⟩⟩
          case rest => as_aux_lemma =>
            clear HC21
            try clear c1
            try clear c2
            try clear p2
            try clear c4
            try clear c13
            try clear c13b0
            try clear c13b1
            try clear c13b2
            try clear c17
            try clear c18
            try clear c19
            try clear c20
            try clear c21
            try clear c23
            try clear c24
            try clear c25
            try clear c27
            try clear c27b0
            try clear c27b1
            try clear c27b2
            try clear p2
            obtain ⟨kq, x96_20, rfl, HA, HJ20, HO_5, HO_7, HO_11, HO_12, HO_13, HB⟩ := hcut
            cases kq with
            | zero => exact absurd HA.out (by simp [laws_FnOperatorsJoin.j1])
            | succ kj20 =>
              have H := HA.out
              clear HA
              simp only [laws_FnOperatorsJoin.j1] at H
              by_cases c31 : x96_20 = true
              · subst c31
                exact absurd ((show (some false : Option Bool) = some r from by rw [if_pos rfl] at H; exact H).trans (congrArg some HR_.out)) (by simp)
              · replace c31 := Bool.eq_false_iff.mpr c31
                subst c31
                have H1 : (if t122 = true then (laws_FnOperatorsJoin.l0 kj20 t102 t103 t106 t111 t121 t115 t116 (t116.length : Int) 0) else (laws_FnOperatorsJoin.j3 kj20 t102 t103 t106 t111)) = some r := by rw [if_neg (show ¬ (false = true) by decide)] at H; exact H
                clear H
                have H := H1
                clear H1
                have HC32 := Aside0.mk H
                clear H
                go_upto_if 97 with (fail)
                go_cut [] (fun wc => ∃ (kq : Nat), Aside0 (laws_FnOperatorsJoin.j3 kq t102 t103 t106 t111 = some r) ∧ Aside0 (kq ≤ kj20) ∧ Aside0 (Kd.R (Kd.int .i64) 3 wc w.heap.size (fun k_ => some k_ ≠ (v108 : Value).ownBlock) (.slice Ao10 t102.length co10) t102) ∧ Aside0 (Kd.R (Kd.int .i64) 3 wc w.heap.size (fun k_ => some k_ ≠ ((.slice Ao10 t102.length co10) : Value).ownBlock) v108 t106) ∧ Aside0 (Below w.heap.size w wc))
                case first => as_aux_lemma =>
                  have H := HC32.out
                  clear HC32
                  by_cases c33 : t122 = true
                  · subst c33
                    have H1 : (laws_FnOperatorsJoin.l0 kj20 t102 t103 t106 t111 t121 t115 t116 (t116.length : Int) 0) = some r := by rw [if_pos rfl] at H; exact H
                    clear H
                    have H := H1
                    clear H1
                    have H' := Aside0.mk H
                    clear H
                    go_wp2
                    go_loopg [17, 101] kj20 (fun kq v17 v101 w' => ∃ (x17_3 : List Int) (x101_3 : Int), v101 = .int .i64 x101_3 ∧ Aside0 (laws_FnOperatorsJoin.l0 kq t102 t103 t106 t111 t121 x17_3 t116 (t116.length : Int) x101_3 = some r) ∧ Aside0 (kq ≤ kj20) ∧ Aside0 (Kd.R (Kd.int .i64) 3 w' w.heap.size (fun k_ => some k_ ≠ (v108 : Value).ownBlock ∧ some k_ ≠ (v123 : Value).ownBlock ∧ some k_ ≠ (v17 : Value).ownBlock ∧ some k_ ≠ ((.slice Ao24 t116.length co24) : Value).ownBlock) (.slice Ao10 t102.length co10) t102) ∧ Aside0 (Kd.R (Kd.int .i64) 3 w' w.heap.size (fun k_ => some k_ ≠ ((.slice Ao10 t102.length co10) : Value).ownBlock ∧ some k_ ≠ (v123 : Value).ownBlock ∧ some k_ ≠ (v17 : Value).ownBlock ∧ some k_ ≠ ((.slice Ao24 t116.length co24) : Value).ownBlock) v108 t106) ∧ Aside0 (Kd.R (Kd.int .i64) 3 w' w.heap.size (fun k_ => some k_ ≠ ((.slice Ao10 t102.length co10) : Value).ownBlock ∧ some k_ ≠ (v108 : Value).ownBlock ∧ some k_ ≠ (v17 : Value).ownBlock ∧ some k_ ≠ ((.slice Ao24 t116.length co24) : Value).ownBlock) v123 t121) ∧ Aside0 (Kd.R (Kd.int .i64) 3 w' w.heap.size (fun k_ => some k_ ≠ ((.slice Ao10 t102.length co10) : Value).ownBlock ∧ some k_ ≠ (v108 : Value).ownBlock ∧ some k_ ≠ (v123 : Value).ownBlock ∧ some k_ ≠ ((.slice Ao24 t116.length co24) : Value).ownBlock) v17 x17_3) ∧ Aside0 (Kd.R (Kd.int .i64) 3 w' w.heap.size (fun k_ => some k_ ≠ ((.slice Ao10 t102.length co10) : Value).ownBlock ∧ some k_ ≠ (v108 : Value).ownBlock ∧ some k_ ≠ (v123 : Value).ownBlock ∧ some k_ ≠ (v17 : Value).ownBlock) (.slice Ao24 t116.length co24) t116) ∧ Aside0 (Below w.heap.size w w'))
                    case atStart => exact ⟨(t115), (0), (by first | rfl | (simp; done) | (simp [*]; done)), H', ⟨Nat.le_refl _⟩, ⟨by (with_reducible repeat (first | apply Kd.R_alloc | apply Kd.R_drewN | apply Kd.R_drew)); exact Kd.R_mono HO_5.out (fun _ hk => ⟨hk.1, ⟨hk.2.2.2, ⟨hk.2.1, hk.2.2.1⟩⟩⟩)⟩, ⟨by (with_reducible repeat (first | apply Kd.R_alloc | apply Kd.R_drewN | apply Kd.R_drew)); exact Kd.R_mono HO_7.out (fun _ hk => ⟨hk.1, ⟨hk.2.2.2, ⟨hk.2.1, hk.2.2.1⟩⟩⟩)⟩, ⟨by (with_reducible repeat (first | apply Kd.R_alloc | apply Kd.R_drewN | apply Kd.R_drew)); exact HO_13.out⟩, ⟨by (with_reducible repeat (first | apply Kd.R_alloc | apply Kd.R_drewN | apply Kd.R_drew)); exact Kd.R_mono HO_11.out (fun _ hk => ⟨hk.1, ⟨hk.2.1, ⟨hk.2.2.2, hk.2.2.1⟩⟩⟩)⟩, ⟨by (with_reducible repeat (first | apply Kd.R_alloc | apply Kd.R_drewN | apply Kd.R_drew)); exact Kd.R_mono HO_12.out (fun _ hk => ⟨hk.1, ⟨hk.2.1, ⟨hk.2.2.2, hk.2.2.1⟩⟩⟩)⟩, ⟨by repeat (first | (with_reducible first | exact HB.out | apply below_alloc | apply pw_below_drewN | apply below_drew1) | exact HB.out)⟩⟩
                    case round => as_aux_lemma =>
                      clear H'
                      try clear c1
                      try clear c2
                      try clear p2
                      try clear c3
                      try clear c4
                      try clear c13
                      try clear c13b0
                      try clear c13b1
                      try clear c13b2
                      try clear c17
                      try clear c18
                      try clear c19
                      try clear c20
                      try clear c21
                      try clear c23
                      try clear c24
                      try clear c25
                      try clear c27
                      try clear c27b0
                      try clear c27b1
                      try clear c27b2
                      try clear c31
                      try clear c33
                      try clear p2
                      obtain ⟨x17_3, x101_3, rfl, HA, HK3, HO_5, HO_7, HO_13, HO_17, HO_99, HB⟩ := hrel
                      cases gk with
                      | zero => exact absurd HA.out (by simp [laws_FnOperatorsJoin.l0])
                      | succ k3 =>
                        have H := HA.out
                        clear HA
                        simp only [laws_FnOperatorsJoin.l0] at H
                        by_cases c34 : x101_3 < (t116.length : Int)
                        · rw [if_pos c34] at H
                          have c34b0 : decide (x101_3 < (t116.length : Int)) = true := decide_eq_true c34
                          clear c34
                          (first | rw [c34b0] | (simp only [i64_w, i32_w]; rw [c34b0]) | skip)
                          by_cases c35 : 0 ≤ x101_3
                          · rw [if_pos c35] at H
                            have c35b0 : decide (0 ≤ x101_3) = true := decide_eq_true c35
                            clear c35
                            by_cases c36 : x101_3 < (t116.length : Int)
                            · rw [if_pos c36] at H
                              have c36b0 : decide (x101_3 < (t116.length : Int)) = true := decide_eq_true c36
                              clear c36
                              replace H := Option.bind_eq_some_iff.mp H
                              obtain ⟨⟨t131, t132⟩, A370, H⟩ := H
                              replace H : (if t132 = true then (laws_FnOperatorsJoin.l0 k3 t102 t103 t106 t111 t121 t131 t116 (t116.length : Int) (wrap64 (x101_3 + 1))) else (some false)) = some r := H
                              have A37 := Aside0.mk A370
                              clear A370
                              by_cases c38 : t132 = true
                              · subst c38
                                have H1 : (laws_FnOperatorsJoin.l0 k3 t102 t103 t106 t111 t121 t131 t116 (t116.length : Int) (wrap64 (x101_3 + 1))) = some r := by rw [if_pos rfl] at H; exact H
                                clear H
                                have H := H1
                                clear H1
                                have H' := Aside0.mk H
                                clear H
                                have p130 : 0 ≤ (x101_3 : Int) := of_decide_eq_true (by first | (with_reducible assumption) | assumption)
                                have q130 : x101_3 < (t116.length : Int) := of_decide_eq_true (by first | (with_reducible assumption) | assumption)
                                obtain ⟨ad130, e130, hx130_0⟩ := Kd.at_int (Kd.R_reads' HO_99.out).2.2 x101_3 p130 q130
                                cases e130
                                replace p130 := eq_true p130
                                replace q130 := eq_true q130
                                obtain ⟨Ao39, co39, eo39⟩ := Kd.R_slice HO_17.out
                                subst eo39
                                go_wp2_with (first | ((with_reducible refine gate_callee (f := 20) rfl ?_); refine goesL_ (some 108) rfl rfl Try.func20 (by kernel_rfl) rfl #[.slice Ao39 x17_3.length co39, .int .i64 (rd t116 x101_3)] rfl (by (try simp only [List.map_toArray, List.map_cons, List.map_nil]); first | done | rfl | (simp only [List.length_drop, List.length_take]; rfl)) ?_; (with_reducible refine (impl_JoinAt.calls k3 _ _ x17_3 (rd t116 x101_3) t131 true _ ?side1 ?side2 A37.out).mono ?_); (case side1 => repeat (first | exact (Kd.R_reads' HO_17.out).2.2 | (with_reducible refine Kd.C_alloc ?_ _) | (with_reducible refine Kd.C_drewN ?_ _) | (with_reducible refine Kd.C_drew ?_))); (case side2 => exact (Kd.R_reads' HO_17.out).2.1); rintro e w40 ⟨v133, rfl, ho0, hb⟩; refine ⟨_, rfl, ?_⟩; have n0_ := Aside0.mk (Kd.R_elder' (by (with_reducible repeat (first | apply Kd.R_alloc | apply Kd.R_drewN | apply Kd.R_drew)); exact HO_5.out) (Kd.R_base ho0) hb); have n1_ := Aside0.mk (Kd.R_elder' (by (with_reducible repeat (first | apply Kd.R_alloc | apply Kd.R_drewN | apply Kd.R_drew)); exact HO_7.out) (Kd.R_base ho0) hb); have n2_ := Aside0.mk (Kd.R_elder' (by (with_reducible repeat (first | apply Kd.R_alloc | apply Kd.R_drewN | apply Kd.R_drew)); exact HO_13.out) (Kd.R_base ho0) hb); have n3_ := Aside0.mk (Kd.R_elder' (by (with_reducible repeat (first | apply Kd.R_alloc | apply Kd.R_drewN | apply Kd.R_drew)); exact HO_17.out) (Kd.R_base ho0) hb); have n4_ := Aside0.mk (Kd.R_elder' (by (with_reducible repeat (first | apply Kd.R_alloc | apply Kd.R_drewN | apply Kd.R_drew)); exact HO_99.out) (Kd.R_base ho0) hb); have n5_ := Aside0.mk (Kd.R_lower (Kd.R_new' (Kd.R_new' (Kd.R_new' (Kd.R_new' (Kd.R_new' ho0 (Kd.R_lt (by (with_reducible repeat (first | apply Kd.R_alloc | apply Kd.R_drewN | apply Kd.R_drew)); exact HO_5.out))) (Kd.R_lt (by (with_reducible repeat (first | apply Kd.R_alloc | apply Kd.R_drewN | apply Kd.R_drew)); exact HO_7.out))) (Kd.R_lt (by (with_reducible repeat (first | apply Kd.R_alloc | apply Kd.R_drewN | apply Kd.R_drew)); exact HO_13.out))) (Kd.R_lt (by (with_reducible repeat (first | apply Kd.R_alloc | apply Kd.R_drewN | apply Kd.R_drew)); exact HO_17.out))) (Kd.R_lt (by (with_reducible repeat (first | apply Kd.R_alloc | apply Kd.R_drewN | apply Kd.R_drew)); exact HO_99.out))) (below_size (by repeat (first | (with_reducible first | exact HB.out | apply below_alloc | apply pw_below_drewN | apply below_drew1) | exact HB.out)))); have n6_ := Aside0.mk (below_step (by repeat (first | (with_reducible first | exact HB.out | apply below_alloc | apply pw_below_drewN | apply below_drew1) | exact HB.out)) hb); clear HO_5; clear HO_7; clear HO_13; clear HO_17; clear HO_99; clear HB; have HO_5 := n0_; have HO_7 := n1_; have HO_13 := n2_; have HO_17 := n3_; have HO_99 := n4_; have HO134 := n5_; have HB := n6_; clear n0_ n1_ n2_ n3_ n4_ n5_ n6_; (try clear hb); (try clear hb2); (try clear hk); (try clear hi); (try clear ho0)))
                                go_roundg k3
                                case measure => have := HJ7.out; have := HJ20.out; have := HK3.out; omega
                                case rel => exact ⟨(t131), (wrap64 (x101_3 + 1)), (by first | rfl | (simp; done) | (simp [*]; done)), H', ⟨by have := HJ7.out; have := HJ20.out; have := HK3.out; omega⟩, ⟨by (with_reducible repeat (first | apply Kd.R_alloc | apply Kd.R_drewN | apply Kd.R_drew)); exact Kd.R_mono HO_5.out (fun _ hk => ⟨hk.1.1, ⟨hk.1.2.1, ⟨hk.2, hk.1.2.2.2⟩⟩⟩)⟩, ⟨by (with_reducible repeat (first | apply Kd.R_alloc | apply Kd.R_drewN | apply Kd.R_drew)); exact Kd.R_mono HO_7.out (fun _ hk => ⟨hk.1.1, ⟨hk.1.2.1, ⟨hk.2, hk.1.2.2.2⟩⟩⟩)⟩, ⟨by (with_reducible repeat (first | apply Kd.R_alloc | apply Kd.R_drewN | apply Kd.R_drew)); exact Kd.R_mono HO_13.out (fun _ hk => ⟨hk.1.1, ⟨hk.1.2.1, ⟨hk.2, hk.1.2.2.2⟩⟩⟩)⟩, ⟨by (with_reducible repeat (first | apply Kd.R_alloc | apply Kd.R_drewN | apply Kd.R_drew)); exact Kd.R_mono HO134.out (fun _ hk => ⟨hk.1.1.1.1.2, ⟨hk.1.1.1.2, ⟨hk.1.1.2, hk.2⟩⟩⟩)⟩, ⟨by (with_reducible repeat (first | apply Kd.R_alloc | apply Kd.R_drewN | apply Kd.R_drew)); exact Kd.R_mono HO_99.out (fun _ hk => ⟨hk.1.1, ⟨hk.1.2.1, ⟨hk.1.2.2.1, hk.2⟩⟩⟩)⟩, ⟨by repeat (first | (with_reducible first | exact HB.out | apply below_alloc | apply pw_below_drewN | apply below_drew1) | exact HB.out)⟩⟩
                              · replace c38 := Bool.eq_false_iff.mpr c38
                                subst c38
                                exact absurd ((show (some false : Option Bool) = some r from by rw [if_neg (show ¬ (false = true) by decide)] at H; exact H).trans (congrArg some HR_.out)) (by simp)
                            · rw [if_neg c36] at H
                              exact absurd H (by simp)
                          · rw [if_neg c35] at H
                            exact absurd H (by simp)
                        · rw [if_neg c34] at H
                          have c34b0 : decide (x101_3 < (t116.length : Int)) = false := decide_eq_false c34
                          clear c34
                          (first | rw [c34b0] | (simp only [i64_w, i32_w]; rw [c34b0]) | skip)
                          replace H := Option.bind_eq_some_iff.mp H
                          obtain ⟨t135, A430, H⟩ := H
                          replace H : (if t135 = true then (laws_FnOperatorsJoin.j3 k3 t102 t103 t106 t111) else (some false)) = some r := H
                          have A43 := Aside0.mk A430
                          clear A430
                          by_cases c44 : t135 = true
                          · subst c44
                            have H1 : (laws_FnOperatorsJoin.j3 k3 t102 t103 t106 t111) = some r := by rw [if_pos rfl] at H; exact H
                            clear H
                            have H := H1
                            clear H1
                            have H' := Aside0.mk H
                            clear H
                            obtain ⟨Ao45, co45, eo45⟩ := Kd.R_slice HO_17.out
                            subst eo45
                            obtain ⟨Ao46, co46, eo46⟩ := Kd.R_slice HO_13.out
                            subst eo46
                            go_wp2_with (first | ((with_reducible refine gate_callee (f := 22) rfl ?_); refine goesL_ (some 117) rfl rfl Try.func22 (by kernel_rfl) rfl #[.slice Ao45 x17_3.length co45, .slice Ao46 t121.length co46] rfl (by (try simp only [List.map_toArray, List.map_cons, List.map_nil]); first | done | rfl | (simp only [List.length_drop, List.length_take]; rfl)) ?_; (with_reducible refine (laws_uSame.calls k3 _ _ x17_3 _ _ t121 true _ ?side1 ?side2 ?side3 ?side4 A43.out).mono ?_); (case side1 => repeat (first | exact (Kd.R_reads' HO_17.out).2.2 | (with_reducible refine Kd.C_alloc ?_ _) | (with_reducible refine Kd.C_drewN ?_ _) | (with_reducible refine Kd.C_drew ?_))); (case side2 => exact (Kd.R_reads' HO_17.out).2.1); (case side3 => repeat (first | exact (Kd.R_reads' HO_13.out).2.2 | (with_reducible refine Kd.C_alloc ?_ _) | (with_reducible refine Kd.C_drewN ?_ _) | (with_reducible refine Kd.C_drew ?_))); (case side4 => exact (Kd.R_reads' HO_13.out).2.1); rintro e w' ⟨rfl, ⟨nd, rfl⟩⟩; refine ⟨_, rfl, ?_⟩))
                            go_meet
                            case rel => exact ⟨_, H', ⟨by have := HJ7.out; have := HJ20.out; have := HK3.out; first | omega | exact Nat.le_refl _⟩, ⟨by (with_reducible repeat (first | apply Kd.R_alloc | apply Kd.R_drewN | apply Kd.R_drew)); exact Kd.R_mono HO_5.out (fun _ hk => hk.1)⟩, ⟨by (with_reducible repeat (first | apply Kd.R_alloc | apply Kd.R_drewN | apply Kd.R_drew)); exact Kd.R_mono HO_7.out (fun _ hk => hk.1)⟩, ⟨by repeat (first | (with_reducible first | exact HB.out | apply below_alloc | apply pw_below_drewN | apply below_drew1) | exact HB.out)⟩⟩
                          · replace c44 := Bool.eq_false_iff.mpr c44
                            subst c44
                            exact absurd ((show (some false : Option Bool) = some r from by rw [if_neg (show ¬ (false = true) by decide)] at H; exact H).trans (congrArg some HR_.out)) (by simp)
                  · replace c33 := Bool.eq_false_iff.mpr c33
                    subst c33
                    have H1 : (laws_FnOperatorsJoin.j3 kj20 t102 t103 t106 t111) = some r := by rw [if_neg (show ¬ (false = true) by decide)] at H; exact H
                    clear H
                    have H := H1
                    clear H1
                    have H' := Aside0.mk H
                    clear H
                    go_wp2
                    go_meet
                    case rel => exact ⟨_, H', ⟨by have := HJ7.out; have := HJ20.out; first | omega | exact Nat.le_refl _⟩, ⟨by (with_reducible repeat (first | apply Kd.R_alloc | apply Kd.R_drewN | apply Kd.R_drew)); exact Kd.R_mono HO_5.out (fun _ hk => hk.1)⟩, ⟨by (with_reducible repeat (first | apply Kd.R_alloc | apply Kd.R_drewN | apply Kd.R_drew)); exact Kd.R_mono HO_7.out (fun _ hk => hk.1)⟩, ⟨by repeat (first | (with_reducible first | exact HB.out | apply below_alloc | apply pw_below_drewN | apply below_drew1) | exact HB.out)⟩⟩
                case rest => as_aux_lemma =>
                  clear HC32
                  try clear c1
                  try clear p1
                  try clear q1
                  try clear hx1
                  try clear c2
                  try clear p2
                  try clear c3
                  try clear c4
                  try clear p6
                  try clear c13
                  try clear c13b0
                  try clear c13b1
                  try clear c13b2
                  try clear p13
                  try clear q13
                  try clear hx13
                  try clear c17
                  try clear c18
                  try clear c19
                  try clear c20
                  try clear c21
                  try clear c22
                  try clear c23
                  try clear c24
                  try clear c25
                  try clear c27
                  try clear c27b0
                  try clear c27b1
                  try clear c27b2
                  try clear c31
                  try clear c33
                  try clear c34
                  try clear c34b0
                  try clear c35
                  try clear c35b0
                  try clear c36
                  try clear c36b0
                  try clear c38
                  try clear c44
                  try clear hx130_0
                  try clear p130
                  try clear p2
                  try clear q130
                  obtain ⟨kq, HA, HJ31, HO_5, HO_7, HB⟩ := hcut
                  cases kq with
                  | zero => exact absurd HA.out (by simp [laws_FnOperatorsJoin.j3])
                  | succ kj31 =>
                    have H := HA.out
                    clear HA
                    simp only [laws_FnOperatorsJoin.j3] at H
                    by_cases c49 : t111 = true
                    · subst c49
                      have H1 : ((impl_JoinAt.f kj31 t106 t103).bind fun bt136 => (if (t102.length : Int) = 0 then (none) else ((impl_JoinWord.f kj31 t102 (([t103, Int.tmod (wrap64 (t103 + 1)) (t102.length : Int), t103] : List Int))).bind fun bt143 => ((impl_JoinWord.f kj31 t102 (([t103, Int.tmod (wrap64 ((wrap64 (t103 + (t102.length : Int))) - 1)) (t102.length : Int), t103] : List Int))).bind fun bt150 => ((impl_SmallArcs.f kj31 t106).bind fun bt154 => (if bt136.2 = true then (if bt143.2 = true then (if bt150.2 = true then (if bt154.2 = true then ((impl_IsPattern.f kj31 t106).bind fun t158 => (if t158 = true then ((laws_uSame.f kj31 bt136.1 t106).bind fun t159 => (if t159 = true then ((laws_uSame.f kj31 bt143.1 t106).bind fun t160 => (if t160 = true then ((laws_uSame.f kj31 bt150.1 t106).bind fun t161 => (if t161 = true then ((laws_uHas.f kj31 bt154.1 t103).bind fun t162 => (laws_FnOperatorsJoin.j4 kj31 t102 t103 t106 (t102.length : Int) (!t162))) else (laws_FnOperatorsJoin.j4 kj31 t102 t103 t106 (t102.length : Int) true))) else (laws_FnOperatorsJoin.j4 kj31 t102 t103 t106 (t102.length : Int) true))) else (laws_FnOperatorsJoin.j4 kj31 t102 t103 t106 (t102.length : Int) true))) else (laws_FnOperatorsJoin.j4 kj31 t102 t103 t106 (t102.length : Int) true))) else (laws_FnOperatorsJoin.j4 kj31 t102 t103 t106 (t102.length : Int) true)) else (laws_FnOperatorsJoin.j4 kj31 t102 t103 t106 (t102.length : Int) true)) else (laws_FnOperatorsJoin.j4 kj31 t102 t103 t106 (t102.length : Int) true)) else (laws_FnOperatorsJoin.j4 kj31 t102 t103 t106 (t102.length : Int) true))))))) = some r := by rw [if_pos rfl] at H; exact H
                      clear H
                      have H := H1
                      clear H1
                      replace H := Option.bind_eq_some_iff.mp H
                      obtain ⟨⟨t136, t137⟩, A500, H⟩ := H
                      replace H : (if (t102.length : Int) = 0 then (none) else ((impl_JoinWord.f kj31 t102 (([t103, Int.tmod (wrap64 (t103 + 1)) (t102.length : Int), t103] : List Int))).bind fun bt143 => ((impl_JoinWord.f kj31 t102 (([t103, Int.tmod (wrap64 ((wrap64 (t103 + (t102.length : Int))) - 1)) (t102.length : Int), t103] : List Int))).bind fun bt150 => ((impl_SmallArcs.f kj31 t106).bind fun bt154 => (if t137 = true then (if bt143.2 = true then (if bt150.2 = true then (if bt154.2 = true then ((impl_IsPattern.f kj31 t106).bind fun t158 => (if t158 = true then ((laws_uSame.f kj31 t136 t106).bind fun t159 => (if t159 = true then ((laws_uSame.f kj31 bt143.1 t106).bind fun t160 => (if t160 = true then ((laws_uSame.f kj31 bt150.1 t106).bind fun t161 => (if t161 = true then ((laws_uHas.f kj31 bt154.1 t103).bind fun t162 => (laws_FnOperatorsJoin.j4 kj31 t102 t103 t106 (t102.length : Int) (!t162))) else (laws_FnOperatorsJoin.j4 kj31 t102 t103 t106 (t102.length : Int) true))) else (laws_FnOperatorsJoin.j4 kj31 t102 t103 t106 (t102.length : Int) true))) else (laws_FnOperatorsJoin.j4 kj31 t102 t103 t106 (t102.length : Int) true))) else (laws_FnOperatorsJoin.j4 kj31 t102 t103 t106 (t102.length : Int) true))) else (laws_FnOperatorsJoin.j4 kj31 t102 t103 t106 (t102.length : Int) true)) else (laws_FnOperatorsJoin.j4 kj31 t102 t103 t106 (t102.length : Int) true)) else (laws_FnOperatorsJoin.j4 kj31 t102 t103 t106 (t102.length : Int) true)) else (laws_FnOperatorsJoin.j4 kj31 t102 t103 t106 (t102.length : Int) true)))))) = some r := H
                      have A50 := Aside0.mk A500
                      clear A500
                      by_cases c51 : (t102.length : Int) = 0
                      · rw [if_pos c51] at H
                        exact absurd H (by simp)
                      · rw [if_neg c51] at H
                        have c51b0 : ((t102.length : Int) == 0) = false := beq_eq_false_iff_ne.mpr c51
                        have c51b1 : ((t102.length : Int) != 0) = true := bne_iff_ne.mpr c51
                        have c51b2 : ¬ (t102 = []) := fun h_ => c51 (by rw [h_]; rfl)
                        obtain ⟨y140, hy140⟩ : ∃ y_ : List Int, y_ = (([t103, Int.tmod (wrap64 (t103 + 1)) (t102.length : Int), t103] : List Int)) := ⟨_, rfl⟩
                        replace H : ((impl_JoinWord.f kj31 t102 y140).bind fun bt143 => ((impl_JoinWord.f kj31 t102 (([t103, Int.tmod (wrap64 ((wrap64 (t103 + (t102.length : Int))) - 1)) (t102.length : Int), t103] : List Int))).bind fun bt150 => ((impl_SmallArcs.f kj31 t106).bind fun bt154 => (if t137 = true then (if bt143.2 = true then (if bt150.2 = true then (if bt154.2 = true then ((impl_IsPattern.f kj31 t106).bind fun t158 => (if t158 = true then ((laws_uSame.f kj31 t136 t106).bind fun t159 => (if t159 = true then ((laws_uSame.f kj31 bt143.1 t106).bind fun t160 => (if t160 = true then ((laws_uSame.f kj31 bt150.1 t106).bind fun t161 => (if t161 = true then ((laws_uHas.f kj31 bt154.1 t103).bind fun t162 => (laws_FnOperatorsJoin.j4 kj31 t102 t103 t106 (t102.length : Int) (!t162))) else (laws_FnOperatorsJoin.j4 kj31 t102 t103 t106 (t102.length : Int) true))) else (laws_FnOperatorsJoin.j4 kj31 t102 t103 t106 (t102.length : Int) true))) else (laws_FnOperatorsJoin.j4 kj31 t102 t103 t106 (t102.length : Int) true))) else (laws_FnOperatorsJoin.j4 kj31 t102 t103 t106 (t102.length : Int) true))) else (laws_FnOperatorsJoin.j4 kj31 t102 t103 t106 (t102.length : Int) true)) else (laws_FnOperatorsJoin.j4 kj31 t102 t103 t106 (t102.length : Int) true)) else (laws_FnOperatorsJoin.j4 kj31 t102 t103 t106 (t102.length : Int) true)) else (laws_FnOperatorsJoin.j4 kj31 t102 t103 t106 (t102.length : Int) true))))) = some r := by first | (rw [hy140]; with_reducible exact H) | (have H2_ := (Option.bind_some _ _).symm.trans H; rw [hy140]; with_reducible exact H2_) | (have H2_ := (Option.bind_some _ _).symm.trans H; with_reducible exact H2_) | with_reducible exact H | (rw [hy140]; exact H) | exact H
                        have Ny140 := Aside0.mk hy140
                        clear hy140
                        replace H := Option.bind_eq_some_iff.mp H
                        obtain ⟨⟨t143, t144⟩, A520, H⟩ := H
                        replace H : ((impl_JoinWord.f kj31 t102 (([t103, Int.tmod (wrap64 ((wrap64 (t103 + (t102.length : Int))) - 1)) (t102.length : Int), t103] : List Int))).bind fun bt150 => ((impl_SmallArcs.f kj31 t106).bind fun bt154 => (if t137 = true then (if t144 = true then (if bt150.2 = true then (if bt154.2 = true then ((impl_IsPattern.f kj31 t106).bind fun t158 => (if t158 = true then ((laws_uSame.f kj31 t136 t106).bind fun t159 => (if t159 = true then ((laws_uSame.f kj31 t143 t106).bind fun t160 => (if t160 = true then ((laws_uSame.f kj31 bt150.1 t106).bind fun t161 => (if t161 = true then ((laws_uHas.f kj31 bt154.1 t103).bind fun t162 => (laws_FnOperatorsJoin.j4 kj31 t102 t103 t106 (t102.length : Int) (!t162))) else (laws_FnOperatorsJoin.j4 kj31 t102 t103 t106 (t102.length : Int) true))) else (laws_FnOperatorsJoin.j4 kj31 t102 t103 t106 (t102.length : Int) true))) else (laws_FnOperatorsJoin.j4 kj31 t102 t103 t106 (t102.length : Int) true))) else (laws_FnOperatorsJoin.j4 kj31 t102 t103 t106 (t102.length : Int) true))) else (laws_FnOperatorsJoin.j4 kj31 t102 t103 t106 (t102.length : Int) true)) else (laws_FnOperatorsJoin.j4 kj31 t102 t103 t106 (t102.length : Int) true)) else (laws_FnOperatorsJoin.j4 kj31 t102 t103 t106 (t102.length : Int) true)) else (laws_FnOperatorsJoin.j4 kj31 t102 t103 t106 (t102.length : Int) true)))) = some r := H
                        have A52 := Aside0.mk A520
                        clear A520
                        obtain ⟨y147, hy147⟩ : ∃ y_ : List Int, y_ = (([t103, Int.tmod (wrap64 ((wrap64 (t103 + (t102.length : Int))) - 1)) (t102.length : Int), t103] : List Int)) := ⟨_, rfl⟩
                        replace H : ((impl_JoinWord.f kj31 t102 y147).bind fun bt150 => ((impl_SmallArcs.f kj31 t106).bind fun bt154 => (if t137 = true then (if t144 = true then (if bt150.2 = true then (if bt154.2 = true then ((impl_IsPattern.f kj31 t106).bind fun t158 => (if t158 = true then ((laws_uSame.f kj31 t136 t106).bind fun t159 => (if t159 = true then ((laws_uSame.f kj31 t143 t106).bind fun t160 => (if t160 = true then ((laws_uSame.f kj31 bt150.1 t106).bind fun t161 => (if t161 = true then ((laws_uHas.f kj31 bt154.1 t103).bind fun t162 => (laws_FnOperatorsJoin.j4 kj31 t102 t103 t106 (t102.length : Int) (!t162))) else (laws_FnOperatorsJoin.j4 kj31 t102 t103 t106 (t102.length : Int) true))) else (laws_FnOperatorsJoin.j4 kj31 t102 t103 t106 (t102.length : Int) true))) else (laws_FnOperatorsJoin.j4 kj31 t102 t103 t106 (t102.length : Int) true))) else (laws_FnOperatorsJoin.j4 kj31 t102 t103 t106 (t102.length : Int) true))) else (laws_FnOperatorsJoin.j4 kj31 t102 t103 t106 (t102.length : Int) true)) else (laws_FnOperatorsJoin.j4 kj31 t102 t103 t106 (t102.length : Int) true)) else (laws_FnOperatorsJoin.j4 kj31 t102 t103 t106 (t102.length : Int) true)) else (laws_FnOperatorsJoin.j4 kj31 t102 t103 t106 (t102.length : Int) true)))) = some r := by first | (rw [hy147]; with_reducible exact H) | (have H2_ := (Option.bind_some _ _).symm.trans H; rw [hy147]; with_reducible exact H2_) | (have H2_ := (Option.bind_some _ _).symm.trans H; with_reducible exact H2_) | with_reducible exact H | (rw [hy147]; exact H) | exact H
                        have Ny147 := Aside0.mk hy147
                        clear hy147
                        replace H := Option.bind_eq_some_iff.mp H
                        obtain ⟨⟨t150, t151⟩, A530, H⟩ := H
                        replace H : ((impl_SmallArcs.f kj31 t106).bind fun bt154 => (if t137 = true then (if t144 = true then (if t151 = true then (if bt154.2 = true then ((impl_IsPattern.f kj31 t106).bind fun t158 => (if t158 = true then ((laws_uSame.f kj31 t136 t106).bind fun t159 => (if t159 = true then ((laws_uSame.f kj31 t143 t106).bind fun t160 => (if t160 = true then ((laws_uSame.f kj31 t150 t106).bind fun t161 => (if t161 = true then ((laws_uHas.f kj31 bt154.1 t103).bind fun t162 => (laws_FnOperatorsJoin.j4 kj31 t102 t103 t106 (t102.length : Int) (!t162))) else (laws_FnOperatorsJoin.j4 kj31 t102 t103 t106 (t102.length : Int) true))) else (laws_FnOperatorsJoin.j4 kj31 t102 t103 t106 (t102.length : Int) true))) else (laws_FnOperatorsJoin.j4 kj31 t102 t103 t106 (t102.length : Int) true))) else (laws_FnOperatorsJoin.j4 kj31 t102 t103 t106 (t102.length : Int) true))) else (laws_FnOperatorsJoin.j4 kj31 t102 t103 t106 (t102.length : Int) true)) else (laws_FnOperatorsJoin.j4 kj31 t102 t103 t106 (t102.length : Int) true)) else (laws_FnOperatorsJoin.j4 kj31 t102 t103 t106 (t102.length : Int) true)) else (laws_FnOperatorsJoin.j4 kj31 t102 t103 t106 (t102.length : Int) true))) = some r := H
                        have A53 := Aside0.mk A530
                        clear A530
                        replace H := Option.bind_eq_some_iff.mp H
                        obtain ⟨⟨t154, t155⟩, A540, H⟩ := H
                        replace H : (if t137 = true then (if t144 = true then (if t151 = true then (if t155 = true then ((impl_IsPattern.f kj31 t106).bind fun t158 => (if t158 = true then ((laws_uSame.f kj31 t136 t106).bind fun t159 => (if t159 = true then ((laws_uSame.f kj31 t143 t106).bind fun t160 => (if t160 = true then ((laws_uSame.f kj31 t150 t106).bind fun t161 => (if t161 = true then ((laws_uHas.f kj31 t154 t103).bind fun t162 => (laws_FnOperatorsJoin.j4 kj31 t102 t103 t106 (t102.length : Int) (!t162))) else (laws_FnOperatorsJoin.j4 kj31 t102 t103 t106 (t102.length : Int) true))) else (laws_FnOperatorsJoin.j4 kj31 t102 t103 t106 (t102.length : Int) true))) else (laws_FnOperatorsJoin.j4 kj31 t102 t103 t106 (t102.length : Int) true))) else (laws_FnOperatorsJoin.j4 kj31 t102 t103 t106 (t102.length : Int) true))) else (laws_FnOperatorsJoin.j4 kj31 t102 t103 t106 (t102.length : Int) true)) else (laws_FnOperatorsJoin.j4 kj31 t102 t103 t106 (t102.length : Int) true)) else (laws_FnOperatorsJoin.j4 kj31 t102 t103 t106 (t102.length : Int) true)) else (laws_FnOperatorsJoin.j4 kj31 t102 t103 t106 (t102.length : Int) true)) = some r := H
                        have A54 := Aside0.mk A540
                        clear A540
                        have HC55 := Aside0.mk H
                        clear H
                        obtain ⟨Ao56, co56, eo56⟩ := Kd.R_slice HO_7.out
                        subst eo56
                        go_upto_region 32 with (first | ((with_reducible refine gate_callee (f := 20) rfl ?_); refine goesL_ (some 126) rfl rfl Try.func20 (by kernel_rfl) rfl #[.slice Ao56 t106.length co56, .int .i64 t103] rfl (by (try simp only [List.map_toArray, List.map_cons, List.map_nil]); first | done | rfl | (simp only [List.length_drop, List.length_take]; rfl)) ?_; (with_reducible refine (impl_JoinAt.calls kj31 _ _ t106 t103 t136 t137 _ ?side1 ?side2 A50.out).mono ?_); (case side1 => repeat (first | exact (Kd.R_reads' HO_7.out).2.2 | (with_reducible refine Kd.C_alloc ?_ _) | (with_reducible refine Kd.C_drewN ?_ _) | (with_reducible refine Kd.C_drew ?_))); (case side2 => exact (Kd.R_reads' HO_7.out).2.1); rintro e w57 ⟨v138, rfl, ho0, hb⟩; refine ⟨_, rfl, ?_⟩; have n0_ := Aside0.mk (Kd.R_elder' (by (with_reducible repeat (first | apply Kd.R_alloc | apply Kd.R_drewN | apply Kd.R_drew)); exact HO_5.out) (Kd.R_base ho0) hb); have n1_ := Aside0.mk (Kd.R_elder' (by (with_reducible repeat (first | apply Kd.R_alloc | apply Kd.R_drewN | apply Kd.R_drew)); exact HO_7.out) (Kd.R_base ho0) hb); have n2_ := Aside0.mk (Kd.R_lower (Kd.R_new' (Kd.R_new' ho0 (Kd.R_lt (by (with_reducible repeat (first | apply Kd.R_alloc | apply Kd.R_drewN | apply Kd.R_drew)); exact HO_5.out))) (Kd.R_lt (by (with_reducible repeat (first | apply Kd.R_alloc | apply Kd.R_drewN | apply Kd.R_drew)); exact HO_7.out))) (below_size (by repeat (first | (with_reducible first | exact HB.out | apply below_alloc | apply pw_below_drewN | apply below_drew1) | exact HB.out)))); have n3_ := Aside0.mk (below_step (by repeat (first | (with_reducible first | exact HB.out | apply below_alloc | apply pw_below_drewN | apply below_drew1) | exact HB.out)) hb); clear HO_5; clear HO_7; clear HB; have HO_5 := n0_; have HO_7 := n1_; have HO139 := n2_; have HB := n3_; clear n0_ n1_ n2_ n3_; (try clear hb); (try clear hb2); (try clear hk); (try clear hi); (try clear ho0)) | ((with_reducible refine gate_dst (N := 137) rfl ?_); refine Kd.R_lit (Kd.int .i64) _ 3 ?hg (N := 137) ?hd (xs := ([t103, Int.tmod (wrap64 (t103 + 1)) (t102.length : Int), t103] : List Int)) (inner := [.int .i64 t103, .int .i64 (Int.tmod (wrap64 (t103 + 1)) (t102.length : Int)), .int .i64 t103]) (ok := fun _ => True) (okp := fun _ => True) ?hr ?hp (fun _ hk => hk) trivial (Below.refl _ _) (Nat.le_refl _) (by simp) ?_; (case hd => rfl); (case hg => rfl); (case hr => first | (go_simp; done) | (go_simp; rfl)); (case hp => exact (Reps.one (show Kd.M (Kd.int .i64) _ _ _ t103 [.int .i64 t103] from rfl) (Reps.one (show Kd.M (Kd.int .i64) _ _ _ (Int.tmod (wrap64 (t103 + 1)) (t102.length : Int)) [.int .i64 (Int.tmod (wrap64 (t103 + 1)) (t102.length : Int))] from rfl) (Reps.one (show Kd.M (Kd.int .i64) _ _ _ t103 [.int .i64 t103] from rfl) (Reps.none _ _))))); intro v141 w58 ho59 hb hg_ hnew_; clear hg_ hnew_; (first | rw [← Ny140.out] at ho59 | (simp only [Int.reduceToNat] at ho59; rw [← Ny140.out] at ho59)); have n0_ := Aside0.mk (Kd.R_elder' (by (with_reducible repeat (first | apply Kd.R_alloc | apply Kd.R_drewN | apply Kd.R_drew)); exact HO_5.out) (Kd.R_base ho59) hb); have n1_ := Aside0.mk (Kd.R_elder' (by (with_reducible repeat (first | apply Kd.R_alloc | apply Kd.R_drewN | apply Kd.R_drew)); exact HO_7.out) (Kd.R_base ho59) hb); have n2_ := Aside0.mk (Kd.R_elder' (by (with_reducible repeat (first | apply Kd.R_alloc | apply Kd.R_drewN | apply Kd.R_drew)); exact HO139.out) (Kd.R_base ho59) hb); have n3_ := Aside0.mk (Kd.R_lower (Kd.R_new' (Kd.R_new' (Kd.R_new' ho59 (Kd.R_lt (by (with_reducible repeat (first | apply Kd.R_alloc | apply Kd.R_drewN | apply Kd.R_drew)); exact HO_5.out))) (Kd.R_lt (by (with_reducible repeat (first | apply Kd.R_alloc | apply Kd.R_drewN | apply Kd.R_drew)); exact HO_7.out))) (Kd.R_lt (by (with_reducible repeat (first | apply Kd.R_alloc | apply Kd.R_drewN | apply Kd.R_drew)); exact HO139.out))) (below_size (by repeat (first | (with_reducible first | exact HB.out | apply below_alloc | apply pw_below_drewN | apply below_drew1) | exact HB.out)))); have n4_ := Aside0.mk (below_step (by repeat (first | (with_reducible first | exact HB.out | apply below_alloc | apply pw_below_drewN | apply below_drew1) | exact HB.out)) hb); clear HO_5; clear HO_7; clear HO139; clear HB; have HO_5 := n0_; have HO_7 := n1_; have HO139 := n2_; have HO142 := n3_; have HB := n4_; clear n0_ n1_ n2_ n3_ n4_; clear hb ho59; obtain ⟨Ao60, co60, eo60⟩ := Kd.R_slice HO142.out; subst eo60) | ((with_reducible refine gate_callee (f := 24) rfl ?_); refine goesL_ (some 138) rfl rfl Try.func24 (by kernel_rfl) rfl #[.slice Ao10 t102.length co10, .slice Ao60 y140.length co60] rfl (by (try simp only [List.map_toArray, List.map_cons, List.map_nil]); first | done | rfl | (simp only [List.length_drop, List.length_take]; rfl)) ?_; (with_reducible refine (impl_JoinWord.calls kj31 _ _ t102 _ _ y140 t143 t144 _ ?side1 ?side2 ?side3 ?side4 A52.out).mono ?_); (case side1 => repeat (first | exact (Kd.R_reads' HO_5.out).2.2 | (with_reducible refine Kd.C_alloc ?_ _) | (with_reducible refine Kd.C_drewN ?_ _) | (with_reducible refine Kd.C_drew ?_))); (case side2 => exact (Kd.R_reads' HO_5.out).2.1); (case side3 => repeat (first | exact (Kd.R_reads' HO142.out).2.2 | (with_reducible refine Kd.C_alloc ?_ _) | (with_reducible refine Kd.C_drewN ?_ _) | (with_reducible refine Kd.C_drew ?_))); (case side4 => exact (Kd.R_reads' HO142.out).2.1); rintro e w61 ⟨v145, rfl, ho0, hb⟩; refine ⟨_, rfl, ?_⟩; have n0_ := Aside0.mk (Kd.R_elder' (by (with_reducible repeat (first | apply Kd.R_alloc | apply Kd.R_drewN | apply Kd.R_drew)); exact HO_5.out) (Kd.R_base ho0) hb); have n1_ := Aside0.mk (Kd.R_elder' (by (with_reducible repeat (first | apply Kd.R_alloc | apply Kd.R_drewN | apply Kd.R_drew)); exact HO_7.out) (Kd.R_base ho0) hb); have n2_ := Aside0.mk (Kd.R_elder' (by (with_reducible repeat (first | apply Kd.R_alloc | apply Kd.R_drewN | apply Kd.R_drew)); exact HO139.out) (Kd.R_base ho0) hb); have n3_ := Aside0.mk (Kd.R_elder' (by (with_reducible repeat (first | apply Kd.R_alloc | apply Kd.R_drewN | apply Kd.R_drew)); exact HO142.out) (Kd.R_base ho0) hb); have n4_ := Aside0.mk (Kd.R_lower (Kd.R_new' (Kd.R_new' (Kd.R_new' (Kd.R_new' ho0 (Kd.R_lt (by (with_reducible repeat (first | apply Kd.R_alloc | apply Kd.R_drewN | apply Kd.R_drew)); exact HO_5.out))) (Kd.R_lt (by (with_reducible repeat (first | apply Kd.R_alloc | apply Kd.R_drewN | apply Kd.R_drew)); exact HO_7.out))) (Kd.R_lt (by (with_reducible repeat (first | apply Kd.R_alloc | apply Kd.R_drewN | apply Kd.R_drew)); exact HO139.out))) (Kd.R_lt (by (with_reducible repeat (first | apply Kd.R_alloc | apply Kd.R_drewN | apply Kd.R_drew)); exact HO142.out))) (below_size (by repeat (first | (with_reducible first | exact HB.out | apply below_alloc | apply pw_below_drewN | apply below_drew1) | exact HB.out)))); have n5_ := Aside0.mk (below_step (by repeat (first | (with_reducible first | exact HB.out | apply below_alloc | apply pw_below_drewN | apply below_drew1) | exact HB.out)) hb); clear HO_5; clear HO_7; clear HO139; clear HO142; clear HB; have HO_5 := n0_; have HO_7 := n1_; have HO139 := n2_; have HO142 := n3_; have HO146 := n4_; have HB := n5_; clear n0_ n1_ n2_ n3_ n4_ n5_; (try clear hb); (try clear hb2); (try clear hk); (try clear hi); (try clear ho0)) | ((with_reducible refine gate_dst (N := 151) rfl ?_); refine Kd.R_lit (Kd.int .i64) _ 3 ?hg (N := 151) ?hd (xs := ([t103, Int.tmod (wrap64 ((wrap64 (t103 + (t102.length : Int))) - 1)) (t102.length : Int), t103] : List Int)) (inner := [.int .i64 t103, .int .i64 (Int.tmod (wrap64 ((wrap64 (t103 + (t102.length : Int))) - 1)) (t102.length : Int)), .int .i64 t103]) (ok := fun _ => True) (okp := fun _ => True) ?hr ?hp (fun _ hk => hk) trivial (Below.refl _ _) (Nat.le_refl _) (by simp) ?_; (case hd => rfl); (case hg => rfl); (case hr => first | (go_simp; done) | (go_simp; rfl)); (case hp => exact (Reps.one (show Kd.M (Kd.int .i64) _ _ _ t103 [.int .i64 t103] from rfl) (Reps.one (show Kd.M (Kd.int .i64) _ _ _ (Int.tmod (wrap64 ((wrap64 (t103 + (t102.length : Int))) - 1)) (t102.length : Int)) [.int .i64 (Int.tmod (wrap64 ((wrap64 (t103 + (t102.length : Int))) - 1)) (t102.length : Int))] from rfl) (Reps.one (show Kd.M (Kd.int .i64) _ _ _ t103 [.int .i64 t103] from rfl) (Reps.none _ _))))); intro v148 w62 ho63 hb hg_ hnew_; clear hg_ hnew_; (first | rw [← Ny147.out] at ho63 | (simp only [Int.reduceToNat] at ho63; rw [← Ny147.out] at ho63)); have n0_ := Aside0.mk (Kd.R_elder' (by (with_reducible repeat (first | apply Kd.R_alloc | apply Kd.R_drewN | apply Kd.R_drew)); exact HO_5.out) (Kd.R_base ho63) hb); have n1_ := Aside0.mk (Kd.R_elder' (by (with_reducible repeat (first | apply Kd.R_alloc | apply Kd.R_drewN | apply Kd.R_drew)); exact HO_7.out) (Kd.R_base ho63) hb); have n2_ := Aside0.mk (Kd.R_elder' (by (with_reducible repeat (first | apply Kd.R_alloc | apply Kd.R_drewN | apply Kd.R_drew)); exact HO139.out) (Kd.R_base ho63) hb); have n3_ := Aside0.mk (Kd.R_elder' (by (with_reducible repeat (first | apply Kd.R_alloc | apply Kd.R_drewN | apply Kd.R_drew)); exact HO142.out) (Kd.R_base ho63) hb); have n4_ := Aside0.mk (Kd.R_elder' (by (with_reducible repeat (first | apply Kd.R_alloc | apply Kd.R_drewN | apply Kd.R_drew)); exact HO146.out) (Kd.R_base ho63) hb); have n5_ := Aside0.mk (Kd.R_lower (Kd.R_new' (Kd.R_new' (Kd.R_new' (Kd.R_new' (Kd.R_new' ho63 (Kd.R_lt (by (with_reducible repeat (first | apply Kd.R_alloc | apply Kd.R_drewN | apply Kd.R_drew)); exact HO_5.out))) (Kd.R_lt (by (with_reducible repeat (first | apply Kd.R_alloc | apply Kd.R_drewN | apply Kd.R_drew)); exact HO_7.out))) (Kd.R_lt (by (with_reducible repeat (first | apply Kd.R_alloc | apply Kd.R_drewN | apply Kd.R_drew)); exact HO139.out))) (Kd.R_lt (by (with_reducible repeat (first | apply Kd.R_alloc | apply Kd.R_drewN | apply Kd.R_drew)); exact HO142.out))) (Kd.R_lt (by (with_reducible repeat (first | apply Kd.R_alloc | apply Kd.R_drewN | apply Kd.R_drew)); exact HO146.out))) (below_size (by repeat (first | (with_reducible first | exact HB.out | apply below_alloc | apply pw_below_drewN | apply below_drew1) | exact HB.out)))); have n6_ := Aside0.mk (below_step (by repeat (first | (with_reducible first | exact HB.out | apply below_alloc | apply pw_below_drewN | apply below_drew1) | exact HB.out)) hb); clear HO_5; clear HO_7; clear HO139; clear HO142; clear HO146; clear HB; have HO_5 := n0_; have HO_7 := n1_; have HO139 := n2_; have HO142 := n3_; have HO146 := n4_; have HO149 := n5_; have HB := n6_; clear n0_ n1_ n2_ n3_ n4_ n5_ n6_; clear hb ho63; obtain ⟨Ao64, co64, eo64⟩ := Kd.R_slice HO149.out; subst eo64) | ((with_reducible refine gate_callee (f := 24) rfl ?_); refine goesL_ (some 152) rfl rfl Try.func24 (by kernel_rfl) rfl #[.slice Ao10 t102.length co10, .slice Ao64 y147.length co64] rfl (by (try simp only [List.map_toArray, List.map_cons, List.map_nil]); first | done | rfl | (simp only [List.length_drop, List.length_take]; rfl)) ?_; (with_reducible refine (impl_JoinWord.calls kj31 _ _ t102 _ _ y147 t150 t151 _ ?side1 ?side2 ?side3 ?side4 A53.out).mono ?_); (case side1 => repeat (first | exact (Kd.R_reads' HO_5.out).2.2 | (with_reducible refine Kd.C_alloc ?_ _) | (with_reducible refine Kd.C_drewN ?_ _) | (with_reducible refine Kd.C_drew ?_))); (case side2 => exact (Kd.R_reads' HO_5.out).2.1); (case side3 => repeat (first | exact (Kd.R_reads' HO149.out).2.2 | (with_reducible refine Kd.C_alloc ?_ _) | (with_reducible refine Kd.C_drewN ?_ _) | (with_reducible refine Kd.C_drew ?_))); (case side4 => exact (Kd.R_reads' HO149.out).2.1); rintro e w65 ⟨v152, rfl, ho0, hb⟩; refine ⟨_, rfl, ?_⟩; have n0_ := Aside0.mk (Kd.R_elder' (by (with_reducible repeat (first | apply Kd.R_alloc | apply Kd.R_drewN | apply Kd.R_drew)); exact HO_5.out) (Kd.R_base ho0) hb); have n1_ := Aside0.mk (Kd.R_elder' (by (with_reducible repeat (first | apply Kd.R_alloc | apply Kd.R_drewN | apply Kd.R_drew)); exact HO_7.out) (Kd.R_base ho0) hb); have n2_ := Aside0.mk (Kd.R_elder' (by (with_reducible repeat (first | apply Kd.R_alloc | apply Kd.R_drewN | apply Kd.R_drew)); exact HO139.out) (Kd.R_base ho0) hb); have n3_ := Aside0.mk (Kd.R_elder' (by (with_reducible repeat (first | apply Kd.R_alloc | apply Kd.R_drewN | apply Kd.R_drew)); exact HO142.out) (Kd.R_base ho0) hb); have n4_ := Aside0.mk (Kd.R_elder' (by (with_reducible repeat (first | apply Kd.R_alloc | apply Kd.R_drewN | apply Kd.R_drew)); exact HO146.out) (Kd.R_base ho0) hb); have n5_ := Aside0.mk (Kd.R_elder' (by (with_reducible repeat (first | apply Kd.R_alloc | apply Kd.R_drewN | apply Kd.R_drew)); exact HO149.out) (Kd.R_base ho0) hb); have n6_ := Aside0.mk (Kd.R_lower (Kd.R_new' (Kd.R_new' (Kd.R_new' (Kd.R_new' (Kd.R_new' (Kd.R_new' ho0 (Kd.R_lt (by (with_reducible repeat (first | apply Kd.R_alloc | apply Kd.R_drewN | apply Kd.R_drew)); exact HO_5.out))) (Kd.R_lt (by (with_reducible repeat (first | apply Kd.R_alloc | apply Kd.R_drewN | apply Kd.R_drew)); exact HO_7.out))) (Kd.R_lt (by (with_reducible repeat (first | apply Kd.R_alloc | apply Kd.R_drewN | apply Kd.R_drew)); exact HO139.out))) (Kd.R_lt (by (with_reducible repeat (first | apply Kd.R_alloc | apply Kd.R_drewN | apply Kd.R_drew)); exact HO142.out))) (Kd.R_lt (by (with_reducible repeat (first | apply Kd.R_alloc | apply Kd.R_drewN | apply Kd.R_drew)); exact HO146.out))) (Kd.R_lt (by (with_reducible repeat (first | apply Kd.R_alloc | apply Kd.R_drewN | apply Kd.R_drew)); exact HO149.out))) (below_size (by repeat (first | (with_reducible first | exact HB.out | apply below_alloc | apply pw_below_drewN | apply below_drew1) | exact HB.out)))); have n7_ := Aside0.mk (below_step (by repeat (first | (with_reducible first | exact HB.out | apply below_alloc | apply pw_below_drewN | apply below_drew1) | exact HB.out)) hb); clear HO_5; clear HO_7; clear HO139; clear HO142; clear HO146; clear HO149; clear HB; have HO_5 := n0_; have HO_7 := n1_; have HO139 := n2_; have HO142 := n3_; have HO146 := n4_; have HO149 := n5_; have HO153 := n6_; have HB := n7_; clear n0_ n1_ n2_ n3_ n4_ n5_ n6_ n7_; (try clear hb); (try clear hb2); (try clear hk); (try clear hi); (try clear ho0)) | ((with_reducible refine gate_callee (f := 26) rfl ?_); refine goesL_ (some 157) rfl rfl Try.func26 (by kernel_rfl) rfl #[.slice Ao56 t106.length co56] rfl (by (try simp only [List.map_toArray, List.map_cons, List.map_nil]); first | done | rfl | (simp only [List.length_drop, List.length_take]; rfl)) ?_; (with_reducible refine (impl_SmallArcs.calls kj31 _ _ t106 t154 t155 _ ?side1 ?side2 A54.out).mono ?_); (case side1 => repeat (first | exact (Kd.R_reads' HO_7.out).2.2 | (with_reducible refine Kd.C_alloc ?_ _) | (with_reducible refine Kd.C_drewN ?_ _) | (with_reducible refine Kd.C_drew ?_))); (case side2 => exact (Kd.R_reads' HO_7.out).2.1); rintro e w66 ⟨v156, rfl, ho0, hb⟩; refine ⟨_, rfl, ?_⟩; have n0_ := Aside0.mk (Kd.R_elder' (by (with_reducible repeat (first | apply Kd.R_alloc | apply Kd.R_drewN | apply Kd.R_drew)); exact HO_5.out) (Kd.R_base ho0) hb); have n1_ := Aside0.mk (Kd.R_elder' (by (with_reducible repeat (first | apply Kd.R_alloc | apply Kd.R_drewN | apply Kd.R_drew)); exact HO_7.out) (Kd.R_base ho0) hb); have n2_ := Aside0.mk (Kd.R_elder' (by (with_reducible repeat (first | apply Kd.R_alloc | apply Kd.R_drewN | apply Kd.R_drew)); exact HO139.out) (Kd.R_base ho0) hb); have n3_ := Aside0.mk (Kd.R_elder' (by (with_reducible repeat (first | apply Kd.R_alloc | apply Kd.R_drewN | apply Kd.R_drew)); exact HO142.out) (Kd.R_base ho0) hb); have n4_ := Aside0.mk (Kd.R_elder' (by (with_reducible repeat (first | apply Kd.R_alloc | apply Kd.R_drewN | apply Kd.R_drew)); exact HO146.out) (Kd.R_base ho0) hb); have n5_ := Aside0.mk (Kd.R_elder' (by (with_reducible repeat (first | apply Kd.R_alloc | apply Kd.R_drewN | apply Kd.R_drew)); exact HO149.out) (Kd.R_base ho0) hb); have n6_ := Aside0.mk (Kd.R_elder' (by (with_reducible repeat (first | apply Kd.R_alloc | apply Kd.R_drewN | apply Kd.R_drew)); exact HO153.out) (Kd.R_base ho0) hb); have n7_ := Aside0.mk (Kd.R_lower (Kd.R_new' (Kd.R_new' (Kd.R_new' (Kd.R_new' (Kd.R_new' (Kd.R_new' (Kd.R_new' ho0 (Kd.R_lt (by (with_reducible repeat (first | apply Kd.R_alloc | apply Kd.R_drewN | apply Kd.R_drew)); exact HO_5.out))) (Kd.R_lt (by (with_reducible repeat (first | apply Kd.R_alloc | apply Kd.R_drewN | apply Kd.R_drew)); exact HO_7.out))) (Kd.R_lt (by (with_reducible repeat (first | apply Kd.R_alloc | apply Kd.R_drewN | apply Kd.R_drew)); exact HO139.out))) (Kd.R_lt (by (with_reducible repeat (first | apply Kd.R_alloc | apply Kd.R_drewN | apply Kd.R_drew)); exact HO142.out))) (Kd.R_lt (by (with_reducible repeat (first | apply Kd.R_alloc | apply Kd.R_drewN | apply Kd.R_drew)); exact HO146.out))) (Kd.R_lt (by (with_reducible repeat (first | apply Kd.R_alloc | apply Kd.R_drewN | apply Kd.R_drew)); exact HO149.out))) (Kd.R_lt (by (with_reducible repeat (first | apply Kd.R_alloc | apply Kd.R_drewN | apply Kd.R_drew)); exact HO153.out))) (below_size (by repeat (first | (with_reducible first | exact HB.out | apply below_alloc | apply pw_below_drewN | apply below_drew1) | exact HB.out)))); have n8_ := Aside0.mk (below_step (by repeat (first | (with_reducible first | exact HB.out | apply below_alloc | apply pw_below_drewN | apply below_drew1) | exact HB.out)) hb); clear HO_5; clear HO_7; clear HO139; clear HO142; clear HO146; clear HO149; clear HO153; clear HB; have HO_5 := n0_; have HO_7 := n1_; have HO139 := n2_; have HO142 := n3_; have HO146 := n4_; have HO149 := n5_; have HO153 := n6_; have HO157 := n7_; have HB := n8_; clear n0_ n1_ n2_ n3_ n4_ n5_ n6_ n7_ n8_; (try clear hb); (try clear hb2); (try clear hk); (try clear hi); (try clear ho0)))
                        (try simp only [Act.put, List.setIfInBounds_toArray, List.set_cons_zero, List.set_cons_succ])
                        go_cut [202] (fun v202 wc => ∃ (kq : Nat) (x202_54 : Bool), v202 = .bool x202_54 ∧ Aside0 (laws_FnOperatorsJoin.j4 kq t102 t103 t106 (t102.length : Int) x202_54 = some r) ∧ Aside0 (kq ≤ kj31) ∧ Aside0 (Kd.R (Kd.int .i64) 3 wc w.heap.size (fun k_ => some k_ ≠ ((.slice Ao56 t106.length co56) : Value).ownBlock) (.slice Ao10 t102.length co10) t102) ∧ Aside0 (Kd.R (Kd.int .i64) 3 wc w.heap.size (fun k_ => some k_ ≠ ((.slice Ao10 t102.length co10) : Value).ownBlock) (.slice Ao56 t106.length co56) t106) ∧ Aside0 (Below w.heap.size w wc))
                        case first => as_aux_lemma =>
                          have H := HC55.out
                          clear HC55
                          by_cases c67 : t137 = true
                          · subst c67
                            have H1 : (if t144 = true then (if t151 = true then (if t155 = true then ((impl_IsPattern.f kj31 t106).bind fun t158 => (if t158 = true then ((laws_uSame.f kj31 t136 t106).bind fun t159 => (if t159 = true then ((laws_uSame.f kj31 t143 t106).bind fun t160 => (if t160 = true then ((laws_uSame.f kj31 t150 t106).bind fun t161 => (if t161 = true then ((laws_uHas.f kj31 t154 t103).bind fun t162 => (laws_FnOperatorsJoin.j4 kj31 t102 t103 t106 (t102.length : Int) (!t162))) else (laws_FnOperatorsJoin.j4 kj31 t102 t103 t106 (t102.length : Int) true))) else (laws_FnOperatorsJoin.j4 kj31 t102 t103 t106 (t102.length : Int) true))) else (laws_FnOperatorsJoin.j4 kj31 t102 t103 t106 (t102.length : Int) true))) else (laws_FnOperatorsJoin.j4 kj31 t102 t103 t106 (t102.length : Int) true))) else (laws_FnOperatorsJoin.j4 kj31 t102 t103 t106 (t102.length : Int) true)) else (laws_FnOperatorsJoin.j4 kj31 t102 t103 t106 (t102.length : Int) true)) else (laws_FnOperatorsJoin.j4 kj31 t102 t103 t106 (t102.length : Int) true)) = some r := by rw [if_pos rfl] at H; exact H
                            clear H
                            have H := H1
                            clear H1
                            by_cases c68 : t144 = true
                            · subst c68
                              have H1 : (if t151 = true then (if t155 = true then ((impl_IsPattern.f kj31 t106).bind fun t158 => (if t158 = true then ((laws_uSame.f kj31 t136 t106).bind fun t159 => (if t159 = true then ((laws_uSame.f kj31 t143 t106).bind fun t160 => (if t160 = true then ((laws_uSame.f kj31 t150 t106).bind fun t161 => (if t161 = true then ((laws_uHas.f kj31 t154 t103).bind fun t162 => (laws_FnOperatorsJoin.j4 kj31 t102 t103 t106 (t102.length : Int) (!t162))) else (laws_FnOperatorsJoin.j4 kj31 t102 t103 t106 (t102.length : Int) true))) else (laws_FnOperatorsJoin.j4 kj31 t102 t103 t106 (t102.length : Int) true))) else (laws_FnOperatorsJoin.j4 kj31 t102 t103 t106 (t102.length : Int) true))) else (laws_FnOperatorsJoin.j4 kj31 t102 t103 t106 (t102.length : Int) true))) else (laws_FnOperatorsJoin.j4 kj31 t102 t103 t106 (t102.length : Int) true)) else (laws_FnOperatorsJoin.j4 kj31 t102 t103 t106 (t102.length : Int) true)) = some r := by rw [if_pos rfl] at H; exact H
                              clear H
                              have H := H1
                              clear H1
                              by_cases c69 : t151 = true
                              · subst c69
                                have H1 : (if t155 = true then ((impl_IsPattern.f kj31 t106).bind fun t158 => (if t158 = true then ((laws_uSame.f kj31 t136 t106).bind fun t159 => (if t159 = true then ((laws_uSame.f kj31 t143 t106).bind fun t160 => (if t160 = true then ((laws_uSame.f kj31 t150 t106).bind fun t161 => (if t161 = true then ((laws_uHas.f kj31 t154 t103).bind fun t162 => (laws_FnOperatorsJoin.j4 kj31 t102 t103 t106 (t102.length : Int) (!t162))) else (laws_FnOperatorsJoin.j4 kj31 t102 t103 t106 (t102.length : Int) true))) else (laws_FnOperatorsJoin.j4 kj31 t102 t103 t106 (t102.length : Int) true))) else (laws_FnOperatorsJoin.j4 kj31 t102 t103 t106 (t102.length : Int) true))) else (laws_FnOperatorsJoin.j4 kj31 t102 t103 t106 (t102.length : Int) true))) else (laws_FnOperatorsJoin.j4 kj31 t102 t103 t106 (t102.length : Int) true)) = some r := by rw [if_pos rfl] at H; exact H
                                clear H
                                have H := H1
                                clear H1
                                by_cases c70 : t155 = true
                                · subst c70
                                  have H1 : ((impl_IsPattern.f kj31 t106).bind fun t158 => (if t158 = true then ((laws_uSame.f kj31 t136 t106).bind fun t159 => (if t159 = true then ((laws_uSame.f kj31 t143 t106).bind fun t160 => (if t160 = true then ((laws_uSame.f kj31 t150 t106).bind fun t161 => (if t161 = true then ((laws_uHas.f kj31 t154 t103).bind fun t162 => (laws_FnOperatorsJoin.j4 kj31 t102 t103 t106 (t102.length : Int) (!t162))) else (laws_FnOperatorsJoin.j4 kj31 t102 t103 t106 (t102.length : Int) true))) else (laws_FnOperatorsJoin.j4 kj31 t102 t103 t106 (t102.length : Int) true))) else (laws_FnOperatorsJoin.j4 kj31 t102 t103 t106 (t102.length : Int) true))) else (laws_FnOperatorsJoin.j4 kj31 t102 t103 t106 (t102.length : Int) true))) = some r := by rw [if_pos rfl] at H; exact H
                                  clear H
                                  have H := H1
                                  clear H1
                                  replace H := Option.bind_eq_some_iff.mp H
                                  obtain ⟨t158, A710, H⟩ := H
                                  replace H : (if t158 = true then ((laws_uSame.f kj31 t136 t106).bind fun t159 => (if t159 = true then ((laws_uSame.f kj31 t143 t106).bind fun t160 => (if t160 = true then ((laws_uSame.f kj31 t150 t106).bind fun t161 => (if t161 = true then ((laws_uHas.f kj31 t154 t103).bind fun t162 => (laws_FnOperatorsJoin.j4 kj31 t102 t103 t106 (t102.length : Int) (!t162))) else (laws_FnOperatorsJoin.j4 kj31 t102 t103 t106 (t102.length : Int) true))) else (laws_FnOperatorsJoin.j4 kj31 t102 t103 t106 (t102.length : Int) true))) else (laws_FnOperatorsJoin.j4 kj31 t102 t103 t106 (t102.length : Int) true))) else (laws_FnOperatorsJoin.j4 kj31 t102 t103 t106 (t102.length : Int) true)) = some r := H
                                  have A71 := Aside0.mk A710
                                  clear A710
                                  by_cases c72 : t158 = true
                                  · subst c72
                                    have H1 : ((laws_uSame.f kj31 t136 t106).bind fun t159 => (if t159 = true then ((laws_uSame.f kj31 t143 t106).bind fun t160 => (if t160 = true then ((laws_uSame.f kj31 t150 t106).bind fun t161 => (if t161 = true then ((laws_uHas.f kj31 t154 t103).bind fun t162 => (laws_FnOperatorsJoin.j4 kj31 t102 t103 t106 (t102.length : Int) (!t162))) else (laws_FnOperatorsJoin.j4 kj31 t102 t103 t106 (t102.length : Int) true))) else (laws_FnOperatorsJoin.j4 kj31 t102 t103 t106 (t102.length : Int) true))) else (laws_FnOperatorsJoin.j4 kj31 t102 t103 t106 (t102.length : Int) true))) = some r := by rw [if_pos rfl] at H; exact H
                                    clear H
                                    have H := H1
                                    clear H1
                                    replace H := Option.bind_eq_some_iff.mp H
                                    obtain ⟨t159, A730, H⟩ := H
                                    replace H : (if t159 = true then ((laws_uSame.f kj31 t143 t106).bind fun t160 => (if t160 = true then ((laws_uSame.f kj31 t150 t106).bind fun t161 => (if t161 = true then ((laws_uHas.f kj31 t154 t103).bind fun t162 => (laws_FnOperatorsJoin.j4 kj31 t102 t103 t106 (t102.length : Int) (!t162))) else (laws_FnOperatorsJoin.j4 kj31 t102 t103 t106 (t102.length : Int) true))) else (laws_FnOperatorsJoin.j4 kj31 t102 t103 t106 (t102.length : Int) true))) else (laws_FnOperatorsJoin.j4 kj31 t102 t103 t106 (t102.length : Int) true)) = some r := H
                                    have A73 := Aside0.mk A730
                                    clear A730
                                    by_cases c74 : t159 = true
                                    · subst c74
                                      have H1 : ((laws_uSame.f kj31 t143 t106).bind fun t160 => (if t160 = true then ((laws_uSame.f kj31 t150 t106).bind fun t161 => (if t161 = true then ((laws_uHas.f kj31 t154 t103).bind fun t162 => (laws_FnOperatorsJoin.j4 kj31 t102 t103 t106 (t102.length : Int) (!t162))) else (laws_FnOperatorsJoin.j4 kj31 t102 t103 t106 (t102.length : Int) true))) else (laws_FnOperatorsJoin.j4 kj31 t102 t103 t106 (t102.length : Int) true))) = some r := by rw [if_pos rfl] at H; exact H
                                      clear H
                                      have H := H1
                                      clear H1
                                      replace H := Option.bind_eq_some_iff.mp H
                                      obtain ⟨t160, A750, H⟩ := H
                                      replace H : (if t160 = true then ((laws_uSame.f kj31 t150 t106).bind fun t161 => (if t161 = true then ((laws_uHas.f kj31 t154 t103).bind fun t162 => (laws_FnOperatorsJoin.j4 kj31 t102 t103 t106 (t102.length : Int) (!t162))) else (laws_FnOperatorsJoin.j4 kj31 t102 t103 t106 (t102.length : Int) true))) else (laws_FnOperatorsJoin.j4 kj31 t102 t103 t106 (t102.length : Int) true)) = some r := H
                                      have A75 := Aside0.mk A750
                                      clear A750
                                      by_cases c76 : t160 = true
                                      · subst c76
                                        have H1 : ((laws_uSame.f kj31 t150 t106).bind fun t161 => (if t161 = true then ((laws_uHas.f kj31 t154 t103).bind fun t162 => (laws_FnOperatorsJoin.j4 kj31 t102 t103 t106 (t102.length : Int) (!t162))) else (laws_FnOperatorsJoin.j4 kj31 t102 t103 t106 (t102.length : Int) true))) = some r := by rw [if_pos rfl] at H; exact H
                                        clear H
                                        have H := H1
                                        clear H1
                                        replace H := Option.bind_eq_some_iff.mp H
                                        obtain ⟨t161, A770, H⟩ := H
                                        replace H : (if t161 = true then ((laws_uHas.f kj31 t154 t103).bind fun t162 => (laws_FnOperatorsJoin.j4 kj31 t102 t103 t106 (t102.length : Int) (!t162))) else (laws_FnOperatorsJoin.j4 kj31 t102 t103 t106 (t102.length : Int) true)) = some r := H
                                        have A77 := Aside0.mk A770
                                        clear A770
                                        by_cases c78 : t161 = true
                                        · subst c78
                                          have H1 : ((laws_uHas.f kj31 t154 t103).bind fun t162 => (laws_FnOperatorsJoin.j4 kj31 t102 t103 t106 (t102.length : Int) (!t162))) = some r := by rw [if_pos rfl] at H; exact H
                                          clear H
                                          have H := H1
                                          clear H1
                                          replace H := Option.bind_eq_some_iff.mp H
                                          obtain ⟨t162, A790, H⟩ := H
                                          replace H : (laws_FnOperatorsJoin.j4 kj31 t102 t103 t106 (t102.length : Int) (!t162)) = some r := H
                                          have A79 := Aside0.mk A790
                                          clear A790
                                          have H' := Aside0.mk H
                                          clear H
                                          go_wp2_with (first | (go_at_call 27; (with_reducible refine (impl_IsPattern.calls kj31 _ _ t106 true _ ?side1 ?side2 A71.out).mono ?_); (case side1 => repeat (first | exact (Kd.R_reads' HO_7.out).2.2 | (with_reducible refine Kd.C_alloc ?_ _) | (with_reducible refine Kd.C_drewN ?_ _) | (with_reducible refine Kd.C_drew ?_))); (case side2 => exact (Kd.R_reads' HO_7.out).2.1); rintro e w80 ⟨rfl, hb⟩; have n0_ := Aside0.mk (Kd.R_below (by (with_reducible repeat (first | apply Kd.R_alloc | apply Kd.R_drewN | apply Kd.R_drew)); exact HO_5.out) hb); have n1_ := Aside0.mk (Kd.R_below (by (with_reducible repeat (first | apply Kd.R_alloc | apply Kd.R_drewN | apply Kd.R_drew)); exact HO_7.out) hb); have n2_ := Aside0.mk (Kd.R_below (by (with_reducible repeat (first | apply Kd.R_alloc | apply Kd.R_drewN | apply Kd.R_drew)); exact HO139.out) hb); have n3_ := Aside0.mk (Kd.R_below (by (with_reducible repeat (first | apply Kd.R_alloc | apply Kd.R_drewN | apply Kd.R_drew)); exact HO142.out) hb); have n4_ := Aside0.mk (Kd.R_below (by (with_reducible repeat (first | apply Kd.R_alloc | apply Kd.R_drewN | apply Kd.R_drew)); exact HO146.out) hb); have n5_ := Aside0.mk (Kd.R_below (by (with_reducible repeat (first | apply Kd.R_alloc | apply Kd.R_drewN | apply Kd.R_drew)); exact HO149.out) hb); have n6_ := Aside0.mk (Kd.R_below (by (with_reducible repeat (first | apply Kd.R_alloc | apply Kd.R_drewN | apply Kd.R_drew)); exact HO153.out) hb); have n7_ := Aside0.mk (Kd.R_below (by (with_reducible repeat (first | apply Kd.R_alloc | apply Kd.R_drewN | apply Kd.R_drew)); exact HO157.out) hb); have n8_ := Aside0.mk (below_step (by repeat (first | (with_reducible first | exact HB.out | apply below_alloc | apply pw_below_drewN | apply below_drew1) | exact HB.out)) hb); clear HO_5; clear HO_7; clear HO139; clear HO142; clear HO146; clear HO149; clear HO153; clear HO157; clear HB; have HO_5 := n0_; have HO_7 := n1_; have HO139 := n2_; have HO142 := n3_; have HO146 := n4_; have HO149 := n5_; have HO153 := n6_; have HO157 := n7_; have HB := n8_; clear n0_ n1_ n2_ n3_ n4_ n5_ n6_ n7_ n8_; (try clear hb); (try clear hb2); (try clear hk); (try clear hi); obtain ⟨Ao81, co81, eo81⟩ := Kd.R_slice HO139.out; subst eo81) | (go_at_call 22; (with_reducible refine (laws_uSame.calls kj31 _ _ t136 _ _ t106 true _ ?side1 ?side2 ?side3 ?side4 A73.out).mono ?_); (case side1 => repeat (first | exact (Kd.R_reads' HO139.out).2.2 | (with_reducible refine Kd.C_alloc ?_ _) | (with_reducible refine Kd.C_drewN ?_ _) | (with_reducible refine Kd.C_drew ?_))); (case side2 => exact (Kd.R_reads' HO139.out).2.1); (case side3 => repeat (first | exact (Kd.R_reads' HO_7.out).2.2 | (with_reducible refine Kd.C_alloc ?_ _) | (with_reducible refine Kd.C_drewN ?_ _) | (with_reducible refine Kd.C_drew ?_))); (case side4 => exact (Kd.R_reads' HO_7.out).2.1); rintro e w' ⟨rfl, ⟨nd, rfl⟩⟩; obtain ⟨Ao82, co82, eo82⟩ := Kd.R_slice HO146.out; subst eo82) | (go_at_call 22; (with_reducible refine (laws_uSame.calls kj31 _ _ t143 _ _ t106 true _ ?side1 ?side2 ?side3 ?side4 A75.out).mono ?_); (case side1 => repeat (first | exact (Kd.R_reads' HO146.out).2.2 | (with_reducible refine Kd.C_alloc ?_ _) | (with_reducible refine Kd.C_drewN ?_ _) | (with_reducible refine Kd.C_drew ?_))); (case side2 => exact (Kd.R_reads' HO146.out).2.1); (case side3 => repeat (first | exact (Kd.R_reads' HO_7.out).2.2 | (with_reducible refine Kd.C_alloc ?_ _) | (with_reducible refine Kd.C_drewN ?_ _) | (with_reducible refine Kd.C_drew ?_))); (case side4 => exact (Kd.R_reads' HO_7.out).2.1); rintro e w' ⟨rfl, ⟨nd, rfl⟩⟩; obtain ⟨Ao83, co83, eo83⟩ := Kd.R_slice HO153.out; subst eo83) | (go_at_call 22; (with_reducible refine (laws_uSame.calls kj31 _ _ t150 _ _ t106 true _ ?side1 ?side2 ?side3 ?side4 A77.out).mono ?_); (case side1 => repeat (first | exact (Kd.R_reads' HO153.out).2.2 | (with_reducible refine Kd.C_alloc ?_ _) | (with_reducible refine Kd.C_drewN ?_ _) | (with_reducible refine Kd.C_drew ?_))); (case side2 => exact (Kd.R_reads' HO153.out).2.1); (case side3 => repeat (first | exact (Kd.R_reads' HO_7.out).2.2 | (with_reducible refine Kd.C_alloc ?_ _) | (with_reducible refine Kd.C_drewN ?_ _) | (with_reducible refine Kd.C_drew ?_))); (case side4 => exact (Kd.R_reads' HO_7.out).2.1); rintro e w' ⟨rfl, ⟨nd, rfl⟩⟩; obtain ⟨Ao84, co84, eo84⟩ := Kd.R_slice HO157.out; subst eo84) | (go_at_call 28; (with_reducible refine (laws_uHas.calls kj31 _ _ t154 t103 t162 _ ?side1 ?side2 A79.out).mono ?_); (case side1 => repeat (first | exact (Kd.R_reads' HO157.out).2.2 | (with_reducible refine Kd.C_alloc ?_ _) | (with_reducible refine Kd.C_drewN ?_ _) | (with_reducible refine Kd.C_drew ?_))); (case side2 => exact (Kd.R_reads' HO157.out).2.1); rintro e w' ⟨rfl, ⟨nd, rfl⟩⟩))
                                          go_meet
                                          case rel => exact ⟨_, (!t162), (by first | rfl | (simp; done) | (simp [*]; done)), H', ⟨by have := HJ7.out; have := HJ20.out; have := HJ31.out; first | omega | exact Nat.le_refl _⟩, ⟨by (with_reducible repeat (first | apply Kd.R_alloc | apply Kd.R_drewN | apply Kd.R_drew)); exact Kd.R_mono HO_5.out (fun _ hk => hk.1.1.1.1.1.1)⟩, ⟨by (with_reducible repeat (first | apply Kd.R_alloc | apply Kd.R_drewN | apply Kd.R_drew)); exact Kd.R_mono HO_7.out (fun _ hk => hk.1.1.1.1.1.1)⟩, ⟨by repeat (first | (with_reducible first | exact HB.out | apply below_alloc | apply pw_below_drewN | apply below_drew1) | exact HB.out)⟩⟩
                                        · replace c78 := Bool.eq_false_iff.mpr c78
                                          subst c78
                                          have H1 : (laws_FnOperatorsJoin.j4 kj31 t102 t103 t106 (t102.length : Int) true) = some r := by rw [if_neg (show ¬ (false = true) by decide)] at H; exact H
                                          clear H
                                          have H := H1
                                          clear H1
                                          have H' := Aside0.mk H
                                          clear H
                                          go_wp2_with (first | (go_at_call 27; (with_reducible refine (impl_IsPattern.calls kj31 _ _ t106 true _ ?side1 ?side2 A71.out).mono ?_); (case side1 => repeat (first | exact (Kd.R_reads' HO_7.out).2.2 | (with_reducible refine Kd.C_alloc ?_ _) | (with_reducible refine Kd.C_drewN ?_ _) | (with_reducible refine Kd.C_drew ?_))); (case side2 => exact (Kd.R_reads' HO_7.out).2.1); rintro e w85 ⟨rfl, hb⟩; have n0_ := Aside0.mk (Kd.R_below (by (with_reducible repeat (first | apply Kd.R_alloc | apply Kd.R_drewN | apply Kd.R_drew)); exact HO_5.out) hb); have n1_ := Aside0.mk (Kd.R_below (by (with_reducible repeat (first | apply Kd.R_alloc | apply Kd.R_drewN | apply Kd.R_drew)); exact HO_7.out) hb); have n2_ := Aside0.mk (Kd.R_below (by (with_reducible repeat (first | apply Kd.R_alloc | apply Kd.R_drewN | apply Kd.R_drew)); exact HO139.out) hb); have n3_ := Aside0.mk (Kd.R_below (by (with_reducible repeat (first | apply Kd.R_alloc | apply Kd.R_drewN | apply Kd.R_drew)); exact HO142.out) hb); have n4_ := Aside0.mk (Kd.R_below (by (with_reducible repeat (first | apply Kd.R_alloc | apply Kd.R_drewN | apply Kd.R_drew)); exact HO146.out) hb); have n5_ := Aside0.mk (Kd.R_below (by (with_reducible repeat (first | apply Kd.R_alloc | apply Kd.R_drewN | apply Kd.R_drew)); exact HO149.out) hb); have n6_ := Aside0.mk (Kd.R_below (by (with_reducible repeat (first | apply Kd.R_alloc | apply Kd.R_drewN | apply Kd.R_drew)); exact HO153.out) hb); have n7_ := Aside0.mk (Kd.R_below (by (with_reducible repeat (first | apply Kd.R_alloc | apply Kd.R_drewN | apply Kd.R_drew)); exact HO157.out) hb); have n8_ := Aside0.mk (below_step (by repeat (first | (with_reducible first | exact HB.out | apply below_alloc | apply pw_below_drewN | apply below_drew1) | exact HB.out)) hb); clear HO_5; clear HO_7; clear HO139; clear HO142; clear HO146; clear HO149; clear HO153; clear HO157; clear HB; have HO_5 := n0_; have HO_7 := n1_; have HO139 := n2_; have HO142 := n3_; have HO146 := n4_; have HO149 := n5_; have HO153 := n6_; have HO157 := n7_; have HB := n8_; clear n0_ n1_ n2_ n3_ n4_ n5_ n6_ n7_ n8_; (try clear hb); (try clear hb2); (try clear hk); (try clear hi); obtain ⟨Ao86, co86, eo86⟩ := Kd.R_slice HO139.out; subst eo86) | (go_at_call 22; (with_reducible refine (laws_uSame.calls kj31 _ _ t136 _ _ t106 true _ ?side1 ?side2 ?side3 ?side4 A73.out).mono ?_); (case side1 => repeat (first | exact (Kd.R_reads' HO139.out).2.2 | (with_reducible refine Kd.C_alloc ?_ _) | (with_reducible refine Kd.C_drewN ?_ _) | (with_reducible refine Kd.C_drew ?_))); (case side2 => exact (Kd.R_reads' HO139.out).2.1); (case side3 => repeat (first | exact (Kd.R_reads' HO_7.out).2.2 | (with_reducible refine Kd.C_alloc ?_ _) | (with_reducible refine Kd.C_drewN ?_ _) | (with_reducible refine Kd.C_drew ?_))); (case side4 => exact (Kd.R_reads' HO_7.out).2.1); rintro e w' ⟨rfl, ⟨nd, rfl⟩⟩; obtain ⟨Ao87, co87, eo87⟩ := Kd.R_slice HO146.out; subst eo87) | (go_at_call 22; (with_reducible refine (laws_uSame.calls kj31 _ _ t143 _ _ t106 true _ ?side1 ?side2 ?side3 ?side4 A75.out).mono ?_); (case side1 => repeat (first | exact (Kd.R_reads' HO146.out).2.2 | (with_reducible refine Kd.C_alloc ?_ _) | (with_reducible refine Kd.C_drewN ?_ _) | (with_reducible refine Kd.C_drew ?_))); (case side2 => exact (Kd.R_reads' HO146.out).2.1); (case side3 => repeat (first | exact (Kd.R_reads' HO_7.out).2.2 | (with_reducible refine Kd.C_alloc ?_ _) | (with_reducible refine Kd.C_drewN ?_ _) | (with_reducible refine Kd.C_drew ?_))); (case side4 => exact (Kd.R_reads' HO_7.out).2.1); rintro e w' ⟨rfl, ⟨nd, rfl⟩⟩; obtain ⟨Ao88, co88, eo88⟩ := Kd.R_slice HO153.out; subst eo88) | (go_at_call 22; (with_reducible refine (laws_uSame.calls kj31 _ _ t150 _ _ t106 false _ ?side1 ?side2 ?side3 ?side4 A77.out).mono ?_); (case side1 => repeat (first | exact (Kd.R_reads' HO153.out).2.2 | (with_reducible refine Kd.C_alloc ?_ _) | (with_reducible refine Kd.C_drewN ?_ _) | (with_reducible refine Kd.C_drew ?_))); (case side2 => exact (Kd.R_reads' HO153.out).2.1); (case side3 => repeat (first | exact (Kd.R_reads' HO_7.out).2.2 | (with_reducible refine Kd.C_alloc ?_ _) | (with_reducible refine Kd.C_drewN ?_ _) | (with_reducible refine Kd.C_drew ?_))); (case side4 => exact (Kd.R_reads' HO_7.out).2.1); rintro e w' ⟨rfl, ⟨nd, rfl⟩⟩))
                                          go_meet
                                          case rel => exact ⟨_, (true), (by first | rfl | (simp; done) | (simp [*]; done)), H', ⟨by have := HJ7.out; have := HJ20.out; have := HJ31.out; first | omega | exact Nat.le_refl _⟩, ⟨by (with_reducible repeat (first | apply Kd.R_alloc | apply Kd.R_drewN | apply Kd.R_drew)); exact Kd.R_mono HO_5.out (fun _ hk => hk.1.1.1.1.1.1)⟩, ⟨by (with_reducible repeat (first | apply Kd.R_alloc | apply Kd.R_drewN | apply Kd.R_drew)); exact Kd.R_mono HO_7.out (fun _ hk => hk.1.1.1.1.1.1)⟩, ⟨by repeat (first | (with_reducible first | exact HB.out | apply below_alloc | apply pw_below_drewN | apply below_drew1) | exact HB.out)⟩⟩
                                      · replace c76 := Bool.eq_false_iff.mpr c76
                                        subst c76
                                        have H1 : (laws_FnOperatorsJoin.j4 kj31 t102 t103 t106 (t102.length : Int) true) = some r := by rw [if_neg (show ¬ (false = true) by decide)] at H; exact H
                                        clear H
                                        have H := H1
                                        clear H1
                                        have H' := Aside0.mk H
                                        clear H
                                        go_wp2_with (first | (go_at_call 27; (with_reducible refine (impl_IsPattern.calls kj31 _ _ t106 true _ ?side1 ?side2 A71.out).mono ?_); (case side1 => repeat (first | exact (Kd.R_reads' HO_7.out).2.2 | (with_reducible refine Kd.C_alloc ?_ _) | (with_reducible refine Kd.C_drewN ?_ _) | (with_reducible refine Kd.C_drew ?_))); (case side2 => exact (Kd.R_reads' HO_7.out).2.1); rintro e w89 ⟨rfl, hb⟩; have n0_ := Aside0.mk (Kd.R_below (by (with_reducible repeat (first | apply Kd.R_alloc | apply Kd.R_drewN | apply Kd.R_drew)); exact HO_5.out) hb); have n1_ := Aside0.mk (Kd.R_below (by (with_reducible repeat (first | apply Kd.R_alloc | apply Kd.R_drewN | apply Kd.R_drew)); exact HO_7.out) hb); have n2_ := Aside0.mk (Kd.R_below (by (with_reducible repeat (first | apply Kd.R_alloc | apply Kd.R_drewN | apply Kd.R_drew)); exact HO139.out) hb); have n3_ := Aside0.mk (Kd.R_below (by (with_reducible repeat (first | apply Kd.R_alloc | apply Kd.R_drewN | apply Kd.R_drew)); exact HO142.out) hb); have n4_ := Aside0.mk (Kd.R_below (by (with_reducible repeat (first | apply Kd.R_alloc | apply Kd.R_drewN | apply Kd.R_drew)); exact HO146.out) hb); have n5_ := Aside0.mk (Kd.R_below (by (with_reducible repeat (first | apply Kd.R_alloc | apply Kd.R_drewN | apply Kd.R_drew)); exact HO149.out) hb); have n6_ := Aside0.mk (Kd.R_below (by (with_reducible repeat (first | apply Kd.R_alloc | apply Kd.R_drewN | apply Kd.R_drew)); exact HO153.out) hb); have n7_ := Aside0.mk (Kd.R_below (by (with_reducible repeat (first | apply Kd.R_alloc | apply Kd.R_drewN | apply Kd.R_drew)); exact HO157.out) hb); have n8_ := Aside0.mk (below_step (by repeat (first | (with_reducible first | exact HB.out | apply below_alloc | apply pw_below_drewN | apply below_drew1) | exact HB.out)) hb); clear HO_5; clear HO_7; clear HO139; clear HO142; clear HO146; clear HO149; clear HO153; clear HO157; clear HB; have HO_5 := n0_; have HO_7 := n1_; have HO139 := n2_; have HO142 := n3_; have HO146 := n4_; have HO149 := n5_; have HO153 := n6_; have HO157 := n7_; have HB := n8_; clear n0_ n1_ n2_ n3_ n4_ n5_ n6_ n7_ n8_; (try clear hb); (try clear hb2); (try clear hk); (try clear hi); obtain ⟨Ao90, co90, eo90⟩ := Kd.R_slice HO139.out; subst eo90) | (go_at_call 22; (with_reducible refine (laws_uSame.calls kj31 _ _ t136 _ _ t106 true _ ?side1 ?side2 ?side3 ?side4 A73.out).mono ?_); (case side1 => repeat (first | exact (Kd.R_reads' HO139.out).2.2 | (with_reducible refine Kd.C_alloc ?_ _) | (with_reducible refine Kd.C_drewN ?_ _) | (with_reducible refine Kd.C_drew ?_))); (case side2 => exact (Kd.R_reads' HO139.out).2.1); (case side3 => repeat (first | exact (Kd.R_reads' HO_7.out).2.2 | (with_reducible refine Kd.C_alloc ?_ _) | (with_reducible refine Kd.C_drewN ?_ _) | (with_reducible refine Kd.C_drew ?_))); (case side4 => exact (Kd.R_reads' HO_7.out).2.1); rintro e w' ⟨rfl, ⟨nd, rfl⟩⟩; obtain ⟨Ao91, co91, eo91⟩ := Kd.R_slice HO146.out; subst eo91) | (go_at_call 22; (with_reducible refine (laws_uSame.calls kj31 _ _ t143 _ _ t106 false _ ?side1 ?side2 ?side3 ?side4 A75.out).mono ?_); (case side1 => repeat (first | exact (Kd.R_reads' HO146.out).2.2 | (with_reducible refine Kd.C_alloc ?_ _) | (with_reducible refine Kd.C_drewN ?_ _) | (with_reducible refine Kd.C_drew ?_))); (case side2 => exact (Kd.R_reads' HO146.out).2.1); (case side3 => repeat (first | exact (Kd.R_reads' HO_7.out).2.2 | (with_reducible refine Kd.C_alloc ?_ _) | (with_reducible refine Kd.C_drewN ?_ _) | (with_reducible refine Kd.C_drew ?_))); (case side4 => exact (Kd.R_reads' HO_7.out).2.1); rintro e w' ⟨rfl, ⟨nd, rfl⟩⟩))
                                        go_meet
                                        case rel => exact ⟨_, (true), (by first | rfl | (simp; done) | (simp [*]; done)), H', ⟨by have := HJ7.out; have := HJ20.out; have := HJ31.out; first | omega | exact Nat.le_refl _⟩, ⟨by (with_reducible repeat (first | apply Kd.R_alloc | apply Kd.R_drewN | apply Kd.R_drew)); exact Kd.R_mono HO_5.out (fun _ hk => hk.1.1.1.1.1.1)⟩, ⟨by (with_reducible repeat (first | apply Kd.R_alloc | apply Kd.R_drewN | apply Kd.R_drew)); exact Kd.R_mono HO_7.out (fun _ hk => hk.1.1.1.1.1.1)⟩, ⟨by repeat (first | (with_reducible first | exact HB.out | apply below_alloc | apply pw_below_drewN | apply below_drew1) | exact HB.out)⟩⟩
                                    · replace c74 := Bool.eq_false_iff.mpr c74
                                      subst c74
                                      have H1 : (laws_FnOperatorsJoin.j4 kj31 t102 t103 t106 (t102.length : Int) true) = some r := by rw [if_neg (show ¬ (false = true) by decide)] at H; exact H
                                      clear H
                                      have H := H1
                                      clear H1
                                      have H' := Aside0.mk H
                                      clear H
                                      go_wp2_with (first | (go_at_call 27; (with_reducible refine (impl_IsPattern.calls kj31 _ _ t106 true _ ?side1 ?side2 A71.out).mono ?_); (case side1 => repeat (first | exact (Kd.R_reads' HO_7.out).2.2 | (with_reducible refine Kd.C_alloc ?_ _) | (with_reducible refine Kd.C_drewN ?_ _) | (with_reducible refine Kd.C_drew ?_))); (case side2 => exact (Kd.R_reads' HO_7.out).2.1); rintro e w92 ⟨rfl, hb⟩; have n0_ := Aside0.mk (Kd.R_below (by (with_reducible repeat (first | apply Kd.R_alloc | apply Kd.R_drewN | apply Kd.R_drew)); exact HO_5.out) hb); have n1_ := Aside0.mk (Kd.R_below (by (with_reducible repeat (first | apply Kd.R_alloc | apply Kd.R_drewN | apply Kd.R_drew)); exact HO_7.out) hb); have n2_ := Aside0.mk (Kd.R_below (by (with_reducible repeat (first | apply Kd.R_alloc | apply Kd.R_drewN | apply Kd.R_drew)); exact HO139.out) hb); have n3_ := Aside0.mk (Kd.R_below (by (with_reducible repeat (first | apply Kd.R_alloc | apply Kd.R_drewN | apply Kd.R_drew)); exact HO142.out) hb); have n4_ := Aside0.mk (Kd.R_below (by (with_reducible repeat (first | apply Kd.R_alloc | apply Kd.R_drewN | apply Kd.R_drew)); exact HO146.out) hb); have n5_ := Aside0.mk (Kd.R_below (by (with_reducible repeat (first | apply Kd.R_alloc | apply Kd.R_drewN | apply Kd.R_drew)); exact HO149.out) hb); have n6_ := Aside0.mk (Kd.R_below (by (with_reducible repeat (first | apply Kd.R_alloc | apply Kd.R_drewN | apply Kd.R_drew)); exact HO153.out) hb); have n7_ := Aside0.mk (Kd.R_below (by (with_reducible repeat (first | apply Kd.R_alloc | apply Kd.R_drewN | apply Kd.R_drew)); exact HO157.out) hb); have n8_ := Aside0.mk (below_step (by repeat (first | (with_reducible first | exact HB.out | apply below_alloc | apply pw_below_drewN | apply below_drew1) | exact HB.out)) hb); clear HO_5; clear HO_7; clear HO139; clear HO142; clear HO146; clear HO149; clear HO153; clear HO157; clear HB; have HO_5 := n0_; have HO_7 := n1_; have HO139 := n2_; have HO142 := n3_; have HO146 := n4_; have HO149 := n5_; have HO153 := n6_; have HO157 := n7_; have HB := n8_; clear n0_ n1_ n2_ n3_ n4_ n5_ n6_ n7_ n8_; (try clear hb); (try clear hb2); (try clear hk); (try clear hi); obtain ⟨Ao93, co93, eo93⟩ := Kd.R_slice HO139.out; subst eo93) | (go_at_call 22; (with_reducible refine (laws_uSame.calls kj31 _ _ t136 _ _ t106 false _ ?side1 ?side2 ?side3 ?side4 A73.out).mono ?_); (case side1 => repeat (first | exact (Kd.R_reads' HO139.out).2.2 | (with_reducible refine Kd.C_alloc ?_ _) | (with_reducible refine Kd.C_drewN ?_ _) | (with_reducible refine Kd.C_drew ?_))); (case side2 => exact (Kd.R_reads' HO139.out).2.1); (case side3 => repeat (first | exact (Kd.R_reads' HO_7.out).2.2 | (with_reducible refine Kd.C_alloc ?_ _) | (with_reducible refine Kd.C_drewN ?_ _) | (with_reducible refine Kd.C_drew ?_))); (case side4 => exact (Kd.R_reads' HO_7.out).2.1); rintro e w' ⟨rfl, ⟨nd, rfl⟩⟩))
                                      go_meet
                                      case rel => exact ⟨_, (true), (by first | rfl | (simp; done) | (simp [*]; done)), H', ⟨by have := HJ7.out; have := HJ20.out; have := HJ31.out; first | omega | exact Nat.le_refl _⟩, ⟨by (with_reducible repeat (first | apply Kd.R_alloc | apply Kd.R_drewN | apply Kd.R_drew)); exact Kd.R_mono HO_5.out (fun _ hk => hk.1.1.1.1.1.1)⟩, ⟨by (with_reducible repeat (first | apply Kd.R_alloc | apply Kd.R_drewN | apply Kd.R_drew)); exact Kd.R_mono HO_7.out (fun _ hk => hk.1.1.1.1.1.1)⟩, ⟨by repeat (first | (with_reducible first | exact HB.out | apply below_alloc | apply pw_below_drewN | apply below_drew1) | exact HB.out)⟩⟩
                                  · replace c72 := Bool.eq_false_iff.mpr c72
                                    subst c72
                                    have H1 : (laws_FnOperatorsJoin.j4 kj31 t102 t103 t106 (t102.length : Int) true) = some r := by rw [if_neg (show ¬ (false = true) by decide)] at H; exact H
                                    clear H
                                    have H := H1
                                    clear H1
                                    have H' := Aside0.mk H
                                    clear H
                                    go_wp2_with (first | (go_at_call 27; (with_reducible refine (impl_IsPattern.calls kj31 _ _ t106 false _ ?side1 ?side2 A71.out).mono ?_); (case side1 => repeat (first | exact (Kd.R_reads' HO_7.out).2.2 | (with_reducible refine Kd.C_alloc ?_ _) | (with_reducible refine Kd.C_drewN ?_ _) | (with_reducible refine Kd.C_drew ?_))); (case side2 => exact (Kd.R_reads' HO_7.out).2.1); rintro e w94 ⟨rfl, hb⟩; have n0_ := Aside0.mk (Kd.R_below (by (with_reducible repeat (first | apply Kd.R_alloc | apply Kd.R_drewN | apply Kd.R_drew)); exact HO_5.out) hb); have n1_ := Aside0.mk (Kd.R_below (by (with_reducible repeat (first | apply Kd.R_alloc | apply Kd.R_drewN | apply Kd.R_drew)); exact HO_7.out) hb); have n2_ := Aside0.mk (Kd.R_below (by (with_reducible repeat (first | apply Kd.R_alloc | apply Kd.R_drewN | apply Kd.R_drew)); exact HO139.out) hb); have n3_ := Aside0.mk (Kd.R_below (by (with_reducible repeat (first | apply Kd.R_alloc | apply Kd.R_drewN | apply Kd.R_drew)); exact HO142.out) hb); have n4_ := Aside0.mk (Kd.R_below (by (with_reducible repeat (first | apply Kd.R_alloc | apply Kd.R_drewN | apply Kd.R_drew)); exact HO146.out) hb); have n5_ := Aside0.mk (Kd.R_below (by (with_reducible repeat (first | apply Kd.R_alloc | apply Kd.R_drewN | apply Kd.R_drew)); exact HO149.out) hb); have n6_ := Aside0.mk (Kd.R_below (by (with_reducible repeat (first | apply Kd.R_alloc | apply Kd.R_drewN | apply Kd.R_drew)); exact HO153.out) hb); have n7_ := Aside0.mk (Kd.R_below (by (with_reducible repeat (first | apply Kd.R_alloc | apply Kd.R_drewN | apply Kd.R_drew)); exact HO157.out) hb); have n8_ := Aside0.mk (below_step (by repeat (first | (with_reducible first | exact HB.out | apply below_alloc | apply pw_below_drewN | apply below_drew1) | exact HB.out)) hb); clear HO_5; clear HO_7; clear HO139; clear HO142; clear HO146; clear HO149; clear HO153; clear HO157; clear HB; have HO_5 := n0_; have HO_7 := n1_; have HO139 := n2_; have HO142 := n3_; have HO146 := n4_; have HO149 := n5_; have HO153 := n6_; have HO157 := n7_; have HB := n8_; clear n0_ n1_ n2_ n3_ n4_ n5_ n6_ n7_ n8_; (try clear hb); (try clear hb2); (try clear hk); (try clear hi)))
                                    go_meet
                                    case rel => exact ⟨_, (true), (by first | rfl | (simp; done) | (simp [*]; done)), H', ⟨by have := HJ7.out; have := HJ20.out; have := HJ31.out; first | omega | exact Nat.le_refl _⟩, ⟨by (with_reducible repeat (first | apply Kd.R_alloc | apply Kd.R_drewN | apply Kd.R_drew)); exact Kd.R_mono HO_5.out (fun _ hk => hk.1.1.1.1.1.1)⟩, ⟨by (with_reducible repeat (first | apply Kd.R_alloc | apply Kd.R_drewN | apply Kd.R_drew)); exact Kd.R_mono HO_7.out (fun _ hk => hk.1.1.1.1.1.1)⟩, ⟨by repeat (first | (with_reducible first | exact HB.out | apply below_alloc | apply pw_below_drewN | apply below_drew1) | exact HB.out)⟩⟩
                                · replace c70 := Bool.eq_false_iff.mpr c70
                                  subst c70
                                  have H1 : (laws_FnOperatorsJoin.j4 kj31 t102 t103 t106 (t102.length : Int) true) = some r := by rw [if_neg (show ¬ (false = true) by decide)] at H; exact H
                                  clear H
                                  have H := H1
                                  clear H1
                                  have H' := Aside0.mk H
                                  clear H
                                  go_wp2
                                  go_meet
                                  case rel => exact ⟨_, (true), (by first | rfl | (simp; done) | (simp [*]; done)), H', ⟨by have := HJ7.out; have := HJ20.out; have := HJ31.out; first | omega | exact Nat.le_refl _⟩, ⟨by (with_reducible repeat (first | apply Kd.R_alloc | apply Kd.R_drewN | apply Kd.R_drew)); exact Kd.R_mono HO_5.out (fun _ hk => hk.1.1.1.1.1.1)⟩, ⟨by (with_reducible repeat (first | apply Kd.R_alloc | apply Kd.R_drewN | apply Kd.R_drew)); exact Kd.R_mono HO_7.out (fun _ hk => hk.1.1.1.1.1.1)⟩, ⟨by repeat (first | (with_reducible first | exact HB.out | apply below_alloc | apply pw_below_drewN | apply below_drew1) | exact HB.out)⟩⟩
                              · replace c69 := Bool.eq_false_iff.mpr c69
                                subst c69
                                have H1 : (laws_FnOperatorsJoin.j4 kj31 t102 t103 t106 (t102.length : Int) true) = some r := by rw [if_neg (show ¬ (false = true) by decide)] at H; exact H
                                clear H
                                have H := H1
                                clear H1
                                have H' := Aside0.mk H
                                clear H
                                go_wp2
                                go_meet
                                case rel => exact ⟨_, (true), (by first | rfl | (simp; done) | (simp [*]; done)), H', ⟨by have := HJ7.out; have := HJ20.out; have := HJ31.out; first | omega | exact Nat.le_refl _⟩, ⟨by (with_reducible repeat (first | apply Kd.R_alloc | apply Kd.R_drewN | apply Kd.R_drew)); exact Kd.R_mono HO_5.out (fun _ hk => hk.1.1.1.1.1.1)⟩, ⟨by (with_reducible repeat (first | apply Kd.R_alloc | apply Kd.R_drewN | apply Kd.R_drew)); exact Kd.R_mono HO_7.out (fun _ hk => hk.1.1.1.1.1.1)⟩, ⟨by repeat (first | (with_reducible first | exact HB.out | apply below_alloc | apply pw_below_drewN | apply below_drew1) | exact HB.out)⟩⟩
                            · replace c68 := Bool.eq_false_iff.mpr c68
                              subst c68
                              have H1 : (laws_FnOperatorsJoin.j4 kj31 t102 t103 t106 (t102.length : Int) true) = some r := by rw [if_neg (show ¬ (false = true) by decide)] at H; exact H
                              clear H
                              have H := H1
                              clear H1
                              have H' := Aside0.mk H
                              clear H
                              go_wp2
                              go_meet
                              case rel => exact ⟨_, (true), (by first | rfl | (simp; done) | (simp [*]; done)), H', ⟨by have := HJ7.out; have := HJ20.out; have := HJ31.out; first | omega | exact Nat.le_refl _⟩, ⟨by (with_reducible repeat (first | apply Kd.R_alloc | apply Kd.R_drewN | apply Kd.R_drew)); exact Kd.R_mono HO_5.out (fun _ hk => hk.1.1.1.1.1.1)⟩, ⟨by (with_reducible repeat (first | apply Kd.R_alloc | apply Kd.R_drewN | apply Kd.R_drew)); exact Kd.R_mono HO_7.out (fun _ hk => hk.1.1.1.1.1.1)⟩, ⟨by repeat (first | (with_reducible first | exact HB.out | apply below_alloc | apply pw_below_drewN | apply below_drew1) | exact HB.out)⟩⟩
                          · replace c67 := Bool.eq_false_iff.mpr c67
                            subst c67
                            have H1 : (laws_FnOperatorsJoin.j4 kj31 t102 t103 t106 (t102.length : Int) true) = some r := by rw [if_neg (show ¬ (false = true) by decide)] at H; exact H
                            clear H
                            have H := H1
                            clear H1
                            have H' := Aside0.mk H
                            clear H
                            go_wp2
                            go_meet
                            case rel => exact ⟨_, (true), (by first | rfl | (simp; done) | (simp [*]; done)), H', ⟨by have := HJ7.out; have := HJ20.out; have := HJ31.out; first | omega | exact Nat.le_refl _⟩, ⟨by (with_reducible repeat (first | apply Kd.R_alloc | apply Kd.R_drewN | apply Kd.R_drew)); exact Kd.R_mono HO_5.out (fun _ hk => hk.1.1.1.1.1.1)⟩, ⟨by (with_reducible repeat (first | apply Kd.R_alloc | apply Kd.R_drewN | apply Kd.R_drew)); exact Kd.R_mono HO_7.out (fun _ hk => hk.1.1.1.1.1.1)⟩, ⟨by repeat (first | (with_reducible first | exact HB.out | apply below_alloc | apply pw_below_drewN | apply below_drew1) | exact HB.out)⟩⟩
                        case rest => as_aux_lemma =>
                          clear HC55
                          try clear c1
                          try clear p1
                          try clear q1
                          try clear hx1
                          try clear c2
                          try clear p2
                          try clear c3
                          try clear c4
                          try clear c5
                          try clear c6
                          try clear p6
                          try clear c7
                          try clear c13
                          try clear c13b0
                          try clear c13b1
                          try clear c13b2
                          try clear p13
                          try clear q13
                          try clear hx13
                          try clear c17
                          try clear c18
                          try clear c19
                          try clear c20
                          try clear c21
                          try clear c22
                          try clear c23
                          try clear c24
                          try clear c25
                          try clear c26
                          try clear c27
                          try clear c27b0
                          try clear c27b1
                          try clear c27b2
                          try clear c31
                          try clear c33
                          try clear c34
                          try clear c34b0
                          try clear c35
                          try clear c35b0
                          try clear c36
                          try clear c36b0
                          try clear c38
                          try clear c44
                          try clear c49
                          try clear c51
                          try clear c51b0
                          try clear c51b1
                          try clear c51b2
                          try clear p64
                          try clear c67
                          try clear c68
                          try clear c69
                          try clear c70
                          try clear c72
                          try clear c74
                          try clear c76
                          try clear c78
                          try clear hx130_0
                          try clear p1
                          try clear p13
                          try clear p130
                          try clear p2
                          try clear p6
                          try clear q1
                          try clear q13
                          try clear q130
                          obtain ⟨kq, x202_54, rfl, HA, HJ54, HO_5, HO_7, HB⟩ := hcut
                          cases kq with
                          | zero => exact absurd HA.out (by simp [laws_FnOperatorsJoin.j4])
                          | succ kj54 =>
                            have H := HA.out
                            clear HA
                            simp only [laws_FnOperatorsJoin.j4] at H
                            by_cases c95 : x202_54 = true
                            · subst c95
                              exact absurd ((show (some false : Option Bool) = some r from by rw [if_pos rfl] at H; exact H).trans (congrArg some HR_.out)) (by simp)
                            · replace c95 := Bool.eq_false_iff.mpr c95
                              subst c95
                              have H1 : (laws_FnOperatorsJoin.l1 kj54 t102 t103 t106 (t102.length : Int) 0) = some r := by rw [if_neg (show ¬ (false = true) by decide)] at H; exact H
                              clear H
                              have H := H1
                              clear H1
                              have H' := Aside0.mk H
                              clear H
                              go_wp2
                              go_loopg [31] kj54 (fun kq v31 w' => ∃ (x31_5 : Int), v31 = .int .i64 x31_5 ∧ Aside0 (laws_FnOperatorsJoin.l1 kq t102 t103 t106 (t102.length : Int) x31_5 = some r) ∧ Aside0 (kq ≤ kj54) ∧ Aside0 (Kd.R (Kd.int .i64) 3 w' w.heap.size (fun k_ => some k_ ≠ ((.slice Ao56 t106.length co56) : Value).ownBlock) (.slice Ao10 t102.length co10) t102) ∧ Aside0 (Kd.R (Kd.int .i64) 3 w' w.heap.size (fun k_ => some k_ ≠ ((.slice Ao10 t102.length co10) : Value).ownBlock) (.slice Ao56 t106.length co56) t106) ∧ Aside0 (Below w.heap.size w w'))
                              case atStart => exact ⟨(0), (by first | rfl | (simp; done) | (simp [*]; done)), H', ⟨Nat.le_refl _⟩, ⟨by (with_reducible repeat (first | apply Kd.R_alloc | apply Kd.R_drewN | apply Kd.R_drew)); exact HO_5.out⟩, ⟨by (with_reducible repeat (first | apply Kd.R_alloc | apply Kd.R_drewN | apply Kd.R_drew)); exact HO_7.out⟩, ⟨by repeat (first | (with_reducible first | exact HB.out | apply below_alloc | apply pw_below_drewN | apply below_drew1) | exact HB.out)⟩⟩
                              case round => as_aux_lemma =>
                                clear H'
                                try clear c1
                                try clear p1
                                try clear q1
                                try clear hx1
                                try clear c2
                                try clear p2
                                try clear c3
                                try clear c4
                                try clear c5
                                try clear c6
                                try clear p6
                                try clear c7
                                try clear c9
                                try clear c13
                                try clear c13b0
                                try clear c13b1
                                try clear c13b2
                                try clear p13
                                try clear q13
                                try clear hx13
                                try clear c17
                                try clear c18
                                try clear c19
                                try clear c20
                                try clear c21
                                try clear c22
                                try clear c23
                                try clear c24
                                try clear c25
                                try clear c26
                                try clear c27
                                try clear c27b0
                                try clear c27b1
                                try clear c27b2
                                try clear c31
                                try clear c33
                                try clear c34
                                try clear c34b0
                                try clear c35
                                try clear c35b0
                                try clear c36
                                try clear c36b0
                                try clear c38
                                try clear c44
                                try clear c49
                                try clear c51
                                try clear c51b0
                                try clear c51b1
                                try clear c51b2
                                try clear p64
                                try clear c67
                                try clear c68
                                try clear c69
                                try clear c70
                                try clear c72
                                try clear c74
                                try clear c76
                                try clear c78
                                try clear c95
                                try clear hx130_0
                                try clear p1
                                try clear p13
                                try clear p130
                                try clear p2
                                try clear p6
                                try clear p64
                                try clear q1
                                try clear q13
                                try clear q130
                                obtain ⟨x31_5, rfl, HA, HK5, HO_5, HO_7, HB⟩ := hrel
                                cases gk with
                                | zero => exact absurd HA.out (by simp [laws_FnOperatorsJoin.l1])
                                | succ k5 =>
                                  have H := HA.out
                                  clear HA
                                  simp only [laws_FnOperatorsJoin.l1] at H
                                  by_cases c96 : x31_5 < (t102.length : Int)
                                  · rw [if_pos c96] at H
                                    have c96b0 : decide (x31_5 < (t102.length : Int)) = true := decide_eq_true c96
                                    clear c96
                                    have HC97 := Aside0.mk H
                                    clear H
                                    go_upto_region 37 with (fail)
                                    go_cut [226] (fun v226 wc => ∃ (kq : Nat) (x226_96 : Bool), v226 = .bool x226_96 ∧ Aside0 (laws_FnOperatorsJoin.j6 kq t102 t103 t106 (t102.length : Int) x31_5 x226_96 = some r) ∧ Aside0 (kq ≤ k5) ∧ Aside0 (Kd.R (Kd.int .i64) 3 wc w.heap.size (fun k_ => some k_ ≠ ((.slice Ao56 t106.length co56) : Value).ownBlock) (.slice Ao10 t102.length co10) t102) ∧ Aside0 (Kd.R (Kd.int .i64) 3 wc w.heap.size (fun k_ => some k_ ≠ ((.slice Ao10 t102.length co10) : Value).ownBlock) (.slice Ao56 t106.length co56) t106) ∧ Aside0 (Below w.heap.size w wc))
                                    case first => as_aux_lemma =>
                                      have H := HC97.out
                                      clear HC97
                                      by_cases c98 : x31_5 = t103
                                      · rw [if_pos c98] at H
                                        have c98b0 : (x31_5 == t103) = true := beq_iff_eq.mpr c98
                                        have c98b1 : (x31_5 != t103) = false := bne_eq_false_iff_eq.mpr c98
                                        clear c98
                                        (first | rw [c98b0] | (simp only [i64_w, i32_w]; rw [c98b0]) | skip)
                                        have H' := Aside0.mk H
                                        clear H
                                        go_wp2
                                        go_meet
                                        case rel => exact ⟨_, (true), (by first | rfl | (simp; done) | (simp [*]; done)), H', ⟨by have := HJ7.out; have := HJ20.out; have := HJ31.out; have := HJ54.out; have := HK5.out; first | omega | exact Nat.le_refl _⟩, ⟨by (with_reducible repeat (first | apply Kd.R_alloc | apply Kd.R_drewN | apply Kd.R_drew)); exact HO_5.out⟩, ⟨by (with_reducible repeat (first | apply Kd.R_alloc | apply Kd.R_drewN | apply Kd.R_drew)); exact HO_7.out⟩, ⟨by repeat (first | (with_reducible first | exact HB.out | apply below_alloc | apply pw_below_drewN | apply below_drew1) | exact HB.out)⟩⟩
                                      · rw [if_neg c98] at H
                                        have c98b0 : (x31_5 == t103) = false := beq_eq_false_iff_ne.mpr c98
                                        have c98b1 : (x31_5 != t103) = true := bne_iff_ne.mpr c98
                                        (first | rw [c98b0] | (simp only [i64_w, i32_w]; rw [c98b0]) | skip)
                                        by_cases c99 : (t102.length : Int) = 0
                                        · rw [if_pos c99] at H
                                          exact absurd H (by simp)
                                        · rw [if_neg c99] at H
                                          have c99b0 : ((t102.length : Int) == 0) = false := beq_eq_false_iff_ne.mpr c99
                                          have c99b1 : ((t102.length : Int) != 0) = true := bne_iff_ne.mpr c99
                                          have c99b2 : ¬ (t102 = []) := fun h_ => c99 (by rw [h_]; rfl)
                                          by_cases c100 : (Int.tmod (wrap64 (x31_5 + 1)) (t102.length : Int)) = t103
                                          · rw [if_pos c100] at H
                                            have c100b0 : ((Int.tmod (wrap64 (x31_5 + 1)) (t102.length : Int)) == t103) = true := beq_iff_eq.mpr c100
                                            have c100b1 : ((Int.tmod (wrap64 (x31_5 + 1)) (t102.length : Int)) != t103) = false := bne_eq_false_iff_eq.mpr c100
                                            clear c100
                                            have H' := Aside0.mk H
                                            clear H
                                            go_wp2
                                            go_meet
                                            case rel => exact ⟨_, (true), (by first | rfl | (simp; done) | (simp [*]; done)), H', ⟨by have := HJ7.out; have := HJ20.out; have := HJ31.out; have := HJ54.out; have := HK5.out; first | omega | exact Nat.le_refl _⟩, ⟨by (with_reducible repeat (first | apply Kd.R_alloc | apply Kd.R_drewN | apply Kd.R_drew)); exact HO_5.out⟩, ⟨by (with_reducible repeat (first | apply Kd.R_alloc | apply Kd.R_drewN | apply Kd.R_drew)); exact HO_7.out⟩, ⟨by repeat (first | (with_reducible first | exact HB.out | apply below_alloc | apply pw_below_drewN | apply below_drew1) | exact HB.out)⟩⟩
                                          · rw [if_neg c100] at H
                                            have c100b0 : ((Int.tmod (wrap64 (x31_5 + 1)) (t102.length : Int)) == t103) = false := beq_eq_false_iff_ne.mpr c100
                                            have c100b1 : ((Int.tmod (wrap64 (x31_5 + 1)) (t102.length : Int)) != t103) = true := bne_iff_ne.mpr c100
                                            have H' := Aside0.mk H
                                            clear H
                                            go_wp2
                                            go_meet
                                            case rel => exact ⟨_, (((Int.tmod (wrap64 (t103 + 1)) (t102.length : Int)) == x31_5)), (by first | rfl | (simp; done) | (simp [*]; done)), H', ⟨by have := HJ7.out; have := HJ20.out; have := HJ31.out; have := HJ54.out; have := HK5.out; first | omega | exact Nat.le_refl _⟩, ⟨by (with_reducible repeat (first | apply Kd.R_alloc | apply Kd.R_drewN | apply Kd.R_drew)); exact HO_5.out⟩, ⟨by (with_reducible repeat (first | apply Kd.R_alloc | apply Kd.R_drewN | apply Kd.R_drew)); exact HO_7.out⟩, ⟨by repeat (first | (with_reducible first | exact HB.out | apply below_alloc | apply pw_below_drewN | apply below_drew1) | exact HB.out)⟩⟩
                                    case rest => as_aux_lemma =>
                                      clear HC97
                                      try clear c1
                                      try clear p1
                                      try clear q1
                                      try clear hx1
                                      try clear c2
                                      try clear p2
                                      try clear c3
                                      try clear c4
                                      try clear c5
                                      try clear c6
                                      try clear p6
                                      try clear c7
                                      try clear c9
                                      try clear c10
                                      try clear c13
                                      try clear c13b0
                                      try clear c13b1
                                      try clear c13b2
                                      try clear p13
                                      try clear q13
                                      try clear hx13
                                      try clear c17
                                      try clear c18
                                      try clear c19
                                      try clear c20
                                      try clear c21
                                      try clear c22
                                      try clear c23
                                      try clear c24
                                      try clear c25
                                      try clear c26
                                      try clear c27
                                      try clear c27b0
                                      try clear c27b1
                                      try clear c27b2
                                      try clear c31
                                      try clear c33
                                      try clear c34
                                      try clear c34b0
                                      try clear c35
                                      try clear c35b0
                                      try clear c36
                                      try clear c36b0
                                      try clear c38
                                      try clear c44
                                      try clear c49
                                      try clear c51
                                      try clear c51b0
                                      try clear c51b1
                                      try clear c51b2
                                      try clear p64
                                      try clear c67
                                      try clear c68
                                      try clear c69
                                      try clear c70
                                      try clear c72
                                      try clear c74
                                      try clear c76
                                      try clear c78
                                      try clear c95
                                      try clear c96
                                      try clear c96b0
                                      try clear c98
                                      try clear c98b0
                                      try clear c98b1
                                      try clear c99
                                      try clear c99b0
                                      try clear c99b1
                                      try clear c99b2
                                      try clear c100
                                      try clear c100b0
                                      try clear c100b1
                                      try clear hx130_0
                                      try clear p1
                                      try clear p13
                                      try clear p130
                                      try clear p2
                                      try clear p6
                                      try clear p64
                                      try clear q1
                                      try clear q13
                                      try clear q130
                                      obtain ⟨kq, x226_96, rfl, HA, HJ96, HO_5, HO_7, HB⟩ := hcut
                                      cases kq with
                                      | zero => exact absurd HA.out (by simp [laws_FnOperatorsJoin.j6])
                                      | succ kj96 =>
                                        have H := HA.out
                                        clear HA
                                        simp only [laws_FnOperatorsJoin.j6] at H
                                        by_cases c101 : x226_96 = true
                                        · subst c101
                                          have H1 : (laws_FnOperatorsJoin.l1 kj96 t102 t103 t106 (t102.length : Int) (wrap64 (x31_5 + 1))) = some r := by rw [if_pos rfl] at H; exact H
                                          clear H
                                          have H := H1
                                          clear H1
                                          have H' := Aside0.mk H
                                          clear H
                                          go_wp2
                                          go_roundg kj96
                                          case measure => have := HJ7.out; have := HJ20.out; have := HJ31.out; have := HJ54.out; have := HK5.out; have := HJ96.out; omega
                                          case rel => exact ⟨(wrap64 (x31_5 + 1)), (by first | rfl | (simp; done) | (simp [*]; done)), H', ⟨by have := HJ7.out; have := HJ20.out; have := HJ31.out; have := HJ54.out; have := HK5.out; have := HJ96.out; omega⟩, ⟨by (with_reducible repeat (first | apply Kd.R_alloc | apply Kd.R_drewN | apply Kd.R_drew)); exact HO_5.out⟩, ⟨by (with_reducible repeat (first | apply Kd.R_alloc | apply Kd.R_drewN | apply Kd.R_drew)); exact HO_7.out⟩, ⟨by repeat (first | (with_reducible first | exact HB.out | apply below_alloc | apply pw_below_drewN | apply below_drew1) | exact HB.out)⟩⟩
                                        · replace c101 := Bool.eq_false_iff.mpr c101
                                          subst c101
                                          have H1 : ((impl_JoinWord.f kj96 t102 (([t103, x31_5] : List Int))).bind fun bt166 => ((impl_JoinWord.f kj96 t102 (([x31_5, t103] : List Int))).bind fun bt173 => (if bt166.2 = true then (if bt173.2 = true then ((laws_uSame.f kj96 bt166.1 bt173.1).bind fun t177 => (if t177 = true then (laws_FnOperatorsJoin.l1 kj96 t102 t103 t106 (t102.length : Int) (wrap64 (x31_5 + 1))) else (some false))) else (some false)) else (some false)))) = some r := by rw [if_neg (show ¬ (false = true) by decide)] at H; exact H
                                          clear H
                                          have H := H1
                                          clear H1
                                          obtain ⟨y163, hy163⟩ : ∃ y_ : List Int, y_ = (([t103, x31_5] : List Int)) := ⟨_, rfl⟩
                                          replace H : ((impl_JoinWord.f kj96 t102 y163).bind fun bt166 => ((impl_JoinWord.f kj96 t102 (([x31_5, t103] : List Int))).bind fun bt173 => (if bt166.2 = true then (if bt173.2 = true then ((laws_uSame.f kj96 bt166.1 bt173.1).bind fun t177 => (if t177 = true then (laws_FnOperatorsJoin.l1 kj96 t102 t103 t106 (t102.length : Int) (wrap64 (x31_5 + 1))) else (some false))) else (some false)) else (some false)))) = some r := by first | (rw [hy163]; with_reducible exact H) | (have H2_ := (Option.bind_some _ _).symm.trans H; rw [hy163]; with_reducible exact H2_) | (have H2_ := (Option.bind_some _ _).symm.trans H; with_reducible exact H2_) | with_reducible exact H | (rw [hy163]; exact H) | exact H
                                          have Ny163 := Aside0.mk hy163
                                          clear hy163
                                          replace H := Option.bind_eq_some_iff.mp H
                                          obtain ⟨⟨t166, t167⟩, A1020, H⟩ := H
                                          replace H : ((impl_JoinWord.f kj96 t102 (([x31_5, t103] : List Int))).bind fun bt173 => (if t167 = true then (if bt173.2 = true then ((laws_uSame.f kj96 t166 bt173.1).bind fun t177 => (if t177 = true then (laws_FnOperatorsJoin.l1 kj96 t102 t103 t106 (t102.length : Int) (wrap64 (x31_5 + 1))) else (some false))) else (some false)) else (some false))) = some r := H
                                          have A102 := Aside0.mk A1020
                                          clear A1020
                                          obtain ⟨y170, hy170⟩ : ∃ y_ : List Int, y_ = (([x31_5, t103] : List Int)) := ⟨_, rfl⟩
                                          replace H : ((impl_JoinWord.f kj96 t102 y170).bind fun bt173 => (if t167 = true then (if bt173.2 = true then ((laws_uSame.f kj96 t166 bt173.1).bind fun t177 => (if t177 = true then (laws_FnOperatorsJoin.l1 kj96 t102 t103 t106 (t102.length : Int) (wrap64 (x31_5 + 1))) else (some false))) else (some false)) else (some false))) = some r := by first | (rw [hy170]; with_reducible exact H) | (have H2_ := (Option.bind_some _ _).symm.trans H; rw [hy170]; with_reducible exact H2_) | (have H2_ := (Option.bind_some _ _).symm.trans H; with_reducible exact H2_) | with_reducible exact H | (rw [hy170]; exact H) | exact H
                                          have Ny170 := Aside0.mk hy170
                                          clear hy170
                                          replace H := Option.bind_eq_some_iff.mp H
                                          obtain ⟨⟨t173, t174⟩, A1030, H⟩ := H
                                          replace H : (if t167 = true then (if t174 = true then ((laws_uSame.f kj96 t166 t173).bind fun t177 => (if t177 = true then (laws_FnOperatorsJoin.l1 kj96 t102 t103 t106 (t102.length : Int) (wrap64 (x31_5 + 1))) else (some false))) else (some false)) else (some false)) = some r := H
                                          have A103 := Aside0.mk A1030
                                          clear A1030
                                          by_cases c104 : t167 = true
                                          · subst c104
                                            have H1 : (if t174 = true then ((laws_uSame.f kj96 t166 t173).bind fun t177 => (if t177 = true then (laws_FnOperatorsJoin.l1 kj96 t102 t103 t106 (t102.length : Int) (wrap64 (x31_5 + 1))) else (some false))) else (some false)) = some r := by rw [if_pos rfl] at H; exact H
                                            clear H
                                            have H := H1
                                            clear H1
                                            by_cases c105 : t174 = true
                                            · subst c105
                                              have H1 : ((laws_uSame.f kj96 t166 t173).bind fun t177 => (if t177 = true then (laws_FnOperatorsJoin.l1 kj96 t102 t103 t106 (t102.length : Int) (wrap64 (x31_5 + 1))) else (some false))) = some r := by rw [if_pos rfl] at H; exact H
                                              clear H
                                              have H := H1
                                              clear H1
                                              replace H := Option.bind_eq_some_iff.mp H
                                              obtain ⟨t177, A1060, H⟩ := H
                                              replace H : (if t177 = true then (laws_FnOperatorsJoin.l1 kj96 t102 t103 t106 (t102.length : Int) (wrap64 (x31_5 + 1))) else (some false)) = some r := H
                                              have A106 := Aside0.mk A1060
                                              clear A1060
                                              by_cases c107 : t177 = true
                                              · subst c107
                                                have H1 : (laws_FnOperatorsJoin.l1 kj96 t102 t103 t106 (t102.length : Int) (wrap64 (x31_5 + 1))) = some r := by rw [if_pos rfl] at H; exact H
                                                clear H
                                                have H := H1
                                                clear H1
                                                have H' := Aside0.mk H
                                                clear H
                                                go_wp2_with (first | ((with_reducible refine gate_dst (N := 231) rfl ?_); refine Kd.R_lit (Kd.int .i64) _ 3 ?hg (N := 231) ?hd (xs := ([t103, x31_5] : List Int)) (inner := [.int .i64 t103, .int .i64 x31_5]) (ok := fun _ => True) (okp := fun _ => True) ?hr ?hp (fun _ hk => hk) trivial (Below.refl _ _) (Nat.le_refl _) (by simp) ?_; (case hd => rfl); (case hg => rfl); (case hr => first | (go_simp; done) | (go_simp; rfl)); (case hp => exact (Reps.one (show Kd.M (Kd.int .i64) _ _ _ t103 [.int .i64 t103] from rfl) (Reps.one (show Kd.M (Kd.int .i64) _ _ _ x31_5 [.int .i64 x31_5] from rfl) (Reps.none _ _)))); intro v164 w108 ho109 hb hg_ hnew_; clear hg_ hnew_; (first | rw [← Ny163.out] at ho109 | (simp only [Int.reduceToNat] at ho109; rw [← Ny163.out] at ho109)); have n0_ := Aside0.mk (Kd.R_elder' (by (with_reducible repeat (first | apply Kd.R_alloc | apply Kd.R_drewN | apply Kd.R_drew)); exact HO_5.out) (Kd.R_base ho109) hb); have n1_ := Aside0.mk (Kd.R_elder' (by (with_reducible repeat (first | apply Kd.R_alloc | apply Kd.R_drewN | apply Kd.R_drew)); exact HO_7.out) (Kd.R_base ho109) hb); have n2_ := Aside0.mk (Kd.R_lower (Kd.R_new' (Kd.R_new' ho109 (Kd.R_lt (by (with_reducible repeat (first | apply Kd.R_alloc | apply Kd.R_drewN | apply Kd.R_drew)); exact HO_5.out))) (Kd.R_lt (by (with_reducible repeat (first | apply Kd.R_alloc | apply Kd.R_drewN | apply Kd.R_drew)); exact HO_7.out))) (below_size (by repeat (first | (with_reducible first | exact HB.out | apply below_alloc | apply pw_below_drewN | apply below_drew1) | exact HB.out)))); have n3_ := Aside0.mk (below_step (by repeat (first | (with_reducible first | exact HB.out | apply below_alloc | apply pw_below_drewN | apply below_drew1) | exact HB.out)) hb); clear HO_5; clear HO_7; clear HB; have HO_5 := n0_; have HO_7 := n1_; have HO165 := n2_; have HB := n3_; clear n0_ n1_ n2_ n3_; clear hb ho109; obtain ⟨Ao110, co110, eo110⟩ := Kd.R_slice HO165.out; subst eo110) | ((with_reducible refine gate_callee (f := 24) rfl ?_); refine goesL_ (some 232) rfl rfl Try.func24 (by kernel_rfl) rfl #[.slice Ao10 t102.length co10, .slice Ao110 y163.length co110] rfl (by (try simp only [List.map_toArray, List.map_cons, List.map_nil]); first | done | rfl | (simp only [List.length_drop, List.length_take]; rfl)) ?_; (with_reducible refine (impl_JoinWord.calls kj96 _ _ t102 _ _ y163 t166 true _ ?side1 ?side2 ?side3 ?side4 A102.out).mono ?_); (case side1 => repeat (first | exact (Kd.R_reads' HO_5.out).2.2 | (with_reducible refine Kd.C_alloc ?_ _) | (with_reducible refine Kd.C_drewN ?_ _) | (with_reducible refine Kd.C_drew ?_))); (case side2 => exact (Kd.R_reads' HO_5.out).2.1); (case side3 => repeat (first | exact (Kd.R_reads' HO165.out).2.2 | (with_reducible refine Kd.C_alloc ?_ _) | (with_reducible refine Kd.C_drewN ?_ _) | (with_reducible refine Kd.C_drew ?_))); (case side4 => exact (Kd.R_reads' HO165.out).2.1); rintro e w111 ⟨v168, rfl, ho0, hb⟩; refine ⟨_, rfl, ?_⟩; have n0_ := Aside0.mk (Kd.R_elder' (by (with_reducible repeat (first | apply Kd.R_alloc | apply Kd.R_drewN | apply Kd.R_drew)); exact HO_5.out) (Kd.R_base ho0) hb); have n1_ := Aside0.mk (Kd.R_elder' (by (with_reducible repeat (first | apply Kd.R_alloc | apply Kd.R_drewN | apply Kd.R_drew)); exact HO_7.out) (Kd.R_base ho0) hb); have n2_ := Aside0.mk (Kd.R_elder' (by (with_reducible repeat (first | apply Kd.R_alloc | apply Kd.R_drewN | apply Kd.R_drew)); exact HO165.out) (Kd.R_base ho0) hb); have n3_ := Aside0.mk (Kd.R_lower (Kd.R_new' (Kd.R_new' (Kd.R_new' ho0 (Kd.R_lt (by (with_reducible repeat (first | apply Kd.R_alloc | apply Kd.R_drewN | apply Kd.R_drew)); exact HO_5.out))) (Kd.R_lt (by (with_reducible repeat (first | apply Kd.R_alloc | apply Kd.R_drewN | apply Kd.R_drew)); exact HO_7.out))) (Kd.R_lt (by (with_reducible repeat (first | apply Kd.R_alloc | apply Kd.R_drewN | apply Kd.R_drew)); exact HO165.out))) (below_size (by repeat (first | (with_reducible first | exact HB.out | apply below_alloc | apply pw_below_drewN | apply below_drew1) | exact HB.out)))); have n4_ := Aside0.mk (below_step (by repeat (first | (with_reducible first | exact HB.out | apply below_alloc | apply pw_below_drewN | apply below_drew1) | exact HB.out)) hb); clear HO_5; clear HO_7; clear HO165; clear HB; have HO_5 := n0_; have HO_7 := n1_; have HO165 := n2_; have HO169 := n3_; have HB := n4_; clear n0_ n1_ n2_ n3_ n4_; (try clear hb); (try clear hb2); (try clear hk); (try clear hi); (try clear ho0)) | ((with_reducible refine gate_dst (N := 239) rfl ?_); refine Kd.R_lit (Kd.int .i64) _ 3 ?hg (N := 239) ?hd (xs := ([x31_5, t103] : List Int)) (inner := [.int .i64 x31_5, .int .i64 t103]) (ok := fun _ => True) (okp := fun _ => True) ?hr ?hp (fun _ hk => hk) trivial (Below.refl _ _) (Nat.le_refl _) (by simp) ?_; (case hd => rfl); (case hg => rfl); (case hr => first | (go_simp; done) | (go_simp; rfl)); (case hp => exact (Reps.one (show Kd.M (Kd.int .i64) _ _ _ x31_5 [.int .i64 x31_5] from rfl) (Reps.one (show Kd.M (Kd.int .i64) _ _ _ t103 [.int .i64 t103] from rfl) (Reps.none _ _)))); intro v171 w112 ho113 hb hg_ hnew_; clear hg_ hnew_; (first | rw [← Ny170.out] at ho113 | (simp only [Int.reduceToNat] at ho113; rw [← Ny170.out] at ho113)); have n0_ := Aside0.mk (Kd.R_elder' (by (with_reducible repeat (first | apply Kd.R_alloc | apply Kd.R_drewN | apply Kd.R_drew)); exact HO_5.out) (Kd.R_base ho113) hb); have n1_ := Aside0.mk (Kd.R_elder' (by (with_reducible repeat (first | apply Kd.R_alloc | apply Kd.R_drewN | apply Kd.R_drew)); exact HO_7.out) (Kd.R_base ho113) hb); have n2_ := Aside0.mk (Kd.R_elder' (by (with_reducible repeat (first | apply Kd.R_alloc | apply Kd.R_drewN | apply Kd.R_drew)); exact HO165.out) (Kd.R_base ho113) hb); have n3_ := Aside0.mk (Kd.R_elder' (by (with_reducible repeat (first | apply Kd.R_alloc | apply Kd.R_drewN | apply Kd.R_drew)); exact HO169.out) (Kd.R_base ho113) hb); have n4_ := Aside0.mk (Kd.R_lower (Kd.R_new' (Kd.R_new' (Kd.R_new' (Kd.R_new' ho113 (Kd.R_lt (by (with_reducible repeat (first | apply Kd.R_alloc | apply Kd.R_drewN | apply Kd.R_drew)); exact HO_5.out))) (Kd.R_lt (by (with_reducible repeat (first | apply Kd.R_alloc | apply Kd.R_drewN | apply Kd.R_drew)); exact HO_7.out))) (Kd.R_lt (by (with_reducible repeat (first | apply Kd.R_alloc | apply Kd.R_drewN | apply Kd.R_drew)); exact HO165.out))) (Kd.R_lt (by (with_reducible repeat (first | apply Kd.R_alloc | apply Kd.R_drewN | apply Kd.R_drew)); exact HO169.out))) (below_size (by repeat (first | (with_reducible first | exact HB.out | apply below_alloc | apply pw_below_drewN | apply below_drew1) | exact HB.out)))); have n5_ := Aside0.mk (below_step (by repeat (first | (with_reducible first | exact HB.out | apply below_alloc | apply pw_below_drewN | apply below_drew1) | exact HB.out)) hb); clear HO_5; clear HO_7; clear HO165; clear HO169; clear HB; have HO_5 := n0_; have HO_7 := n1_; have HO165 := n2_; have HO169 := n3_; have HO172 := n4_; have HB := n5_; clear n0_ n1_ n2_ n3_ n4_ n5_; clear hb ho113; obtain ⟨Ao114, co114, eo114⟩ := Kd.R_slice HO172.out; subst eo114) | ((with_reducible refine gate_callee (f := 24) rfl ?_); refine goesL_ (some 240) rfl rfl Try.func24 (by kernel_rfl) rfl #[.slice Ao10 t102.length co10, .slice Ao114 y170.length co114] rfl (by (try simp only [List.map_toArray, List.map_cons, List.map_nil]); first | done | rfl | (simp only [List.length_drop, List.length_take]; rfl)) ?_; (with_reducible refine (impl_JoinWord.calls kj96 _ _ t102 _ _ y170 t173 true _ ?side1 ?side2 ?side3 ?side4 A103.out).mono ?_); (case side1 => repeat (first | exact (Kd.R_reads' HO_5.out).2.2 | (with_reducible refine Kd.C_alloc ?_ _) | (with_reducible refine Kd.C_drewN ?_ _) | (with_reducible refine Kd.C_drew ?_))); (case side2 => exact (Kd.R_reads' HO_5.out).2.1); (case side3 => repeat (first | exact (Kd.R_reads' HO172.out).2.2 | (with_reducible refine Kd.C_alloc ?_ _) | (with_reducible refine Kd.C_drewN ?_ _) | (with_reducible refine Kd.C_drew ?_))); (case side4 => exact (Kd.R_reads' HO172.out).2.1); rintro e w115 ⟨v175, rfl, ho0, hb⟩; refine ⟨_, rfl, ?_⟩; have n0_ := Aside0.mk (Kd.R_elder' (by (with_reducible repeat (first | apply Kd.R_alloc | apply Kd.R_drewN | apply Kd.R_drew)); exact HO_5.out) (Kd.R_base ho0) hb); have n1_ := Aside0.mk (Kd.R_elder' (by (with_reducible repeat (first | apply Kd.R_alloc | apply Kd.R_drewN | apply Kd.R_drew)); exact HO_7.out) (Kd.R_base ho0) hb); have n2_ := Aside0.mk (Kd.R_elder' (by (with_reducible repeat (first | apply Kd.R_alloc | apply Kd.R_drewN | apply Kd.R_drew)); exact HO165.out) (Kd.R_base ho0) hb); have n3_ := Aside0.mk (Kd.R_elder' (by (with_reducible repeat (first | apply Kd.R_alloc | apply Kd.R_drewN | apply Kd.R_drew)); exact HO169.out) (Kd.R_base ho0) hb); have n4_ := Aside0.mk (Kd.R_elder' (by (with_reducible repeat (first | apply Kd.R_alloc | apply Kd.R_drewN | apply Kd.R_drew)); exact HO172.out) (Kd.R_base ho0) hb); have n5_ := Aside0.mk (Kd.R_lower (Kd.R_new' (Kd.R_new' (Kd.R_new' (Kd.R_new' (Kd.R_new' ho0 (Kd.R_lt (by (with_reducible repeat (first | apply Kd.R_alloc | apply Kd.R_drewN | apply Kd.R_drew)); exact HO_5.out))) (Kd.R_lt (by (with_reducible repeat (first | apply Kd.R_alloc | apply Kd.R_drewN | apply Kd.R_drew)); exact HO_7.out))) (Kd.R_lt (by (with_reducible repeat (first | apply Kd.R_alloc | apply Kd.R_drewN | apply Kd.R_drew)); exact HO165.out))) (Kd.R_lt (by (with_reducible repeat (first | apply Kd.R_alloc | apply Kd.R_drewN | apply Kd.R_drew)); exact HO169.out))) (Kd.R_lt (by (with_reducible repeat (first | apply Kd.R_alloc | apply Kd.R_drewN | apply Kd.R_drew)); exact HO172.out))) (below_size (by repeat (first | (with_reducible first | exact HB.out | apply below_alloc | apply pw_below_drewN | apply below_drew1) | exact HB.out)))); have n6_ := Aside0.mk (below_step (by repeat (first | (with_reducible first | exact HB.out | apply below_alloc | apply pw_below_drewN | apply below_drew1) | exact HB.out)) hb); clear HO_5; clear HO_7; clear HO165; clear HO169; clear HO172; clear HB; have HO_5 := n0_; have HO_7 := n1_; have HO165 := n2_; have HO169 := n3_; have HO172 := n4_; have HO176 := n5_; have HB := n6_; clear n0_ n1_ n2_ n3_ n4_ n5_ n6_; (try clear hb); (try clear hb2); (try clear hk); (try clear hi); (try clear ho0); obtain ⟨Ao116, co116, eo116⟩ := Kd.R_slice HO169.out; subst eo116; obtain ⟨Ao117, co117, eo117⟩ := Kd.R_slice HO176.out; subst eo117) | (go_at_call 22; (with_reducible refine (laws_uSame.calls kj96 _ _ t166 _ _ t173 true _ ?side1 ?side2 ?side3 ?side4 A106.out).mono ?_); (case side1 => repeat (first | exact (Kd.R_reads' HO169.out).2.2 | (with_reducible refine Kd.C_alloc ?_ _) | (with_reducible refine Kd.C_drewN ?_ _) | (with_reducible refine Kd.C_drew ?_))); (case side2 => exact (Kd.R_reads' HO169.out).2.1); (case side3 => repeat (first | exact (Kd.R_reads' HO176.out).2.2 | (with_reducible refine Kd.C_alloc ?_ _) | (with_reducible refine Kd.C_drewN ?_ _) | (with_reducible refine Kd.C_drew ?_))); (case side4 => exact (Kd.R_reads' HO176.out).2.1); rintro e w' ⟨rfl, ⟨nd, rfl⟩⟩))
                                                go_roundg kj96
                                                case measure => have := HJ7.out; have := HJ20.out; have := HJ31.out; have := HJ54.out; have := HK5.out; have := HJ96.out; omega
                                                case rel => exact ⟨(wrap64 (x31_5 + 1)), (by first | rfl | (simp; done) | (simp [*]; done)), H', ⟨by have := HJ7.out; have := HJ20.out; have := HJ31.out; have := HJ54.out; have := HK5.out; have := HJ96.out; omega⟩, ⟨by (with_reducible repeat (first | apply Kd.R_alloc | apply Kd.R_drewN | apply Kd.R_drew)); exact Kd.R_mono HO_5.out (fun _ hk => hk.1.1.1.1)⟩, ⟨by (with_reducible repeat (first | apply Kd.R_alloc | apply Kd.R_drewN | apply Kd.R_drew)); exact Kd.R_mono HO_7.out (fun _ hk => hk.1.1.1.1)⟩, ⟨by repeat (first | (with_reducible first | exact HB.out | apply below_alloc | apply pw_below_drewN | apply below_drew1) | exact HB.out)⟩⟩
                                              · replace c107 := Bool.eq_false_iff.mpr c107
                                                subst c107
                                                exact absurd ((show (some false : Option Bool) = some r from by rw [if_neg (show ¬ (false = true) by decide)] at H; exact H).trans (congrArg some HR_.out)) (by simp)
                                            · replace c105 := Bool.eq_false_iff.mpr c105
                                              subst c105
                                              exact absurd ((show (some false : Option Bool) = some r from by rw [if_neg (show ¬ (false = true) by decide)] at H; exact H).trans (congrArg some HR_.out)) (by simp)
                                          · replace c104 := Bool.eq_false_iff.mpr c104
                                            subst c104
                                            exact absurd ((show (some false : Option Bool) = some r from by rw [if_neg (show ¬ (false = true) by decide)] at H; exact H).trans (congrArg some HR_.out)) (by simp)
                                  · rw [if_neg c96] at H
                                    have c96b0 : decide (x31_5 < (t102.length : Int)) = false := decide_eq_false c96
                                    clear c96
                                    replace H := Option.bind_eq_some_iff.mp H
                                    obtain ⟨⟨t178, t179⟩, A1440, H⟩ := H
                                    replace H : (if (t102.length : Int) = 0 then (none) else ((impl_JoinAt.f k5 t178 (Int.tmod (wrap64 (t103 + 1)) (t102.length : Int))).bind fun bt182 => ((impl_TurnPattern.f k5 bt182.1 (-1)).bind fun bt186 => (if t179 = true then (if bt182.2 = true then (if bt186.2 = true then ((laws_uSame.f k5 bt186.1 t106).bind fun t190 => (some t190)) else (some false)) else (some false)) else (some false))))) = some r := H
                                    have A144 := Aside0.mk A1440
                                    clear A1440
                                    by_cases c145 : (t102.length : Int) = 0
                                    · rw [if_pos c145] at H
                                      exact absurd H (by simp)
                                    · rw [if_neg c145] at H
                                      have c145b0 : ((t102.length : Int) == 0) = false := beq_eq_false_iff_ne.mpr c145
                                      have c145b1 : ((t102.length : Int) != 0) = true := bne_iff_ne.mpr c145
                                      have c145b2 : ¬ (t102 = []) := fun h_ => c145 (by rw [h_]; rfl)
                                      replace H := Option.bind_eq_some_iff.mp H
                                      obtain ⟨⟨t182, t183⟩, A1460, H⟩ := H
                                      replace H : ((impl_TurnPattern.f k5 t182 (-1)).bind fun bt186 => (if t179 = true then (if t183 = true then (if bt186.2 = true then ((laws_uSame.f k5 bt186.1 t106).bind fun t190 => (some t190)) else (some false)) else (some false)) else (some false))) = some r := H
                                      have A146 := Aside0.mk A1460
                                      clear A1460
                                      replace H := Option.bind_eq_some_iff.mp H
                                      obtain ⟨⟨t186, t187⟩, A1470, H⟩ := H
                                      replace H : (if t179 = true then (if t183 = true then (if t187 = true then ((laws_uSame.f k5 t186 t106).bind fun t190 => (some t190)) else (some false)) else (some false)) else (some false)) = some r := H
                                      have A147 := Aside0.mk A1470
                                      clear A1470
                                      by_cases c148 : t179 = true
                                      · subst c148
                                        have H1 : (if t183 = true then (if t187 = true then ((laws_uSame.f k5 t186 t106).bind fun t190 => (some t190)) else (some false)) else (some false)) = some r := by rw [if_pos rfl] at H; exact H
                                        clear H
                                        have H := H1
                                        clear H1
                                        by_cases c149 : t183 = true
                                        · subst c149
                                          have H1 : (if t187 = true then ((laws_uSame.f k5 t186 t106).bind fun t190 => (some t190)) else (some false)) = some r := by rw [if_pos rfl] at H; exact H
                                          clear H
                                          have H := H1
                                          clear H1
                                          by_cases c150 : t187 = true
                                          · subst c150
                                            have H1 : ((laws_uSame.f k5 t186 t106).bind fun t190 => (some t190)) = some r := by rw [if_pos rfl] at H; exact H
                                            clear H
                                            have H := H1
                                            clear H1
                                            replace H := Option.bind_eq_some_iff.mp H
                                            obtain ⟨t190, A1510, H⟩ := H
                                            replace H : (some t190) = some r := H
                                            have A151 := Aside0.mk A1510
                                            clear A1510
                                            obtain rfl := Option.some.inj H
                                            go_wp2_with (first | ((with_reducible refine gate_callee (f := 29) rfl ?_); refine goesL_ (some 257) rfl rfl Try.func29 (by kernel_rfl) rfl #[.slice Ao10 t102.length co10, .int .i64 1] rfl (by (try simp only [List.map_toArray, List.map_cons, List.map_nil]); first | done | rfl | (simp only [List.length_drop, List.length_take]; rfl)) ?_; (with_reducible refine (impl_TurnPattern.calls k5 _ _ t102 1 t178 true _ ?side1 ?side2 A144.out).mono ?_); (case side1 => repeat (first | exact (Kd.R_reads' HO_5.out).2.2 | (with_reducible refine Kd.C_alloc ?_ _) | (with_reducible refine Kd.C_drewN ?_ _) | (with_reducible refine Kd.C_drew ?_))); (case side2 => exact (Kd.R_reads' HO_5.out).2.1); rintro e w152 ⟨v180, rfl, ho0, hb⟩; refine ⟨_, rfl, ?_⟩; have n0_ := Aside0.mk (Kd.R_elder' (by (with_reducible repeat (first | apply Kd.R_alloc | apply Kd.R_drewN | apply Kd.R_drew)); exact HO_5.out) (Kd.R_base ho0) hb); have n1_ := Aside0.mk (Kd.R_elder' (by (with_reducible repeat (first | apply Kd.R_alloc | apply Kd.R_drewN | apply Kd.R_drew)); exact HO_7.out) (Kd.R_base ho0) hb); have n2_ := Aside0.mk (Kd.R_lower (Kd.R_new' (Kd.R_new' ho0 (Kd.R_lt (by (with_reducible repeat (first | apply Kd.R_alloc | apply Kd.R_drewN | apply Kd.R_drew)); exact HO_5.out))) (Kd.R_lt (by (with_reducible repeat (first | apply Kd.R_alloc | apply Kd.R_drewN | apply Kd.R_drew)); exact HO_7.out))) (below_size (by repeat (first | (with_reducible first | exact HB.out | apply below_alloc | apply pw_below_drewN | apply below_drew1) | exact HB.out)))); have n3_ := Aside0.mk (below_step (by repeat (first | (with_reducible first | exact HB.out | apply below_alloc | apply pw_below_drewN | apply below_drew1) | exact HB.out)) hb); clear HO_5; clear HO_7; clear HB; have HO_5 := n0_; have HO_7 := n1_; have HO181 := n2_; have HB := n3_; clear n0_ n1_ n2_ n3_; (try clear hb); (try clear hb2); (try clear hk); (try clear hi); (try clear ho0); obtain ⟨Ao153, co153, eo153⟩ := Kd.R_slice HO181.out; subst eo153) | ((with_reducible refine gate_callee (f := 20) rfl ?_); refine goesL_ (some 266) rfl rfl Try.func20 (by kernel_rfl) rfl #[.slice Ao153 t178.length co153, .int .i64 (Int.tmod (wrap64 (t103 + 1)) (t102.length : Int))] rfl (by (try simp only [List.map_toArray, List.map_cons, List.map_nil]); first | done | rfl | (simp only [List.length_drop, List.length_take]; rfl)) ?_; (with_reducible refine (impl_JoinAt.calls k5 _ _ t178 (Int.tmod (wrap64 (t103 + 1)) (t102.length : Int)) t182 true _ ?side1 ?side2 A146.out).mono ?_); (case side1 => repeat (first | exact (Kd.R_reads' HO181.out).2.2 | (with_reducible refine Kd.C_alloc ?_ _) | (with_reducible refine Kd.C_drewN ?_ _) | (with_reducible refine Kd.C_drew ?_))); (case side2 => exact (Kd.R_reads' HO181.out).2.1); rintro e w154 ⟨v184, rfl, ho0, hb⟩; refine ⟨_, rfl, ?_⟩; have n0_ := Aside0.mk (Kd.R_elder' (by (with_reducible repeat (first | apply Kd.R_alloc | apply Kd.R_drewN | apply Kd.R_drew)); exact HO_5.out) (Kd.R_base ho0) hb); have n1_ := Aside0.mk (Kd.R_elder' (by (with_reducible repeat (first | apply Kd.R_alloc | apply Kd.R_drewN | apply Kd.R_drew)); exact HO_7.out) (Kd.R_base ho0) hb); have n2_ := Aside0.mk (Kd.R_elder' (by (with_reducible repeat (first | apply Kd.R_alloc | apply Kd.R_drewN | apply Kd.R_drew)); exact HO181.out) (Kd.R_base ho0) hb); have n3_ := Aside0.mk (Kd.R_lower (Kd.R_new' (Kd.R_new' (Kd.R_new' ho0 (Kd.R_lt (by (with_reducible repeat (first | apply Kd.R_alloc | apply Kd.R_drewN | apply Kd.R_drew)); exact HO_5.out))) (Kd.R_lt (by (with_reducible repeat (first | apply Kd.R_alloc | apply Kd.R_drewN | apply Kd.R_drew)); exact HO_7.out))) (Kd.R_lt (by (with_reducible repeat (first | apply Kd.R_alloc | apply Kd.R_drewN | apply Kd.R_drew)); exact HO181.out))) (below_size (by repeat (first | (with_reducible first | exact HB.out | apply below_alloc | apply pw_below_drewN | apply below_drew1) | exact HB.out)))); have n4_ := Aside0.mk (below_step (by repeat (first | (with_reducible first | exact HB.out | apply below_alloc | apply pw_below_drewN | apply below_drew1) | exact HB.out)) hb); clear HO_5; clear HO_7; clear HO181; clear HB; have HO_5 := n0_; have HO_7 := n1_; have HO181 := n2_; have HO185 := n3_; have HB := n4_; clear n0_ n1_ n2_ n3_ n4_; (try clear hb); (try clear hb2); (try clear hk); (try clear hi); (try clear ho0); obtain ⟨Ao155, co155, eo155⟩ := Kd.R_slice HO185.out; subst eo155) | ((with_reducible refine gate_callee (f := 29) rfl ?_); refine goesL_ (some 271) rfl rfl Try.func29 (by kernel_rfl) rfl #[.slice Ao155 t182.length co155, .int .i64 (-1)] rfl (by (try simp only [List.map_toArray, List.map_cons, List.map_nil]); first | done | rfl | (simp only [List.length_drop, List.length_take]; rfl)) ?_; (with_reducible refine (impl_TurnPattern.calls k5 _ _ t182 (-1) t186 true _ ?side1 ?side2 A147.out).mono ?_); (case side1 => repeat (first | exact (Kd.R_reads' HO185.out).2.2 | (with_reducible refine Kd.C_alloc ?_ _) | (with_reducible refine Kd.C_drewN ?_ _) | (with_reducible refine Kd.C_drew ?_))); (case side2 => exact (Kd.R_reads' HO185.out).2.1); rintro e w156 ⟨v188, rfl, ho0, hb⟩; refine ⟨_, rfl, ?_⟩; have n0_ := Aside0.mk (Kd.R_elder' (by (with_reducible repeat (first | apply Kd.R_alloc | apply Kd.R_drewN | apply Kd.R_drew)); exact HO_5.out) (Kd.R_base ho0) hb); have n1_ := Aside0.mk (Kd.R_elder' (by (with_reducible repeat (first | apply Kd.R_alloc | apply Kd.R_drewN | apply Kd.R_drew)); exact HO_7.out) (Kd.R_base ho0) hb); have n2_ := Aside0.mk (Kd.R_elder' (by (with_reducible repeat (first | apply Kd.R_alloc | apply Kd.R_drewN | apply Kd.R_drew)); exact HO181.out) (Kd.R_base ho0) hb); have n3_ := Aside0.mk (Kd.R_elder' (by (with_reducible repeat (first | apply Kd.R_alloc | apply Kd.R_drewN | apply Kd.R_drew)); exact HO185.out) (Kd.R_base ho0) hb); have n4_ := Aside0.mk (Kd.R_lower (Kd.R_new' (Kd.R_new' (Kd.R_new' (Kd.R_new' ho0 (Kd.R_lt (by (with_reducible repeat (first | apply Kd.R_alloc | apply Kd.R_drewN | apply Kd.R_drew)); exact HO_5.out))) (Kd.R_lt (by (with_reducible repeat (first | apply Kd.R_alloc | apply Kd.R_drewN | apply Kd.R_drew)); exact HO_7.out))) (Kd.R_lt (by (with_reducible repeat (first | apply Kd.R_alloc | apply Kd.R_drewN | apply Kd.R_drew)); exact HO181.out))) (Kd.R_lt (by (with_reducible repeat (first | apply Kd.R_alloc | apply Kd.R_drewN | apply Kd.R_drew)); exact HO185.out))) (below_size (by repeat (first | (with_reducible first | exact HB.out | apply below_alloc | apply pw_below_drewN | apply below_drew1) | exact HB.out)))); have n5_ := Aside0.mk (below_step (by repeat (first | (with_reducible first | exact HB.out | apply below_alloc | apply pw_below_drewN | apply below_drew1) | exact HB.out)) hb); clear HO_5; clear HO_7; clear HO181; clear HO185; clear HB; have HO_5 := n0_; have HO_7 := n1_; have HO181 := n2_; have HO185 := n3_; have HO189 := n4_; have HB := n5_; clear n0_ n1_ n2_ n3_ n4_ n5_; (try clear hb); (try clear hb2); (try clear hk); (try clear hi); (try clear ho0); obtain ⟨Ao157, co157, eo157⟩ := Kd.R_slice HO189.out; subst eo157) | (go_at_call 22; (with_reducible refine (laws_uSame.calls k5 _ _ t186 _ _ t106 t190 _ ?side1 ?side2 ?side3 ?side4 A151.out).mono ?_); (case side1 => repeat (first | exact (Kd.R_reads' HO189.out).2.2 | (with_reducible refine Kd.C_alloc ?_ _) | (with_reducible refine Kd.C_drewN ?_ _) | (with_reducible refine Kd.C_drew ?_))); (case side2 => exact (Kd.R_reads' HO189.out).2.1); (case side3 => repeat (first | exact (Kd.R_reads' HO_7.out).2.2 | (with_reducible refine Kd.C_alloc ?_ _) | (with_reducible refine Kd.C_drewN ?_ _) | (with_reducible refine Kd.C_drew ?_))); (case side4 => exact (Kd.R_reads' HO_7.out).2.1); rintro e w' ⟨rfl, ⟨nd, rfl⟩⟩))
                                            go_ret
                                            exact ⟨by first | rfl | (simp [errW_none, errW_some] <;> rfl) | (simp [*, errW_none, errW_some] <;> rfl), by repeat (first | (with_reducible first | exact HB.out | apply below_alloc | apply pw_below_drewN | apply below_drew1) | exact HB.out)⟩
                                          · replace c150 := Bool.eq_false_iff.mpr c150
                                            subst c150
                                            exact absurd ((show (some false : Option Bool) = some r from by rw [if_neg (show ¬ (false = true) by decide)] at H; exact H).trans (congrArg some HR_.out)) (by simp)
                                        · replace c149 := Bool.eq_false_iff.mpr c149
                                          subst c149
                                          exact absurd ((show (some false : Option Bool) = some r from by rw [if_neg (show ¬ (false = true) by decide)] at H; exact H).trans (congrArg some HR_.out)) (by simp)
                                      · replace c148 := Bool.eq_false_iff.mpr c148
                                        subst c148
                                        exact absurd ((show (some false : Option Bool) = some r from by rw [if_neg (show ¬ (false = true) by decide)] at H; exact H).trans (congrArg some HR_.out)) (by simp)
                    · replace c49 := Bool.eq_false_iff.mpr c49
                      subst c49
                      have H1 : (some true) = some r := by rw [if_neg (show ¬ (false = true) by decide)] at H; exact H
                      clear H
                      have H := H1
                      clear H1
                      obtain rfl := Option.some.inj H
                      go_wp2
                      go_ret
                      exact ⟨by first | rfl | (simp [errW_none, errW_some] <;> rfl) | (simp [*, errW_none, errW_some] <;> rfl), by repeat (first | (with_reducible first | exact HB.out | apply below_alloc | apply pw_below_drewN | apply below_drew1) | exact HB.out)⟩

/-- THE ONE PURE STATEMENT of laws_FnOperatorsJoin: yours. -/

def laws_FnOperatorsJoin.Pure : Prop := ∀ (l0 : List Int) (l1 : List Int), l0.length ≤ maxLen → l0.length * 1 ≤ 140737488351232 → (∀ x ∈ l0, (Lit.int .u8 x).wf = true) → l1.length ≤ maxLen → l1.length * 1 ≤ 140737488351232 → (∀ x ∈ l1, (Lit.int .u8 x).wf = true) → ∃ k, laws_FnOperatorsJoin.f k l0 l1 = some true
theorem laws_FnOperatorsJoin.walk (P : laws_FnOperatorsJoin.Pure) (a0 : Option Addr) (len0 cap0 : Nat) (z0 : List Int) (a1 : Option Addr) (len1 cap1 : Nat) (z1 : List Int) (w : World) (w0 : (a0 = none ∧ len0 = 0 ∧ cap0 = 0 ∧ z0 = []) ∨ ∃ x, a0 = some x ∧ len0 ≤ cap0 ∧ cap0 ≤ maxLen ∧ z0.length = cap0 ∧ (∀ i, i < z0.length → w.cell? (x.add i) = some (.int .u8 (z0.getD i 0))) ∧ ∀ n ∈ z0, (Lit.int .u8 n).wf = true) (y0 : len0 * 1 ≤ 140737488351232) (w1 : (a1 = none ∧ len1 = 0 ∧ cap1 = 0 ∧ z1 = []) ∨ ∃ x, a1 = some x ∧ len1 ≤ cap1 ∧ cap1 ≤ maxLen ∧ z1.length = cap1 ∧ (∀ i, i < z1.length → w.cell? (x.add i) = some (.int .u8 (z1.getD i 0))) ∧ ∀ n ∈ z1, (Lit.int .u8 n).wf = true) (y1 : len1 * 1 ≤ 140737488351232) :
    Calls Try.prog 4 #[.slice a0 len0 cap0, .slice a1 len1 cap1] w fun e w' => e = .returned (.bool true) ∧ Below w.heap.size w w' := by
  obtain ⟨l0, rfl, hr0, hm0, hw0, hc0⟩ := ReadsInt.ofRowC w0
  obtain ⟨l1, rfl, hr1, hm1, hw1, hc1⟩ := ReadsInt.ofRowC w1
  obtain ⟨k, h⟩ := P l0 l1 hm0 y0 hw0 hm1 y1 hw1
  refine (laws_FnOperatorsJoin.calls k _ _ l0 _ _ l1 true w rfl (Kd.C_of_reads (d := (0 : Int)) (h1 := fun _ => rfl) hr0) hc0 (Kd.C_of_reads (d := (0 : Int)) (h1 := fun _ => rfl) hr1) hc1 h).mono ?_
  rintro e w' ⟨rfl, hd⟩
  exact ⟨rfl, hd⟩

end Go.Proofs.Ytchnfacedjjakaa.X
