-- Written by a program of this session (wip/xprint.py) that drives the kit's print; the contracts of what it does not take are this session's own.
import Derived.Test.YtchnfacedjjakaaCFnPatternsx0
import Derived.Test.YtchnfacedjjakaaCFnPatternsx1
import Derived.Test.YtchnfacedjjakaaCFnPatternsx2
import Derived.Test.YtchnfacedjjakaaCFnPatternsx3
import Derived.Test.YtchnfacedjjakaaCFnPatternsx4
namespace Go.Proofs.Ytchnfacedjjakaa.X
open Go.RowKit Go.Proofs.YtchnfacedjjakaaW.PrintWords Go.Proofs.YtchnfacedjjakaaW.PrintLast Go.Proofs.YtchnfacedjjakaaW.PrintMore
attribute [local go_sem] max2_int min2_int max_two min_two max_three min_three max_four min_four   -- for this text's walks alone
set_option linter.unusedVariables false
set_option linter.unusedSimpArgs false

/-! ### laws_FnPatterns: function 12 -/
mutual
def laws_FnPatterns.j0 : Nat → List Int → List Int → Int → List Int → Bool → Bool → Option (Bool)
 | 0, _, _, _, _, _, _ => none
 | k + 1, x1, x5, x6, x7, x8, x76 => if x76 = true then (some false) else (if x8 = true then ((impl_TurnPattern.f k x7 (wrap64 (-x6))).bind fun bt115 => ((impl_TurnPattern.f k x5 (x5.length : Int)).bind fun bt119 => ((impl_MirrorPattern.f k x5).bind fun bt123 => ((impl_MirrorPattern.f k bt123.1).bind fun bt127 => ((impl_IsPattern.f k x7).bind fun t131 => (if t131 = true then (if bt115.2 = true then ((laws_hSame.f k bt115.1 x5).bind fun t132 => (if t132 = true then (if bt119.2 = true then ((laws_hSame.f k bt119.1 x5).bind fun t133 => (if t133 = true then (if bt123.2 = true then ((impl_IsPattern.f k bt123.1).bind fun t134 => (if t134 = true then (if bt127.2 = true then ((laws_hSame.f k bt127.1 x5).bind fun t135 => (if t135 = true then (laws_FnPatterns.j1 k x1) else (some false))) else (some false)) else (some false))) else (some false)) else (some false))) else (some false)) else (some false))) else (some false)) else (some false))))))) else (laws_FnPatterns.j1 k x1))
def laws_FnPatterns.j1 : Nat → List Int → Option (Bool)
 | 0, _ => none
 | k + 1, x1 => (spec_DrawAllPatterns.f x1).bind fun t136 => ((impl_AllPatterns.f k t136).bind fun bt137 => ((spec_AllPatterns.f k t136).bind fun bt141 => ((impl_CountPatterns.f k t136).bind fun bt145 => ((spec_CountPatterns.f k t136).bind fun bt147 => (if (bt137.2 != bt141.2) = true then (laws_FnPatterns.j2 k x1 bt137.1 bt137.2 bt145.1 true) else ((laws_hRows.f k bt137.1 bt141.1).bind fun t149 => (if t149 = true then (if (bt145.2 != bt147.2) = true then (laws_FnPatterns.j2 k x1 bt137.1 bt137.2 bt145.1 true) else (if bt145.1 = bt147.1 then (laws_FnPatterns.j2 k x1 bt137.1 bt137.2 bt145.1 (bt137.2 != bt145.2)) else (laws_FnPatterns.j2 k x1 bt137.1 bt137.2 bt145.1 true))) else (laws_FnPatterns.j2 k x1 bt137.1 bt137.2 bt145.1 true))))))))
def laws_FnPatterns.j2 : Nat → List Int → List (List Int) → Bool → Int → Bool → Option (Bool)
 | 0, _, _, _, _, _ => none
 | k + 1, x1, x20, x21, x24, x189 => if x189 = true then (some false) else (if x21 = true then (if (x20.length : Int) = x24 then (laws_FnPatterns.l0 k x1 x20 x20 (x20.length : Int) 0) else (some false)) else (laws_FnPatterns.j4 k x1))
def laws_FnPatterns.j4 : Nat → List Int → Option (Bool)
 | 0, _ => none
 | k + 1, x1 => (spec_DrawPatternText.f k x1).bind fun t160 => ((impl_PatternText.f k t160).bind fun bt163 => ((spec_PatternText.f k t160).bind fun bt165 => ((impl_MirrorPattern.f k t160).bind fun bt167 => ((spec_MirrorPattern.f k t160).bind fun bt171 => (if (bt163.2 != bt165.2) = true then (laws_FnPatterns.j5 k x1 t160 bt163.1 bt163.2 true) else (if bt163.1.toList = bt165.1.toList then (if (bt167.2 != bt171.2) = true then (laws_FnPatterns.j5 k x1 t160 bt163.1 bt163.2 true) else ((laws_hSame.f k bt167.1 bt171.1).bind fun t175 => (if t175 = true then ((impl_IsPattern.f k t160).bind fun t176 => (if (bt163.2 != t176) = true then (laws_FnPatterns.j5 k x1 t160 bt163.1 bt163.2 true) else ((spec_IsPattern.f k t160).bind fun t177 => (laws_FnPatterns.j5 k x1 t160 bt163.1 bt163.2 (bt163.2 != t177))))) else (laws_FnPatterns.j5 k x1 t160 bt163.1 bt163.2 true)))) else (laws_FnPatterns.j5 k x1 t160 bt163.1 bt163.2 true)))))))
def laws_FnPatterns.j5 : Nat → List Int → List Int → ByteArray → Bool → Bool → Option (Bool)
 | 0, _, _, _, _, _ => none
 | k + 1, x1, x30, x31, x32, x274 => if x274 = true then (some false) else (if x32 = true then ((impl_ParsePattern.f k x31).bind fun bt178 => (if bt178.2 = true then ((laws_hSame.f k bt178.1 x30).bind fun t182 => (if t182 = true then (laws_FnPatterns.j6 k x1) else (some false))) else (some false))) else (laws_FnPatterns.j6 k x1))
def laws_FnPatterns.j6 : Nat → List Int → Option (Bool)
 | 0, _ => none
 | k + 1, x1 => (spec_DrawParsePattern.f k x1).bind fun t183 => ((impl_ParsePattern.f k t183).bind fun bt184 => ((spec_ParsePattern.f k t183).bind fun bt188 => (if (bt184.2 != bt188.2) = true then (laws_FnPatterns.j7 k t183 bt184.1 bt184.2 true) else ((laws_hSame.f k bt184.1 bt188.1).bind fun t192 => (laws_FnPatterns.j7 k t183 bt184.1 bt184.2 (!t192))))))
def laws_FnPatterns.j7 : Nat → ByteArray → List Int → Bool → Bool → Option (Bool)
 | 0, _, _, _, _ => none
 | k + 1, x41, x42, x43, x309 => if x309 = true then (some false) else (if x43 = true then ((impl_PatternText.f k x42).bind fun bt193 => (if bt193.2 = true then (some (bt193.1.toList == x41.toList)) else (some false))) else (some true))
def laws_FnPatterns.l0 : Nat → List Int → List (List Int) → List (List Int) → Int → Int → Option (Bool)
 | 0, _, _, _, _, _ => none
 | k + 1, x1, x20, x195, x196, x197 => if x197 < x196 then (if 0 ≤ x197 then (if x197 < (x195.length : Int) then ((impl_IsPattern.f k (rd_L1 x195 x197)).bind fun t151 => (if t151 = true then (if x197 > 0 then (if 0 ≤ (wrap64 (x197 - 1)) then (if (wrap64 (x197 - 1)) < (x20.length : Int) then ((laws_hLess.f k (([rd_L1 x20 (wrap64 (x197 - 1))] : List (List Int))) (([rd_L1 x195 x197] : List (List Int)))).bind fun t159 => (if t159 = true then (laws_FnPatterns.l0 k x1 x20 x195 x196 (wrap64 (x197 + 1))) else (some false))) else (none)) else (none)) else (laws_FnPatterns.l0 k x1 x20 x195 x196 (wrap64 (x197 + 1)))) else (some false))) else (none)) else (none)) else (laws_FnPatterns.j4 k x1)
end
def laws_FnPatterns.f (k : Nat) (l0 : List Int) (l1 : List Int) : Option (Bool) := (laws_big.f l0 l1).bind fun t101 => (if t101 = true then (some true) else ((spec_DrawTurnPattern.f k l0).bind fun bt102 => ((impl_TurnPattern.f k bt102.1 bt102.2).bind fun bt106 => ((spec_TurnPattern.f k bt102.1 bt102.2).bind fun bt110 => (if (bt106.2 != bt110.2) = true then (laws_FnPatterns.j0 k l1 bt102.1 bt102.2 bt106.1 bt106.2 true) else ((laws_hSame.f k bt106.1 bt110.1).bind fun t114 => (laws_FnPatterns.j0 k l1 bt102.1 bt102.2 bt106.1 bt106.2 (!t114))))))))
theorem laws_FnPatterns.mono_l : ∀ k, (∀ y0 y1 y2 y3 y4 y5, LeO (laws_FnPatterns.j0 k y0 y1 y2 y3 y4 y5) (laws_FnPatterns.j0 (k + 1) y0 y1 y2 y3 y4 y5)) ∧ (∀ y0, LeO (laws_FnPatterns.j1 k y0) (laws_FnPatterns.j1 (k + 1) y0)) ∧ (∀ y0 y1 y2 y3 y4, LeO (laws_FnPatterns.j2 k y0 y1 y2 y3 y4) (laws_FnPatterns.j2 (k + 1) y0 y1 y2 y3 y4)) ∧ (∀ y0, LeO (laws_FnPatterns.j4 k y0) (laws_FnPatterns.j4 (k + 1) y0)) ∧ (∀ y0 y1 y2 y3 y4, LeO (laws_FnPatterns.j5 k y0 y1 y2 y3 y4) (laws_FnPatterns.j5 (k + 1) y0 y1 y2 y3 y4)) ∧ (∀ y0, LeO (laws_FnPatterns.j6 k y0) (laws_FnPatterns.j6 (k + 1) y0)) ∧ (∀ y0 y1 y2 y3, LeO (laws_FnPatterns.j7 k y0 y1 y2 y3) (laws_FnPatterns.j7 (k + 1) y0 y1 y2 y3)) ∧ (∀ y0 y1 y2 y3 y4, LeO (laws_FnPatterns.l0 k y0 y1 y2 y3 y4) (laws_FnPatterns.l0 (k + 1) y0 y1 y2 y3 y4))
 | 0 => ⟨fun _ _ _ _ _ _ r h => by simp [laws_FnPatterns.j0] at h, fun _ r h => by simp [laws_FnPatterns.j1] at h, fun _ _ _ _ _ r h => by simp [laws_FnPatterns.j2] at h, fun _ r h => by simp [laws_FnPatterns.j4] at h, fun _ _ _ _ _ r h => by simp [laws_FnPatterns.j5] at h, fun _ r h => by simp [laws_FnPatterns.j6] at h, fun _ _ _ _ r h => by simp [laws_FnPatterns.j7] at h, fun _ _ _ _ _ r h => by simp [laws_FnPatterns.l0] at h⟩
 | k + 1 => by
  obtain ⟨ih0, ih1, ih2, ih3, ih4, ih5, ih6, ih7⟩ := laws_FnPatterns.mono_l k
  refine ⟨?_, ?_, ?_, ?_, ?_, ?_, ?_, ?_⟩
  ·intro y0 y1 y2 y3 y4 y5
   unfold laws_FnPatterns.j0
   repeat' first
   | (with_reducible exact ih0 _ _ _ _ _ _)
   | (with_reducible exact ih1 _)
   | (with_reducible exact ih2 _ _ _ _ _)
   | (with_reducible exact ih3 _)
   | (with_reducible exact ih4 _ _ _ _ _)
   | (with_reducible exact ih5 _)
   | (with_reducible exact ih6 _ _ _ _)
   | (with_reducible exact ih7 _ _ _ _ _)
   | (with_reducible exact impl_AllPatterns.mono _ _)
   | (with_reducible exact impl_CountPatterns.mono _ _)
   | (with_reducible exact impl_IsPattern.mono _ _)
   | (with_reducible exact impl_MirrorPattern.mono _ _)
   | (with_reducible exact impl_ParsePattern.mono _ _)
   | (with_reducible exact impl_PatternText.mono _ _)
   | (with_reducible exact impl_TurnPattern.mono _ _ _)
   | (with_reducible exact laws_hLess.mono _ _ _)
   | (with_reducible exact laws_hRows.mono _ _ _)
   | (with_reducible exact laws_hSame.mono _ _ _)
   | (with_reducible exact spec_AllPatterns.mono _ _)
   | (with_reducible exact spec_CountPatterns.mono _ _)
   | (with_reducible exact spec_DrawParsePattern.mono _ _)
   | (with_reducible exact spec_DrawPatternText.mono _ _)
   | (with_reducible exact spec_DrawTurnPattern.mono _ _)
   | (with_reducible exact spec_IsPattern.mono _ _)
   | (with_reducible exact spec_MirrorPattern.mono _ _)
   | (with_reducible exact spec_ParsePattern.mono _ _)
   | (with_reducible exact spec_PatternText.mono _ _)
   | (with_reducible exact spec_TurnPattern.mono _ _ _)
   | (with_reducible exact LeO.refl _)
   | (with_reducible exact LeO.none _)
   | (with_reducible refine LeO.ite ?_ ?_)
   | (with_reducible refine LeO.bind ?_ (fun _ => ?_))
   | exact ih0 _ _ _ _ _ _
   | exact ih1 _
   | exact ih2 _ _ _ _ _
   | exact ih3 _
   | exact ih4 _ _ _ _ _
   | exact ih5 _
   | exact ih6 _ _ _ _
   | exact ih7 _ _ _ _ _
   | exact impl_AllPatterns.mono _ _
   | exact impl_CountPatterns.mono _ _
   | exact impl_IsPattern.mono _ _
   | exact impl_MirrorPattern.mono _ _
   | exact impl_ParsePattern.mono _ _
   | exact impl_PatternText.mono _ _
   | exact impl_TurnPattern.mono _ _ _
   | exact laws_hLess.mono _ _ _
   | exact laws_hRows.mono _ _ _
   | exact laws_hSame.mono _ _ _
   | exact spec_AllPatterns.mono _ _
   | exact spec_CountPatterns.mono _ _
   | exact spec_DrawParsePattern.mono _ _
   | exact spec_DrawPatternText.mono _ _
   | exact spec_DrawTurnPattern.mono _ _
   | exact spec_IsPattern.mono _ _
   | exact spec_MirrorPattern.mono _ _
   | exact spec_ParsePattern.mono _ _
   | exact spec_PatternText.mono _ _
   | exact spec_TurnPattern.mono _ _ _
   | exact LeO.none _
   | refine LeO.ite ?_ ?_
   | refine LeO.bind ?_ (fun _ => ?_)
  ·intro y0
   unfold laws_FnPatterns.j1
   repeat' first
   | (with_reducible exact ih0 _ _ _ _ _ _)
   | (with_reducible exact ih1 _)
   | (with_reducible exact ih2 _ _ _ _ _)
   | (with_reducible exact ih3 _)
   | (with_reducible exact ih4 _ _ _ _ _)
   | (with_reducible exact ih5 _)
   | (with_reducible exact ih6 _ _ _ _)
   | (with_reducible exact ih7 _ _ _ _ _)
   | (with_reducible exact impl_AllPatterns.mono _ _)
   | (with_reducible exact impl_CountPatterns.mono _ _)
   | (with_reducible exact impl_IsPattern.mono _ _)
   | (with_reducible exact impl_MirrorPattern.mono _ _)
   | (with_reducible exact impl_ParsePattern.mono _ _)
   | (with_reducible exact impl_PatternText.mono _ _)
   | (with_reducible exact impl_TurnPattern.mono _ _ _)
   | (with_reducible exact laws_hLess.mono _ _ _)
   | (with_reducible exact laws_hRows.mono _ _ _)
   | (with_reducible exact laws_hSame.mono _ _ _)
   | (with_reducible exact spec_AllPatterns.mono _ _)
   | (with_reducible exact spec_CountPatterns.mono _ _)
   | (with_reducible exact spec_DrawParsePattern.mono _ _)
   | (with_reducible exact spec_DrawPatternText.mono _ _)
   | (with_reducible exact spec_DrawTurnPattern.mono _ _)
   | (with_reducible exact spec_IsPattern.mono _ _)
   | (with_reducible exact spec_MirrorPattern.mono _ _)
   | (with_reducible exact spec_ParsePattern.mono _ _)
   | (with_reducible exact spec_PatternText.mono _ _)
   | (with_reducible exact spec_TurnPattern.mono _ _ _)
   | (with_reducible exact LeO.refl _)
   | (with_reducible exact LeO.none _)
   | (with_reducible refine LeO.ite ?_ ?_)
   | (with_reducible refine LeO.bind ?_ (fun _ => ?_))
   | exact ih0 _ _ _ _ _ _
   | exact ih1 _
   | exact ih2 _ _ _ _ _
   | exact ih3 _
   | exact ih4 _ _ _ _ _
   | exact ih5 _
   | exact ih6 _ _ _ _
   | exact ih7 _ _ _ _ _
   | exact impl_AllPatterns.mono _ _
   | exact impl_CountPatterns.mono _ _
   | exact impl_IsPattern.mono _ _
   | exact impl_MirrorPattern.mono _ _
   | exact impl_ParsePattern.mono _ _
   | exact impl_PatternText.mono _ _
   | exact impl_TurnPattern.mono _ _ _
   | exact laws_hLess.mono _ _ _
   | exact laws_hRows.mono _ _ _
   | exact laws_hSame.mono _ _ _
   | exact spec_AllPatterns.mono _ _
   | exact spec_CountPatterns.mono _ _
   | exact spec_DrawParsePattern.mono _ _
   | exact spec_DrawPatternText.mono _ _
   | exact spec_DrawTurnPattern.mono _ _
   | exact spec_IsPattern.mono _ _
   | exact spec_MirrorPattern.mono _ _
   | exact spec_ParsePattern.mono _ _
   | exact spec_PatternText.mono _ _
   | exact spec_TurnPattern.mono _ _ _
   | exact LeO.none _
   | refine LeO.ite ?_ ?_
   | refine LeO.bind ?_ (fun _ => ?_)
  ·intro y0 y1 y2 y3 y4
   unfold laws_FnPatterns.j2
   repeat' first
   | (with_reducible exact ih0 _ _ _ _ _ _)
   | (with_reducible exact ih1 _)
   | (with_reducible exact ih2 _ _ _ _ _)
   | (with_reducible exact ih3 _)
   | (with_reducible exact ih4 _ _ _ _ _)
   | (with_reducible exact ih5 _)
   | (with_reducible exact ih6 _ _ _ _)
   | (with_reducible exact ih7 _ _ _ _ _)
   | (with_reducible exact impl_AllPatterns.mono _ _)
   | (with_reducible exact impl_CountPatterns.mono _ _)
   | (with_reducible exact impl_IsPattern.mono _ _)
   | (with_reducible exact impl_MirrorPattern.mono _ _)
   | (with_reducible exact impl_ParsePattern.mono _ _)
   | (with_reducible exact impl_PatternText.mono _ _)
   | (with_reducible exact impl_TurnPattern.mono _ _ _)
   | (with_reducible exact laws_hLess.mono _ _ _)
   | (with_reducible exact laws_hRows.mono _ _ _)
   | (with_reducible exact laws_hSame.mono _ _ _)
   | (with_reducible exact spec_AllPatterns.mono _ _)
   | (with_reducible exact spec_CountPatterns.mono _ _)
   | (with_reducible exact spec_DrawParsePattern.mono _ _)
   | (with_reducible exact spec_DrawPatternText.mono _ _)
   | (with_reducible exact spec_DrawTurnPattern.mono _ _)
   | (with_reducible exact spec_IsPattern.mono _ _)
   | (with_reducible exact spec_MirrorPattern.mono _ _)
   | (with_reducible exact spec_ParsePattern.mono _ _)
   | (with_reducible exact spec_PatternText.mono _ _)
   | (with_reducible exact spec_TurnPattern.mono _ _ _)
   | (with_reducible exact LeO.refl _)
   | (with_reducible exact LeO.none _)
   | (with_reducible refine LeO.ite ?_ ?_)
   | (with_reducible refine LeO.bind ?_ (fun _ => ?_))
   | exact ih0 _ _ _ _ _ _
   | exact ih1 _
   | exact ih2 _ _ _ _ _
   | exact ih3 _
   | exact ih4 _ _ _ _ _
   | exact ih5 _
   | exact ih6 _ _ _ _
   | exact ih7 _ _ _ _ _
   | exact impl_AllPatterns.mono _ _
   | exact impl_CountPatterns.mono _ _
   | exact impl_IsPattern.mono _ _
   | exact impl_MirrorPattern.mono _ _
   | exact impl_ParsePattern.mono _ _
   | exact impl_PatternText.mono _ _
   | exact impl_TurnPattern.mono _ _ _
   | exact laws_hLess.mono _ _ _
   | exact laws_hRows.mono _ _ _
   | exact laws_hSame.mono _ _ _
   | exact spec_AllPatterns.mono _ _
   | exact spec_CountPatterns.mono _ _
   | exact spec_DrawParsePattern.mono _ _
   | exact spec_DrawPatternText.mono _ _
   | exact spec_DrawTurnPattern.mono _ _
   | exact spec_IsPattern.mono _ _
   | exact spec_MirrorPattern.mono _ _
   | exact spec_ParsePattern.mono _ _
   | exact spec_PatternText.mono _ _
   | exact spec_TurnPattern.mono _ _ _
   | exact LeO.none _
   | refine LeO.ite ?_ ?_
   | refine LeO.bind ?_ (fun _ => ?_)
  ·intro y0
   unfold laws_FnPatterns.j4
   repeat' first
   | (with_reducible exact ih0 _ _ _ _ _ _)
   | (with_reducible exact ih1 _)
   | (with_reducible exact ih2 _ _ _ _ _)
   | (with_reducible exact ih3 _)
   | (with_reducible exact ih4 _ _ _ _ _)
   | (with_reducible exact ih5 _)
   | (with_reducible exact ih6 _ _ _ _)
   | (with_reducible exact ih7 _ _ _ _ _)
   | (with_reducible exact impl_AllPatterns.mono _ _)
   | (with_reducible exact impl_CountPatterns.mono _ _)
   | (with_reducible exact impl_IsPattern.mono _ _)
   | (with_reducible exact impl_MirrorPattern.mono _ _)
   | (with_reducible exact impl_ParsePattern.mono _ _)
   | (with_reducible exact impl_PatternText.mono _ _)
   | (with_reducible exact impl_TurnPattern.mono _ _ _)
   | (with_reducible exact laws_hLess.mono _ _ _)
   | (with_reducible exact laws_hRows.mono _ _ _)
   | (with_reducible exact laws_hSame.mono _ _ _)
   | (with_reducible exact spec_AllPatterns.mono _ _)
   | (with_reducible exact spec_CountPatterns.mono _ _)
   | (with_reducible exact spec_DrawParsePattern.mono _ _)
   | (with_reducible exact spec_DrawPatternText.mono _ _)
   | (with_reducible exact spec_DrawTurnPattern.mono _ _)
   | (with_reducible exact spec_IsPattern.mono _ _)
   | (with_reducible exact spec_MirrorPattern.mono _ _)
   | (with_reducible exact spec_ParsePattern.mono _ _)
   | (with_reducible exact spec_PatternText.mono _ _)
   | (with_reducible exact spec_TurnPattern.mono _ _ _)
   | (with_reducible exact LeO.refl _)
   | (with_reducible exact LeO.none _)
   | (with_reducible refine LeO.ite ?_ ?_)
   | (with_reducible refine LeO.bind ?_ (fun _ => ?_))
   | exact ih0 _ _ _ _ _ _
   | exact ih1 _
   | exact ih2 _ _ _ _ _
   | exact ih3 _
   | exact ih4 _ _ _ _ _
   | exact ih5 _
   | exact ih6 _ _ _ _
   | exact ih7 _ _ _ _ _
   | exact impl_AllPatterns.mono _ _
   | exact impl_CountPatterns.mono _ _
   | exact impl_IsPattern.mono _ _
   | exact impl_MirrorPattern.mono _ _
   | exact impl_ParsePattern.mono _ _
   | exact impl_PatternText.mono _ _
   | exact impl_TurnPattern.mono _ _ _
   | exact laws_hLess.mono _ _ _
   | exact laws_hRows.mono _ _ _
   | exact laws_hSame.mono _ _ _
   | exact spec_AllPatterns.mono _ _
   | exact spec_CountPatterns.mono _ _
   | exact spec_DrawParsePattern.mono _ _
   | exact spec_DrawPatternText.mono _ _
   | exact spec_DrawTurnPattern.mono _ _
   | exact spec_IsPattern.mono _ _
   | exact spec_MirrorPattern.mono _ _
   | exact spec_ParsePattern.mono _ _
   | exact spec_PatternText.mono _ _
   | exact spec_TurnPattern.mono _ _ _
   | exact LeO.none _
   | refine LeO.ite ?_ ?_
   | refine LeO.bind ?_ (fun _ => ?_)
  ·intro y0 y1 y2 y3 y4
   unfold laws_FnPatterns.j5
   repeat' first
   | (with_reducible exact ih0 _ _ _ _ _ _)
   | (with_reducible exact ih1 _)
   | (with_reducible exact ih2 _ _ _ _ _)
   | (with_reducible exact ih3 _)
   | (with_reducible exact ih4 _ _ _ _ _)
   | (with_reducible exact ih5 _)
   | (with_reducible exact ih6 _ _ _ _)
   | (with_reducible exact ih7 _ _ _ _ _)
   | (with_reducible exact impl_AllPatterns.mono _ _)
   | (with_reducible exact impl_CountPatterns.mono _ _)
   | (with_reducible exact impl_IsPattern.mono _ _)
   | (with_reducible exact impl_MirrorPattern.mono _ _)
   | (with_reducible exact impl_ParsePattern.mono _ _)
   | (with_reducible exact impl_PatternText.mono _ _)
   | (with_reducible exact impl_TurnPattern.mono _ _ _)
   | (with_reducible exact laws_hLess.mono _ _ _)
   | (with_reducible exact laws_hRows.mono _ _ _)
   | (with_reducible exact laws_hSame.mono _ _ _)
   | (with_reducible exact spec_AllPatterns.mono _ _)
   | (with_reducible exact spec_CountPatterns.mono _ _)
   | (with_reducible exact spec_DrawParsePattern.mono _ _)
   | (with_reducible exact spec_DrawPatternText.mono _ _)
   | (with_reducible exact spec_DrawTurnPattern.mono _ _)
   | (with_reducible exact spec_IsPattern.mono _ _)
   | (with_reducible exact spec_MirrorPattern.mono _ _)
   | (with_reducible exact spec_ParsePattern.mono _ _)
   | (with_reducible exact spec_PatternText.mono _ _)
   | (with_reducible exact spec_TurnPattern.mono _ _ _)
   | (with_reducible exact LeO.refl _)
   | (with_reducible exact LeO.none _)
   | (with_reducible refine LeO.ite ?_ ?_)
   | (with_reducible refine LeO.bind ?_ (fun _ => ?_))
   | exact ih0 _ _ _ _ _ _
   | exact ih1 _
   | exact ih2 _ _ _ _ _
   | exact ih3 _
   | exact ih4 _ _ _ _ _
   | exact ih5 _
   | exact ih6 _ _ _ _
   | exact ih7 _ _ _ _ _
   | exact impl_AllPatterns.mono _ _
   | exact impl_CountPatterns.mono _ _
   | exact impl_IsPattern.mono _ _
   | exact impl_MirrorPattern.mono _ _
   | exact impl_ParsePattern.mono _ _
   | exact impl_PatternText.mono _ _
   | exact impl_TurnPattern.mono _ _ _
   | exact laws_hLess.mono _ _ _
   | exact laws_hRows.mono _ _ _
   | exact laws_hSame.mono _ _ _
   | exact spec_AllPatterns.mono _ _
   | exact spec_CountPatterns.mono _ _
   | exact spec_DrawParsePattern.mono _ _
   | exact spec_DrawPatternText.mono _ _
   | exact spec_DrawTurnPattern.mono _ _
   | exact spec_IsPattern.mono _ _
   | exact spec_MirrorPattern.mono _ _
   | exact spec_ParsePattern.mono _ _
   | exact spec_PatternText.mono _ _
   | exact spec_TurnPattern.mono _ _ _
   | exact LeO.none _
   | refine LeO.ite ?_ ?_
   | refine LeO.bind ?_ (fun _ => ?_)
  ·intro y0
   unfold laws_FnPatterns.j6
   repeat' first
   | (with_reducible exact ih0 _ _ _ _ _ _)
   | (with_reducible exact ih1 _)
   | (with_reducible exact ih2 _ _ _ _ _)
   | (with_reducible exact ih3 _)
   | (with_reducible exact ih4 _ _ _ _ _)
   | (with_reducible exact ih5 _)
   | (with_reducible exact ih6 _ _ _ _)
   | (with_reducible exact ih7 _ _ _ _ _)
   | (with_reducible exact impl_AllPatterns.mono _ _)
   | (with_reducible exact impl_CountPatterns.mono _ _)
   | (with_reducible exact impl_IsPattern.mono _ _)
   | (with_reducible exact impl_MirrorPattern.mono _ _)
   | (with_reducible exact impl_ParsePattern.mono _ _)
   | (with_reducible exact impl_PatternText.mono _ _)
   | (with_reducible exact impl_TurnPattern.mono _ _ _)
   | (with_reducible exact laws_hLess.mono _ _ _)
   | (with_reducible exact laws_hRows.mono _ _ _)
   | (with_reducible exact laws_hSame.mono _ _ _)
   | (with_reducible exact spec_AllPatterns.mono _ _)
   | (with_reducible exact spec_CountPatterns.mono _ _)
   | (with_reducible exact spec_DrawParsePattern.mono _ _)
   | (with_reducible exact spec_DrawPatternText.mono _ _)
   | (with_reducible exact spec_DrawTurnPattern.mono _ _)
   | (with_reducible exact spec_IsPattern.mono _ _)
   | (with_reducible exact spec_MirrorPattern.mono _ _)
   | (with_reducible exact spec_ParsePattern.mono _ _)
   | (with_reducible exact spec_PatternText.mono _ _)
   | (with_reducible exact spec_TurnPattern.mono _ _ _)
   | (with_reducible exact LeO.refl _)
   | (with_reducible exact LeO.none _)
   | (with_reducible refine LeO.ite ?_ ?_)
   | (with_reducible refine LeO.bind ?_ (fun _ => ?_))
   | exact ih0 _ _ _ _ _ _
   | exact ih1 _
   | exact ih2 _ _ _ _ _
   | exact ih3 _
   | exact ih4 _ _ _ _ _
   | exact ih5 _
   | exact ih6 _ _ _ _
   | exact ih7 _ _ _ _ _
   | exact impl_AllPatterns.mono _ _
   | exact impl_CountPatterns.mono _ _
   | exact impl_IsPattern.mono _ _
   | exact impl_MirrorPattern.mono _ _
   | exact impl_ParsePattern.mono _ _
   | exact impl_PatternText.mono _ _
   | exact impl_TurnPattern.mono _ _ _
   | exact laws_hLess.mono _ _ _
   | exact laws_hRows.mono _ _ _
   | exact laws_hSame.mono _ _ _
   | exact spec_AllPatterns.mono _ _
   | exact spec_CountPatterns.mono _ _
   | exact spec_DrawParsePattern.mono _ _
   | exact spec_DrawPatternText.mono _ _
   | exact spec_DrawTurnPattern.mono _ _
   | exact spec_IsPattern.mono _ _
   | exact spec_MirrorPattern.mono _ _
   | exact spec_ParsePattern.mono _ _
   | exact spec_PatternText.mono _ _
   | exact spec_TurnPattern.mono _ _ _
   | exact LeO.none _
   | refine LeO.ite ?_ ?_
   | refine LeO.bind ?_ (fun _ => ?_)
  ·intro y0 y1 y2 y3
   unfold laws_FnPatterns.j7
   repeat' first
   | (with_reducible exact ih0 _ _ _ _ _ _)
   | (with_reducible exact ih1 _)
   | (with_reducible exact ih2 _ _ _ _ _)
   | (with_reducible exact ih3 _)
   | (with_reducible exact ih4 _ _ _ _ _)
   | (with_reducible exact ih5 _)
   | (with_reducible exact ih6 _ _ _ _)
   | (with_reducible exact ih7 _ _ _ _ _)
   | (with_reducible exact impl_AllPatterns.mono _ _)
   | (with_reducible exact impl_CountPatterns.mono _ _)
   | (with_reducible exact impl_IsPattern.mono _ _)
   | (with_reducible exact impl_MirrorPattern.mono _ _)
   | (with_reducible exact impl_ParsePattern.mono _ _)
   | (with_reducible exact impl_PatternText.mono _ _)
   | (with_reducible exact impl_TurnPattern.mono _ _ _)
   | (with_reducible exact laws_hLess.mono _ _ _)
   | (with_reducible exact laws_hRows.mono _ _ _)
   | (with_reducible exact laws_hSame.mono _ _ _)
   | (with_reducible exact spec_AllPatterns.mono _ _)
   | (with_reducible exact spec_CountPatterns.mono _ _)
   | (with_reducible exact spec_DrawParsePattern.mono _ _)
   | (with_reducible exact spec_DrawPatternText.mono _ _)
   | (with_reducible exact spec_DrawTurnPattern.mono _ _)
   | (with_reducible exact spec_IsPattern.mono _ _)
   | (with_reducible exact spec_MirrorPattern.mono _ _)
   | (with_reducible exact spec_ParsePattern.mono _ _)
   | (with_reducible exact spec_PatternText.mono _ _)
   | (with_reducible exact spec_TurnPattern.mono _ _ _)
   | (with_reducible exact LeO.refl _)
   | (with_reducible exact LeO.none _)
   | (with_reducible refine LeO.ite ?_ ?_)
   | (with_reducible refine LeO.bind ?_ (fun _ => ?_))
   | exact ih0 _ _ _ _ _ _
   | exact ih1 _
   | exact ih2 _ _ _ _ _
   | exact ih3 _
   | exact ih4 _ _ _ _ _
   | exact ih5 _
   | exact ih6 _ _ _ _
   | exact ih7 _ _ _ _ _
   | exact impl_AllPatterns.mono _ _
   | exact impl_CountPatterns.mono _ _
   | exact impl_IsPattern.mono _ _
   | exact impl_MirrorPattern.mono _ _
   | exact impl_ParsePattern.mono _ _
   | exact impl_PatternText.mono _ _
   | exact impl_TurnPattern.mono _ _ _
   | exact laws_hLess.mono _ _ _
   | exact laws_hRows.mono _ _ _
   | exact laws_hSame.mono _ _ _
   | exact spec_AllPatterns.mono _ _
   | exact spec_CountPatterns.mono _ _
   | exact spec_DrawParsePattern.mono _ _
   | exact spec_DrawPatternText.mono _ _
   | exact spec_DrawTurnPattern.mono _ _
   | exact spec_IsPattern.mono _ _
   | exact spec_MirrorPattern.mono _ _
   | exact spec_ParsePattern.mono _ _
   | exact spec_PatternText.mono _ _
   | exact spec_TurnPattern.mono _ _ _
   | exact LeO.none _
   | refine LeO.ite ?_ ?_
   | refine LeO.bind ?_ (fun _ => ?_)
  ·intro y0 y1 y2 y3 y4
   unfold laws_FnPatterns.l0
   repeat' first
   | (with_reducible exact ih0 _ _ _ _ _ _)
   | (with_reducible exact ih1 _)
   | (with_reducible exact ih2 _ _ _ _ _)
   | (with_reducible exact ih3 _)
   | (with_reducible exact ih4 _ _ _ _ _)
   | (with_reducible exact ih5 _)
   | (with_reducible exact ih6 _ _ _ _)
   | (with_reducible exact ih7 _ _ _ _ _)
   | (with_reducible exact impl_AllPatterns.mono _ _)
   | (with_reducible exact impl_CountPatterns.mono _ _)
   | (with_reducible exact impl_IsPattern.mono _ _)
   | (with_reducible exact impl_MirrorPattern.mono _ _)
   | (with_reducible exact impl_ParsePattern.mono _ _)
   | (with_reducible exact impl_PatternText.mono _ _)
   | (with_reducible exact impl_TurnPattern.mono _ _ _)
   | (with_reducible exact laws_hLess.mono _ _ _)
   | (with_reducible exact laws_hRows.mono _ _ _)
   | (with_reducible exact laws_hSame.mono _ _ _)
   | (with_reducible exact spec_AllPatterns.mono _ _)
   | (with_reducible exact spec_CountPatterns.mono _ _)
   | (with_reducible exact spec_DrawParsePattern.mono _ _)
   | (with_reducible exact spec_DrawPatternText.mono _ _)
   | (with_reducible exact spec_DrawTurnPattern.mono _ _)
   | (with_reducible exact spec_IsPattern.mono _ _)
   | (with_reducible exact spec_MirrorPattern.mono _ _)
   | (with_reducible exact spec_ParsePattern.mono _ _)
   | (with_reducible exact spec_PatternText.mono _ _)
   | (with_reducible exact spec_TurnPattern.mono _ _ _)
   | (with_reducible exact LeO.refl _)
   | (with_reducible exact LeO.none _)
   | (with_reducible refine LeO.ite ?_ ?_)
   | (with_reducible refine LeO.bind ?_ (fun _ => ?_))
   | exact ih0 _ _ _ _ _ _
   | exact ih1 _
   | exact ih2 _ _ _ _ _
   | exact ih3 _
   | exact ih4 _ _ _ _ _
   | exact ih5 _
   | exact ih6 _ _ _ _
   | exact ih7 _ _ _ _ _
   | exact impl_AllPatterns.mono _ _
   | exact impl_CountPatterns.mono _ _
   | exact impl_IsPattern.mono _ _
   | exact impl_MirrorPattern.mono _ _
   | exact impl_ParsePattern.mono _ _
   | exact impl_PatternText.mono _ _
   | exact impl_TurnPattern.mono _ _ _
   | exact laws_hLess.mono _ _ _
   | exact laws_hRows.mono _ _ _
   | exact laws_hSame.mono _ _ _
   | exact spec_AllPatterns.mono _ _
   | exact spec_CountPatterns.mono _ _
   | exact spec_DrawParsePattern.mono _ _
   | exact spec_DrawPatternText.mono _ _
   | exact spec_DrawTurnPattern.mono _ _
   | exact spec_IsPattern.mono _ _
   | exact spec_MirrorPattern.mono _ _
   | exact spec_ParsePattern.mono _ _
   | exact spec_PatternText.mono _ _
   | exact spec_TurnPattern.mono _ _ _
   | exact LeO.none _
   | refine LeO.ite ?_ ?_
   | refine LeO.bind ?_ (fun _ => ?_)
theorem laws_FnPatterns.mono : ∀ a0 a1  k, LeO (laws_FnPatterns.f k a0 a1) (laws_FnPatterns.f (k + 1) a0 a1) := by
 intro a0 a1 k
 obtain ⟨ih0, ih1, ih2, ih3, ih4, ih5, ih6, ih7⟩ := laws_FnPatterns.mono_l k
 unfold laws_FnPatterns.f
 repeat' first
   | (with_reducible exact ih0 _ _ _ _ _ _)
   | (with_reducible exact ih1 _)
   | (with_reducible exact ih2 _ _ _ _ _)
   | (with_reducible exact ih3 _)
   | (with_reducible exact ih4 _ _ _ _ _)
   | (with_reducible exact ih5 _)
   | (with_reducible exact ih6 _ _ _ _)
   | (with_reducible exact ih7 _ _ _ _ _)
   | (with_reducible exact impl_AllPatterns.mono _ _)
   | (with_reducible exact impl_CountPatterns.mono _ _)
   | (with_reducible exact impl_IsPattern.mono _ _)
   | (with_reducible exact impl_MirrorPattern.mono _ _)
   | (with_reducible exact impl_ParsePattern.mono _ _)
   | (with_reducible exact impl_PatternText.mono _ _)
   | (with_reducible exact impl_TurnPattern.mono _ _ _)
   | (with_reducible exact laws_hLess.mono _ _ _)
   | (with_reducible exact laws_hRows.mono _ _ _)
   | (with_reducible exact laws_hSame.mono _ _ _)
   | (with_reducible exact spec_AllPatterns.mono _ _)
   | (with_reducible exact spec_CountPatterns.mono _ _)
   | (with_reducible exact spec_DrawParsePattern.mono _ _)
   | (with_reducible exact spec_DrawPatternText.mono _ _)
   | (with_reducible exact spec_DrawTurnPattern.mono _ _)
   | (with_reducible exact spec_IsPattern.mono _ _)
   | (with_reducible exact spec_MirrorPattern.mono _ _)
   | (with_reducible exact spec_ParsePattern.mono _ _)
   | (with_reducible exact spec_PatternText.mono _ _)
   | (with_reducible exact spec_TurnPattern.mono _ _ _)
   | (with_reducible exact LeO.refl _)
   | (with_reducible exact LeO.none _)
   | (with_reducible refine LeO.ite ?_ ?_)
   | (with_reducible refine LeO.bind ?_ (fun _ => ?_))
   | exact ih0 _ _ _ _ _ _
   | exact ih1 _
   | exact ih2 _ _ _ _ _
   | exact ih3 _
   | exact ih4 _ _ _ _ _
   | exact ih5 _
   | exact ih6 _ _ _ _
   | exact ih7 _ _ _ _ _
   | exact impl_AllPatterns.mono _ _
   | exact impl_CountPatterns.mono _ _
   | exact impl_IsPattern.mono _ _
   | exact impl_MirrorPattern.mono _ _
   | exact impl_ParsePattern.mono _ _
   | exact impl_PatternText.mono _ _
   | exact impl_TurnPattern.mono _ _ _
   | exact laws_hLess.mono _ _ _
   | exact laws_hRows.mono _ _ _
   | exact laws_hSame.mono _ _ _
   | exact spec_AllPatterns.mono _ _
   | exact spec_CountPatterns.mono _ _
   | exact spec_DrawParsePattern.mono _ _
   | exact spec_DrawPatternText.mono _ _
   | exact spec_DrawTurnPattern.mono _ _
   | exact spec_IsPattern.mono _ _
   | exact spec_MirrorPattern.mono _ _
   | exact spec_ParsePattern.mono _ _
   | exact spec_PatternText.mono _ _
   | exact spec_TurnPattern.mono _ _ _
   | exact LeO.none _
   | refine LeO.ite ?_ ?_
   | refine LeO.bind ?_ (fun _ => ?_)
set_option maxHeartbeats 8000000 in
set_option maxRecDepth 100000 in
theorem laws_FnPatterns.calls (k : Nat) (A0 : Option Addr) (c0 : Nat) (l0 : List Int) (A1 : Option Addr) (c1 : Nat) (l1 : List Int) (r : Bool) (w : World) (hr_ : r = true) (hr0 : Kd.C (Kd.int .u8) w A0 l0.length l0) (hc0 : l0.length ≤ c0) (hr1 : Kd.C (Kd.int .u8) w A1 l1.length l1) (hc1 : l1.length ≤ c1) (h : laws_FnPatterns.f k l0 l1 = some r) :
  Calls Try.prog 12 #[.slice A0 l0.length c0, .slice A1 l1.length c1] w fun e w' => e = .returned (.bool r) ∧ Below w.heap.size w w' := by
 have HR_ := Aside0.mk hr_
 clear hr_
 have HR0 := Aside0.mk hr0
 have HC0 := Aside0.mk hc0
 clear hr0 hc0
 have HR1 := Aside0.mk hr1
 have HC1 := Aside0.mk hc1
 clear hr1 hc1
 have HB := Aside0.mk (Below.refl w.heap.size w)
 have H : ((laws_big.f l0 l1).bind fun t101 => (if t101 = true then (some true) else ((spec_DrawTurnPattern.f k l0).bind fun bt102 => ((impl_TurnPattern.f k bt102.1 bt102.2).bind fun bt106 => ((spec_TurnPattern.f k bt102.1 bt102.2).bind fun bt110 => (if (bt106.2 != bt110.2) = true then (laws_FnPatterns.j0 k l1 bt102.1 bt102.2 bt106.1 bt106.2 true) else ((laws_hSame.f k bt106.1 bt110.1).bind fun t114 => (laws_FnPatterns.j0 k l1 bt102.1 bt102.2 bt106.1 bt106.2 (!t114))))))))) = some r := h
 clear h
 replace H := Option.bind_eq_some_iff.mp H
 obtain ⟨t101, A30, H⟩ := H
 replace H : (if t101 = true then (some true) else ((spec_DrawTurnPattern.f k l0).bind fun bt102 => ((impl_TurnPattern.f k bt102.1 bt102.2).bind fun bt106 => ((spec_TurnPattern.f k bt102.1 bt102.2).bind fun bt110 => (if (bt106.2 != bt110.2) = true then (laws_FnPatterns.j0 k l1 bt102.1 bt102.2 bt106.1 bt106.2 true) else ((laws_hSame.f k bt106.1 bt110.1).bind fun t114 => (laws_FnPatterns.j0 k l1 bt102.1 bt102.2 bt106.1 bt106.2 (!t114)))))))) = some r := H
 have A3 := Aside0.mk A30
 clear A30
 by_cases c4 : t101 = true
 ·subst c4
  have H1 : (some true) = some r := by rw [if_pos rfl] at H; exact H
  clear H
  have H := H1
  clear H1
  obtain rfl := Option.some.inj H
  go_enter Try.func12, Try.ntmps12
  go_wp2_with (first | ((with_reducible refine gate_callee (f := 18) rfl ?_); refine goesL_ (some 50) rfl rfl Try.func18 (by kernel_rfl) rfl #[.slice A0 l0.length c0, .slice A1 l1.length c1] rfl (by (try simp only [List.map_toArray, List.map_cons, List.map_nil]); first | done | rfl | (simp only [List.length_drop, List.length_take]; rfl)) ?_; (with_reducible refine (laws_big.calls _ _ l0 _ _ l1 true _ ?side1 ?side2 ?side3 ?side4 A3.out).mono ?_); (case side1 => repeat (first | exact HR0.out | (with_reducible refine Kd.C_alloc ?_ _) | (with_reducible refine Kd.C_drewN ?_ _) | (with_reducible refine Kd.C_drew ?_))); (case side2 => exact HC0.out); (case side3 => repeat (first | exact HR1.out | (with_reducible refine Kd.C_alloc ?_ _) | (with_reducible refine Kd.C_drewN ?_ _) | (with_reducible refine Kd.C_drew ?_))); (case side4 => exact HC1.out); rintro e w' ⟨rfl, ⟨nd, rfl⟩⟩; refine ⟨_, rfl, ?_⟩))
  go_ret
  exact ⟨by first | rfl | (simp [errW_none, errW_some] <;> rfl) | (simp [*, errW_none, errW_some] <;> rfl), by repeat (first | (with_reducible first | exact HB.out | apply below_alloc | apply pw_below_drewN | apply below_drew1) | exact HB.out)⟩
 ·replace c4 := Bool.eq_false_iff.mpr c4
  subst c4
  have H1 : ((spec_DrawTurnPattern.f k l0).bind fun bt102 => ((impl_TurnPattern.f k bt102.1 bt102.2).bind fun bt106 => ((spec_TurnPattern.f k bt102.1 bt102.2).bind fun bt110 => (if (bt106.2 != bt110.2) = true then (laws_FnPatterns.j0 k l1 bt102.1 bt102.2 bt106.1 bt106.2 true) else ((laws_hSame.f k bt106.1 bt110.1).bind fun t114 => (laws_FnPatterns.j0 k l1 bt102.1 bt102.2 bt106.1 bt106.2 (!t114))))))) = some r := by rw [if_neg (show ¬ (false = true) by decide)] at H; exact H
  clear H
  have H := H1
  clear H1
  replace H := Option.bind_eq_some_iff.mp H
  obtain ⟨⟨t102, t103⟩, A50, H⟩ := H
  replace H : ((impl_TurnPattern.f k t102 t103).bind fun bt106 => ((spec_TurnPattern.f k t102 t103).bind fun bt110 => (if (bt106.2 != bt110.2) = true then (laws_FnPatterns.j0 k l1 t102 t103 bt106.1 bt106.2 true) else ((laws_hSame.f k bt106.1 bt110.1).bind fun t114 => (laws_FnPatterns.j0 k l1 t102 t103 bt106.1 bt106.2 (!t114)))))) = some r := H
  have A5 := Aside0.mk A50
  clear A50
  replace H := Option.bind_eq_some_iff.mp H
  obtain ⟨⟨t106, t107⟩, A60, H⟩ := H
  replace H : ((spec_TurnPattern.f k t102 t103).bind fun bt110 => (if (t107 != bt110.2) = true then (laws_FnPatterns.j0 k l1 t102 t103 t106 t107 true) else ((laws_hSame.f k t106 bt110.1).bind fun t114 => (laws_FnPatterns.j0 k l1 t102 t103 t106 t107 (!t114))))) = some r := H
  have A6 := Aside0.mk A60
  clear A60
  replace H := Option.bind_eq_some_iff.mp H
  obtain ⟨⟨t110, t111⟩, A70, H⟩ := H
  replace H : (if (t107 != t111) = true then (laws_FnPatterns.j0 k l1 t102 t103 t106 t107 true) else ((laws_hSame.f k t106 t110).bind fun t114 => (laws_FnPatterns.j0 k l1 t102 t103 t106 t107 (!t114)))) = some r := H
  have A7 := Aside0.mk A70
  clear A70
  have HC8 := Aside0.mk H
  clear H
  go_enter Try.func12, Try.ntmps12
  go_upto_region 6 with (first | ((with_reducible refine gate_callee (f := 18) rfl ?_); refine goesL_ (some 50) rfl rfl Try.func18 (by kernel_rfl) rfl #[.slice A0 l0.length c0, .slice A1 l1.length c1] rfl (by (try simp only [List.map_toArray, List.map_cons, List.map_nil]); first | done | rfl | (simp only [List.length_drop, List.length_take]; rfl)) ?_; (with_reducible refine (laws_big.calls _ _ l0 _ _ l1 false _ ?side1 ?side2 ?side3 ?side4 A3.out).mono ?_); (case side1 => repeat (first | exact HR0.out | (with_reducible refine Kd.C_alloc ?_ _) | (with_reducible refine Kd.C_drewN ?_ _) | (with_reducible refine Kd.C_drew ?_))); (case side2 => exact HC0.out); (case side3 => repeat (first | exact HR1.out | (with_reducible refine Kd.C_alloc ?_ _) | (with_reducible refine Kd.C_drewN ?_ _) | (with_reducible refine Kd.C_drew ?_))); (case side4 => exact HC1.out); rintro e w' ⟨rfl, ⟨nd, rfl⟩⟩; refine ⟨_, rfl, ?_⟩) | ((with_reducible refine gate_callee (f := 65) rfl ?_); refine goesL_ (some 53) rfl rfl Try.func65 (by kernel_rfl) rfl #[.slice A0 l0.length c0] rfl (by (try simp only [List.map_toArray, List.map_cons, List.map_nil]); first | done | rfl | (simp only [List.length_drop, List.length_take]; rfl)) ?_; (with_reducible refine (spec_DrawTurnPattern.calls k _ _ l0 t102 t103 _ ?side1 ?side2 A5.out).mono ?_); (case side1 => repeat (first | exact HR0.out | (with_reducible refine Kd.C_alloc ?_ _) | (with_reducible refine Kd.C_drewN ?_ _) | (with_reducible refine Kd.C_drew ?_))); (case side2 => exact HC0.out); rintro e w9 ⟨v104, rfl, ho0, hb⟩; refine ⟨_, rfl, ?_⟩; have n0_ := Aside0.mk (Kd.R_lower ho0 (below_size (by repeat (first | (with_reducible first | exact HB.out | apply below_alloc | apply pw_below_drewN | apply below_drew1) | exact HB.out)))); have n1_ := Aside0.mk (below_step (by repeat (first | (with_reducible first | exact HB.out | apply below_alloc | apply pw_below_drewN | apply below_drew1) | exact HB.out)) hb); clear HB; have HO105 := n0_; have HB := n1_; clear n0_ n1_; (try clear hb); (try clear hb2); (try clear hk); (try clear hi); (try clear ho0); obtain ⟨Ao10, co10, eo10⟩ := Kd.R_slice HO105.out; subst eo10) | ((with_reducible refine gate_callee (f := 29) rfl ?_); refine goesL_ (some 59) rfl rfl Try.func29 (by kernel_rfl) rfl #[.slice Ao10 t102.length co10, .int .i64 t103] rfl (by (try simp only [List.map_toArray, List.map_cons, List.map_nil]); first | done | rfl | (simp only [List.length_drop, List.length_take]; rfl)) ?_; (with_reducible refine (impl_TurnPattern.calls k _ _ t102 t103 t106 t107 _ ?side1 ?side2 A6.out).mono ?_); (case side1 => repeat (first | exact (Kd.R_reads' HO105.out).2.2 | (with_reducible refine Kd.C_alloc ?_ _) | (with_reducible refine Kd.C_drewN ?_ _) | (with_reducible refine Kd.C_drew ?_))); (case side2 => exact (Kd.R_reads' HO105.out).2.1); rintro e w11 ⟨v108, rfl, ho0, hb⟩; refine ⟨_, rfl, ?_⟩; have n0_ := Aside0.mk (Kd.R_elder' (by (with_reducible repeat (first | apply Kd.R_alloc | apply Kd.R_drewN | apply Kd.R_drew)); exact HO105.out) (Kd.R_base ho0) hb); have n1_ := Aside0.mk (Kd.R_lower (Kd.R_new' ho0 (Kd.R_lt (by (with_reducible repeat (first | apply Kd.R_alloc | apply Kd.R_drewN | apply Kd.R_drew)); exact HO105.out))) (below_size (by repeat (first | (with_reducible first | exact HB.out | apply below_alloc | apply pw_below_drewN | apply below_drew1) | exact HB.out)))); have n2_ := Aside0.mk (below_step (by repeat (first | (with_reducible first | exact HB.out | apply below_alloc | apply pw_below_drewN | apply below_drew1) | exact HB.out)) hb); clear HO105; clear HB; have HO105 := n0_; have HO109 := n1_; have HB := n2_; clear n0_ n1_ n2_; (try clear hb); (try clear hb2); (try clear hk); (try clear hi); (try clear ho0)) | ((with_reducible refine gate_callee (f := 66) rfl ?_); refine goesL_ (some 65) rfl rfl Try.func66 (by kernel_rfl) rfl #[.slice Ao10 t102.length co10, .int .i64 t103] rfl (by (try simp only [List.map_toArray, List.map_cons, List.map_nil]); first | done | rfl | (simp only [List.length_drop, List.length_take]; rfl)) ?_; (with_reducible refine (spec_TurnPattern.calls k _ _ t102 t103 t110 t111 _ ?side1 ?side2 A7.out).mono ?_); (case side1 => repeat (first | exact (Kd.R_reads' HO105.out).2.2 | (with_reducible refine Kd.C_alloc ?_ _) | (with_reducible refine Kd.C_drewN ?_ _) | (with_reducible refine Kd.C_drew ?_))); (case side2 => exact (Kd.R_reads' HO105.out).2.1); rintro e w12 ⟨v112, rfl, ho0, hb⟩; refine ⟨_, rfl, ?_⟩; have n0_ := Aside0.mk (Kd.R_elder' (by (with_reducible repeat (first | apply Kd.R_alloc | apply Kd.R_drewN | apply Kd.R_drew)); exact HO105.out) (Kd.R_base ho0) hb); have n1_ := Aside0.mk (Kd.R_elder' (by (with_reducible repeat (first | apply Kd.R_alloc | apply Kd.R_drewN | apply Kd.R_drew)); exact HO109.out) (Kd.R_base ho0) hb); have n2_ := Aside0.mk (Kd.R_lower (Kd.R_new' (Kd.R_new' ho0 (Kd.R_lt (by (with_reducible repeat (first | apply Kd.R_alloc | apply Kd.R_drewN | apply Kd.R_drew)); exact HO105.out))) (Kd.R_lt (by (with_reducible repeat (first | apply Kd.R_alloc | apply Kd.R_drewN | apply Kd.R_drew)); exact HO109.out))) (below_size (by repeat (first | (with_reducible first | exact HB.out | apply below_alloc | apply pw_below_drewN | apply below_drew1) | exact HB.out)))); have n3_ := Aside0.mk (below_step (by repeat (first | (with_reducible first | exact HB.out | apply below_alloc | apply pw_below_drewN | apply below_drew1) | exact HB.out)) hb); clear HO105; clear HO109; clear HB; have HO105 := n0_; have HO109 := n1_; have HO113 := n2_; have HB := n3_; clear n0_ n1_ n2_ n3_; (try clear hb); (try clear hb2); (try clear hk); (try clear hi); (try clear ho0)))
  (try simp only [Act.put, List.setIfInBounds_toArray, List.set_cons_zero, List.set_cons_succ])
  go_cut [76] (fun v76 wc => ∃ (kq : Nat) (x76_7 : Bool), v76 = .bool x76_7 ∧ Aside0 (laws_FnPatterns.j0 kq l1 t102 t103 t106 t107 x76_7 = some r) ∧ Aside0 (kq ≤ k) ∧ Aside0 (Kd.R (Kd.int .i64) 3 wc w.heap.size (fun k_ => some k_ ≠ (v108 : Value).ownBlock) (.slice Ao10 t102.length co10) t102) ∧ Aside0 (Kd.R (Kd.int .i64) 3 wc w.heap.size (fun k_ => some k_ ≠ ((.slice Ao10 t102.length co10) : Value).ownBlock) v108 t106) ∧ Aside0 (Below w.heap.size w wc))
  case first => as_aux_lemma =>
   have H := HC8.out
   clear HC8
   by_cases c13 : (t107 != t111) = true
   ·rw [if_pos c13] at H
    have c13b0 : (t107 != t111) = true := c13
    (try (have c13b1 : decide (t107 = t111) = false := by simpa using c13))
    (try (have c13b2 : (t107 == t111) = false := by simpa using c13))
    (try (have c13b3 : ¬ (t107 = t111) := by simpa using c13))
    clear c13
    (first | rw [c13b0] | (simp only [i64_w, i32_w]; rw [c13b0]) | skip)
    have H' := Aside0.mk H
    clear H
    go_wp2
    go_meet
    case rel => exact ⟨_, (true), (by first | rfl | (simp; done) | (simp [*]; done)), H', ⟨by first | omega | exact Nat.le_refl _⟩, ⟨by (with_reducible repeat (first | apply Kd.R_alloc | apply Kd.R_drewN | apply Kd.R_drew)); exact Kd.R_mono HO105.out (fun _ hk => hk.1.2)⟩, ⟨by (with_reducible repeat (first | apply Kd.R_alloc | apply Kd.R_drewN | apply Kd.R_drew)); exact Kd.R_mono HO109.out (fun _ hk => hk.1.2)⟩, ⟨by repeat (first | (with_reducible first | exact HB.out | apply below_alloc | apply pw_below_drewN | apply below_drew1) | exact HB.out)⟩⟩
   ·rw [if_neg c13] at H
    have c13b0 : (t107 != t111) = false := by simpa using c13
    (try (have c13b1 : decide (t107 = t111) = true := by simpa using c13))
    (try (have c13b2 : (t107 == t111) = true := by simpa using c13))
    clear c13
    (first | rw [c13b0] | (simp only [i64_w, i32_w]; rw [c13b0]) | skip)
    replace H := Option.bind_eq_some_iff.mp H
    obtain ⟨t114, A140, H⟩ := H
    replace H : (laws_FnPatterns.j0 k l1 t102 t103 t106 t107 (!t114)) = some r := H
    have A14 := Aside0.mk A140
    clear A140
    have H' := Aside0.mk H
    clear H
    obtain ⟨Ao15, co15, eo15⟩ := Kd.R_slice HO109.out
    subst eo15
    obtain ⟨Ao16, co16, eo16⟩ := Kd.R_slice HO113.out
    subst eo16
    go_wp2_with (first | (go_at_call 67; (with_reducible refine (laws_hSame.calls k _ _ t106 _ _ t110 t114 _ ?side1 ?side2 ?side3 ?side4 A14.out).mono ?_); (case side1 => repeat (first | exact (Kd.R_reads' HO109.out).2.2 | (with_reducible refine Kd.C_alloc ?_ _) | (with_reducible refine Kd.C_drewN ?_ _) | (with_reducible refine Kd.C_drew ?_))); (case side2 => exact (Kd.R_reads' HO109.out).2.1); (case side3 => repeat (first | exact (Kd.R_reads' HO113.out).2.2 | (with_reducible refine Kd.C_alloc ?_ _) | (with_reducible refine Kd.C_drewN ?_ _) | (with_reducible refine Kd.C_drew ?_))); (case side4 => exact (Kd.R_reads' HO113.out).2.1); rintro e w' ⟨rfl, ⟨nd, rfl⟩⟩))
    go_meet
    case rel => exact ⟨_, (!t114), (by first | rfl | (simp; done) | (simp [*]; done)), H', ⟨by first | omega | exact Nat.le_refl _⟩, ⟨by (with_reducible repeat (first | apply Kd.R_alloc | apply Kd.R_drewN | apply Kd.R_drew)); exact Kd.R_mono HO105.out (fun _ hk => hk.1.2)⟩, ⟨by (with_reducible repeat (first | apply Kd.R_alloc | apply Kd.R_drewN | apply Kd.R_drew)); exact Kd.R_mono HO109.out (fun _ hk => hk.1.2)⟩, ⟨by repeat (first | (with_reducible first | exact HB.out | apply below_alloc | apply pw_below_drewN | apply below_drew1) | exact HB.out)⟩⟩
  case rest => as_aux_lemma =>
   clear HC8
   try clear c1
   try clear c2
   try clear p2
   try clear c4
   try clear c6
   try clear c12
   try clear c13
   try clear c13b0
   try clear c13b1
   try clear c13b2
   obtain ⟨kq, x76_7, rfl, HA, HJ7, HO_5, HO_7, HB⟩ := hcut
   cases kq with
   | zero => exact absurd HA.out (by simp [laws_FnPatterns.j0])
   | succ kj7 =>
    have H := HA.out
    clear HA
    simp only [laws_FnPatterns.j0] at H
    by_cases c17 : x76_7 = true
    ·subst c17
     exact absurd ((show (some false : Option Bool) = some r from by rw [if_pos rfl] at H; exact H).trans (congrArg some HR_.out)) (by simp)
    ·replace c17 := Bool.eq_false_iff.mpr c17
     subst c17
     have H1 : (if t107 = true then ((impl_TurnPattern.f kj7 t106 (wrap64 (-t103))).bind fun bt115 => ((impl_TurnPattern.f kj7 t102 (t102.length : Int)).bind fun bt119 => ((impl_MirrorPattern.f kj7 t102).bind fun bt123 => ((impl_MirrorPattern.f kj7 bt123.1).bind fun bt127 => ((impl_IsPattern.f kj7 t106).bind fun t131 => (if t131 = true then (if bt115.2 = true then ((laws_hSame.f kj7 bt115.1 t102).bind fun t132 => (if t132 = true then (if bt119.2 = true then ((laws_hSame.f kj7 bt119.1 t102).bind fun t133 => (if t133 = true then (if bt123.2 = true then ((impl_IsPattern.f kj7 bt123.1).bind fun t134 => (if t134 = true then (if bt127.2 = true then ((laws_hSame.f kj7 bt127.1 t102).bind fun t135 => (if t135 = true then (laws_FnPatterns.j1 kj7 l1) else (some false))) else (some false)) else (some false))) else (some false)) else (some false))) else (some false)) else (some false))) else (some false)) else (some false))))))) else (laws_FnPatterns.j1 kj7 l1)) = some r := by rw [if_neg (show ¬ (false = true) by decide)] at H; exact H
     clear H
     have H := H1
     clear H1
     have HC18 := Aside0.mk H
     clear H
     go_upto_if 77 with (fail)
     go_cut [] (fun wc => ∃ (kq : Nat), Aside0 (laws_FnPatterns.j1 kq l1 = some r) ∧ Aside0 (kq ≤ kj7) ∧ Aside0 (Below w.heap.size w wc))
     case first => as_aux_lemma =>
      have H := HC18.out
      clear HC18
      by_cases c19 : t107 = true
      ·subst c19
       have H1 : ((impl_TurnPattern.f kj7 t106 (wrap64 (-t103))).bind fun bt115 => ((impl_TurnPattern.f kj7 t102 (t102.length : Int)).bind fun bt119 => ((impl_MirrorPattern.f kj7 t102).bind fun bt123 => ((impl_MirrorPattern.f kj7 bt123.1).bind fun bt127 => ((impl_IsPattern.f kj7 t106).bind fun t131 => (if t131 = true then (if bt115.2 = true then ((laws_hSame.f kj7 bt115.1 t102).bind fun t132 => (if t132 = true then (if bt119.2 = true then ((laws_hSame.f kj7 bt119.1 t102).bind fun t133 => (if t133 = true then (if bt123.2 = true then ((impl_IsPattern.f kj7 bt123.1).bind fun t134 => (if t134 = true then (if bt127.2 = true then ((laws_hSame.f kj7 bt127.1 t102).bind fun t135 => (if t135 = true then (laws_FnPatterns.j1 kj7 l1) else (some false))) else (some false)) else (some false))) else (some false)) else (some false))) else (some false)) else (some false))) else (some false)) else (some false))))))) = some r := by rw [if_pos rfl] at H; exact H
       clear H
       have H := H1
       clear H1
       replace H := Option.bind_eq_some_iff.mp H
       obtain ⟨⟨t115, t116⟩, A200, H⟩ := H
       replace H : ((impl_TurnPattern.f kj7 t102 (t102.length : Int)).bind fun bt119 => ((impl_MirrorPattern.f kj7 t102).bind fun bt123 => ((impl_MirrorPattern.f kj7 bt123.1).bind fun bt127 => ((impl_IsPattern.f kj7 t106).bind fun t131 => (if t131 = true then (if t116 = true then ((laws_hSame.f kj7 t115 t102).bind fun t132 => (if t132 = true then (if bt119.2 = true then ((laws_hSame.f kj7 bt119.1 t102).bind fun t133 => (if t133 = true then (if bt123.2 = true then ((impl_IsPattern.f kj7 bt123.1).bind fun t134 => (if t134 = true then (if bt127.2 = true then ((laws_hSame.f kj7 bt127.1 t102).bind fun t135 => (if t135 = true then (laws_FnPatterns.j1 kj7 l1) else (some false))) else (some false)) else (some false))) else (some false)) else (some false))) else (some false)) else (some false))) else (some false)) else (some false)))))) = some r := H
       have A20 := Aside0.mk A200
       clear A200
       replace H := Option.bind_eq_some_iff.mp H
       obtain ⟨⟨t119, t120⟩, A210, H⟩ := H
       replace H : ((impl_MirrorPattern.f kj7 t102).bind fun bt123 => ((impl_MirrorPattern.f kj7 bt123.1).bind fun bt127 => ((impl_IsPattern.f kj7 t106).bind fun t131 => (if t131 = true then (if t116 = true then ((laws_hSame.f kj7 t115 t102).bind fun t132 => (if t132 = true then (if t120 = true then ((laws_hSame.f kj7 t119 t102).bind fun t133 => (if t133 = true then (if bt123.2 = true then ((impl_IsPattern.f kj7 bt123.1).bind fun t134 => (if t134 = true then (if bt127.2 = true then ((laws_hSame.f kj7 bt127.1 t102).bind fun t135 => (if t135 = true then (laws_FnPatterns.j1 kj7 l1) else (some false))) else (some false)) else (some false))) else (some false)) else (some false))) else (some false)) else (some false))) else (some false)) else (some false))))) = some r := H
       have A21 := Aside0.mk A210
       clear A210
       replace H := Option.bind_eq_some_iff.mp H
       obtain ⟨⟨t123, t124⟩, A220, H⟩ := H
       replace H : ((impl_MirrorPattern.f kj7 t123).bind fun bt127 => ((impl_IsPattern.f kj7 t106).bind fun t131 => (if t131 = true then (if t116 = true then ((laws_hSame.f kj7 t115 t102).bind fun t132 => (if t132 = true then (if t120 = true then ((laws_hSame.f kj7 t119 t102).bind fun t133 => (if t133 = true then (if t124 = true then ((impl_IsPattern.f kj7 t123).bind fun t134 => (if t134 = true then (if bt127.2 = true then ((laws_hSame.f kj7 bt127.1 t102).bind fun t135 => (if t135 = true then (laws_FnPatterns.j1 kj7 l1) else (some false))) else (some false)) else (some false))) else (some false)) else (some false))) else (some false)) else (some false))) else (some false)) else (some false)))) = some r := H
       have A22 := Aside0.mk A220
       clear A220
       replace H := Option.bind_eq_some_iff.mp H
       obtain ⟨⟨t127, t128⟩, A230, H⟩ := H
       replace H : ((impl_IsPattern.f kj7 t106).bind fun t131 => (if t131 = true then (if t116 = true then ((laws_hSame.f kj7 t115 t102).bind fun t132 => (if t132 = true then (if t120 = true then ((laws_hSame.f kj7 t119 t102).bind fun t133 => (if t133 = true then (if t124 = true then ((impl_IsPattern.f kj7 t123).bind fun t134 => (if t134 = true then (if t128 = true then ((laws_hSame.f kj7 t127 t102).bind fun t135 => (if t135 = true then (laws_FnPatterns.j1 kj7 l1) else (some false))) else (some false)) else (some false))) else (some false)) else (some false))) else (some false)) else (some false))) else (some false)) else (some false))) = some r := H
       have A23 := Aside0.mk A230
       clear A230
       replace H := Option.bind_eq_some_iff.mp H
       obtain ⟨t131, A240, H⟩ := H
       replace H : (if t131 = true then (if t116 = true then ((laws_hSame.f kj7 t115 t102).bind fun t132 => (if t132 = true then (if t120 = true then ((laws_hSame.f kj7 t119 t102).bind fun t133 => (if t133 = true then (if t124 = true then ((impl_IsPattern.f kj7 t123).bind fun t134 => (if t134 = true then (if t128 = true then ((laws_hSame.f kj7 t127 t102).bind fun t135 => (if t135 = true then (laws_FnPatterns.j1 kj7 l1) else (some false))) else (some false)) else (some false))) else (some false)) else (some false))) else (some false)) else (some false))) else (some false)) else (some false)) = some r := H
       have A24 := Aside0.mk A240
       clear A240
       by_cases c25 : t131 = true
       ·subst c25
        have H1 : (if t116 = true then ((laws_hSame.f kj7 t115 t102).bind fun t132 => (if t132 = true then (if t120 = true then ((laws_hSame.f kj7 t119 t102).bind fun t133 => (if t133 = true then (if t124 = true then ((impl_IsPattern.f kj7 t123).bind fun t134 => (if t134 = true then (if t128 = true then ((laws_hSame.f kj7 t127 t102).bind fun t135 => (if t135 = true then (laws_FnPatterns.j1 kj7 l1) else (some false))) else (some false)) else (some false))) else (some false)) else (some false))) else (some false)) else (some false))) else (some false)) = some r := by rw [if_pos rfl] at H; exact H
        clear H
        have H := H1
        clear H1
        by_cases c26 : t116 = true
        ·subst c26
         have H1 : ((laws_hSame.f kj7 t115 t102).bind fun t132 => (if t132 = true then (if t120 = true then ((laws_hSame.f kj7 t119 t102).bind fun t133 => (if t133 = true then (if t124 = true then ((impl_IsPattern.f kj7 t123).bind fun t134 => (if t134 = true then (if t128 = true then ((laws_hSame.f kj7 t127 t102).bind fun t135 => (if t135 = true then (laws_FnPatterns.j1 kj7 l1) else (some false))) else (some false)) else (some false))) else (some false)) else (some false))) else (some false)) else (some false))) = some r := by rw [if_pos rfl] at H; exact H
         clear H
         have H := H1
         clear H1
         replace H := Option.bind_eq_some_iff.mp H
         obtain ⟨t132, A270, H⟩ := H
         replace H : (if t132 = true then (if t120 = true then ((laws_hSame.f kj7 t119 t102).bind fun t133 => (if t133 = true then (if t124 = true then ((impl_IsPattern.f kj7 t123).bind fun t134 => (if t134 = true then (if t128 = true then ((laws_hSame.f kj7 t127 t102).bind fun t135 => (if t135 = true then (laws_FnPatterns.j1 kj7 l1) else (some false))) else (some false)) else (some false))) else (some false)) else (some false))) else (some false)) else (some false)) = some r := H
         have A27 := Aside0.mk A270
         clear A270
         by_cases c28 : t132 = true
         ·subst c28
          have H1 : (if t120 = true then ((laws_hSame.f kj7 t119 t102).bind fun t133 => (if t133 = true then (if t124 = true then ((impl_IsPattern.f kj7 t123).bind fun t134 => (if t134 = true then (if t128 = true then ((laws_hSame.f kj7 t127 t102).bind fun t135 => (if t135 = true then (laws_FnPatterns.j1 kj7 l1) else (some false))) else (some false)) else (some false))) else (some false)) else (some false))) else (some false)) = some r := by rw [if_pos rfl] at H; exact H
          clear H
          have H := H1
          clear H1
          by_cases c29 : t120 = true
          ·subst c29
           have H1 : ((laws_hSame.f kj7 t119 t102).bind fun t133 => (if t133 = true then (if t124 = true then ((impl_IsPattern.f kj7 t123).bind fun t134 => (if t134 = true then (if t128 = true then ((laws_hSame.f kj7 t127 t102).bind fun t135 => (if t135 = true then (laws_FnPatterns.j1 kj7 l1) else (some false))) else (some false)) else (some false))) else (some false)) else (some false))) = some r := by rw [if_pos rfl] at H; exact H
           clear H
           have H := H1
           clear H1
           replace H := Option.bind_eq_some_iff.mp H
           obtain ⟨t133, A300, H⟩ := H
           replace H : (if t133 = true then (if t124 = true then ((impl_IsPattern.f kj7 t123).bind fun t134 => (if t134 = true then (if t128 = true then ((laws_hSame.f kj7 t127 t102).bind fun t135 => (if t135 = true then (laws_FnPatterns.j1 kj7 l1) else (some false))) else (some false)) else (some false))) else (some false)) else (some false)) = some r := H
           have A30 := Aside0.mk A300
           clear A300
           by_cases c31 : t133 = true
           ·subst c31
            have H1 : (if t124 = true then ((impl_IsPattern.f kj7 t123).bind fun t134 => (if t134 = true then (if t128 = true then ((laws_hSame.f kj7 t127 t102).bind fun t135 => (if t135 = true then (laws_FnPatterns.j1 kj7 l1) else (some false))) else (some false)) else (some false))) else (some false)) = some r := by rw [if_pos rfl] at H; exact H
            clear H
            have H := H1
            clear H1
            by_cases c32 : t124 = true
            ·subst c32
             have H1 : ((impl_IsPattern.f kj7 t123).bind fun t134 => (if t134 = true then (if t128 = true then ((laws_hSame.f kj7 t127 t102).bind fun t135 => (if t135 = true then (laws_FnPatterns.j1 kj7 l1) else (some false))) else (some false)) else (some false))) = some r := by rw [if_pos rfl] at H; exact H
             clear H
             have H := H1
             clear H1
             replace H := Option.bind_eq_some_iff.mp H
             obtain ⟨t134, A330, H⟩ := H
             replace H : (if t134 = true then (if t128 = true then ((laws_hSame.f kj7 t127 t102).bind fun t135 => (if t135 = true then (laws_FnPatterns.j1 kj7 l1) else (some false))) else (some false)) else (some false)) = some r := H
             have A33 := Aside0.mk A330
             clear A330
             by_cases c34 : t134 = true
             ·subst c34
              have H1 : (if t128 = true then ((laws_hSame.f kj7 t127 t102).bind fun t135 => (if t135 = true then (laws_FnPatterns.j1 kj7 l1) else (some false))) else (some false)) = some r := by rw [if_pos rfl] at H; exact H
              clear H
              have H := H1
              clear H1
              by_cases c35 : t128 = true
              ·subst c35
               have H1 : ((laws_hSame.f kj7 t127 t102).bind fun t135 => (if t135 = true then (laws_FnPatterns.j1 kj7 l1) else (some false))) = some r := by rw [if_pos rfl] at H; exact H
               clear H
               have H := H1
               clear H1
               replace H := Option.bind_eq_some_iff.mp H
               obtain ⟨t135, A360, H⟩ := H
               replace H : (if t135 = true then (laws_FnPatterns.j1 kj7 l1) else (some false)) = some r := H
               have A36 := Aside0.mk A360
               clear A360
               by_cases c37 : t135 = true
               ·subst c37
                have H1 : (laws_FnPatterns.j1 kj7 l1) = some r := by rw [if_pos rfl] at H; exact H
                clear H
                have H := H1
                clear H1
                have H' := Aside0.mk H
                clear H
                obtain ⟨Ao38, co38, eo38⟩ := Kd.R_slice HO_7.out
                subst eo38
                go_wp2_with (first | ((with_reducible refine gate_callee (f := 29) rfl ?_); refine goesL_ (some 82) rfl rfl Try.func29 (by kernel_rfl) rfl #[.slice Ao38 t106.length co38, .int .i64 (wrap64 (-t103))] rfl (by (try simp only [List.map_toArray, List.map_cons, List.map_nil]); first | done | rfl | (simp only [List.length_drop, List.length_take]; rfl)) ?_; (with_reducible refine (impl_TurnPattern.calls kj7 _ _ t106 (wrap64 (-t103)) t115 true _ ?side1 ?side2 A20.out).mono ?_); (case side1 => repeat (first | exact (Kd.R_reads' HO_7.out).2.2 | (with_reducible refine Kd.C_alloc ?_ _) | (with_reducible refine Kd.C_drewN ?_ _) | (with_reducible refine Kd.C_drew ?_))); (case side2 => exact (Kd.R_reads' HO_7.out).2.1); rintro e w39 ⟨v117, rfl, ho0, hb⟩; refine ⟨_, rfl, ?_⟩; have n0_ := Aside0.mk (Kd.R_elder' (by (with_reducible repeat (first | apply Kd.R_alloc | apply Kd.R_drewN | apply Kd.R_drew)); exact HO_5.out) (Kd.R_base ho0) hb); have n1_ := Aside0.mk (Kd.R_elder' (by (with_reducible repeat (first | apply Kd.R_alloc | apply Kd.R_drewN | apply Kd.R_drew)); exact HO_7.out) (Kd.R_base ho0) hb); have n2_ := Aside0.mk (Kd.R_lower (Kd.R_new' (Kd.R_new' ho0 (Kd.R_lt (by (with_reducible repeat (first | apply Kd.R_alloc | apply Kd.R_drewN | apply Kd.R_drew)); exact HO_5.out))) (Kd.R_lt (by (with_reducible repeat (first | apply Kd.R_alloc | apply Kd.R_drewN | apply Kd.R_drew)); exact HO_7.out))) (below_size (by repeat (first | (with_reducible first | exact HB.out | apply below_alloc | apply pw_below_drewN | apply below_drew1) | exact HB.out)))); have n3_ := Aside0.mk (below_step (by repeat (first | (with_reducible first | exact HB.out | apply below_alloc | apply pw_below_drewN | apply below_drew1) | exact HB.out)) hb); clear HO_5; clear HO_7; clear HB; have HO_5 := n0_; have HO_7 := n1_; have HO118 := n2_; have HB := n3_; clear n0_ n1_ n2_ n3_; (try clear hb); (try clear hb2); (try clear hk); (try clear hi); (try clear ho0)) | ((with_reducible refine gate_callee (f := 29) rfl ?_); refine goesL_ (some 89) rfl rfl Try.func29 (by kernel_rfl) rfl #[.slice Ao10 t102.length co10, .int .i64 (t102.length : Int)] rfl (by (try simp only [List.map_toArray, List.map_cons, List.map_nil]); first | done | rfl | (simp only [List.length_drop, List.length_take]; rfl)) ?_; (with_reducible refine (impl_TurnPattern.calls kj7 _ _ t102 (t102.length : Int) t119 true _ ?side1 ?side2 A21.out).mono ?_); (case side1 => repeat (first | exact (Kd.R_reads' HO_5.out).2.2 | (with_reducible refine Kd.C_alloc ?_ _) | (with_reducible refine Kd.C_drewN ?_ _) | (with_reducible refine Kd.C_drew ?_))); (case side2 => exact (Kd.R_reads' HO_5.out).2.1); rintro e w40 ⟨v121, rfl, ho0, hb⟩; refine ⟨_, rfl, ?_⟩; have n0_ := Aside0.mk (Kd.R_elder' (by (with_reducible repeat (first | apply Kd.R_alloc | apply Kd.R_drewN | apply Kd.R_drew)); exact HO_5.out) (Kd.R_base ho0) hb); have n1_ := Aside0.mk (Kd.R_elder' (by (with_reducible repeat (first | apply Kd.R_alloc | apply Kd.R_drewN | apply Kd.R_drew)); exact HO_7.out) (Kd.R_base ho0) hb); have n2_ := Aside0.mk (Kd.R_elder' (by (with_reducible repeat (first | apply Kd.R_alloc | apply Kd.R_drewN | apply Kd.R_drew)); exact HO118.out) (Kd.R_base ho0) hb); have n3_ := Aside0.mk (Kd.R_lower (Kd.R_new' (Kd.R_new' (Kd.R_new' ho0 (Kd.R_lt (by (with_reducible repeat (first | apply Kd.R_alloc | apply Kd.R_drewN | apply Kd.R_drew)); exact HO_5.out))) (Kd.R_lt (by (with_reducible repeat (first | apply Kd.R_alloc | apply Kd.R_drewN | apply Kd.R_drew)); exact HO_7.out))) (Kd.R_lt (by (with_reducible repeat (first | apply Kd.R_alloc | apply Kd.R_drewN | apply Kd.R_drew)); exact HO118.out))) (below_size (by repeat (first | (with_reducible first | exact HB.out | apply below_alloc | apply pw_below_drewN | apply below_drew1) | exact HB.out)))); have n4_ := Aside0.mk (below_step (by repeat (first | (with_reducible first | exact HB.out | apply below_alloc | apply pw_below_drewN | apply below_drew1) | exact HB.out)) hb); clear HO_5; clear HO_7; clear HO118; clear HB; have HO_5 := n0_; have HO_7 := n1_; have HO118 := n2_; have HO122 := n3_; have HB := n4_; clear n0_ n1_ n2_ n3_ n4_; (try clear hb); (try clear hb2); (try clear hk); (try clear hi); (try clear ho0)) | ((with_reducible refine gate_callee (f := 68) rfl ?_); refine goesL_ (some 94) rfl rfl Try.func68 (by kernel_rfl) rfl #[.slice Ao10 t102.length co10] rfl (by (try simp only [List.map_toArray, List.map_cons, List.map_nil]); first | done | rfl | (simp only [List.length_drop, List.length_take]; rfl)) ?_; (with_reducible refine (impl_MirrorPattern.calls kj7 _ _ t102 t123 true _ ?side1 ?side2 A22.out).mono ?_); (case side1 => repeat (first | exact (Kd.R_reads' HO_5.out).2.2 | (with_reducible refine Kd.C_alloc ?_ _) | (with_reducible refine Kd.C_drewN ?_ _) | (with_reducible refine Kd.C_drew ?_))); (case side2 => exact (Kd.R_reads' HO_5.out).2.1); rintro e w41 ⟨v125, rfl, ho0, hb⟩; refine ⟨_, rfl, ?_⟩; have n0_ := Aside0.mk (Kd.R_elder' (by (with_reducible repeat (first | apply Kd.R_alloc | apply Kd.R_drewN | apply Kd.R_drew)); exact HO_5.out) (Kd.R_base ho0) hb); have n1_ := Aside0.mk (Kd.R_elder' (by (with_reducible repeat (first | apply Kd.R_alloc | apply Kd.R_drewN | apply Kd.R_drew)); exact HO_7.out) (Kd.R_base ho0) hb); have n2_ := Aside0.mk (Kd.R_elder' (by (with_reducible repeat (first | apply Kd.R_alloc | apply Kd.R_drewN | apply Kd.R_drew)); exact HO118.out) (Kd.R_base ho0) hb); have n3_ := Aside0.mk (Kd.R_elder' (by (with_reducible repeat (first | apply Kd.R_alloc | apply Kd.R_drewN | apply Kd.R_drew)); exact HO122.out) (Kd.R_base ho0) hb); have n4_ := Aside0.mk (Kd.R_lower (Kd.R_new' (Kd.R_new' (Kd.R_new' (Kd.R_new' ho0 (Kd.R_lt (by (with_reducible repeat (first | apply Kd.R_alloc | apply Kd.R_drewN | apply Kd.R_drew)); exact HO_5.out))) (Kd.R_lt (by (with_reducible repeat (first | apply Kd.R_alloc | apply Kd.R_drewN | apply Kd.R_drew)); exact HO_7.out))) (Kd.R_lt (by (with_reducible repeat (first | apply Kd.R_alloc | apply Kd.R_drewN | apply Kd.R_drew)); exact HO118.out))) (Kd.R_lt (by (with_reducible repeat (first | apply Kd.R_alloc | apply Kd.R_drewN | apply Kd.R_drew)); exact HO122.out))) (below_size (by repeat (first | (with_reducible first | exact HB.out | apply below_alloc | apply pw_below_drewN | apply below_drew1) | exact HB.out)))); have n5_ := Aside0.mk (below_step (by repeat (first | (with_reducible first | exact HB.out | apply below_alloc | apply pw_below_drewN | apply below_drew1) | exact HB.out)) hb); clear HO_5; clear HO_7; clear HO118; clear HO122; clear HB; have HO_5 := n0_; have HO_7 := n1_; have HO118 := n2_; have HO122 := n3_; have HO126 := n4_; have HB := n5_; clear n0_ n1_ n2_ n3_ n4_ n5_; (try clear hb); (try clear hb2); (try clear hk); (try clear hi); (try clear ho0); obtain ⟨Ao42, co42, eo42⟩ := Kd.R_slice HO126.out; subst eo42) | ((with_reducible refine gate_callee (f := 68) rfl ?_); refine goesL_ (some 99) rfl rfl Try.func68 (by kernel_rfl) rfl #[.slice Ao42 t123.length co42] rfl (by (try simp only [List.map_toArray, List.map_cons, List.map_nil]); first | done | rfl | (simp only [List.length_drop, List.length_take]; rfl)) ?_; (with_reducible refine (impl_MirrorPattern.calls kj7 _ _ t123 t127 true _ ?side1 ?side2 A23.out).mono ?_); (case side1 => repeat (first | exact (Kd.R_reads' HO126.out).2.2 | (with_reducible refine Kd.C_alloc ?_ _) | (with_reducible refine Kd.C_drewN ?_ _) | (with_reducible refine Kd.C_drew ?_))); (case side2 => exact (Kd.R_reads' HO126.out).2.1); rintro e w43 ⟨v129, rfl, ho0, hb⟩; refine ⟨_, rfl, ?_⟩; have n0_ := Aside0.mk (Kd.R_elder' (by (with_reducible repeat (first | apply Kd.R_alloc | apply Kd.R_drewN | apply Kd.R_drew)); exact HO_5.out) (Kd.R_base ho0) hb); have n1_ := Aside0.mk (Kd.R_elder' (by (with_reducible repeat (first | apply Kd.R_alloc | apply Kd.R_drewN | apply Kd.R_drew)); exact HO_7.out) (Kd.R_base ho0) hb); have n2_ := Aside0.mk (Kd.R_elder' (by (with_reducible repeat (first | apply Kd.R_alloc | apply Kd.R_drewN | apply Kd.R_drew)); exact HO118.out) (Kd.R_base ho0) hb); have n3_ := Aside0.mk (Kd.R_elder' (by (with_reducible repeat (first | apply Kd.R_alloc | apply Kd.R_drewN | apply Kd.R_drew)); exact HO122.out) (Kd.R_base ho0) hb); have n4_ := Aside0.mk (Kd.R_elder' (by (with_reducible repeat (first | apply Kd.R_alloc | apply Kd.R_drewN | apply Kd.R_drew)); exact HO126.out) (Kd.R_base ho0) hb); have n5_ := Aside0.mk (Kd.R_lower (Kd.R_new' (Kd.R_new' (Kd.R_new' (Kd.R_new' (Kd.R_new' ho0 (Kd.R_lt (by (with_reducible repeat (first | apply Kd.R_alloc | apply Kd.R_drewN | apply Kd.R_drew)); exact HO_5.out))) (Kd.R_lt (by (with_reducible repeat (first | apply Kd.R_alloc | apply Kd.R_drewN | apply Kd.R_drew)); exact HO_7.out))) (Kd.R_lt (by (with_reducible repeat (first | apply Kd.R_alloc | apply Kd.R_drewN | apply Kd.R_drew)); exact HO118.out))) (Kd.R_lt (by (with_reducible repeat (first | apply Kd.R_alloc | apply Kd.R_drewN | apply Kd.R_drew)); exact HO122.out))) (Kd.R_lt (by (with_reducible repeat (first | apply Kd.R_alloc | apply Kd.R_drewN | apply Kd.R_drew)); exact HO126.out))) (below_size (by repeat (first | (with_reducible first | exact HB.out | apply below_alloc | apply pw_below_drewN | apply below_drew1) | exact HB.out)))); have n6_ := Aside0.mk (below_step (by repeat (first | (with_reducible first | exact HB.out | apply below_alloc | apply pw_below_drewN | apply below_drew1) | exact HB.out)) hb); clear HO_5; clear HO_7; clear HO118; clear HO122; clear HO126; clear HB; have HO_5 := n0_; have HO_7 := n1_; have HO118 := n2_; have HO122 := n3_; have HO126 := n4_; have HO130 := n5_; have HB := n6_; clear n0_ n1_ n2_ n3_ n4_ n5_ n6_; (try clear hb); (try clear hb2); (try clear hk); (try clear hi); (try clear ho0)) | ((with_reducible refine gate_callee (f := 27) rfl ?_); refine goesL_ (some 103) rfl rfl Try.func27 (by kernel_rfl) rfl #[.slice Ao38 t106.length co38] rfl (by (try simp only [List.map_toArray, List.map_cons, List.map_nil]); first | done | rfl | (simp only [List.length_drop, List.length_take]; rfl)) ?_; (with_reducible refine (impl_IsPattern.calls kj7 _ _ t106 true _ ?side1 ?side2 A24.out).mono ?_); (case side1 => repeat (first | exact (Kd.R_reads' HO_7.out).2.2 | (with_reducible refine Kd.C_alloc ?_ _) | (with_reducible refine Kd.C_drewN ?_ _) | (with_reducible refine Kd.C_drew ?_))); (case side2 => exact (Kd.R_reads' HO_7.out).2.1); rintro e w44 ⟨rfl, hb⟩; refine ⟨_, rfl, ?_⟩; have n0_ := Aside0.mk (Kd.R_below (by (with_reducible repeat (first | apply Kd.R_alloc | apply Kd.R_drewN | apply Kd.R_drew)); exact HO_5.out) hb); have n1_ := Aside0.mk (Kd.R_below (by (with_reducible repeat (first | apply Kd.R_alloc | apply Kd.R_drewN | apply Kd.R_drew)); exact HO_7.out) hb); have n2_ := Aside0.mk (Kd.R_below (by (with_reducible repeat (first | apply Kd.R_alloc | apply Kd.R_drewN | apply Kd.R_drew)); exact HO118.out) hb); have n3_ := Aside0.mk (Kd.R_below (by (with_reducible repeat (first | apply Kd.R_alloc | apply Kd.R_drewN | apply Kd.R_drew)); exact HO122.out) hb); have n4_ := Aside0.mk (Kd.R_below (by (with_reducible repeat (first | apply Kd.R_alloc | apply Kd.R_drewN | apply Kd.R_drew)); exact HO126.out) hb); have n5_ := Aside0.mk (Kd.R_below (by (with_reducible repeat (first | apply Kd.R_alloc | apply Kd.R_drewN | apply Kd.R_drew)); exact HO130.out) hb); have n6_ := Aside0.mk (below_step (by repeat (first | (with_reducible first | exact HB.out | apply below_alloc | apply pw_below_drewN | apply below_drew1) | exact HB.out)) hb); clear HO_5; clear HO_7; clear HO118; clear HO122; clear HO126; clear HO130; clear HB; have HO_5 := n0_; have HO_7 := n1_; have HO118 := n2_; have HO122 := n3_; have HO126 := n4_; have HO130 := n5_; have HB := n6_; clear n0_ n1_ n2_ n3_ n4_ n5_ n6_; (try clear hb); (try clear hb2); (try clear hk); (try clear hi); obtain ⟨Ao45, co45, eo45⟩ := Kd.R_slice HO118.out; subst eo45) | (go_at_call 67; (with_reducible refine (laws_hSame.calls kj7 _ _ t115 _ _ t102 true _ ?side1 ?side2 ?side3 ?side4 A27.out).mono ?_); (case side1 => repeat (first | exact (Kd.R_reads' HO118.out).2.2 | (with_reducible refine Kd.C_alloc ?_ _) | (with_reducible refine Kd.C_drewN ?_ _) | (with_reducible refine Kd.C_drew ?_))); (case side2 => exact (Kd.R_reads' HO118.out).2.1); (case side3 => repeat (first | exact (Kd.R_reads' HO_5.out).2.2 | (with_reducible refine Kd.C_alloc ?_ _) | (with_reducible refine Kd.C_drewN ?_ _) | (with_reducible refine Kd.C_drew ?_))); (case side4 => exact (Kd.R_reads' HO_5.out).2.1); rintro e w' ⟨rfl, ⟨nd, rfl⟩⟩; obtain ⟨Ao46, co46, eo46⟩ := Kd.R_slice HO122.out; subst eo46) | (go_at_call 67; (with_reducible refine (laws_hSame.calls kj7 _ _ t119 _ _ t102 true _ ?side1 ?side2 ?side3 ?side4 A30.out).mono ?_); (case side1 => repeat (first | exact (Kd.R_reads' HO122.out).2.2 | (with_reducible refine Kd.C_alloc ?_ _) | (with_reducible refine Kd.C_drewN ?_ _) | (with_reducible refine Kd.C_drew ?_))); (case side2 => exact (Kd.R_reads' HO122.out).2.1); (case side3 => repeat (first | exact (Kd.R_reads' HO_5.out).2.2 | (with_reducible refine Kd.C_alloc ?_ _) | (with_reducible refine Kd.C_drewN ?_ _) | (with_reducible refine Kd.C_drew ?_))); (case side4 => exact (Kd.R_reads' HO_5.out).2.1); rintro e w' ⟨rfl, ⟨nd, rfl⟩⟩) | (go_at_call 27; (with_reducible refine (impl_IsPattern.calls kj7 _ _ t123 true _ ?side1 ?side2 A33.out).mono ?_); (case side1 => repeat (first | exact (Kd.R_reads' HO126.out).2.2 | (with_reducible refine Kd.C_alloc ?_ _) | (with_reducible refine Kd.C_drewN ?_ _) | (with_reducible refine Kd.C_drew ?_))); (case side2 => exact (Kd.R_reads' HO126.out).2.1); rintro e w47 ⟨rfl, hb⟩; have n0_ := Aside0.mk (Kd.R_below (by (with_reducible repeat (first | apply Kd.R_alloc | apply Kd.R_drewN | apply Kd.R_drew)); exact HO_5.out) hb); have n1_ := Aside0.mk (Kd.R_below (by (with_reducible repeat (first | apply Kd.R_alloc | apply Kd.R_drewN | apply Kd.R_drew)); exact HO_7.out) hb); have n2_ := Aside0.mk (Kd.R_below (by (with_reducible repeat (first | apply Kd.R_alloc | apply Kd.R_drewN | apply Kd.R_drew)); exact HO118.out) hb); have n3_ := Aside0.mk (Kd.R_below (by (with_reducible repeat (first | apply Kd.R_alloc | apply Kd.R_drewN | apply Kd.R_drew)); exact HO122.out) hb); have n4_ := Aside0.mk (Kd.R_below (by (with_reducible repeat (first | apply Kd.R_alloc | apply Kd.R_drewN | apply Kd.R_drew)); exact HO126.out) hb); have n5_ := Aside0.mk (Kd.R_below (by (with_reducible repeat (first | apply Kd.R_alloc | apply Kd.R_drewN | apply Kd.R_drew)); exact HO130.out) hb); have n6_ := Aside0.mk (below_step (by repeat (first | (with_reducible first | exact HB.out | apply below_alloc | apply pw_below_drewN | apply below_drew1) | exact HB.out)) hb); clear HO_5; clear HO_7; clear HO118; clear HO122; clear HO126; clear HO130; clear HB; have HO_5 := n0_; have HO_7 := n1_; have HO118 := n2_; have HO122 := n3_; have HO126 := n4_; have HO130 := n5_; have HB := n6_; clear n0_ n1_ n2_ n3_ n4_ n5_ n6_; (try clear hb); (try clear hb2); (try clear hk); (try clear hi); obtain ⟨Ao48, co48, eo48⟩ := Kd.R_slice HO130.out; subst eo48) | (go_at_call 67; (with_reducible refine (laws_hSame.calls kj7 _ _ t127 _ _ t102 true _ ?side1 ?side2 ?side3 ?side4 A36.out).mono ?_); (case side1 => repeat (first | exact (Kd.R_reads' HO130.out).2.2 | (with_reducible refine Kd.C_alloc ?_ _) | (with_reducible refine Kd.C_drewN ?_ _) | (with_reducible refine Kd.C_drew ?_))); (case side2 => exact (Kd.R_reads' HO130.out).2.1); (case side3 => repeat (first | exact (Kd.R_reads' HO_5.out).2.2 | (with_reducible refine Kd.C_alloc ?_ _) | (with_reducible refine Kd.C_drewN ?_ _) | (with_reducible refine Kd.C_drew ?_))); (case side4 => exact (Kd.R_reads' HO_5.out).2.1); rintro e w' ⟨rfl, ⟨nd, rfl⟩⟩))
                go_meet
                case rel => exact ⟨_, H', ⟨by have := HJ7.out; first | omega | exact Nat.le_refl _⟩, ⟨by repeat (first | (with_reducible first | exact HB.out | apply below_alloc | apply pw_below_drewN | apply below_drew1) | exact HB.out)⟩⟩
               ·replace c37 := Bool.eq_false_iff.mpr c37
                subst c37
                exact absurd ((show (some false : Option Bool) = some r from by rw [if_neg (show ¬ (false = true) by decide)] at H; exact H).trans (congrArg some HR_.out)) (by simp)
              ·replace c35 := Bool.eq_false_iff.mpr c35
               subst c35
               exact absurd ((show (some false : Option Bool) = some r from by rw [if_neg (show ¬ (false = true) by decide)] at H; exact H).trans (congrArg some HR_.out)) (by simp)
             ·replace c34 := Bool.eq_false_iff.mpr c34
              subst c34
              exact absurd ((show (some false : Option Bool) = some r from by rw [if_neg (show ¬ (false = true) by decide)] at H; exact H).trans (congrArg some HR_.out)) (by simp)
            ·replace c32 := Bool.eq_false_iff.mpr c32
             subst c32
             exact absurd ((show (some false : Option Bool) = some r from by rw [if_neg (show ¬ (false = true) by decide)] at H; exact H).trans (congrArg some HR_.out)) (by simp)
           ·replace c31 := Bool.eq_false_iff.mpr c31
            subst c31
            exact absurd ((show (some false : Option Bool) = some r from by rw [if_neg (show ¬ (false = true) by decide)] at H; exact H).trans (congrArg some HR_.out)) (by simp)
          ·replace c29 := Bool.eq_false_iff.mpr c29
           subst c29
           exact absurd ((show (some false : Option Bool) = some r from by rw [if_neg (show ¬ (false = true) by decide)] at H; exact H).trans (congrArg some HR_.out)) (by simp)
         ·replace c28 := Bool.eq_false_iff.mpr c28
          subst c28
          exact absurd ((show (some false : Option Bool) = some r from by rw [if_neg (show ¬ (false = true) by decide)] at H; exact H).trans (congrArg some HR_.out)) (by simp)
        ·replace c26 := Bool.eq_false_iff.mpr c26
         subst c26
         exact absurd ((show (some false : Option Bool) = some r from by rw [if_neg (show ¬ (false = true) by decide)] at H; exact H).trans (congrArg some HR_.out)) (by simp)
       ·replace c25 := Bool.eq_false_iff.mpr c25
        subst c25
        exact absurd ((show (some false : Option Bool) = some r from by rw [if_neg (show ¬ (false = true) by decide)] at H; exact H).trans (congrArg some HR_.out)) (by simp)
      ·replace c19 := Bool.eq_false_iff.mpr c19
       subst c19
       have H1 : (laws_FnPatterns.j1 kj7 l1) = some r := by rw [if_neg (show ¬ (false = true) by decide)] at H; exact H
       clear H
       have H := H1
       clear H1
       have H' := Aside0.mk H
       clear H
       go_wp2
       go_meet
       case rel => exact ⟨_, H', ⟨by have := HJ7.out; first | omega | exact Nat.le_refl _⟩, ⟨by repeat (first | (with_reducible first | exact HB.out | apply below_alloc | apply pw_below_drewN | apply below_drew1) | exact HB.out)⟩⟩
     case rest => as_aux_lemma =>
      clear HC18
      try clear c1
      try clear c2
      try clear p2
      try clear c3
      try clear c4
      try clear c6
      try clear p6
      try clear c12
      try clear c13
      try clear c13b0
      try clear c13b1
      try clear c13b2
      try clear c17
      try clear c18
      try clear c19
      try clear c25
      try clear c26
      try clear c27
      try clear c28
      try clear c29
      try clear c31
      try clear c32
      try clear c34
      try clear c35
      try clear c37
      try clear p64
      try clear c65
      try clear c66
      try clear c68
      try clear p2
      obtain ⟨kq, HA, HJ17, HB⟩ := hcut
      cases kq with
      | zero => exact absurd HA.out (by simp [laws_FnPatterns.j1])
      | succ kj17 =>
       have H := HA.out
       clear HA
       simp only [laws_FnPatterns.j1] at H
       replace H := Option.bind_eq_some_iff.mp H
       obtain ⟨t136, A1280, H⟩ := H
       replace H : ((impl_AllPatterns.f kj17 t136).bind fun bt137 => ((spec_AllPatterns.f kj17 t136).bind fun bt141 => ((impl_CountPatterns.f kj17 t136).bind fun bt145 => ((spec_CountPatterns.f kj17 t136).bind fun bt147 => (if (bt137.2 != bt141.2) = true then (laws_FnPatterns.j2 kj17 l1 bt137.1 bt137.2 bt145.1 true) else ((laws_hRows.f kj17 bt137.1 bt141.1).bind fun t149 => (if t149 = true then (if (bt145.2 != bt147.2) = true then (laws_FnPatterns.j2 kj17 l1 bt137.1 bt137.2 bt145.1 true) else (if bt145.1 = bt147.1 then (laws_FnPatterns.j2 kj17 l1 bt137.1 bt137.2 bt145.1 (bt137.2 != bt145.2)) else (laws_FnPatterns.j2 kj17 l1 bt137.1 bt137.2 bt145.1 true))) else (laws_FnPatterns.j2 kj17 l1 bt137.1 bt137.2 bt145.1 true)))))))) = some r := H
       have A128 := Aside0.mk A1280
       clear A1280
       replace H := Option.bind_eq_some_iff.mp H
       obtain ⟨⟨t137, t138⟩, A1290, H⟩ := H
       replace H : ((spec_AllPatterns.f kj17 t136).bind fun bt141 => ((impl_CountPatterns.f kj17 t136).bind fun bt145 => ((spec_CountPatterns.f kj17 t136).bind fun bt147 => (if (t138 != bt141.2) = true then (laws_FnPatterns.j2 kj17 l1 t137 t138 bt145.1 true) else ((laws_hRows.f kj17 t137 bt141.1).bind fun t149 => (if t149 = true then (if (bt145.2 != bt147.2) = true then (laws_FnPatterns.j2 kj17 l1 t137 t138 bt145.1 true) else (if bt145.1 = bt147.1 then (laws_FnPatterns.j2 kj17 l1 t137 t138 bt145.1 (t138 != bt145.2)) else (laws_FnPatterns.j2 kj17 l1 t137 t138 bt145.1 true))) else (laws_FnPatterns.j2 kj17 l1 t137 t138 bt145.1 true))))))) = some r := H
       have A129 := Aside0.mk A1290
       clear A1290
       replace H := Option.bind_eq_some_iff.mp H
       obtain ⟨⟨t141, t142⟩, A1300, H⟩ := H
       replace H : ((impl_CountPatterns.f kj17 t136).bind fun bt145 => ((spec_CountPatterns.f kj17 t136).bind fun bt147 => (if (t138 != t142) = true then (laws_FnPatterns.j2 kj17 l1 t137 t138 bt145.1 true) else ((laws_hRows.f kj17 t137 t141).bind fun t149 => (if t149 = true then (if (bt145.2 != bt147.2) = true then (laws_FnPatterns.j2 kj17 l1 t137 t138 bt145.1 true) else (if bt145.1 = bt147.1 then (laws_FnPatterns.j2 kj17 l1 t137 t138 bt145.1 (t138 != bt145.2)) else (laws_FnPatterns.j2 kj17 l1 t137 t138 bt145.1 true))) else (laws_FnPatterns.j2 kj17 l1 t137 t138 bt145.1 true)))))) = some r := H
       have A130 := Aside0.mk A1300
       clear A1300
       replace H := Option.bind_eq_some_iff.mp H
       obtain ⟨⟨t145, t146⟩, A1310, H⟩ := H
       replace H : ((spec_CountPatterns.f kj17 t136).bind fun bt147 => (if (t138 != t142) = true then (laws_FnPatterns.j2 kj17 l1 t137 t138 t145 true) else ((laws_hRows.f kj17 t137 t141).bind fun t149 => (if t149 = true then (if (t146 != bt147.2) = true then (laws_FnPatterns.j2 kj17 l1 t137 t138 t145 true) else (if t145 = bt147.1 then (laws_FnPatterns.j2 kj17 l1 t137 t138 t145 (t138 != t146)) else (laws_FnPatterns.j2 kj17 l1 t137 t138 t145 true))) else (laws_FnPatterns.j2 kj17 l1 t137 t138 t145 true))))) = some r := H
       have A131 := Aside0.mk A1310
       clear A1310
       replace H := Option.bind_eq_some_iff.mp H
       obtain ⟨⟨t147, t148⟩, A1320, H⟩ := H
       replace H : (if (t138 != t142) = true then (laws_FnPatterns.j2 kj17 l1 t137 t138 t145 true) else ((laws_hRows.f kj17 t137 t141).bind fun t149 => (if t149 = true then (if (t146 != t148) = true then (laws_FnPatterns.j2 kj17 l1 t137 t138 t145 true) else (if t145 = t147 then (laws_FnPatterns.j2 kj17 l1 t137 t138 t145 (t138 != t146)) else (laws_FnPatterns.j2 kj17 l1 t137 t138 t145 true))) else (laws_FnPatterns.j2 kj17 l1 t137 t138 t145 true)))) = some r := H
       have A132 := Aside0.mk A1320
       clear A1320
       have HC133 := Aside0.mk H
       clear H
       go_upto_region 20 with (first | ((with_reducible refine gate_callee (f := 69) rfl ?_); refine goesL_ (some 145) rfl rfl Try.func69 (by kernel_rfl) rfl #[.slice A1 l1.length c1] rfl (by (try simp only [List.map_toArray, List.map_cons, List.map_nil]); first | done | rfl | (simp only [List.length_drop, List.length_take]; rfl)) ?_; (with_reducible refine (spec_DrawAllPatterns.calls _ _ l1 t136 _ ?side1 ?side2 A128.out).mono ?_); (case side1 => repeat (first | exact (Kd.C_below HR1.out HB.out) | (with_reducible refine Kd.C_alloc ?_ _) | (with_reducible refine Kd.C_drewN ?_ _) | (with_reducible refine Kd.C_drew ?_))); (case side2 => exact HC1.out); rintro e w134 ⟨rfl, hb⟩; refine ⟨_, rfl, ?_⟩; have n0_ := Aside0.mk (below_step (by repeat (first | (with_reducible first | exact HB.out | apply below_alloc | apply pw_below_drewN | apply below_drew1) | exact HB.out)) hb); clear HB; have HB := n0_; clear n0_; (try clear hb); (try clear hb2); (try clear hk); (try clear hi)) | ((with_reducible refine gate_callee (f := 50) rfl ?_); refine goesL_ (some 148) rfl rfl Try.func50 (by kernel_rfl) rfl #[.int .i64 t136] rfl (by (try simp only [List.map_toArray, List.map_cons, List.map_nil]); first | done | rfl | (simp only [List.length_drop, List.length_take]; rfl)) ?_; (with_reducible refine (impl_AllPatterns.calls kj17 t136 t137 t138 _ A129.out).mono ?_); rintro e w135 ⟨v139, rfl, ho0, hb⟩; refine ⟨_, rfl, ?_⟩; have n0_ := Aside0.mk (Kd.N_lower (Kd.N_mono (ok' := fun k_ => True) (Kd.S_N (Kd.S_bound ho0)) (fun k_ hk_ => trivial)) (below_size (by repeat (first | (with_reducible first | exact HB.out | apply below_alloc | apply pw_below_drewN | apply below_drew1) | exact HB.out)))); have n1_ := Aside0.mk (below_step (by repeat (first | (with_reducible first | exact HB.out | apply below_alloc | apply pw_below_drewN | apply below_drew1) | exact HB.out)) hb); clear HB; have HO140 := n0_; have HB := n1_; clear n0_ n1_; (try clear hb); (try clear hb2); (try clear hk); (try clear hi); (try clear ho0)) | ((with_reducible refine gate_callee (f := 70) rfl ?_); refine goesL_ (some 153) rfl rfl Try.func70 (by kernel_rfl) rfl #[.int .i64 t136] rfl (by (try simp only [List.map_toArray, List.map_cons, List.map_nil]); first | done | rfl | (simp only [List.length_drop, List.length_take]; rfl)) ?_; (with_reducible refine (spec_AllPatterns.calls kj17 t136 t141 t142 _ A130.out).mono ?_); rintro e w136 ⟨v143, rfl, ho0, hb⟩; refine ⟨_, rfl, ?_⟩; have n0_ := Aside0.mk (Kd.N_elder' (by (with_reducible repeat (first | apply Kd.N_alloc | apply Kd.N_drewN | apply Kd.N_drew)); exact HO140.out) (Kd.S_base ho0) hb); have n1_ := Aside0.mk (Kd.N_lower (Kd.N_mono (ok' := fun k_ => some k_ ≠ (v139 : Value).ownBlock) (Kd.S_N (Kd.S_bound ho0)) (fun k_ hk_ => (Kd.fresh' (Kd.N_lt (by (with_reducible repeat (first | apply Kd.N_alloc | apply Kd.N_drewN | apply Kd.N_drew)); exact HO140.out)) k_ hk_.2.1))) (below_size (by repeat (first | (with_reducible first | exact HB.out | apply below_alloc | apply pw_below_drewN | apply below_drew1) | exact HB.out)))); have n2_ := Aside0.mk (below_step (by repeat (first | (with_reducible first | exact HB.out | apply below_alloc | apply pw_below_drewN | apply below_drew1) | exact HB.out)) hb); clear HO140; clear HB; have HO140 := n0_; have HO144 := n1_; have HB := n2_; clear n0_ n1_ n2_; (try clear hb); (try clear hb2); (try clear hk); (try clear hi); (try clear ho0)) | ((with_reducible refine gate_callee (f := 54) rfl ?_); refine goesL_ (some 158) rfl rfl Try.func54 (by kernel_rfl) rfl #[.int .i64 t136] rfl (by (try simp only [List.map_toArray, List.map_cons, List.map_nil]); first | done | rfl | (simp only [List.length_drop, List.length_take]; rfl)) ?_; (with_reducible refine (impl_CountPatterns.calls kj17 t136 t145 t146 _ A131.out).mono ?_); rintro e w137 ⟨rfl, hb⟩; refine ⟨_, rfl, ?_⟩; have n0_ := Aside0.mk (Kd.N_below (by (with_reducible repeat (first | apply Kd.N_alloc | apply Kd.N_drewN | apply Kd.N_drew)); exact HO140.out) hb); have n1_ := Aside0.mk (Kd.N_below (by (with_reducible repeat (first | apply Kd.N_alloc | apply Kd.N_drewN | apply Kd.N_drew)); exact HO144.out) hb); have n2_ := Aside0.mk (below_step (by repeat (first | (with_reducible first | exact HB.out | apply below_alloc | apply pw_below_drewN | apply below_drew1) | exact HB.out)) hb); clear HO140; clear HO144; clear HB; have HO140 := n0_; have HO144 := n1_; have HB := n2_; clear n0_ n1_ n2_; (try clear hb); (try clear hb2); (try clear hk); (try clear hi)) | ((with_reducible refine gate_callee (f := 71) rfl ?_); refine goesL_ (some 163) rfl rfl Try.func71 (by kernel_rfl) rfl #[.int .i64 t136] rfl (by (try simp only [List.map_toArray, List.map_cons, List.map_nil]); first | done | rfl | (simp only [List.length_drop, List.length_take]; rfl)) ?_; (with_reducible refine (spec_CountPatterns.calls kj17 t136 t147 t148 _ A132.out).mono ?_); rintro e w' ⟨rfl, ⟨nd, rfl⟩⟩; refine ⟨_, rfl, ?_⟩))
       (try simp only [Act.put, List.setIfInBounds_toArray, List.set_cons_zero, List.set_cons_succ])
       go_cut [189] (fun v189 wc => ∃ (kq : Nat) (x189_132 : Bool), v189 = .bool x189_132 ∧ Aside0 (laws_FnPatterns.j2 kq l1 t137 t138 t145 x189_132 = some r) ∧ Aside0 (kq ≤ kj17) ∧ Aside0 (Kd.N (Kd.slice 3 (Kd.int .i64)) 22 wc w.heap.size (fun _ => True) v139 t137) ∧ Aside0 (Below w.heap.size w wc))
       case first => as_aux_lemma =>
        have H := HC133.out
        clear HC133
        by_cases c138 : (t138 != t142) = true
        ·rw [if_pos c138] at H
         have c138b0 : (t138 != t142) = true := c138
         (try (have c138b1 : decide (t138 = t142) = false := by simpa using c138))
         (try (have c138b2 : (t138 == t142) = false := by simpa using c138))
         (try (have c138b3 : ¬ (t138 = t142) := by simpa using c138))
         clear c138
         (first | rw [c138b0] | (simp only [i64_w, i32_w]; rw [c138b0]) | skip)
         have H' := Aside0.mk H
         clear H
         go_wp2
         go_meet
         case rel => exact ⟨_, (true), (by first | rfl | (simp; done) | (simp [*]; done)), H', ⟨by have := HJ7.out; have := HJ17.out; first | omega | exact Nat.le_refl _⟩, ⟨by (with_reducible repeat (first | apply Kd.N_alloc | apply Kd.N_drewN | apply Kd.N_drew)); exact Kd.N_mono HO140.out (fun _ hk => trivial)⟩, ⟨by repeat (first | (with_reducible first | exact HB.out | apply below_alloc | apply pw_below_drewN | apply below_drew1) | exact HB.out)⟩⟩
        ·rw [if_neg c138] at H
         have c138b0 : (t138 != t142) = false := by simpa using c138
         (try (have c138b1 : decide (t138 = t142) = true := by simpa using c138))
         (try (have c138b2 : (t138 == t142) = true := by simpa using c138))
         clear c138
         (first | rw [c138b0] | (simp only [i64_w, i32_w]; rw [c138b0]) | skip)
         replace H := Option.bind_eq_some_iff.mp H
         obtain ⟨t149, A1390, H⟩ := H
         replace H : (if t149 = true then (if (t146 != t148) = true then (laws_FnPatterns.j2 kj17 l1 t137 t138 t145 true) else (if t145 = t147 then (laws_FnPatterns.j2 kj17 l1 t137 t138 t145 (t138 != t146)) else (laws_FnPatterns.j2 kj17 l1 t137 t138 t145 true))) else (laws_FnPatterns.j2 kj17 l1 t137 t138 t145 true)) = some r := H
         have A139 := Aside0.mk A1390
         clear A1390
         by_cases c140 : t149 = true
         ·subst c140
          have H1 : (if (t146 != t148) = true then (laws_FnPatterns.j2 kj17 l1 t137 t138 t145 true) else (if t145 = t147 then (laws_FnPatterns.j2 kj17 l1 t137 t138 t145 (t138 != t146)) else (laws_FnPatterns.j2 kj17 l1 t137 t138 t145 true))) = some r := by rw [if_pos rfl] at H; exact H
          clear H
          have H := H1
          clear H1
          by_cases c141 : (t146 != t148) = true
          ·rw [if_pos c141] at H
           have c141b0 : (t146 != t148) = true := c141
           (try (have c141b1 : decide (t146 = t148) = false := by simpa using c141))
           (try (have c141b2 : (t146 == t148) = false := by simpa using c141))
           (try (have c141b3 : ¬ (t146 = t148) := by simpa using c141))
           clear c141
           have H' := Aside0.mk H
           clear H
           obtain ⟨Ao142, co142, eo142⟩ := Kd.N_slice HO140.out
           subst eo142
           obtain ⟨Ao143, co143, eo143⟩ := Kd.N_slice HO144.out
           subst eo143
           go_wp2_with (first | (go_at_call 72; (with_reducible refine (laws_hRows.calls kj17 _ _ t137 _ _ t141 true _ ?side1 ?side2 ?side3 ?side4 A139.out).mono ?_); (case side1 => repeat (first | exact (Kd.N_reads' HO140.out).2.2 | (with_reducible refine Kd.C_alloc ?_ _) | (with_reducible refine Kd.C_drewN ?_ _) | (with_reducible refine Kd.C_drew ?_))); (case side2 => exact (Kd.N_reads' HO140.out).2.1); (case side3 => repeat (first | exact (Kd.N_reads' HO144.out).2.2 | (with_reducible refine Kd.C_alloc ?_ _) | (with_reducible refine Kd.C_drewN ?_ _) | (with_reducible refine Kd.C_drew ?_))); (case side4 => exact (Kd.N_reads' HO144.out).2.1); rintro e w' ⟨rfl, ⟨nd, rfl⟩⟩))
           go_meet
           case rel => exact ⟨_, (true), (by first | rfl | (simp; done) | (simp [*]; done)), H', ⟨by have := HJ7.out; have := HJ17.out; first | omega | exact Nat.le_refl _⟩, ⟨by (with_reducible repeat (first | apply Kd.N_alloc | apply Kd.N_drewN | apply Kd.N_drew)); exact Kd.N_mono HO140.out (fun _ hk => trivial)⟩, ⟨by repeat (first | (with_reducible first | exact HB.out | apply below_alloc | apply pw_below_drewN | apply below_drew1) | exact HB.out)⟩⟩
          ·rw [if_neg c141] at H
           have c141b0 : (t146 != t148) = false := by simpa using c141
           (try (have c141b1 : decide (t146 = t148) = true := by simpa using c141))
           (try (have c141b2 : (t146 == t148) = true := by simpa using c141))
           clear c141
           by_cases c144 : t145 = t147
           ·rw [if_pos c144] at H
            have c144b0 : (t145 == t147) = true := beq_iff_eq.mpr c144
            have c144b1 : (t145 != t147) = false := bne_eq_false_iff_eq.mpr c144
            clear c144
            have H' := Aside0.mk H
            clear H
            obtain ⟨Ao145, co145, eo145⟩ := Kd.N_slice HO140.out
            subst eo145
            obtain ⟨Ao146, co146, eo146⟩ := Kd.N_slice HO144.out
            subst eo146
            go_wp2_with (first | (go_at_call 72; (with_reducible refine (laws_hRows.calls kj17 _ _ t137 _ _ t141 true _ ?side1 ?side2 ?side3 ?side4 A139.out).mono ?_); (case side1 => repeat (first | exact (Kd.N_reads' HO140.out).2.2 | (with_reducible refine Kd.C_alloc ?_ _) | (with_reducible refine Kd.C_drewN ?_ _) | (with_reducible refine Kd.C_drew ?_))); (case side2 => exact (Kd.N_reads' HO140.out).2.1); (case side3 => repeat (first | exact (Kd.N_reads' HO144.out).2.2 | (with_reducible refine Kd.C_alloc ?_ _) | (with_reducible refine Kd.C_drewN ?_ _) | (with_reducible refine Kd.C_drew ?_))); (case side4 => exact (Kd.N_reads' HO144.out).2.1); rintro e w' ⟨rfl, ⟨nd, rfl⟩⟩))
            go_meet
            case rel => exact ⟨_, ((t138 != t146)), (by first | rfl | (simp; done) | (simp [*]; done)), H', ⟨by have := HJ7.out; have := HJ17.out; first | omega | exact Nat.le_refl _⟩, ⟨by (with_reducible repeat (first | apply Kd.N_alloc | apply Kd.N_drewN | apply Kd.N_drew)); exact Kd.N_mono HO140.out (fun _ hk => trivial)⟩, ⟨by repeat (first | (with_reducible first | exact HB.out | apply below_alloc | apply pw_below_drewN | apply below_drew1) | exact HB.out)⟩⟩
           ·rw [if_neg c144] at H
            have c144b0 : (t145 == t147) = false := beq_eq_false_iff_ne.mpr c144
            have c144b1 : (t145 != t147) = true := bne_iff_ne.mpr c144
            have H' := Aside0.mk H
            clear H
            obtain ⟨Ao147, co147, eo147⟩ := Kd.N_slice HO140.out
            subst eo147
            obtain ⟨Ao148, co148, eo148⟩ := Kd.N_slice HO144.out
            subst eo148
            go_wp2_with (first | (go_at_call 72; (with_reducible refine (laws_hRows.calls kj17 _ _ t137 _ _ t141 true _ ?side1 ?side2 ?side3 ?side4 A139.out).mono ?_); (case side1 => repeat (first | exact (Kd.N_reads' HO140.out).2.2 | (with_reducible refine Kd.C_alloc ?_ _) | (with_reducible refine Kd.C_drewN ?_ _) | (with_reducible refine Kd.C_drew ?_))); (case side2 => exact (Kd.N_reads' HO140.out).2.1); (case side3 => repeat (first | exact (Kd.N_reads' HO144.out).2.2 | (with_reducible refine Kd.C_alloc ?_ _) | (with_reducible refine Kd.C_drewN ?_ _) | (with_reducible refine Kd.C_drew ?_))); (case side4 => exact (Kd.N_reads' HO144.out).2.1); rintro e w' ⟨rfl, ⟨nd, rfl⟩⟩))
            go_meet
            case rel => exact ⟨_, (true), (by first | rfl | (simp; done) | (simp [*]; done)), H', ⟨by have := HJ7.out; have := HJ17.out; first | omega | exact Nat.le_refl _⟩, ⟨by (with_reducible repeat (first | apply Kd.N_alloc | apply Kd.N_drewN | apply Kd.N_drew)); exact Kd.N_mono HO140.out (fun _ hk => trivial)⟩, ⟨by repeat (first | (with_reducible first | exact HB.out | apply below_alloc | apply pw_below_drewN | apply below_drew1) | exact HB.out)⟩⟩
         ·replace c140 := Bool.eq_false_iff.mpr c140
          subst c140
          have H1 : (laws_FnPatterns.j2 kj17 l1 t137 t138 t145 true) = some r := by rw [if_neg (show ¬ (false = true) by decide)] at H; exact H
          clear H
          have H := H1
          clear H1
          have H' := Aside0.mk H
          clear H
          obtain ⟨Ao149, co149, eo149⟩ := Kd.N_slice HO140.out
          subst eo149
          obtain ⟨Ao150, co150, eo150⟩ := Kd.N_slice HO144.out
          subst eo150
          go_wp2_with (first | (go_at_call 72; (with_reducible refine (laws_hRows.calls kj17 _ _ t137 _ _ t141 false _ ?side1 ?side2 ?side3 ?side4 A139.out).mono ?_); (case side1 => repeat (first | exact (Kd.N_reads' HO140.out).2.2 | (with_reducible refine Kd.C_alloc ?_ _) | (with_reducible refine Kd.C_drewN ?_ _) | (with_reducible refine Kd.C_drew ?_))); (case side2 => exact (Kd.N_reads' HO140.out).2.1); (case side3 => repeat (first | exact (Kd.N_reads' HO144.out).2.2 | (with_reducible refine Kd.C_alloc ?_ _) | (with_reducible refine Kd.C_drewN ?_ _) | (with_reducible refine Kd.C_drew ?_))); (case side4 => exact (Kd.N_reads' HO144.out).2.1); rintro e w' ⟨rfl, ⟨nd, rfl⟩⟩))
          go_meet
          case rel => exact ⟨_, (true), (by first | rfl | (simp; done) | (simp [*]; done)), H', ⟨by have := HJ7.out; have := HJ17.out; first | omega | exact Nat.le_refl _⟩, ⟨by (with_reducible repeat (first | apply Kd.N_alloc | apply Kd.N_drewN | apply Kd.N_drew)); exact Kd.N_mono HO140.out (fun _ hk => trivial)⟩, ⟨by repeat (first | (with_reducible first | exact HB.out | apply below_alloc | apply pw_below_drewN | apply below_drew1) | exact HB.out)⟩⟩
       case rest => as_aux_lemma =>
        clear HC133
        try clear c1
        try clear c2
        try clear p2
        try clear c3
        try clear c4
        try clear c5
        try clear c6
        try clear p6
        try clear c7
        try clear c12
        try clear c13
        try clear c13b0
        try clear c13b1
        try clear c13b2
        try clear c14
        try clear c17
        try clear c18
        try clear c19
        try clear c25
        try clear c26
        try clear c27
        try clear c28
        try clear c29
        try clear c31
        try clear c32
        try clear c34
        try clear c35
        try clear c37
        try clear c50
        try clear c54
        try clear p64
        try clear c65
        try clear c66
        try clear c68
        try clear c69
        try clear c70
        try clear c71
        try clear c138
        try clear c138b0
        try clear c138b1
        try clear c138b2
        try clear c140
        try clear c141
        try clear c141b0
        try clear c141b1
        try clear c141b2
        try clear c144
        try clear c144b0
        try clear c144b1
        try clear p2
        try clear p6
        try clear p64
        obtain ⟨kq, x189_132, rfl, HA, HJ132, HO_20, HB⟩ := hcut
        cases kq with
        | zero => exact absurd HA.out (by simp [laws_FnPatterns.j2])
        | succ kj132 =>
         have H := HA.out
         clear HA
         simp only [laws_FnPatterns.j2] at H
         by_cases c151 : x189_132 = true
         ·subst c151
          exact absurd ((show (some false : Option Bool) = some r from by rw [if_pos rfl] at H; exact H).trans (congrArg some HR_.out)) (by simp)
         ·replace c151 := Bool.eq_false_iff.mpr c151
          subst c151
          have H1 : (if t138 = true then (if (t137.length : Int) = t145 then (laws_FnPatterns.l0 kj132 l1 t137 t137 (t137.length : Int) 0) else (some false)) else (laws_FnPatterns.j4 kj132 l1)) = some r := by rw [if_neg (show ¬ (false = true) by decide)] at H; exact H
          clear H
          have H := H1
          clear H1
          have HC152 := Aside0.mk H
          clear H
          go_upto_if 190 with (fail)
          go_cut [] (fun wc => ∃ (kq : Nat), Aside0 (laws_FnPatterns.j4 kq l1 = some r) ∧ Aside0 (kq ≤ kj132) ∧ Aside0 (Below w.heap.size w wc))
          case first => as_aux_lemma =>
           have H := HC152.out
           clear HC152
           by_cases c153 : t138 = true
           ·subst c153
            have H1 : (if (t137.length : Int) = t145 then (laws_FnPatterns.l0 kj132 l1 t137 t137 (t137.length : Int) 0) else (some false)) = some r := by rw [if_pos rfl] at H; exact H
            clear H
            have H := H1
            clear H1
            by_cases c154 : (t137.length : Int) = t145
            ·rw [if_pos c154] at H
             have c154b0 : ((t137.length : Int) == t145) = true := beq_iff_eq.mpr c154
             have c154b1 : ((t137.length : Int) != t145) = false := bne_eq_false_iff_eq.mpr c154
             clear c154
             (first | rw [c154b0] | (simp only [i64_w, i32_w]; rw [c154b0]) | skip)
             have H' := Aside0.mk H
             clear H
             obtain ⟨Ao155, co155, eo155⟩ := Kd.N_slice HO_20.out
             subst eo155
             go_wp2
             go_loopg [197] kj132 (fun kq v197 w' => ∃ (x197_4 : Int), v197 = .int .i64 x197_4 ∧ Aside0 (laws_FnPatterns.l0 kq l1 t137 t137 (t137.length : Int) x197_4 = some r) ∧ Aside0 (kq ≤ kj132) ∧ Aside0 (Kd.N (Kd.slice 3 (Kd.int .i64)) 22 w' w.heap.size (fun _ => True) (.slice Ao155 t137.length co155) t137) ∧ Aside0 (Kd.N (Kd.slice 3 (Kd.int .i64)) 22 w' w.heap.size (fun _ => True) (.slice Ao155 t137.length co155) t137) ∧ Aside0 (Below w.heap.size w w'))
             case atStart => exact ⟨(0), (by first | rfl | (simp; done) | (simp [*]; done)), H', ⟨Nat.le_refl _⟩, ⟨by (with_reducible repeat (first | apply Kd.N_alloc | apply Kd.N_drewN | apply Kd.N_drew)); exact HO_20.out⟩, ⟨by (with_reducible repeat (first | apply Kd.N_alloc | apply Kd.N_drewN | apply Kd.N_drew)); exact HO_20.out⟩, ⟨by repeat (first | (with_reducible first | exact HB.out | apply below_alloc | apply pw_below_drewN | apply below_drew1) | exact HB.out)⟩⟩
             case round => as_aux_lemma =>
              clear H'
              try clear c1
              try clear c2
              try clear p2
              try clear c3
              try clear c4
              try clear c5
              try clear c6
              try clear p6
              try clear c7
              try clear c12
              try clear c13
              try clear c13b0
              try clear c13b1
              try clear c13b2
              try clear c14
              try clear c15
              try clear c17
              try clear c18
              try clear c19
              try clear c25
              try clear c26
              try clear c27
              try clear c28
              try clear c29
              try clear c31
              try clear c32
              try clear c34
              try clear c35
              try clear c37
              try clear c50
              try clear c54
              try clear p64
              try clear c65
              try clear c66
              try clear c68
              try clear c69
              try clear c70
              try clear c71
              try clear c138
              try clear c138b0
              try clear c138b1
              try clear c138b2
              try clear c140
              try clear c141
              try clear c141b0
              try clear c141b1
              try clear c141b2
              try clear c144
              try clear c144b0
              try clear c144b1
              try clear c151
              try clear c153
              try clear c154
              try clear c154b0
              try clear c154b1
              try clear p2
              try clear p6
              try clear p64
              obtain ⟨x197_4, rfl, HA, HK4, HO_20, HO_195, HB⟩ := hrel
              cases gk with
              | zero => exact absurd HA.out (by simp [laws_FnPatterns.l0])
              | succ k4 =>
               have H := HA.out
               clear HA
               simp only [laws_FnPatterns.l0] at H
               by_cases c156 : x197_4 < (t137.length : Int)
               ·rw [if_pos c156] at H
                have c156b0 : decide (x197_4 < (t137.length : Int)) = true := decide_eq_true c156
                clear c156
                by_cases c157 : 0 ≤ x197_4
                ·rw [if_pos c157] at H
                 have c157b0 : decide (0 ≤ x197_4) = true := decide_eq_true c157
                 clear c157
                 by_cases c158 : x197_4 < (t137.length : Int)
                 ·rw [if_pos c158] at H
                  have c158b0 : decide (x197_4 < (t137.length : Int)) = true := decide_eq_true c158
                  clear c158
                  replace H := Option.bind_eq_some_iff.mp H
                  obtain ⟨t151, A1590, H⟩ := H
                  replace H : (if t151 = true then (if x197_4 > 0 then (if 0 ≤ (wrap64 (x197_4 - 1)) then (if (wrap64 (x197_4 - 1)) < (t137.length : Int) then ((laws_hLess.f k4 (([rd_L1 t137 (wrap64 (x197_4 - 1))] : List (List Int))) (([rd_L1 t137 x197_4] : List (List Int)))).bind fun t159 => (if t159 = true then (laws_FnPatterns.l0 k4 l1 t137 t137 (t137.length : Int) (wrap64 (x197_4 + 1))) else (some false))) else (none)) else (none)) else (laws_FnPatterns.l0 k4 l1 t137 t137 (t137.length : Int) (wrap64 (x197_4 + 1)))) else (some false)) = some r := H
                  have A159 := Aside0.mk A1590
                  clear A1590
                  by_cases c160 : t151 = true
                  ·subst c160
                   have H1 : (if x197_4 > 0 then (if 0 ≤ (wrap64 (x197_4 - 1)) then (if (wrap64 (x197_4 - 1)) < (t137.length : Int) then ((laws_hLess.f k4 (([rd_L1 t137 (wrap64 (x197_4 - 1))] : List (List Int))) (([rd_L1 t137 x197_4] : List (List Int)))).bind fun t159 => (if t159 = true then (laws_FnPatterns.l0 k4 l1 t137 t137 (t137.length : Int) (wrap64 (x197_4 + 1))) else (some false))) else (none)) else (none)) else (laws_FnPatterns.l0 k4 l1 t137 t137 (t137.length : Int) (wrap64 (x197_4 + 1)))) = some r := by rw [if_pos rfl] at H; exact H
                   clear H
                   have H := H1
                   clear H1
                   by_cases c161 : x197_4 > 0
                   ·rw [if_pos c161] at H
                    have c161b0 : decide (0 < x197_4) = true := decide_eq_true c161
                    clear c161
                    obtain ⟨ji162, hji162⟩ : ∃ j_ : Int, (wrap64 (x197_4 - 1)) = j_ := ⟨_, rfl⟩
                    replace H : (if 0 ≤ (ji162) then (if (ji162) < (t137.length : Int) then ((laws_hLess.f k4 (([rd_L1 t137 (ji162)] : List (List Int))) (([rd_L1 t137 x197_4] : List (List Int)))).bind fun t159 => (if t159 = true then (laws_FnPatterns.l0 k4 l1 t137 t137 (t137.length : Int) (wrap64 (x197_4 + 1))) else (some false))) else (none)) else (none)) = some r := by first | (rw [hji162] at H; exact H) | (simp only [hji162] at H ⊢; exact H)
                    (try rw [hji162] at A159)
                    have hji162w : (IntKind.i64.wrap (x197_4 - 1)) = ji162 := (i64_w _).trans hji162
                    by_cases c163 : 0 ≤ (ji162)
                    ·rw [if_pos c163] at H
                     have c163b0 : decide (0 ≤ (ji162)) = true := decide_eq_true c163
                     clear c163
                     by_cases c164 : (ji162) < (t137.length : Int)
                     ·rw [if_pos c164] at H
                      have c164b0 : decide ((ji162) < (t137.length : Int)) = true := decide_eq_true c164
                      clear c164
                      obtain ⟨y153, hy153⟩ : ∃ y_ : List (List Int), y_ = (([rd_L1 t137 (ji162)] : List (List Int))) := ⟨_, rfl⟩
                      replace H : ((laws_hLess.f k4 y153 (([rd_L1 t137 x197_4] : List (List Int)))).bind fun t159 => (if t159 = true then (laws_FnPatterns.l0 k4 l1 t137 t137 (t137.length : Int) (wrap64 (x197_4 + 1))) else (some false))) = some r := by first | (rw [hy153]; with_reducible exact H) | (have H2_ := (Option.bind_some _ _).symm.trans H; rw [hy153]; with_reducible exact H2_) | (have H2_ := (Option.bind_some _ _).symm.trans H; with_reducible exact H2_) | with_reducible exact H | (rw [hy153]; exact H) | exact H
                      have Ny153 := Aside0.mk hy153
                      clear hy153
                      obtain ⟨y156, hy156⟩ : ∃ y_ : List (List Int), y_ = (([rd_L1 t137 x197_4] : List (List Int))) := ⟨_, rfl⟩
                      replace H : ((laws_hLess.f k4 y153 y156).bind fun t159 => (if t159 = true then (laws_FnPatterns.l0 k4 l1 t137 t137 (t137.length : Int) (wrap64 (x197_4 + 1))) else (some false))) = some r := by first | (rw [hy156]; with_reducible exact H) | (have H2_ := (Option.bind_some _ _).symm.trans H; rw [hy156]; with_reducible exact H2_) | (have H2_ := (Option.bind_some _ _).symm.trans H; with_reducible exact H2_) | with_reducible exact H | (rw [hy156]; exact H) | exact H
                      have Ny156 := Aside0.mk hy156
                      clear hy156
                      replace H := Option.bind_eq_some_iff.mp H
                      obtain ⟨t159, A1650, H⟩ := H
                      replace H : (if t159 = true then (laws_FnPatterns.l0 k4 l1 t137 t137 (t137.length : Int) (wrap64 (x197_4 + 1))) else (some false)) = some r := H
                      have A165 := Aside0.mk A1650
                      clear A1650
                      by_cases c166 : t159 = true
                      ·subst c166
                       have H1 : (laws_FnPatterns.l0 k4 l1 t137 t137 (t137.length : Int) (wrap64 (x197_4 + 1))) = some r := by rw [if_pos rfl] at H; exact H
                       clear H
                       have H := H1
                       clear H1
                       have H' := Aside0.mk H
                       clear H
                       have p150 : 0 ≤ (x197_4 : Int) := of_decide_eq_true (by first | (with_reducible assumption) | assumption)
                       have q150 : x197_4 < (t137.length : Int) := of_decide_eq_true (by first | (with_reducible assumption) | assumption)
                       obtain ⟨ad150, A150_0, c150_0, e150, hx150_0, hl150_0, hi150_0⟩ := at_L1 (Kd.N_reads' HO_195.out).2.2 x197_4 p150 q150
                       cases e150
                       obtain ⟨ce150, hce150, hMe150, hcc150⟩ := Kd.N_get HO_195.out [] x197_4 p150 (by first | exact q150 | exact of_decide_eq_true (by first | (with_reducible assumption) | assumption) | (have e_ := (Kd.N_reads' HO_195.out).1; omega))
                       obtain ⟨ua150_0, uc150_0, rfl, ul150_0, ge150_0⟩ := Kd.FK_slice_open hMe150
                       have hv150_0 := hcc150 0 _ rfl
                       rw [Nat.add_zero, show ((Kd.slice 3 (Kd.int .i64))).sz = 1 from rfl, Nat.mul_one] at hv150_0
                       replace hv150_0 := Option.some.inj (hv150_0.symm.trans hx150_0)
                       injection hv150_0 with hva_ hvn_ hvc_
                       rw [hva_] at ge150_0
                       rw [hvc_] at ul150_0
                       have HL150_0 := Aside0.mk (show Kd.V (Kd.int .i64) 3 _ w.heap.size _ _ (rd_L1 t137 x197_4) from Kd.V_mk ul150_0 ge150_0)
                       clear hva_ hvn_ hvc_ ge150_0 ul150_0
                       clear hcc150 hce150
                       have HR150_0 := Aside0.mk hi150_0
                       have HC150_0 := Aside0.mk hl150_0
                       clear hi150_0 hl150_0
                       replace p150 := eq_true p150
                       replace q150 := eq_true q150
                       go_wp2_with (first | ((with_reducible refine gate_callee (f := 27) rfl ?_); refine goesL_ (some 203) rfl rfl Try.func27 (by kernel_rfl) rfl #[.slice A150_0 (rd_L1 t137 x197_4).length c150_0] rfl (by (try simp only [List.map_toArray, List.map_cons, List.map_nil]); first | done | rfl | (simp only [List.length_drop, List.length_take]; rfl)) ?_; (with_reducible refine (impl_IsPattern.calls k4 _ _ (rd_L1 t137 x197_4) true _ ?side1 ?side2 A159.out).mono ?_); (case side1 => repeat (first | exact (by repeat (first | (with_reducible exact HR150_0.out) | (with_reducible refine Kd.C_alloc ?_ _) | (with_reducible refine Kd.C_drewN ?_ _) | (with_reducible refine Kd.C_drew ?_) | exact HR150_0.out)) | (with_reducible refine Kd.C_alloc ?_ _) | (with_reducible refine Kd.C_drewN ?_ _) | (with_reducible refine Kd.C_drew ?_))); (case side2 => exact HC150_0.out); rintro e w167 ⟨rfl, hb⟩; refine ⟨_, rfl, ?_⟩; have n0_ := Aside0.mk (Kd.N_below (by (with_reducible repeat (first | apply Kd.N_alloc | apply Kd.N_drewN | apply Kd.N_drew)); exact HO_20.out) hb); have n1_ := Aside0.mk (Kd.N_below (by (with_reducible repeat (first | apply Kd.N_alloc | apply Kd.N_drewN | apply Kd.N_drew)); exact HO_195.out) hb); have n2_ := Aside0.mk (Kd.V_below (by (with_reducible repeat (first | apply Kd.V_alloc | apply Kd.V_drewN | apply Kd.V_drew)); exact HL150_0.out) hb); have n3_ := Aside0.mk (Kd.C_below (by repeat (first | (with_reducible exact HR150_0.out) | (with_reducible refine Kd.C_alloc ?_ _) | (with_reducible refine Kd.C_drewN ?_ _) | (with_reducible refine Kd.C_drew ?_) | exact HR150_0.out)) hb); have n4_ := Aside0.mk (below_step (by repeat (first | (with_reducible first | exact HB.out | apply below_alloc | apply pw_below_drewN | apply below_drew1) | exact HB.out)) hb); clear HO_20; clear HO_195; clear HL150_0; clear HR150_0; clear HB; have HO_20 := n0_; have HO_195 := n1_; have HL150_0 := n2_; have HR150_0 := n3_; have HB := n4_; clear n0_ n1_ n2_ n3_ n4_; (try clear hb); (try clear hb2); (try clear hk); (try clear hi); have p152 : 0 ≤ ((ji162) : Int) := of_decide_eq_true (by first | (with_reducible assumption) | assumption); have q152 : (ji162) < (t137.length : Int) := of_decide_eq_true (by first | (with_reducible assumption) | assumption); obtain ⟨ad152, A152_0, c152_0, e152, hx152_0, hl152_0, hi152_0⟩ := at_L1 (Kd.N_reads' HO_20.out).2.2 (ji162) p152 q152; obtain rfl : ad150 = ad152 := (by injection e152); obtain ⟨ce152, hce152, hMe152, hcc152⟩ := Kd.N_get HO_20.out [] (ji162) p152 (by first | exact q152 | exact of_decide_eq_true (by first | (with_reducible assumption) | assumption) | (have e_ := (Kd.N_reads' HO_20.out).1; omega)); obtain ⟨ua152_0, uc152_0, rfl, ul152_0, ge152_0⟩ := Kd.FK_slice_open hMe152; have hv152_0 := hcc152 0 _ rfl; rw [Nat.add_zero, show ((Kd.slice 3 (Kd.int .i64))).sz = 1 from rfl, Nat.mul_one] at hv152_0; replace hv152_0 := Option.some.inj (hv152_0.symm.trans hx152_0); injection hv152_0 with hva_ hvn_ hvc_; rw [hva_] at ge152_0; rw [hvc_] at ul152_0; have HL152_0 := Aside0.mk (show Kd.V (Kd.int .i64) 3 _ w.heap.size _ _ (rd_L1 t137 (ji162)) from Kd.V_mk ul152_0 ge152_0); clear hva_ hvn_ hvc_ ge152_0 ul152_0; clear hcc152 hce152; have HR152_0 := Aside0.mk hi152_0; have HC152_0 := Aside0.mk hl152_0; clear hi152_0 hl152_0; replace p152 := eq_true p152; replace q152 := eq_true q152) | ((with_reducible refine gate_dst (N := 214) rfl ?_); (try (refine gate_guard (by rfl) ?_; dsimp only)); refine Kd.N_lit (Kd.slice 3 (Kd.int .i64)) _ 22 ?hg (N' := 214) ?hd (xs := ([rd_L1 t137 (ji162)] : List (List Int))) (inner := [.slice A152_0 (rd_L1 t137 (ji162)).length c152_0]) (ok := (fun k_ => some k_ ≠ (.slice (some ad150) t137.length co155 : Value).ownBlock)) (okp := (fun k_ => some k_ ≠ (.slice (some ad150) t137.length co155 : Value).ownBlock)) ?hr ?hp (fun _ hk => hk) ((show ∀ k_, w167.heap.size ≤ k_ → (fun k_ => some k_ ≠ (.slice (some ad150) t137.length co155 : Value).ownBlock) k_ from fun k_ hk => Kd.fresh' (Kd.N_lt (by (with_reducible repeat (first | apply Kd.N_alloc | apply Kd.N_drewN | apply Kd.N_drew)); exact HO_20.out)) k_ hk) _ (Nat.le_refl _)) (Below.refl _ _) (Nat.le_refl _) (by simp) ?_; (case hd => rfl); (case hg => rfl); (case hr => first | (go_simp; done) | (go_simp; rfl)); (case hp => exact (Reps.one (show Kd.FK (Kd.slice 3 (Kd.int .i64)) _ _ (rd_L1 t137 (ji162)) [.slice A152_0 (rd_L1 t137 (ji162)).length c152_0] from (Kd.FK_slice_mk (Kd.V_reads' (Kd.V_mono (ok' := (fun k_ => some k_ ≠ (.slice (some ad150) t137.length co155 : Value).ownBlock)) (HL152_0.out) (fun k_ hk => hk.2))).2.1 (Kd.V_F (Kd.V_mono (ok' := (fun k_ => some k_ ≠ (.slice (some ad150) t137.length co155 : Value).ownBlock)) (HL152_0.out) (fun k_ hk => hk.2))))) (Reps.none _ _))); intro v154 w168 ho169 hb hg_ hnew_; clear hg_ hnew_; (first | rw [← Ny153.out] at ho169 | (simp only [Int.reduceToNat] at ho169; rw [← Ny153.out] at ho169)); have n0_ := Aside0.mk (Kd.N_elder' (by (with_reducible repeat (first | apply Kd.N_alloc | apply Kd.N_drewN | apply Kd.N_drew)); exact HO_20.out) (Kd.N_base ho169) hb); have n1_ := Aside0.mk (Kd.N_elder' (by (with_reducible repeat (first | apply Kd.N_alloc | apply Kd.N_drewN | apply Kd.N_drew)); exact HO_195.out) (Kd.N_base ho169) hb); have n2_ := Aside0.mk (Kd.V_elder' (by (with_reducible repeat (first | apply Kd.V_alloc | apply Kd.V_drewN | apply Kd.V_drew)); exact HL150_0.out) (Kd.N_base ho169) hb); have n3_ := Aside0.mk (Kd.V_elder' (by (with_reducible repeat (first | apply Kd.V_alloc | apply Kd.V_drewN | apply Kd.V_drew)); exact HL152_0.out) (Kd.N_base ho169) hb); have n4_ := Aside0.mk (Kd.N_lower ho169 (below_size (by repeat (first | (with_reducible first | exact HB.out | apply below_alloc | apply pw_below_drewN | apply below_drew1) | exact HB.out)))); have n5_ := Aside0.mk (Kd.C_below (by repeat (first | (with_reducible exact HR150_0.out) | (with_reducible refine Kd.C_alloc ?_ _) | (with_reducible refine Kd.C_drewN ?_ _) | (with_reducible refine Kd.C_drew ?_) | exact HR150_0.out)) hb); have n6_ := Aside0.mk (Kd.C_below (by repeat (first | (with_reducible exact HR152_0.out) | (with_reducible refine Kd.C_alloc ?_ _) | (with_reducible refine Kd.C_drewN ?_ _) | (with_reducible refine Kd.C_drew ?_) | exact HR152_0.out)) hb); have n7_ := Aside0.mk (below_step (by repeat (first | (with_reducible first | exact HB.out | apply below_alloc | apply pw_below_drewN | apply below_drew1) | exact HB.out)) hb); clear HO_20; clear HO_195; clear HL150_0; clear HL152_0; clear HR150_0; clear HR152_0; clear HB; have HO_20 := n0_; have HO_195 := n1_; have HL150_0 := n2_; have HL152_0 := n3_; have HO155 := n4_; have HR150_0 := n5_; have HR152_0 := n6_; have HB := n7_; clear n0_ n1_ n2_ n3_ n4_ n5_ n6_ n7_; clear hb ho169) | ((with_reducible refine gate_dst (N := 216) rfl ?_); (try (refine gate_guard (by rfl) ?_; dsimp only)); refine Kd.N_lit (Kd.slice 3 (Kd.int .i64)) _ 22 ?hg (N' := 216) ?hd (xs := ([rd_L1 t137 x197_4] : List (List Int))) (inner := [.slice A150_0 (rd_L1 t137 x197_4).length c150_0]) (ok := (fun k_ => some k_ ≠ (.slice (some ad150) t137.length co155 : Value).ownBlock ∧ some k_ ≠ (v154 : Value).ownBlock)) (okp := (fun k_ => some k_ ≠ (.slice (some ad150) t137.length co155 : Value).ownBlock ∧ some k_ ≠ (v154 : Value).ownBlock)) ?hr ?hp (fun _ hk => hk) ((show ∀ k_, w168.heap.size ≤ k_ → (fun k_ => some k_ ≠ (.slice (some ad150) t137.length co155 : Value).ownBlock ∧ some k_ ≠ (v154 : Value).ownBlock) k_ from fun k_ hk => ⟨Kd.fresh' (Kd.N_lt (by (with_reducible repeat (first | apply Kd.N_alloc | apply Kd.N_drewN | apply Kd.N_drew)); exact HO_195.out)) k_ hk, Kd.fresh' (Kd.N_lt (by (with_reducible repeat (first | apply Kd.N_alloc | apply Kd.N_drewN | apply Kd.N_drew)); exact HO155.out)) k_ hk⟩) _ (Nat.le_refl _)) (Below.refl _ _) (Nat.le_refl _) (by simp) ?_; (case hd => rfl); (case hg => rfl); (case hr => first | (go_simp; done) | (go_simp; rfl)); (case hp => exact (Reps.one (show Kd.FK (Kd.slice 3 (Kd.int .i64)) _ _ (rd_L1 t137 x197_4) [.slice A150_0 (rd_L1 t137 x197_4).length c150_0] from (Kd.FK_slice_mk (Kd.V_reads' (Kd.V_mono (ok' := (fun k_ => some k_ ≠ (.slice (some ad150) t137.length co155 : Value).ownBlock ∧ some k_ ≠ (v154 : Value).ownBlock)) (HL150_0.out) (fun k_ hk => ⟨hk.1.2, hk.2⟩))).2.1 (Kd.V_F (Kd.V_mono (ok' := (fun k_ => some k_ ≠ (.slice (some ad150) t137.length co155 : Value).ownBlock ∧ some k_ ≠ (v154 : Value).ownBlock)) (HL150_0.out) (fun k_ hk => ⟨hk.1.2, hk.2⟩))))) (Reps.none _ _))); intro v157 w170 ho171 hb hg_ hnew_; clear hg_ hnew_; (first | rw [← Ny156.out] at ho171 | (simp only [Int.reduceToNat] at ho171; rw [← Ny156.out] at ho171)); have n0_ := Aside0.mk (Kd.N_elder' (by (with_reducible repeat (first | apply Kd.N_alloc | apply Kd.N_drewN | apply Kd.N_drew)); exact HO_20.out) (Kd.N_base ho171) hb); have n1_ := Aside0.mk (Kd.N_elder' (by (with_reducible repeat (first | apply Kd.N_alloc | apply Kd.N_drewN | apply Kd.N_drew)); exact HO_195.out) (Kd.N_base ho171) hb); have n2_ := Aside0.mk (Kd.V_elder' (by (with_reducible repeat (first | apply Kd.V_alloc | apply Kd.V_drewN | apply Kd.V_drew)); exact HL150_0.out) (Kd.N_base ho171) hb); have n3_ := Aside0.mk (Kd.V_elder' (by (with_reducible repeat (first | apply Kd.V_alloc | apply Kd.V_drewN | apply Kd.V_drew)); exact HL152_0.out) (Kd.N_base ho171) hb); have n4_ := Aside0.mk (Kd.N_elder' (by (with_reducible repeat (first | apply Kd.N_alloc | apply Kd.N_drewN | apply Kd.N_drew)); exact HO155.out) (Kd.N_base ho171) hb); have n5_ := Aside0.mk (Kd.N_lower ho171 (below_size (by repeat (first | (with_reducible first | exact HB.out | apply below_alloc | apply pw_below_drewN | apply below_drew1) | exact HB.out)))); have n6_ := Aside0.mk (Kd.C_below (by repeat (first | (with_reducible exact HR150_0.out) | (with_reducible refine Kd.C_alloc ?_ _) | (with_reducible refine Kd.C_drewN ?_ _) | (with_reducible refine Kd.C_drew ?_) | exact HR150_0.out)) hb); have n7_ := Aside0.mk (Kd.C_below (by repeat (first | (with_reducible exact HR152_0.out) | (with_reducible refine Kd.C_alloc ?_ _) | (with_reducible refine Kd.C_drewN ?_ _) | (with_reducible refine Kd.C_drew ?_) | exact HR152_0.out)) hb); have n8_ := Aside0.mk (below_step (by repeat (first | (with_reducible first | exact HB.out | apply below_alloc | apply pw_below_drewN | apply below_drew1) | exact HB.out)) hb); clear HO_20; clear HO_195; clear HL150_0; clear HL152_0; clear HO155; clear HR150_0; clear HR152_0; clear HB; have HO_20 := n0_; have HO_195 := n1_; have HL150_0 := n2_; have HL152_0 := n3_; have HO155 := n4_; have HO158 := n5_; have HR150_0 := n6_; have HR152_0 := n7_; have HB := n8_; clear n0_ n1_ n2_ n3_ n4_ n5_ n6_ n7_ n8_; clear hb ho171; obtain ⟨Ao172, co172, eo172⟩ := Kd.N_slice HO155.out; subst eo172; obtain ⟨Ao173, co173, eo173⟩ := Kd.N_slice HO158.out; subst eo173) | (go_at_call 73; (with_reducible refine (laws_hLess.calls k4 _ _ y153 _ _ y156 true _ ?side1 ?side2 ?side3 ?side4 A165.out).mono ?_); (case side1 => repeat (first | exact (Kd.N_reads' HO155.out).2.2 | (with_reducible refine Kd.C_alloc ?_ _) | (with_reducible refine Kd.C_drewN ?_ _) | (with_reducible refine Kd.C_drew ?_))); (case side2 => exact (Kd.N_reads' HO155.out).2.1); (case side3 => repeat (first | exact (Kd.N_reads' HO158.out).2.2 | (with_reducible refine Kd.C_alloc ?_ _) | (with_reducible refine Kd.C_drewN ?_ _) | (with_reducible refine Kd.C_drew ?_))); (case side4 => exact (Kd.N_reads' HO158.out).2.1); rintro e w' ⟨rfl, ⟨nd, rfl⟩⟩))
                       go_roundg k4
                       case measure => have := HJ7.out; have := HJ17.out; have := HJ132.out; have := HK4.out; omega
                       case rel => exact ⟨(wrap64 (x197_4 + 1)), (by first | rfl | (simp; done) | (simp [*]; done)), H', ⟨by have := HJ7.out; have := HJ17.out; have := HJ132.out; have := HK4.out; omega⟩, ⟨by (with_reducible repeat (first | apply Kd.N_alloc | apply Kd.N_drewN | apply Kd.N_drew)); exact Kd.N_mono HO_20.out (fun _ hk => trivial)⟩, ⟨by (with_reducible repeat (first | apply Kd.N_alloc | apply Kd.N_drewN | apply Kd.N_drew)); exact Kd.N_mono HO_195.out (fun _ hk => trivial)⟩, ⟨by repeat (first | (with_reducible first | exact HB.out | apply below_alloc | apply pw_below_drewN | apply below_drew1) | exact HB.out)⟩⟩
                      ·replace c166 := Bool.eq_false_iff.mpr c166
                       subst c166
                       exact absurd ((show (some false : Option Bool) = some r from by rw [if_neg (show ¬ (false = true) by decide)] at H; exact H).trans (congrArg some HR_.out)) (by simp)
                     ·rw [if_neg c164] at H
                      exact absurd H (by simp)
                    ·rw [if_neg c163] at H
                     exact absurd H (by simp)
                   ·rw [if_neg c161] at H
                    have c161b0 : decide (0 < x197_4) = false := decide_eq_false c161
                    clear c161
                    have H' := Aside0.mk H
                    clear H
                    have p150 : 0 ≤ (x197_4 : Int) := of_decide_eq_true (by first | (with_reducible assumption) | assumption)
                    have q150 : x197_4 < (t137.length : Int) := of_decide_eq_true (by first | (with_reducible assumption) | assumption)
                    obtain ⟨ad150, A150_0, c150_0, e150, hx150_0, hl150_0, hi150_0⟩ := at_L1 (Kd.N_reads' HO_195.out).2.2 x197_4 p150 q150
                    cases e150
                    obtain ⟨ce150, hce150, hMe150, hcc150⟩ := Kd.N_get HO_195.out [] x197_4 p150 (by first | exact q150 | exact of_decide_eq_true (by first | (with_reducible assumption) | assumption) | (have e_ := (Kd.N_reads' HO_195.out).1; omega))
                    obtain ⟨ua150_0, uc150_0, rfl, ul150_0, ge150_0⟩ := Kd.FK_slice_open hMe150
                    have hv150_0 := hcc150 0 _ rfl
                    rw [Nat.add_zero, show ((Kd.slice 3 (Kd.int .i64))).sz = 1 from rfl, Nat.mul_one] at hv150_0
                    replace hv150_0 := Option.some.inj (hv150_0.symm.trans hx150_0)
                    injection hv150_0 with hva_ hvn_ hvc_
                    rw [hva_] at ge150_0
                    rw [hvc_] at ul150_0
                    have HL150_0 := Aside0.mk (show Kd.V (Kd.int .i64) 3 _ w.heap.size _ _ (rd_L1 t137 x197_4) from Kd.V_mk ul150_0 ge150_0)
                    clear hva_ hvn_ hvc_ ge150_0 ul150_0
                    clear hcc150 hce150
                    have HR150_0 := Aside0.mk hi150_0
                    have HC150_0 := Aside0.mk hl150_0
                    clear hi150_0 hl150_0
                    replace p150 := eq_true p150
                    replace q150 := eq_true q150
                    go_wp2_with (first | ((with_reducible refine gate_callee (f := 27) rfl ?_); refine goesL_ (some 203) rfl rfl Try.func27 (by kernel_rfl) rfl #[.slice A150_0 (rd_L1 t137 x197_4).length c150_0] rfl (by (try simp only [List.map_toArray, List.map_cons, List.map_nil]); first | done | rfl | (simp only [List.length_drop, List.length_take]; rfl)) ?_; (with_reducible refine (impl_IsPattern.calls k4 _ _ (rd_L1 t137 x197_4) true _ ?side1 ?side2 A159.out).mono ?_); (case side1 => repeat (first | exact (by repeat (first | (with_reducible exact HR150_0.out) | (with_reducible refine Kd.C_alloc ?_ _) | (with_reducible refine Kd.C_drewN ?_ _) | (with_reducible refine Kd.C_drew ?_) | exact HR150_0.out)) | (with_reducible refine Kd.C_alloc ?_ _) | (with_reducible refine Kd.C_drewN ?_ _) | (with_reducible refine Kd.C_drew ?_))); (case side2 => exact HC150_0.out); rintro e w181 ⟨rfl, hb⟩; refine ⟨_, rfl, ?_⟩; have n0_ := Aside0.mk (Kd.N_below (by (with_reducible repeat (first | apply Kd.N_alloc | apply Kd.N_drewN | apply Kd.N_drew)); exact HO_20.out) hb); have n1_ := Aside0.mk (Kd.N_below (by (with_reducible repeat (first | apply Kd.N_alloc | apply Kd.N_drewN | apply Kd.N_drew)); exact HO_195.out) hb); have n2_ := Aside0.mk (Kd.V_below (by (with_reducible repeat (first | apply Kd.V_alloc | apply Kd.V_drewN | apply Kd.V_drew)); exact HL150_0.out) hb); have n3_ := Aside0.mk (Kd.C_below (by repeat (first | (with_reducible exact HR150_0.out) | (with_reducible refine Kd.C_alloc ?_ _) | (with_reducible refine Kd.C_drewN ?_ _) | (with_reducible refine Kd.C_drew ?_) | exact HR150_0.out)) hb); have n4_ := Aside0.mk (below_step (by repeat (first | (with_reducible first | exact HB.out | apply below_alloc | apply pw_below_drewN | apply below_drew1) | exact HB.out)) hb); clear HO_20; clear HO_195; clear HL150_0; clear HR150_0; clear HB; have HO_20 := n0_; have HO_195 := n1_; have HL150_0 := n2_; have HR150_0 := n3_; have HB := n4_; clear n0_ n1_ n2_ n3_ n4_; (try clear hb); (try clear hb2); (try clear hk); (try clear hi)))
                    go_roundg k4
                    case measure => have := HJ7.out; have := HJ17.out; have := HJ132.out; have := HK4.out; omega
                    case rel => exact ⟨(wrap64 (x197_4 + 1)), (by first | rfl | (simp; done) | (simp [*]; done)), H', ⟨by have := HJ7.out; have := HJ17.out; have := HJ132.out; have := HK4.out; omega⟩, ⟨by (with_reducible repeat (first | apply Kd.N_alloc | apply Kd.N_drewN | apply Kd.N_drew)); exact HO_20.out⟩, ⟨by (with_reducible repeat (first | apply Kd.N_alloc | apply Kd.N_drewN | apply Kd.N_drew)); exact HO_195.out⟩, ⟨by repeat (first | (with_reducible first | exact HB.out | apply below_alloc | apply pw_below_drewN | apply below_drew1) | exact HB.out)⟩⟩
                  ·replace c160 := Bool.eq_false_iff.mpr c160
                   subst c160
                   exact absurd ((show (some false : Option Bool) = some r from by rw [if_neg (show ¬ (false = true) by decide)] at H; exact H).trans (congrArg some HR_.out)) (by simp)
                 ·rw [if_neg c158] at H
                  exact absurd H (by simp)
                ·rw [if_neg c157] at H
                 exact absurd H (by simp)
               ·rw [if_neg c156] at H
                have c156b0 : decide (x197_4 < (t137.length : Int)) = false := decide_eq_false c156
                clear c156
                have H' := Aside0.mk H
                clear H
                go_wp2
                go_meet
                case rel => exact ⟨_, H', ⟨by have := HJ7.out; have := HJ17.out; have := HJ132.out; have := HK4.out; first | omega | exact Nat.le_refl _⟩, ⟨by repeat (first | (with_reducible first | exact HB.out | apply below_alloc | apply pw_below_drewN | apply below_drew1) | exact HB.out)⟩⟩
            ·rw [if_neg c154] at H
             have c154b0 : ((t137.length : Int) == t145) = false := beq_eq_false_iff_ne.mpr c154
             have c154b1 : ((t137.length : Int) != t145) = true := bne_iff_ne.mpr c154
             (first | rw [c154b0] | (simp only [i64_w, i32_w]; rw [c154b0]) | skip)
             obtain rfl := Option.some.inj H
             obtain ⟨Ao183, co183, eo183⟩ := Kd.N_slice HO_20.out
             subst eo183
             go_wp2
             go_ret
             exact ⟨by first | rfl | (simp [errW_none, errW_some] <;> rfl) | (simp [*, errW_none, errW_some] <;> rfl), by repeat (first | (with_reducible first | exact HB.out | apply below_alloc | apply pw_below_drewN | apply below_drew1) | exact HB.out)⟩
           ·replace c153 := Bool.eq_false_iff.mpr c153
            subst c153
            have H1 : (laws_FnPatterns.j4 kj132 l1) = some r := by rw [if_neg (show ¬ (false = true) by decide)] at H; exact H
            clear H
            have H := H1
            clear H1
            have H' := Aside0.mk H
            clear H
            go_wp2
            go_meet
            case rel => exact ⟨_, H', ⟨by have := HJ7.out; have := HJ17.out; have := HJ132.out; first | omega | exact Nat.le_refl _⟩, ⟨by repeat (first | (with_reducible first | exact HB.out | apply below_alloc | apply pw_below_drewN | apply below_drew1) | exact HB.out)⟩⟩
          case rest => as_aux_lemma =>
           clear HC152
           try clear c1
           try clear p1
           try clear q1
           try clear hx1
           try clear c2
           try clear p2
           try clear c3
           try clear c4
           try clear c5
           try clear c6
           try clear p6
           try clear c7
           try clear c12
           try clear c13
           try clear c13b0
           try clear c13b1
           try clear c13b2
           try clear c14
           try clear c15
           try clear p15
           try clear q15
           try clear hx15
           try clear c16
           try clear c17
           try clear c18
           try clear c19
           try clear c25
           try clear c26
           try clear c27
           try clear c28
           try clear c29
           try clear c31
           try clear c32
           try clear c34
           try clear c35
           try clear c37
           try clear c50
           try clear c54
           try clear p64
           try clear c65
           try clear c66
           try clear c68
           try clear c69
           try clear c70
           try clear c71
           try clear c138
           try clear c138b0
           try clear c138b1
           try clear c138b2
           try clear c140
           try clear c141
           try clear c141b0
           try clear c141b1
           try clear c141b2
           try clear c144
           try clear c144b0
           try clear c144b1
           try clear c150
           try clear p150
           try clear q150
           try clear hx150
           try clear c151
           try clear c152
           try clear p152
           try clear q152
           try clear hx152
           try clear c153
           try clear c154
           try clear c154b0
           try clear c154b1
           try clear c156
           try clear c156b0
           try clear c157
           try clear c157b0
           try clear c158
           try clear c158b0
           try clear c160
           try clear c161
           try clear c161b0
           try clear c163
           try clear c163b0
           try clear c164
           try clear c164b0
           try clear c166
           try clear hx150_0
           try clear hx152_0
           try clear p150
           try clear p152
           try clear p2
           try clear p6
           try clear p64
           try clear q150
           try clear q152
           obtain ⟨kq, HA, HJ151, HB⟩ := hcut
           cases kq with
           | zero => exact absurd HA.out (by simp [laws_FnPatterns.j4])
           | succ kj151 =>
            have H := HA.out
            clear HA
            simp only [laws_FnPatterns.j4] at H
            replace H := Option.bind_eq_some_iff.mp H
            obtain ⟨t160, A1840, H⟩ := H
            replace H : ((impl_PatternText.f kj151 t160).bind fun bt163 => ((spec_PatternText.f kj151 t160).bind fun bt165 => ((impl_MirrorPattern.f kj151 t160).bind fun bt167 => ((spec_MirrorPattern.f kj151 t160).bind fun bt171 => (if (bt163.2 != bt165.2) = true then (laws_FnPatterns.j5 kj151 l1 t160 bt163.1 bt163.2 true) else (if bt163.1.toList = bt165.1.toList then (if (bt167.2 != bt171.2) = true then (laws_FnPatterns.j5 kj151 l1 t160 bt163.1 bt163.2 true) else ((laws_hSame.f kj151 bt167.1 bt171.1).bind fun t175 => (if t175 = true then ((impl_IsPattern.f kj151 t160).bind fun t176 => (if (bt163.2 != t176) = true then (laws_FnPatterns.j5 kj151 l1 t160 bt163.1 bt163.2 true) else ((spec_IsPattern.f kj151 t160).bind fun t177 => (laws_FnPatterns.j5 kj151 l1 t160 bt163.1 bt163.2 (bt163.2 != t177))))) else (laws_FnPatterns.j5 kj151 l1 t160 bt163.1 bt163.2 true)))) else (laws_FnPatterns.j5 kj151 l1 t160 bt163.1 bt163.2 true))))))) = some r := H
            have A184 := Aside0.mk A1840
            clear A1840
            replace H := Option.bind_eq_some_iff.mp H
            obtain ⟨⟨t163, t164⟩, A1850, H⟩ := H
            replace H : ((spec_PatternText.f kj151 t160).bind fun bt165 => ((impl_MirrorPattern.f kj151 t160).bind fun bt167 => ((spec_MirrorPattern.f kj151 t160).bind fun bt171 => (if (t164 != bt165.2) = true then (laws_FnPatterns.j5 kj151 l1 t160 t163 t164 true) else (if t163.toList = bt165.1.toList then (if (bt167.2 != bt171.2) = true then (laws_FnPatterns.j5 kj151 l1 t160 t163 t164 true) else ((laws_hSame.f kj151 bt167.1 bt171.1).bind fun t175 => (if t175 = true then ((impl_IsPattern.f kj151 t160).bind fun t176 => (if (t164 != t176) = true then (laws_FnPatterns.j5 kj151 l1 t160 t163 t164 true) else ((spec_IsPattern.f kj151 t160).bind fun t177 => (laws_FnPatterns.j5 kj151 l1 t160 t163 t164 (t164 != t177))))) else (laws_FnPatterns.j5 kj151 l1 t160 t163 t164 true)))) else (laws_FnPatterns.j5 kj151 l1 t160 t163 t164 true)))))) = some r := H
            have A185 := Aside0.mk A1850
            clear A1850
            replace H := Option.bind_eq_some_iff.mp H
            obtain ⟨⟨t165, t166⟩, A1860, H⟩ := H
            replace H : ((impl_MirrorPattern.f kj151 t160).bind fun bt167 => ((spec_MirrorPattern.f kj151 t160).bind fun bt171 => (if (t164 != t166) = true then (laws_FnPatterns.j5 kj151 l1 t160 t163 t164 true) else (if t163.toList = t165.toList then (if (bt167.2 != bt171.2) = true then (laws_FnPatterns.j5 kj151 l1 t160 t163 t164 true) else ((laws_hSame.f kj151 bt167.1 bt171.1).bind fun t175 => (if t175 = true then ((impl_IsPattern.f kj151 t160).bind fun t176 => (if (t164 != t176) = true then (laws_FnPatterns.j5 kj151 l1 t160 t163 t164 true) else ((spec_IsPattern.f kj151 t160).bind fun t177 => (laws_FnPatterns.j5 kj151 l1 t160 t163 t164 (t164 != t177))))) else (laws_FnPatterns.j5 kj151 l1 t160 t163 t164 true)))) else (laws_FnPatterns.j5 kj151 l1 t160 t163 t164 true))))) = some r := H
            have A186 := Aside0.mk A1860
            clear A1860
            replace H := Option.bind_eq_some_iff.mp H
            obtain ⟨⟨t167, t168⟩, A1870, H⟩ := H
            replace H : ((spec_MirrorPattern.f kj151 t160).bind fun bt171 => (if (t164 != t166) = true then (laws_FnPatterns.j5 kj151 l1 t160 t163 t164 true) else (if t163.toList = t165.toList then (if (t168 != bt171.2) = true then (laws_FnPatterns.j5 kj151 l1 t160 t163 t164 true) else ((laws_hSame.f kj151 t167 bt171.1).bind fun t175 => (if t175 = true then ((impl_IsPattern.f kj151 t160).bind fun t176 => (if (t164 != t176) = true then (laws_FnPatterns.j5 kj151 l1 t160 t163 t164 true) else ((spec_IsPattern.f kj151 t160).bind fun t177 => (laws_FnPatterns.j5 kj151 l1 t160 t163 t164 (t164 != t177))))) else (laws_FnPatterns.j5 kj151 l1 t160 t163 t164 true)))) else (laws_FnPatterns.j5 kj151 l1 t160 t163 t164 true)))) = some r := H
            have A187 := Aside0.mk A1870
            clear A1870
            replace H := Option.bind_eq_some_iff.mp H
            obtain ⟨⟨t171, t172⟩, A1880, H⟩ := H
            replace H : (if (t164 != t166) = true then (laws_FnPatterns.j5 kj151 l1 t160 t163 t164 true) else (if t163.toList = t165.toList then (if (t168 != t172) = true then (laws_FnPatterns.j5 kj151 l1 t160 t163 t164 true) else ((laws_hSame.f kj151 t167 t171).bind fun t175 => (if t175 = true then ((impl_IsPattern.f kj151 t160).bind fun t176 => (if (t164 != t176) = true then (laws_FnPatterns.j5 kj151 l1 t160 t163 t164 true) else ((spec_IsPattern.f kj151 t160).bind fun t177 => (laws_FnPatterns.j5 kj151 l1 t160 t163 t164 (t164 != t177))))) else (laws_FnPatterns.j5 kj151 l1 t160 t163 t164 true)))) else (laws_FnPatterns.j5 kj151 l1 t160 t163 t164 true))) = some r := H
            have A188 := Aside0.mk A1880
            clear A1880
            have HC189 := Aside0.mk H
            clear H
            go_upto_region 36 with (first | ((with_reducible refine gate_callee (f := 74) rfl ?_); refine goesL_ (some 223) rfl rfl Try.func74 (by kernel_rfl) rfl #[.slice A1 l1.length c1] rfl (by (try simp only [List.map_toArray, List.map_cons, List.map_nil]); first | done | rfl | (simp only [List.length_drop, List.length_take]; rfl)) ?_; (with_reducible refine (spec_DrawPatternText.calls kj151 _ _ l1 t160 _ ?side1 ?side2 A184.out).mono ?_); (case side1 => repeat (first | exact (Kd.C_below HR1.out HB.out) | (with_reducible refine Kd.C_alloc ?_ _) | (with_reducible refine Kd.C_drewN ?_ _) | (with_reducible refine Kd.C_drew ?_))); (case side2 => exact HC1.out); rintro e w190 ⟨v161, rfl, ho0, hb⟩; refine ⟨_, rfl, ?_⟩; have n0_ := Aside0.mk (Kd.R_lower ho0 (below_size (by repeat (first | (with_reducible first | exact HB.out | apply below_alloc | apply pw_below_drewN | apply below_drew1) | exact HB.out)))); have n1_ := Aside0.mk (below_step (by repeat (first | (with_reducible first | exact HB.out | apply below_alloc | apply pw_below_drewN | apply below_drew1) | exact HB.out)) hb); clear HB; have HO162 := n0_; have HB := n1_; clear n0_ n1_; (try clear hb); (try clear hb2); (try clear hk); (try clear hi); (try clear ho0); obtain ⟨Ao191, co191, eo191⟩ := Kd.R_slice HO162.out; subst eo191) | ((with_reducible refine gate_callee (f := 75) rfl ?_); refine goesL_ (some 226) rfl rfl Try.func75 (by kernel_rfl) rfl #[.slice Ao191 t160.length co191] rfl (by (try simp only [List.map_toArray, List.map_cons, List.map_nil]); first | done | rfl | (simp only [List.length_drop, List.length_take]; rfl)) ?_; (with_reducible refine (impl_PatternText.calls kj151 _ _ t160 t163 t164 _ ?side1 ?side2 A185.out).mono ?_); (case side1 => repeat (first | exact (Kd.R_reads' HO162.out).2.2 | (with_reducible refine Kd.C_alloc ?_ _) | (with_reducible refine Kd.C_drewN ?_ _) | (with_reducible refine Kd.C_drew ?_))); (case side2 => exact (Kd.R_reads' HO162.out).2.1); rintro e w192 ⟨rfl, hb⟩; refine ⟨_, rfl, ?_⟩; have n0_ := Aside0.mk (Kd.R_below (by (with_reducible repeat (first | apply Kd.R_alloc | apply Kd.R_drewN | apply Kd.R_drew)); exact HO162.out) hb); have n1_ := Aside0.mk (below_step (by repeat (first | (with_reducible first | exact HB.out | apply below_alloc | apply pw_below_drewN | apply below_drew1) | exact HB.out)) hb); clear HO162; clear HB; have HO162 := n0_; have HB := n1_; clear n0_ n1_; (try clear hb); (try clear hb2); (try clear hk); (try clear hi)) | ((with_reducible refine gate_callee (f := 76) rfl ?_); refine goesL_ (some 231) rfl rfl Try.func76 (by kernel_rfl) rfl #[.slice Ao191 t160.length co191] rfl (by (try simp only [List.map_toArray, List.map_cons, List.map_nil]); first | done | rfl | (simp only [List.length_drop, List.length_take]; rfl)) ?_; (with_reducible refine (spec_PatternText.calls kj151 _ _ t160 t165 t166 _ ?side1 ?side2 A186.out).mono ?_); (case side1 => repeat (first | exact (Kd.R_reads' HO162.out).2.2 | (with_reducible refine Kd.C_alloc ?_ _) | (with_reducible refine Kd.C_drewN ?_ _) | (with_reducible refine Kd.C_drew ?_))); (case side2 => exact (Kd.R_reads' HO162.out).2.1); rintro e w' ⟨rfl, ⟨nd, rfl⟩⟩; refine ⟨_, rfl, ?_⟩) | ((with_reducible refine gate_callee (f := 68) rfl ?_); refine goesL_ (some 236) rfl rfl Try.func68 (by kernel_rfl) rfl #[.slice Ao191 t160.length co191] rfl (by (try simp only [List.map_toArray, List.map_cons, List.map_nil]); first | done | rfl | (simp only [List.length_drop, List.length_take]; rfl)) ?_; (with_reducible refine (impl_MirrorPattern.calls kj151 _ _ t160 t167 t168 _ ?side1 ?side2 A187.out).mono ?_); (case side1 => repeat (first | exact (Kd.R_reads' HO162.out).2.2 | (with_reducible refine Kd.C_alloc ?_ _) | (with_reducible refine Kd.C_drewN ?_ _) | (with_reducible refine Kd.C_drew ?_))); (case side2 => exact (Kd.R_reads' HO162.out).2.1); rintro e w193 ⟨v169, rfl, ho0, hb⟩; refine ⟨_, rfl, ?_⟩; have n0_ := Aside0.mk (Kd.R_elder' (by (with_reducible repeat (first | apply Kd.R_alloc | apply Kd.R_drewN | apply Kd.R_drew)); exact HO162.out) (Kd.R_base ho0) hb); have n1_ := Aside0.mk (Kd.R_lower (Kd.R_new' ho0 (Kd.R_lt (by (with_reducible repeat (first | apply Kd.R_alloc | apply Kd.R_drewN | apply Kd.R_drew)); exact HO162.out))) (below_size (by repeat (first | (with_reducible first | exact HB.out | apply below_alloc | apply pw_below_drewN | apply below_drew1) | exact HB.out)))); have n2_ := Aside0.mk (below_step (by repeat (first | (with_reducible first | exact HB.out | apply below_alloc | apply pw_below_drewN | apply below_drew1) | exact HB.out)) hb); clear HO162; clear HB; have HO162 := n0_; have HO170 := n1_; have HB := n2_; clear n0_ n1_ n2_; (try clear hb); (try clear hb2); (try clear hk); (try clear hi); (try clear ho0)) | ((with_reducible refine gate_callee (f := 77) rfl ?_); refine goesL_ (some 241) rfl rfl Try.func77 (by kernel_rfl) rfl #[.slice Ao191 t160.length co191] rfl (by (try simp only [List.map_toArray, List.map_cons, List.map_nil]); first | done | rfl | (simp only [List.length_drop, List.length_take]; rfl)) ?_; (with_reducible refine (spec_MirrorPattern.calls kj151 _ _ t160 t171 t172 _ ?side1 ?side2 A188.out).mono ?_); (case side1 => repeat (first | exact (Kd.R_reads' HO162.out).2.2 | (with_reducible refine Kd.C_alloc ?_ _) | (with_reducible refine Kd.C_drewN ?_ _) | (with_reducible refine Kd.C_drew ?_))); (case side2 => exact (Kd.R_reads' HO162.out).2.1); rintro e w194 ⟨v173, rfl, ho0, hb⟩; refine ⟨_, rfl, ?_⟩; have n0_ := Aside0.mk (Kd.R_elder' (by (with_reducible repeat (first | apply Kd.R_alloc | apply Kd.R_drewN | apply Kd.R_drew)); exact HO162.out) (Kd.R_base ho0) hb); have n1_ := Aside0.mk (Kd.R_elder' (by (with_reducible repeat (first | apply Kd.R_alloc | apply Kd.R_drewN | apply Kd.R_drew)); exact HO170.out) (Kd.R_base ho0) hb); have n2_ := Aside0.mk (Kd.R_lower (Kd.R_new' (Kd.R_new' ho0 (Kd.R_lt (by (with_reducible repeat (first | apply Kd.R_alloc | apply Kd.R_drewN | apply Kd.R_drew)); exact HO162.out))) (Kd.R_lt (by (with_reducible repeat (first | apply Kd.R_alloc | apply Kd.R_drewN | apply Kd.R_drew)); exact HO170.out))) (below_size (by repeat (first | (with_reducible first | exact HB.out | apply below_alloc | apply pw_below_drewN | apply below_drew1) | exact HB.out)))); have n3_ := Aside0.mk (below_step (by repeat (first | (with_reducible first | exact HB.out | apply below_alloc | apply pw_below_drewN | apply below_drew1) | exact HB.out)) hb); clear HO162; clear HO170; clear HB; have HO162 := n0_; have HO170 := n1_; have HO174 := n2_; have HB := n3_; clear n0_ n1_ n2_ n3_; (try clear hb); (try clear hb2); (try clear hk); (try clear hi); (try clear ho0)))
            (try simp only [Act.put, List.setIfInBounds_toArray, List.set_cons_zero, List.set_cons_succ])
            go_cut [274] (fun v274 wc => ∃ (kq : Nat) (x274_188 : Bool), v274 = .bool x274_188 ∧ Aside0 (laws_FnPatterns.j5 kq l1 t160 t163 t164 x274_188 = some r) ∧ Aside0 (kq ≤ kj151) ∧ Aside0 (Kd.R (Kd.int .i64) 3 wc w.heap.size (fun _ => True) (.slice Ao191 t160.length co191) t160) ∧ Aside0 (Below w.heap.size w wc))
            case first => as_aux_lemma =>
             have H := HC189.out
             clear HC189
             by_cases c195 : (t164 != t166) = true
             ·rw [if_pos c195] at H
              have c195b0 : (t164 != t166) = true := c195
              (try (have c195b1 : decide (t164 = t166) = false := by simpa using c195))
              (try (have c195b2 : (t164 == t166) = false := by simpa using c195))
              (try (have c195b3 : ¬ (t164 = t166) := by simpa using c195))
              clear c195
              (first | rw [c195b0] | (simp only [i64_w, i32_w]; rw [c195b0]) | skip)
              have H' := Aside0.mk H
              clear H
              go_wp2
              go_meet
              case rel => exact ⟨_, (true), (by first | rfl | (simp; done) | (simp [*]; done)), H', ⟨by have := HJ7.out; have := HJ17.out; have := HJ132.out; have := HJ151.out; first | omega | exact Nat.le_refl _⟩, ⟨by (with_reducible repeat (first | apply Kd.R_alloc | apply Kd.R_drewN | apply Kd.R_drew)); exact Kd.R_mono HO162.out (fun _ hk => trivial)⟩, ⟨by repeat (first | (with_reducible first | exact HB.out | apply below_alloc | apply pw_below_drewN | apply below_drew1) | exact HB.out)⟩⟩
             ·rw [if_neg c195] at H
              have c195b0 : (t164 != t166) = false := by simpa using c195
              (try (have c195b1 : decide (t164 = t166) = true := by simpa using c195))
              (try (have c195b2 : (t164 == t166) = true := by simpa using c195))
              clear c195
              (first | rw [c195b0] | (simp only [i64_w, i32_w]; rw [c195b0]) | skip)
              by_cases c196 : t163.toList = t165.toList
              ·rw [if_pos c196] at H
               have c196b0 : (t163.toList == t165.toList) = true := beq_iff_eq.mpr c196
               have c196b1 : (t163.toList != t165.toList) = false := bne_eq_false_iff_eq.mpr c196
               clear c196
               by_cases c197 : (t168 != t172) = true
               ·rw [if_pos c197] at H
                have c197b0 : (t168 != t172) = true := c197
                (try (have c197b1 : decide (t168 = t172) = false := by simpa using c197))
                (try (have c197b2 : (t168 == t172) = false := by simpa using c197))
                (try (have c197b3 : ¬ (t168 = t172) := by simpa using c197))
                clear c197
                have H' := Aside0.mk H
                clear H
                go_wp2
                go_meet
                case rel => exact ⟨_, (true), (by first | rfl | (simp; done) | (simp [*]; done)), H', ⟨by have := HJ7.out; have := HJ17.out; have := HJ132.out; have := HJ151.out; first | omega | exact Nat.le_refl _⟩, ⟨by (with_reducible repeat (first | apply Kd.R_alloc | apply Kd.R_drewN | apply Kd.R_drew)); exact Kd.R_mono HO162.out (fun _ hk => trivial)⟩, ⟨by repeat (first | (with_reducible first | exact HB.out | apply below_alloc | apply pw_below_drewN | apply below_drew1) | exact HB.out)⟩⟩
               ·rw [if_neg c197] at H
                have c197b0 : (t168 != t172) = false := by simpa using c197
                (try (have c197b1 : decide (t168 = t172) = true := by simpa using c197))
                (try (have c197b2 : (t168 == t172) = true := by simpa using c197))
                clear c197
                replace H := Option.bind_eq_some_iff.mp H
                obtain ⟨t175, A1980, H⟩ := H
                replace H : (if t175 = true then ((impl_IsPattern.f kj151 t160).bind fun t176 => (if (t164 != t176) = true then (laws_FnPatterns.j5 kj151 l1 t160 t163 t164 true) else ((spec_IsPattern.f kj151 t160).bind fun t177 => (laws_FnPatterns.j5 kj151 l1 t160 t163 t164 (t164 != t177))))) else (laws_FnPatterns.j5 kj151 l1 t160 t163 t164 true)) = some r := H
                have A198 := Aside0.mk A1980
                clear A1980
                by_cases c199 : t175 = true
                ·subst c199
                 have H1 : ((impl_IsPattern.f kj151 t160).bind fun t176 => (if (t164 != t176) = true then (laws_FnPatterns.j5 kj151 l1 t160 t163 t164 true) else ((spec_IsPattern.f kj151 t160).bind fun t177 => (laws_FnPatterns.j5 kj151 l1 t160 t163 t164 (t164 != t177))))) = some r := by rw [if_pos rfl] at H; exact H
                 clear H
                 have H := H1
                 clear H1
                 replace H := Option.bind_eq_some_iff.mp H
                 obtain ⟨t176, A2000, H⟩ := H
                 replace H : (if (t164 != t176) = true then (laws_FnPatterns.j5 kj151 l1 t160 t163 t164 true) else ((spec_IsPattern.f kj151 t160).bind fun t177 => (laws_FnPatterns.j5 kj151 l1 t160 t163 t164 (t164 != t177)))) = some r := H
                 have A200 := Aside0.mk A2000
                 clear A2000
                 by_cases c201 : (t164 != t176) = true
                 ·rw [if_pos c201] at H
                  have c201b0 : (t164 != t176) = true := c201
                  (try (have c201b1 : decide (t164 = t176) = false := by simpa using c201))
                  (try (have c201b2 : (t164 == t176) = false := by simpa using c201))
                  (try (have c201b3 : ¬ (t164 = t176) := by simpa using c201))
                  clear c201
                  have H' := Aside0.mk H
                  clear H
                  obtain ⟨Ao202, co202, eo202⟩ := Kd.R_slice HO170.out
                  subst eo202
                  obtain ⟨Ao203, co203, eo203⟩ := Kd.R_slice HO174.out
                  subst eo203
                  go_wp2_with (first | (go_at_call 67; (with_reducible refine (laws_hSame.calls kj151 _ _ t167 _ _ t171 true _ ?side1 ?side2 ?side3 ?side4 A198.out).mono ?_); (case side1 => repeat (first | exact (Kd.R_reads' HO170.out).2.2 | (with_reducible refine Kd.C_alloc ?_ _) | (with_reducible refine Kd.C_drewN ?_ _) | (with_reducible refine Kd.C_drew ?_))); (case side2 => exact (Kd.R_reads' HO170.out).2.1); (case side3 => repeat (first | exact (Kd.R_reads' HO174.out).2.2 | (with_reducible refine Kd.C_alloc ?_ _) | (with_reducible refine Kd.C_drewN ?_ _) | (with_reducible refine Kd.C_drew ?_))); (case side4 => exact (Kd.R_reads' HO174.out).2.1); rintro e w' ⟨rfl, ⟨nd, rfl⟩⟩) | (go_at_call 27; (with_reducible refine (impl_IsPattern.calls kj151 _ _ t160 t176 _ ?side1 ?side2 A200.out).mono ?_); (case side1 => repeat (first | exact (Kd.R_reads' HO162.out).2.2 | (with_reducible refine Kd.C_alloc ?_ _) | (with_reducible refine Kd.C_drewN ?_ _) | (with_reducible refine Kd.C_drew ?_))); (case side2 => exact (Kd.R_reads' HO162.out).2.1); rintro e w204 ⟨rfl, hb⟩; have n0_ := Aside0.mk (Kd.R_below (by (with_reducible repeat (first | apply Kd.R_alloc | apply Kd.R_drewN | apply Kd.R_drew)); exact HO162.out) hb); have n1_ := Aside0.mk (Kd.R_below (by (with_reducible repeat (first | apply Kd.R_alloc | apply Kd.R_drewN | apply Kd.R_drew)); exact HO170.out) hb); have n2_ := Aside0.mk (Kd.R_below (by (with_reducible repeat (first | apply Kd.R_alloc | apply Kd.R_drewN | apply Kd.R_drew)); exact HO174.out) hb); have n3_ := Aside0.mk (below_step (by repeat (first | (with_reducible first | exact HB.out | apply below_alloc | apply pw_below_drewN | apply below_drew1) | exact HB.out)) hb); clear HO162; clear HO170; clear HO174; clear HB; have HO162 := n0_; have HO170 := n1_; have HO174 := n2_; have HB := n3_; clear n0_ n1_ n2_ n3_; (try clear hb); (try clear hb2); (try clear hk); (try clear hi)))
                  go_meet
                  case rel => exact ⟨_, (true), (by first | rfl | (simp; done) | (simp [*]; done)), H', ⟨by have := HJ7.out; have := HJ17.out; have := HJ132.out; have := HJ151.out; first | omega | exact Nat.le_refl _⟩, ⟨by (with_reducible repeat (first | apply Kd.R_alloc | apply Kd.R_drewN | apply Kd.R_drew)); exact Kd.R_mono HO162.out (fun _ hk => trivial)⟩, ⟨by repeat (first | (with_reducible first | exact HB.out | apply below_alloc | apply pw_below_drewN | apply below_drew1) | exact HB.out)⟩⟩
                 ·rw [if_neg c201] at H
                  have c201b0 : (t164 != t176) = false := by simpa using c201
                  (try (have c201b1 : decide (t164 = t176) = true := by simpa using c201))
                  (try (have c201b2 : (t164 == t176) = true := by simpa using c201))
                  clear c201
                  replace H := Option.bind_eq_some_iff.mp H
                  obtain ⟨t177, A2050, H⟩ := H
                  replace H : (laws_FnPatterns.j5 kj151 l1 t160 t163 t164 (t164 != t177)) = some r := H
                  have A205 := Aside0.mk A2050
                  clear A2050
                  have H' := Aside0.mk H
                  clear H
                  obtain ⟨Ao206, co206, eo206⟩ := Kd.R_slice HO170.out
                  subst eo206
                  obtain ⟨Ao207, co207, eo207⟩ := Kd.R_slice HO174.out
                  subst eo207
                  go_wp2_with (first | (go_at_call 67; (with_reducible refine (laws_hSame.calls kj151 _ _ t167 _ _ t171 true _ ?side1 ?side2 ?side3 ?side4 A198.out).mono ?_); (case side1 => repeat (first | exact (Kd.R_reads' HO170.out).2.2 | (with_reducible refine Kd.C_alloc ?_ _) | (with_reducible refine Kd.C_drewN ?_ _) | (with_reducible refine Kd.C_drew ?_))); (case side2 => exact (Kd.R_reads' HO170.out).2.1); (case side3 => repeat (first | exact (Kd.R_reads' HO174.out).2.2 | (with_reducible refine Kd.C_alloc ?_ _) | (with_reducible refine Kd.C_drewN ?_ _) | (with_reducible refine Kd.C_drew ?_))); (case side4 => exact (Kd.R_reads' HO174.out).2.1); rintro e w' ⟨rfl, ⟨nd, rfl⟩⟩) | (go_at_call 27; (with_reducible refine (impl_IsPattern.calls kj151 _ _ t160 t176 _ ?side1 ?side2 A200.out).mono ?_); (case side1 => repeat (first | exact (Kd.R_reads' HO162.out).2.2 | (with_reducible refine Kd.C_alloc ?_ _) | (with_reducible refine Kd.C_drewN ?_ _) | (with_reducible refine Kd.C_drew ?_))); (case side2 => exact (Kd.R_reads' HO162.out).2.1); rintro e w208 ⟨rfl, hb⟩; have n0_ := Aside0.mk (Kd.R_below (by (with_reducible repeat (first | apply Kd.R_alloc | apply Kd.R_drewN | apply Kd.R_drew)); exact HO162.out) hb); have n1_ := Aside0.mk (Kd.R_below (by (with_reducible repeat (first | apply Kd.R_alloc | apply Kd.R_drewN | apply Kd.R_drew)); exact HO170.out) hb); have n2_ := Aside0.mk (Kd.R_below (by (with_reducible repeat (first | apply Kd.R_alloc | apply Kd.R_drewN | apply Kd.R_drew)); exact HO174.out) hb); have n3_ := Aside0.mk (below_step (by repeat (first | (with_reducible first | exact HB.out | apply below_alloc | apply pw_below_drewN | apply below_drew1) | exact HB.out)) hb); clear HO162; clear HO170; clear HO174; clear HB; have HO162 := n0_; have HO170 := n1_; have HO174 := n2_; have HB := n3_; clear n0_ n1_ n2_ n3_; (try clear hb); (try clear hb2); (try clear hk); (try clear hi)) | (go_at_call 78; (with_reducible refine (spec_IsPattern.calls kj151 _ _ t160 t177 _ ?side1 ?side2 A205.out).mono ?_); (case side1 => repeat (first | exact (Kd.R_reads' HO162.out).2.2 | (with_reducible refine Kd.C_alloc ?_ _) | (with_reducible refine Kd.C_drewN ?_ _) | (with_reducible refine Kd.C_drew ?_))); (case side2 => exact (Kd.R_reads' HO162.out).2.1); rintro e w' ⟨rfl, ⟨nd, rfl⟩⟩))
                  go_meet
                  case rel => exact ⟨_, ((t164 != t177)), (by first | rfl | (simp; done) | (simp [*]; done)), H', ⟨by have := HJ7.out; have := HJ17.out; have := HJ132.out; have := HJ151.out; first | omega | exact Nat.le_refl _⟩, ⟨by (with_reducible repeat (first | apply Kd.R_alloc | apply Kd.R_drewN | apply Kd.R_drew)); exact Kd.R_mono HO162.out (fun _ hk => trivial)⟩, ⟨by repeat (first | (with_reducible first | exact HB.out | apply below_alloc | apply pw_below_drewN | apply below_drew1) | exact HB.out)⟩⟩
                ·replace c199 := Bool.eq_false_iff.mpr c199
                 subst c199
                 have H1 : (laws_FnPatterns.j5 kj151 l1 t160 t163 t164 true) = some r := by rw [if_neg (show ¬ (false = true) by decide)] at H; exact H
                 clear H
                 have H := H1
                 clear H1
                 have H' := Aside0.mk H
                 clear H
                 obtain ⟨Ao209, co209, eo209⟩ := Kd.R_slice HO170.out
                 subst eo209
                 obtain ⟨Ao210, co210, eo210⟩ := Kd.R_slice HO174.out
                 subst eo210
                 go_wp2_with (first | (go_at_call 67; (with_reducible refine (laws_hSame.calls kj151 _ _ t167 _ _ t171 false _ ?side1 ?side2 ?side3 ?side4 A198.out).mono ?_); (case side1 => repeat (first | exact (Kd.R_reads' HO170.out).2.2 | (with_reducible refine Kd.C_alloc ?_ _) | (with_reducible refine Kd.C_drewN ?_ _) | (with_reducible refine Kd.C_drew ?_))); (case side2 => exact (Kd.R_reads' HO170.out).2.1); (case side3 => repeat (first | exact (Kd.R_reads' HO174.out).2.2 | (with_reducible refine Kd.C_alloc ?_ _) | (with_reducible refine Kd.C_drewN ?_ _) | (with_reducible refine Kd.C_drew ?_))); (case side4 => exact (Kd.R_reads' HO174.out).2.1); rintro e w' ⟨rfl, ⟨nd, rfl⟩⟩))
                 go_meet
                 case rel => exact ⟨_, (true), (by first | rfl | (simp; done) | (simp [*]; done)), H', ⟨by have := HJ7.out; have := HJ17.out; have := HJ132.out; have := HJ151.out; first | omega | exact Nat.le_refl _⟩, ⟨by (with_reducible repeat (first | apply Kd.R_alloc | apply Kd.R_drewN | apply Kd.R_drew)); exact Kd.R_mono HO162.out (fun _ hk => trivial)⟩, ⟨by repeat (first | (with_reducible first | exact HB.out | apply below_alloc | apply pw_below_drewN | apply below_drew1) | exact HB.out)⟩⟩
              ·rw [if_neg c196] at H
               have c196b0 : (t163.toList == t165.toList) = false := beq_eq_false_iff_ne.mpr c196
               have c196b1 : (t163.toList != t165.toList) = true := bne_iff_ne.mpr c196
               have H' := Aside0.mk H
               clear H
               go_wp2
               go_meet
               case rel => exact ⟨_, (true), (by first | rfl | (simp; done) | (simp [*]; done)), H', ⟨by have := HJ7.out; have := HJ17.out; have := HJ132.out; have := HJ151.out; first | omega | exact Nat.le_refl _⟩, ⟨by (with_reducible repeat (first | apply Kd.R_alloc | apply Kd.R_drewN | apply Kd.R_drew)); exact Kd.R_mono HO162.out (fun _ hk => trivial)⟩, ⟨by repeat (first | (with_reducible first | exact HB.out | apply below_alloc | apply pw_below_drewN | apply below_drew1) | exact HB.out)⟩⟩
            case rest => as_aux_lemma =>
             clear HC189
             try clear c1
             try clear p1
             try clear q1
             try clear hx1
             try clear c2
             try clear p2
             try clear c3
             try clear c4
             try clear c5
             try clear c6
             try clear p6
             try clear c7
             try clear c12
             try clear c13
             try clear c13b0
             try clear c13b1
             try clear c13b2
             try clear c14
             try clear c15
             try clear p15
             try clear q15
             try clear hx15
             try clear c16
             try clear c17
             try clear c18
             try clear c19
             try clear c20
             try clear c25
             try clear c26
             try clear c27
             try clear c28
             try clear c29
             try clear c31
             try clear c32
             try clear c34
             try clear c35
             try clear c37
             try clear c50
             try clear c54
             try clear p64
             try clear c65
             try clear c66
             try clear c68
             try clear c69
             try clear c70
             try clear c71
             try clear c74
             try clear c75
             try clear c76
             try clear c77
             try clear c138
             try clear c138b0
             try clear c138b1
             try clear c138b2
             try clear c140
             try clear c141
             try clear c141b0
             try clear c141b1
             try clear c141b2
             try clear c144
             try clear c144b0
             try clear c144b1
             try clear c150
             try clear p150
             try clear q150
             try clear hx150
             try clear c151
             try clear c152
             try clear p152
             try clear q152
             try clear hx152
             try clear c153
             try clear c154
             try clear c154b0
             try clear c154b1
             try clear c156
             try clear c156b0
             try clear c157
             try clear c157b0
             try clear c158
             try clear c158b0
             try clear c160
             try clear c161
             try clear c161b0
             try clear c163
             try clear c163b0
             try clear c164
             try clear c164b0
             try clear c166
             try clear c195
             try clear c195b0
             try clear c195b1
             try clear c195b2
             try clear c196
             try clear c196b0
             try clear c196b1
             try clear c197
             try clear c197b0
             try clear c197b1
             try clear c197b2
             try clear c199
             try clear c201
             try clear c201b0
             try clear c201b1
             try clear c201b2
             try clear hx150_0
             try clear hx152_0
             try clear p1
             try clear p15
             try clear p150
             try clear p152
             try clear p2
             try clear p6
             try clear p64
             try clear q1
             try clear q15
             try clear q150
             try clear q152
             obtain ⟨kq, x274_188, rfl, HA, HJ188, HO_30, HB⟩ := hcut
             cases kq with
             | zero => exact absurd HA.out (by simp [laws_FnPatterns.j5])
             | succ kj188 =>
              have H := HA.out
              clear HA
              simp only [laws_FnPatterns.j5] at H
              by_cases c211 : x274_188 = true
              ·subst c211
               exact absurd ((show (some false : Option Bool) = some r from by rw [if_pos rfl] at H; exact H).trans (congrArg some HR_.out)) (by simp)
              ·replace c211 := Bool.eq_false_iff.mpr c211
               subst c211
               have H1 : (if t164 = true then ((impl_ParsePattern.f kj188 t163).bind fun bt178 => (if bt178.2 = true then ((laws_hSame.f kj188 bt178.1 t160).bind fun t182 => (if t182 = true then (laws_FnPatterns.j6 kj188 l1) else (some false))) else (some false))) else (laws_FnPatterns.j6 kj188 l1)) = some r := by rw [if_neg (show ¬ (false = true) by decide)] at H; exact H
               clear H
               have H := H1
               clear H1
               have HC212 := Aside0.mk H
               clear H
               go_upto_if 275 with (fail)
               go_cut [] (fun wc => ∃ (kq : Nat), Aside0 (laws_FnPatterns.j6 kq l1 = some r) ∧ Aside0 (kq ≤ kj188) ∧ Aside0 (Below w.heap.size w wc))
               case first => as_aux_lemma =>
                have H := HC212.out
                clear HC212
                by_cases c213 : t164 = true
                ·subst c213
                 have H1 : ((impl_ParsePattern.f kj188 t163).bind fun bt178 => (if bt178.2 = true then ((laws_hSame.f kj188 bt178.1 t160).bind fun t182 => (if t182 = true then (laws_FnPatterns.j6 kj188 l1) else (some false))) else (some false))) = some r := by rw [if_pos rfl] at H; exact H
                 clear H
                 have H := H1
                 clear H1
                 replace H := Option.bind_eq_some_iff.mp H
                 obtain ⟨⟨t178, t179⟩, A2140, H⟩ := H
                 replace H : (if t179 = true then ((laws_hSame.f kj188 t178 t160).bind fun t182 => (if t182 = true then (laws_FnPatterns.j6 kj188 l1) else (some false))) else (some false)) = some r := H
                 have A214 := Aside0.mk A2140
                 clear A2140
                 by_cases c215 : t179 = true
                 ·subst c215
                  have H1 : ((laws_hSame.f kj188 t178 t160).bind fun t182 => (if t182 = true then (laws_FnPatterns.j6 kj188 l1) else (some false))) = some r := by rw [if_pos rfl] at H; exact H
                  clear H
                  have H := H1
                  clear H1
                  replace H := Option.bind_eq_some_iff.mp H
                  obtain ⟨t182, A2160, H⟩ := H
                  replace H : (if t182 = true then (laws_FnPatterns.j6 kj188 l1) else (some false)) = some r := H
                  have A216 := Aside0.mk A2160
                  clear A2160
                  by_cases c217 : t182 = true
                  ·subst c217
                   have H1 : (laws_FnPatterns.j6 kj188 l1) = some r := by rw [if_pos rfl] at H; exact H
                   clear H
                   have H := H1
                   clear H1
                   have H' := Aside0.mk H
                   clear H
                   go_wp2_with (first | ((with_reducible refine gate_callee (f := 79) rfl ?_); refine goesL_ (some 278) rfl rfl Try.func79 (by kernel_rfl) rfl #[.string t163] rfl (by (try simp only [List.map_toArray, List.map_cons, List.map_nil]); first | done | rfl | (simp only [List.length_drop, List.length_take]; rfl)) ?_; (with_reducible refine (impl_ParsePattern.calls kj188 t163 t178 true _ A214.out).mono ?_); rintro e w218 ⟨v180, rfl, ho0, hb⟩; refine ⟨_, rfl, ?_⟩; have n0_ := Aside0.mk (Kd.R_elder' (by (with_reducible repeat (first | apply Kd.R_alloc | apply Kd.R_drewN | apply Kd.R_drew)); exact HO_30.out) (Kd.R_base ho0) hb); have n1_ := Aside0.mk (Kd.R_lower (Kd.R_new' ho0 (Kd.R_lt (by (with_reducible repeat (first | apply Kd.R_alloc | apply Kd.R_drewN | apply Kd.R_drew)); exact HO_30.out))) (below_size (by repeat (first | (with_reducible first | exact HB.out | apply below_alloc | apply pw_below_drewN | apply below_drew1) | exact HB.out)))); have n2_ := Aside0.mk (below_step (by repeat (first | (with_reducible first | exact HB.out | apply below_alloc | apply pw_below_drewN | apply below_drew1) | exact HB.out)) hb); clear HO_30; clear HB; have HO_30 := n0_; have HO181 := n1_; have HB := n2_; clear n0_ n1_ n2_; (try clear hb); (try clear hb2); (try clear hk); (try clear hi); (try clear ho0); obtain ⟨Ao219, co219, eo219⟩ := Kd.R_slice HO181.out; subst eo219) | (go_at_call 67; (with_reducible refine (laws_hSame.calls kj188 _ _ t178 _ _ t160 true _ ?side1 ?side2 ?side3 ?side4 A216.out).mono ?_); (case side1 => repeat (first | exact (Kd.R_reads' HO181.out).2.2 | (with_reducible refine Kd.C_alloc ?_ _) | (with_reducible refine Kd.C_drewN ?_ _) | (with_reducible refine Kd.C_drew ?_))); (case side2 => exact (Kd.R_reads' HO181.out).2.1); (case side3 => repeat (first | exact (Kd.R_reads' HO_30.out).2.2 | (with_reducible refine Kd.C_alloc ?_ _) | (with_reducible refine Kd.C_drewN ?_ _) | (with_reducible refine Kd.C_drew ?_))); (case side4 => exact (Kd.R_reads' HO_30.out).2.1); rintro e w' ⟨rfl, ⟨nd, rfl⟩⟩))
                   go_meet
                   case rel => exact ⟨_, H', ⟨by have := HJ7.out; have := HJ17.out; have := HJ132.out; have := HJ151.out; have := HJ188.out; first | omega | exact Nat.le_refl _⟩, ⟨by repeat (first | (with_reducible first | exact HB.out | apply below_alloc | apply pw_below_drewN | apply below_drew1) | exact HB.out)⟩⟩
                  ·replace c217 := Bool.eq_false_iff.mpr c217
                   subst c217
                   exact absurd ((show (some false : Option Bool) = some r from by rw [if_neg (show ¬ (false = true) by decide)] at H; exact H).trans (congrArg some HR_.out)) (by simp)
                 ·replace c215 := Bool.eq_false_iff.mpr c215
                  subst c215
                  exact absurd ((show (some false : Option Bool) = some r from by rw [if_neg (show ¬ (false = true) by decide)] at H; exact H).trans (congrArg some HR_.out)) (by simp)
                ·replace c213 := Bool.eq_false_iff.mpr c213
                 subst c213
                 have H1 : (laws_FnPatterns.j6 kj188 l1) = some r := by rw [if_neg (show ¬ (false = true) by decide)] at H; exact H
                 clear H
                 have H := H1
                 clear H1
                 have H' := Aside0.mk H
                 clear H
                 go_wp2
                 go_meet
                 case rel => exact ⟨_, H', ⟨by have := HJ7.out; have := HJ17.out; have := HJ132.out; have := HJ151.out; have := HJ188.out; first | omega | exact Nat.le_refl _⟩, ⟨by repeat (first | (with_reducible first | exact HB.out | apply below_alloc | apply pw_below_drewN | apply below_drew1) | exact HB.out)⟩⟩
               case rest => as_aux_lemma =>
                clear HC212
                try clear c1
                try clear p1
                try clear q1
                try clear hx1
                try clear c2
                try clear p2
                try clear c3
                try clear c4
                try clear c5
                try clear c6
                try clear p6
                try clear c7
                try clear c12
                try clear c13
                try clear c13b0
                try clear c13b1
                try clear c13b2
                try clear c14
                try clear c15
                try clear p15
                try clear q15
                try clear hx15
                try clear c16
                try clear c17
                try clear c18
                try clear c19
                try clear c20
                try clear c21
                try clear c25
                try clear c26
                try clear c27
                try clear c28
                try clear c29
                try clear c31
                try clear c32
                try clear c34
                try clear c35
                try clear c37
                try clear c50
                try clear c54
                try clear p64
                try clear c65
                try clear c66
                try clear c68
                try clear c69
                try clear c70
                try clear c71
                try clear c74
                try clear c75
                try clear c76
                try clear c77
                try clear c79
                try clear c138
                try clear c138b0
                try clear c138b1
                try clear c138b2
                try clear c140
                try clear c141
                try clear c141b0
                try clear c141b1
                try clear c141b2
                try clear c144
                try clear c144b0
                try clear c144b1
                try clear c150
                try clear p150
                try clear q150
                try clear hx150
                try clear c151
                try clear c152
                try clear p152
                try clear q152
                try clear hx152
                try clear c153
                try clear c154
                try clear c154b0
                try clear c154b1
                try clear c156
                try clear c156b0
                try clear c157
                try clear c157b0
                try clear c158
                try clear c158b0
                try clear c160
                try clear c161
                try clear c161b0
                try clear c163
                try clear c163b0
                try clear c164
                try clear c164b0
                try clear c166
                try clear c195
                try clear c195b0
                try clear c195b1
                try clear c195b2
                try clear c196
                try clear c196b0
                try clear c196b1
                try clear c197
                try clear c197b0
                try clear c197b1
                try clear c197b2
                try clear c199
                try clear c201
                try clear c201b0
                try clear c201b1
                try clear c201b2
                try clear c211
                try clear c213
                try clear c215
                try clear c217
                try clear hx150_0
                try clear hx152_0
                try clear p1
                try clear p15
                try clear p150
                try clear p152
                try clear p2
                try clear p6
                try clear p64
                try clear q1
                try clear q15
                try clear q150
                try clear q152
                obtain ⟨kq, HA, HJ211, HB⟩ := hcut
                cases kq with
                | zero => exact absurd HA.out (by simp [laws_FnPatterns.j6])
                | succ kj211 =>
                 have H := HA.out
                 clear HA
                 simp only [laws_FnPatterns.j6] at H
                 replace H := Option.bind_eq_some_iff.mp H
                 obtain ⟨t183, A2230, H⟩ := H
                 replace H : ((impl_ParsePattern.f kj211 t183).bind fun bt184 => ((spec_ParsePattern.f kj211 t183).bind fun bt188 => (if (bt184.2 != bt188.2) = true then (laws_FnPatterns.j7 kj211 t183 bt184.1 bt184.2 true) else ((laws_hSame.f kj211 bt184.1 bt188.1).bind fun t192 => (laws_FnPatterns.j7 kj211 t183 bt184.1 bt184.2 (!t192)))))) = some r := H
                 have A223 := Aside0.mk A2230
                 clear A2230
                 replace H := Option.bind_eq_some_iff.mp H
                 obtain ⟨⟨t184, t185⟩, A2240, H⟩ := H
                 replace H : ((spec_ParsePattern.f kj211 t183).bind fun bt188 => (if (t185 != bt188.2) = true then (laws_FnPatterns.j7 kj211 t183 t184 t185 true) else ((laws_hSame.f kj211 t184 bt188.1).bind fun t192 => (laws_FnPatterns.j7 kj211 t183 t184 t185 (!t192))))) = some r := H
                 have A224 := Aside0.mk A2240
                 clear A2240
                 replace H := Option.bind_eq_some_iff.mp H
                 obtain ⟨⟨t188, t189⟩, A2250, H⟩ := H
                 replace H : (if (t185 != t189) = true then (laws_FnPatterns.j7 kj211 t183 t184 t185 true) else ((laws_hSame.f kj211 t184 t188).bind fun t192 => (laws_FnPatterns.j7 kj211 t183 t184 t185 (!t192)))) = some r := H
                 have A225 := Aside0.mk A2250
                 clear A2250
                 have HC226 := Aside0.mk H
                 clear H
                 go_upto_region 45 with (first | ((with_reducible refine gate_callee (f := 80) rfl ?_); refine goesL_ (some 290) rfl rfl Try.func80 (by kernel_rfl) rfl #[.slice A1 l1.length c1] rfl (by (try simp only [List.map_toArray, List.map_cons, List.map_nil]); first | done | rfl | (simp only [List.length_drop, List.length_take]; rfl)) ?_; (with_reducible refine (spec_DrawParsePattern.calls kj211 _ _ l1 t183 _ ?side1 ?side2 A223.out).mono ?_); (case side1 => repeat (first | exact (Kd.C_below HR1.out HB.out) | (with_reducible refine Kd.C_alloc ?_ _) | (with_reducible refine Kd.C_drewN ?_ _) | (with_reducible refine Kd.C_drew ?_))); (case side2 => exact HC1.out); rintro e w227 ⟨rfl, hb⟩; refine ⟨_, rfl, ?_⟩; have n0_ := Aside0.mk (below_step (by repeat (first | (with_reducible first | exact HB.out | apply below_alloc | apply pw_below_drewN | apply below_drew1) | exact HB.out)) hb); clear HB; have HB := n0_; clear n0_; (try clear hb); (try clear hb2); (try clear hk); (try clear hi)) | ((with_reducible refine gate_callee (f := 79) rfl ?_); refine goesL_ (some 293) rfl rfl Try.func79 (by kernel_rfl) rfl #[.string t183] rfl (by (try simp only [List.map_toArray, List.map_cons, List.map_nil]); first | done | rfl | (simp only [List.length_drop, List.length_take]; rfl)) ?_; (with_reducible refine (impl_ParsePattern.calls kj211 t183 t184 t185 _ A224.out).mono ?_); rintro e w228 ⟨v186, rfl, ho0, hb⟩; refine ⟨_, rfl, ?_⟩; have n0_ := Aside0.mk (Kd.R_lower ho0 (below_size (by repeat (first | (with_reducible first | exact HB.out | apply below_alloc | apply pw_below_drewN | apply below_drew1) | exact HB.out)))); have n1_ := Aside0.mk (below_step (by repeat (first | (with_reducible first | exact HB.out | apply below_alloc | apply pw_below_drewN | apply below_drew1) | exact HB.out)) hb); clear HB; have HO187 := n0_; have HB := n1_; clear n0_ n1_; (try clear hb); (try clear hb2); (try clear hk); (try clear hi); (try clear ho0)) | ((with_reducible refine gate_callee (f := 81) rfl ?_); refine goesL_ (some 298) rfl rfl Try.func81 (by kernel_rfl) rfl #[.string t183] rfl (by (try simp only [List.map_toArray, List.map_cons, List.map_nil]); first | done | rfl | (simp only [List.length_drop, List.length_take]; rfl)) ?_; (with_reducible refine (spec_ParsePattern.calls kj211 t183 t188 t189 _ A225.out).mono ?_); rintro e w229 ⟨v190, rfl, ho0, hb⟩; refine ⟨_, rfl, ?_⟩; have n0_ := Aside0.mk (Kd.R_elder' (by (with_reducible repeat (first | apply Kd.R_alloc | apply Kd.R_drewN | apply Kd.R_drew)); exact HO187.out) (Kd.R_base ho0) hb); have n1_ := Aside0.mk (Kd.R_lower (Kd.R_new' ho0 (Kd.R_lt (by (with_reducible repeat (first | apply Kd.R_alloc | apply Kd.R_drewN | apply Kd.R_drew)); exact HO187.out))) (below_size (by repeat (first | (with_reducible first | exact HB.out | apply below_alloc | apply pw_below_drewN | apply below_drew1) | exact HB.out)))); have n2_ := Aside0.mk (below_step (by repeat (first | (with_reducible first | exact HB.out | apply below_alloc | apply pw_below_drewN | apply below_drew1) | exact HB.out)) hb); clear HO187; clear HB; have HO187 := n0_; have HO191 := n1_; have HB := n2_; clear n0_ n1_ n2_; (try clear hb); (try clear hb2); (try clear hk); (try clear hi); (try clear ho0)))
                 (try simp only [Act.put, List.setIfInBounds_toArray, List.set_cons_zero, List.set_cons_succ])
                 go_cut [309] (fun v309 wc => ∃ (kq : Nat) (x309_225 : Bool), v309 = .bool x309_225 ∧ Aside0 (laws_FnPatterns.j7 kq t183 t184 t185 x309_225 = some r) ∧ Aside0 (kq ≤ kj211) ∧ Aside0 (Kd.R (Kd.int .i64) 3 wc w.heap.size (fun _ => True) v186 t184) ∧ Aside0 (Below w.heap.size w wc))
                 case first => as_aux_lemma =>
                  have H := HC226.out
                  clear HC226
                  by_cases c230 : (t185 != t189) = true
                  ·rw [if_pos c230] at H
                   have c230b0 : (t185 != t189) = true := c230
                   (try (have c230b1 : decide (t185 = t189) = false := by simpa using c230))
                   (try (have c230b2 : (t185 == t189) = false := by simpa using c230))
                   (try (have c230b3 : ¬ (t185 = t189) := by simpa using c230))
                   clear c230
                   (first | rw [c230b0] | (simp only [i64_w, i32_w]; rw [c230b0]) | skip)
                   have H' := Aside0.mk H
                   clear H
                   go_wp2
                   go_meet
                   case rel => exact ⟨_, (true), (by first | rfl | (simp; done) | (simp [*]; done)), H', ⟨by have := HJ7.out; have := HJ17.out; have := HJ132.out; have := HJ151.out; have := HJ188.out; have := HJ211.out; first | omega | exact Nat.le_refl _⟩, ⟨by (with_reducible repeat (first | apply Kd.R_alloc | apply Kd.R_drewN | apply Kd.R_drew)); exact Kd.R_mono HO187.out (fun _ hk => trivial)⟩, ⟨by repeat (first | (with_reducible first | exact HB.out | apply below_alloc | apply pw_below_drewN | apply below_drew1) | exact HB.out)⟩⟩
                  ·rw [if_neg c230] at H
                   have c230b0 : (t185 != t189) = false := by simpa using c230
                   (try (have c230b1 : decide (t185 = t189) = true := by simpa using c230))
                   (try (have c230b2 : (t185 == t189) = true := by simpa using c230))
                   clear c230
                   (first | rw [c230b0] | (simp only [i64_w, i32_w]; rw [c230b0]) | skip)
                   replace H := Option.bind_eq_some_iff.mp H
                   obtain ⟨t192, A2310, H⟩ := H
                   replace H : (laws_FnPatterns.j7 kj211 t183 t184 t185 (!t192)) = some r := H
                   have A231 := Aside0.mk A2310
                   clear A2310
                   have H' := Aside0.mk H
                   clear H
                   obtain ⟨Ao232, co232, eo232⟩ := Kd.R_slice HO187.out
                   subst eo232
                   obtain ⟨Ao233, co233, eo233⟩ := Kd.R_slice HO191.out
                   subst eo233
                   go_wp2_with (first | (go_at_call 67; (with_reducible refine (laws_hSame.calls kj211 _ _ t184 _ _ t188 t192 _ ?side1 ?side2 ?side3 ?side4 A231.out).mono ?_); (case side1 => repeat (first | exact (Kd.R_reads' HO187.out).2.2 | (with_reducible refine Kd.C_alloc ?_ _) | (with_reducible refine Kd.C_drewN ?_ _) | (with_reducible refine Kd.C_drew ?_))); (case side2 => exact (Kd.R_reads' HO187.out).2.1); (case side3 => repeat (first | exact (Kd.R_reads' HO191.out).2.2 | (with_reducible refine Kd.C_alloc ?_ _) | (with_reducible refine Kd.C_drewN ?_ _) | (with_reducible refine Kd.C_drew ?_))); (case side4 => exact (Kd.R_reads' HO191.out).2.1); rintro e w' ⟨rfl, ⟨nd, rfl⟩⟩))
                   go_meet
                   case rel => exact ⟨_, (!t192), (by first | rfl | (simp; done) | (simp [*]; done)), H', ⟨by have := HJ7.out; have := HJ17.out; have := HJ132.out; have := HJ151.out; have := HJ188.out; have := HJ211.out; first | omega | exact Nat.le_refl _⟩, ⟨by (with_reducible repeat (first | apply Kd.R_alloc | apply Kd.R_drewN | apply Kd.R_drew)); exact Kd.R_mono HO187.out (fun _ hk => trivial)⟩, ⟨by repeat (first | (with_reducible first | exact HB.out | apply below_alloc | apply pw_below_drewN | apply below_drew1) | exact HB.out)⟩⟩
                 case rest => as_aux_lemma =>
                  clear HC226
                  try clear c1
                  try clear p1
                  try clear q1
                  try clear hx1
                  try clear c2
                  try clear p2
                  try clear c3
                  try clear c4
                  try clear c5
                  try clear c6
                  try clear p6
                  try clear c7
                  try clear c8
                  try clear c12
                  try clear c13
                  try clear c13b0
                  try clear c13b1
                  try clear c13b2
                  try clear c14
                  try clear c15
                  try clear p15
                  try clear q15
                  try clear hx15
                  try clear c16
                  try clear c17
                  try clear c18
                  try clear c19
                  try clear c20
                  try clear c21
                  try clear c23
                  try clear c25
                  try clear c26
                  try clear c27
                  try clear c28
                  try clear c29
                  try clear c31
                  try clear c32
                  try clear c34
                  try clear c35
                  try clear c37
                  try clear c50
                  try clear c54
                  try clear p64
                  try clear c65
                  try clear c66
                  try clear c68
                  try clear c69
                  try clear c70
                  try clear c71
                  try clear c74
                  try clear c75
                  try clear c76
                  try clear c77
                  try clear c79
                  try clear c80
                  try clear c81
                  try clear c138
                  try clear c138b0
                  try clear c138b1
                  try clear c138b2
                  try clear c140
                  try clear c141
                  try clear c141b0
                  try clear c141b1
                  try clear c141b2
                  try clear c144
                  try clear c144b0
                  try clear c144b1
                  try clear c150
                  try clear p150
                  try clear q150
                  try clear hx150
                  try clear c151
                  try clear c152
                  try clear p152
                  try clear q152
                  try clear hx152
                  try clear c153
                  try clear c154
                  try clear c154b0
                  try clear c154b1
                  try clear c156
                  try clear c156b0
                  try clear c157
                  try clear c157b0
                  try clear c158
                  try clear c158b0
                  try clear c160
                  try clear c161
                  try clear c161b0
                  try clear c163
                  try clear c163b0
                  try clear c164
                  try clear c164b0
                  try clear c166
                  try clear c195
                  try clear c195b0
                  try clear c195b1
                  try clear c195b2
                  try clear c196
                  try clear c196b0
                  try clear c196b1
                  try clear c197
                  try clear c197b0
                  try clear c197b1
                  try clear c197b2
                  try clear c199
                  try clear c201
                  try clear c201b0
                  try clear c201b1
                  try clear c201b2
                  try clear c211
                  try clear c213
                  try clear c215
                  try clear c217
                  try clear c230
                  try clear c230b0
                  try clear c230b1
                  try clear c230b2
                  try clear hx150_0
                  try clear hx152_0
                  try clear p1
                  try clear p15
                  try clear p150
                  try clear p152
                  try clear p2
                  try clear p6
                  try clear p64
                  try clear q1
                  try clear q15
                  try clear q150
                  try clear q152
                  obtain ⟨kq, x309_225, rfl, HA, HJ225, HO_42, HB⟩ := hcut
                  cases kq with
                  | zero => exact absurd HA.out (by simp [laws_FnPatterns.j7])
                  | succ kj225 =>
                   have H := HA.out
                   clear HA
                   simp only [laws_FnPatterns.j7] at H
                   by_cases c234 : x309_225 = true
                   ·subst c234
                    exact absurd ((show (some false : Option Bool) = some r from by rw [if_pos rfl] at H; exact H).trans (congrArg some HR_.out)) (by simp)
                   ·replace c234 := Bool.eq_false_iff.mpr c234
                    subst c234
                    have H1 : (if t185 = true then ((impl_PatternText.f kj225 t184).bind fun bt193 => (if bt193.2 = true then (some (bt193.1.toList == t183.toList)) else (some false))) else (some true)) = some r := by rw [if_neg (show ¬ (false = true) by decide)] at H; exact H
                    clear H
                    have H := H1
                    clear H1
                    by_cases c235 : t185 = true
                    ·subst c235
                     have H1 : ((impl_PatternText.f kj225 t184).bind fun bt193 => (if bt193.2 = true then (some (bt193.1.toList == t183.toList)) else (some false))) = some r := by rw [if_pos rfl] at H; exact H
                     clear H
                     have H := H1
                     clear H1
                     replace H := Option.bind_eq_some_iff.mp H
                     obtain ⟨⟨t193, t194⟩, A2360, H⟩ := H
                     replace H : (if t194 = true then (some (t193.toList == t183.toList)) else (some false)) = some r := H
                     have A236 := Aside0.mk A2360
                     clear A2360
                     by_cases c237 : t194 = true
                     ·subst c237
                      have H1 : (some (t193.toList == t183.toList)) = some r := by rw [if_pos rfl] at H; exact H
                      clear H
                      have H := H1
                      clear H1
                      obtain rfl := Option.some.inj H
                      obtain ⟨Ao238, co238, eo238⟩ := Kd.R_slice HO_42.out
                      subst eo238
                      go_wp2_with (first | ((with_reducible refine gate_callee (f := 75) rfl ?_); refine goesL_ (some 313) rfl rfl Try.func75 (by kernel_rfl) rfl #[.slice Ao238 t184.length co238] rfl (by (try simp only [List.map_toArray, List.map_cons, List.map_nil]); first | done | rfl | (simp only [List.length_drop, List.length_take]; rfl)) ?_; (with_reducible refine (impl_PatternText.calls kj225 _ _ t184 t193 true _ ?side1 ?side2 A236.out).mono ?_); (case side1 => repeat (first | exact (Kd.R_reads' HO_42.out).2.2 | (with_reducible refine Kd.C_alloc ?_ _) | (with_reducible refine Kd.C_drewN ?_ _) | (with_reducible refine Kd.C_drew ?_))); (case side2 => exact (Kd.R_reads' HO_42.out).2.1); rintro e w239 ⟨rfl, hb⟩; refine ⟨_, rfl, ?_⟩; have n0_ := Aside0.mk (Kd.R_below (by (with_reducible repeat (first | apply Kd.R_alloc | apply Kd.R_drewN | apply Kd.R_drew)); exact HO_42.out) hb); have n1_ := Aside0.mk (below_step (by repeat (first | (with_reducible first | exact HB.out | apply below_alloc | apply pw_below_drewN | apply below_drew1) | exact HB.out)) hb); clear HO_42; clear HB; have HO_42 := n0_; have HB := n1_; clear n0_ n1_; (try clear hb); (try clear hb2); (try clear hk); (try clear hi)))
                      go_ret
                      exact ⟨by first | rfl | (simp [errW_none, errW_some] <;> rfl) | (simp [*, errW_none, errW_some] <;> rfl), by repeat (first | (with_reducible first | exact HB.out | apply below_alloc | apply pw_below_drewN | apply below_drew1) | exact HB.out)⟩
                     ·replace c237 := Bool.eq_false_iff.mpr c237
                      subst c237
                      exact absurd ((show (some false : Option Bool) = some r from by rw [if_neg (show ¬ (false = true) by decide)] at H; exact H).trans (congrArg some HR_.out)) (by simp)
                    ·replace c235 := Bool.eq_false_iff.mpr c235
                     subst c235
                     have H1 : (some true) = some r := by rw [if_neg (show ¬ (false = true) by decide)] at H; exact H
                     clear H
                     have H := H1
                     clear H1
                     obtain rfl := Option.some.inj H
                     go_wp2
                     go_ret
                     exact ⟨by first | rfl | (simp [errW_none, errW_some] <;> rfl) | (simp [*, errW_none, errW_some] <;> rfl), by repeat (first | (with_reducible first | exact HB.out | apply below_alloc | apply pw_below_drewN | apply below_drew1) | exact HB.out)⟩

/-- THE ONE PURE STATEMENT of laws_FnPatterns: yours. -/

def laws_FnPatterns.Pure : Prop := ∀ (l0 : List Int) (l1 : List Int), l0.length ≤ maxLen → l0.length * 1 ≤ 140737488351232 → (∀ x ∈ l0, (Lit.int .u8 x).wf = true) → l1.length ≤ maxLen → l1.length * 1 ≤ 140737488351232 → (∀ x ∈ l1, (Lit.int .u8 x).wf = true) → ∃ k, laws_FnPatterns.f k l0 l1 = some true
theorem laws_FnPatterns.walk (P : laws_FnPatterns.Pure) (a0 : Option Addr) (len0 cap0 : Nat) (z0 : List Int) (a1 : Option Addr) (len1 cap1 : Nat) (z1 : List Int) (w : World) (w0 : (a0 = none ∧ len0 = 0 ∧ cap0 = 0 ∧ z0 = []) ∨ ∃ x, a0 = some x ∧ len0 ≤ cap0 ∧ cap0 ≤ maxLen ∧ z0.length = cap0 ∧ (∀ i, i < z0.length → w.cell? (x.add i) = some (.int .u8 (z0.getD i 0))) ∧ ∀ n ∈ z0, (Lit.int .u8 n).wf = true) (y0 : len0 * 1 ≤ 140737488351232) (w1 : (a1 = none ∧ len1 = 0 ∧ cap1 = 0 ∧ z1 = []) ∨ ∃ x, a1 = some x ∧ len1 ≤ cap1 ∧ cap1 ≤ maxLen ∧ z1.length = cap1 ∧ (∀ i, i < z1.length → w.cell? (x.add i) = some (.int .u8 (z1.getD i 0))) ∧ ∀ n ∈ z1, (Lit.int .u8 n).wf = true) (y1 : len1 * 1 ≤ 140737488351232) :
  Calls Try.prog 12 #[.slice a0 len0 cap0, .slice a1 len1 cap1] w fun e w' => e = .returned (.bool true) ∧ Below w.heap.size w w' := by
 obtain ⟨l0, rfl, hr0, hm0, hw0, hc0⟩ := ReadsInt.ofRowC w0
 obtain ⟨l1, rfl, hr1, hm1, hw1, hc1⟩ := ReadsInt.ofRowC w1
 obtain ⟨k, h⟩ := P l0 l1 hm0 y0 hw0 hm1 y1 hw1
 refine (laws_FnPatterns.calls k _ _ l0 _ _ l1 true w rfl (Kd.C_of_reads (d := (0 : Int)) (h1 := fun _ => rfl) hr0) hc0 (Kd.C_of_reads (d := (0 : Int)) (h1 := fun _ => rfl) hr1) hc1 h).mono ?_
 rintro e w' ⟨rfl, hd⟩
 exact ⟨rfl, hd⟩

end Go.Proofs.Ytchnfacedjjakaa.X
