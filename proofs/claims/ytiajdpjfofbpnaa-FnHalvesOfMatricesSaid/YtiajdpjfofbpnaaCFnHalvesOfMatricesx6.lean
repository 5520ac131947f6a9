-- Written by a program of this session (wip/xprint.py) that drives the kit's print; the contracts of what it does not take are this session's own.
import Derived.Test.YtiajdpjfofbpnaaCFnHalvesOfMatricesx0
import Derived.Test.YtiajdpjfofbpnaaCFnHalvesOfMatricesx1
import Derived.Test.YtiajdpjfofbpnaaCFnHalvesOfMatricesx3
import Derived.Test.YtiajdpjfofbpnaaCFnHalvesOfMatricesx4
import Derived.Test.YtiajdpjfofbpnaaCFnHalvesOfMatricesx5
namespace Go.Proofs.Ytiajdpjfofbpnaa.X
open Go.RowKit Go.Proofs.YtiajdpjfofbpnaaW.PrintWords Go.Proofs.YtiajdpjfofbpnaaW.PrintLast Go.Proofs.YtiajdpjfofbpnaaW.PrintMore
attribute [local go_sem] max2_int min2_int max_two min_two max_three min_three max_four min_four   -- for this text's walks alone
set_option linter.unusedVariables false
set_option linter.unusedSimpArgs false

/-! ### laws_FnHalvesOfMatrices: function 5 -/
mutual
def laws_FnHalvesOfMatrices.j0 : Nat → List Int → List (List Int) → List (List Int) → Bool → List (List Int) → Bool → List Int → Bool → Option (Bool)
 | 0, _, _, _, _, _, _, _, _ => none
 | k + 1, x1, x5, x6, x7, x10, x11, x14, x108 => if x108 = true then (some false) else (if x7 = true then ((impl_FromLeftHalf.f k x6).bind fun bt132 => (if bt132.2 = true then ((laws_uSameRows.f k bt132.1 x5).bind fun t136 => (if t136 = true then (laws_FnHalvesOfMatrices.j1 k x1 x5 x10 x11 x14 (((x5.length : Int) % 2) != 1)) else (laws_FnHalvesOfMatrices.j1 k x1 x5 x10 x11 x14 true))) else (laws_FnHalvesOfMatrices.j1 k x1 x5 x10 x11 x14 true))) else (laws_FnHalvesOfMatrices.j3 k x1 x5 x10 x11))
def laws_FnHalvesOfMatrices.j3 : Nat → List Int → List (List Int) → List (List Int) → Bool → Option (Bool)
 | 0, _, _, _, _ => none
 | k + 1, x1, x5, x10, x11 => if x11 = true then ((impl_FromUpperHalf.f k x10).bind fun bt138 => (if bt138.2 = true then ((laws_uSameRows.f k bt138.1 x5).bind fun t142 => (if t142 = true then (laws_FnHalvesOfMatrices.j4 k x1) else (some false))) else (some false))) else (laws_FnHalvesOfMatrices.j4 k x1)
def laws_FnHalvesOfMatrices.j4 : Nat → List Int → Option (Bool)
 | 0, _ => none
 | k + 1, x1 => (spec_DrawFromLeftHalf.f k x1).bind fun t143 => ((impl_FromLeftHalf.f k t143).bind fun bt146 => ((spec_FromLeftHalf.f k t143).bind fun bt150 => (if (bt146.2 != bt150.2) = true then (laws_FnHalvesOfMatrices.j5 k x1 t143 bt146.1 bt146.2 true) else ((laws_uSameRows.f k bt146.1 bt150.1).bind fun t154 => (laws_FnHalvesOfMatrices.j5 k x1 t143 bt146.1 bt146.2 (!t154))))))
def laws_FnHalvesOfMatrices.j5 : Nat → List Int → List (List Int) → List (List Int) → Bool → Bool → Option (Bool)
 | 0, _, _, _, _, _ => none
 | k + 1, x1, x24, x25, x26, x177 => if x177 = true then (some false) else (if x26 = true then ((impl_LeftHalf.f k x25).bind fun bt155 => (if bt155.2 = true then ((laws_uSameRows.f k bt155.1 x24).bind fun t159 => (if t159 = true then (laws_FnHalvesOfMatrices.j6 k x1) else (some false))) else (some false))) else (laws_FnHalvesOfMatrices.j6 k x1))
def laws_FnHalvesOfMatrices.j6 : Nat → List Int → Option (Bool)
 | 0, _ => none
 | k + 1, x1 => (spec_DrawFromUpperHalf.f k x1).bind fun t160 => ((impl_FromUpperHalf.f k t160).bind fun bt163 => ((spec_FromUpperHalf.f k t160).bind fun bt167 => (if (bt163.2 != bt167.2) = true then (laws_FnHalvesOfMatrices.j7 k t160 bt163.1 bt163.2 true) else ((laws_uSameRows.f k bt163.1 bt167.1).bind fun t171 => (laws_FnHalvesOfMatrices.j7 k t160 bt163.1 bt163.2 (!t171))))))
def laws_FnHalvesOfMatrices.j7 : Nat → List (List Int) → List (List Int) → Bool → Bool → Option (Bool)
 | 0, _, _, _, _ => none
 | k + 1, x31, x32, x33, x212 => if x212 = true then (some false) else (if x33 = true then ((impl_UpperHalf.f k x32).bind fun bt172 => (if bt172.2 = true then ((laws_uSameRows.f k bt172.1 x31).bind fun t176 => (some t176)) else (some false))) else (some true))
def laws_FnHalvesOfMatrices.j1 : Nat → List Int → List (List Int) → List (List Int) → Bool → List Int → Bool → Option (Bool)
 | 0, _, _, _, _, _, _ => none
 | k + 1, x1, x5, x10, x11, x14, x128 => if x128 = true then (some false) else (laws_FnHalvesOfMatrices.l0 k x1 x5 x10 x11 x14 (x14.length : Int) 0)
def laws_FnHalvesOfMatrices.l0 : Nat → List Int → List (List Int) → List (List Int) → Bool → List Int → Int → Int → Option (Bool)
 | 0, _, _, _, _, _, _, _ => none
 | k + 1, x1, x5, x10, x11, x129, x130, x131 => if x131 < x130 then (if 0 ≤ x131 then (if x131 < (x129.length : Int) then (if (rd x129 x131) = (wrap64 (1 - (wrap64 (2 * (Int.tmod x131 2))))) then (laws_FnHalvesOfMatrices.l0 k x1 x5 x10 x11 x129 x130 (wrap64 (x131 + 1))) else (some false)) else (none)) else (none)) else (laws_FnHalvesOfMatrices.j3 k x1 x5 x10 x11)
end
def laws_FnHalvesOfMatrices.f (k : Nat) (l0 : List Int) (l1 : List Int) : Option (Bool) := (laws_big.f l0 l1).bind fun t101 => (if t101 = true then (some true) else ((spec_DrawLeftHalf.f k l0).bind fun t102 => ((impl_LeftHalf.f k t102).bind fun bt105 => ((spec_LeftHalf.f k t102).bind fun bt109 => ((impl_UpperHalf.f k t102).bind fun bt113 => ((spec_UpperHalf.f k t102).bind fun bt117 => ((impl_MiddleOf.f k t102).bind fun bt121 => ((spec_MiddleOf.f k t102).bind fun bt125 => (if (bt105.2 != bt109.2) = true then (laws_FnHalvesOfMatrices.j0 k l1 t102 bt105.1 bt105.2 bt113.1 bt113.2 bt121.1 true) else ((laws_uSameRows.f k bt105.1 bt109.1).bind fun t129 => (if t129 = true then (if (bt113.2 != bt117.2) = true then (laws_FnHalvesOfMatrices.j0 k l1 t102 bt105.1 bt105.2 bt113.1 bt113.2 bt121.1 true) else ((laws_uSameRows.f k bt113.1 bt117.1).bind fun t130 => (if t130 = true then (if (bt121.2 != bt125.2) = true then (laws_FnHalvesOfMatrices.j0 k l1 t102 bt105.1 bt105.2 bt113.1 bt113.2 bt121.1 true) else ((laws_uSame.f k bt121.1 bt125.1).bind fun t131 => (if t131 = true then (laws_FnHalvesOfMatrices.j0 k l1 t102 bt105.1 bt105.2 bt113.1 bt113.2 bt121.1 (bt121.2 != bt105.2)) else (laws_FnHalvesOfMatrices.j0 k l1 t102 bt105.1 bt105.2 bt113.1 bt113.2 bt121.1 true)))) else (laws_FnHalvesOfMatrices.j0 k l1 t102 bt105.1 bt105.2 bt113.1 bt113.2 bt121.1 true)))) else (laws_FnHalvesOfMatrices.j0 k l1 t102 bt105.1 bt105.2 bt113.1 bt113.2 bt121.1 true))))))))))))
set_option maxHeartbeats 8000000 in
set_option maxRecDepth 100000 in
theorem laws_FnHalvesOfMatrices.calls (k : Nat) (A0 : Option Addr) (c0 : Nat) (l0 : List Int) (A1 : Option Addr) (c1 : Nat) (l1 : List Int) (r : Bool) (w : World) (hr_ : r = true) (hr0 : Kd.C (Kd.int .u8) w A0 l0.length l0) (hc0 : l0.length ≤ c0) (hr1 : Kd.C (Kd.int .u8) w A1 l1.length l1) (hc1 : l1.length ≤ c1) (h : laws_FnHalvesOfMatrices.f k l0 l1 = some r) :
  Calls Try.prog 5 #[.slice A0 l0.length c0, .slice A1 l1.length c1] w fun e w' => e = .returned (.bool r) ∧ Below w.heap.size w w' := by
 have HR_ := am_ hr_
 clear hr_
 have HR0 := am_ hr0
 have HC0 := am_ hc0
 clear hr0 hc0
 have HR1 := am_ hr1
 have HC1 := am_ hc1
 clear hr1 hc1
 have HB := am_ (Below.refl w.heap.size w)
 have H : ((laws_big.f l0 l1).bind fun t101 => (if t101 = true then (some true) else ((spec_DrawLeftHalf.f k l0).bind fun t102 => ((impl_LeftHalf.f k t102).bind fun bt105 => ((spec_LeftHalf.f k t102).bind fun bt109 => ((impl_UpperHalf.f k t102).bind fun bt113 => ((spec_UpperHalf.f k t102).bind fun bt117 => ((impl_MiddleOf.f k t102).bind fun bt121 => ((spec_MiddleOf.f k t102).bind fun bt125 => (if (bt105.2 != bt109.2) = true then (laws_FnHalvesOfMatrices.j0 k l1 t102 bt105.1 bt105.2 bt113.1 bt113.2 bt121.1 true) else ((laws_uSameRows.f k bt105.1 bt109.1).bind fun t129 => (if t129 = true then (if (bt113.2 != bt117.2) = true then (laws_FnHalvesOfMatrices.j0 k l1 t102 bt105.1 bt105.2 bt113.1 bt113.2 bt121.1 true) else ((laws_uSameRows.f k bt113.1 bt117.1).bind fun t130 => (if t130 = true then (if (bt121.2 != bt125.2) = true then (laws_FnHalvesOfMatrices.j0 k l1 t102 bt105.1 bt105.2 bt113.1 bt113.2 bt121.1 true) else ((laws_uSame.f k bt121.1 bt125.1).bind fun t131 => (if t131 = true then (laws_FnHalvesOfMatrices.j0 k l1 t102 bt105.1 bt105.2 bt113.1 bt113.2 bt121.1 (bt121.2 != bt105.2)) else (laws_FnHalvesOfMatrices.j0 k l1 t102 bt105.1 bt105.2 bt113.1 bt113.2 bt121.1 true)))) else (laws_FnHalvesOfMatrices.j0 k l1 t102 bt105.1 bt105.2 bt113.1 bt113.2 bt121.1 true)))) else (laws_FnHalvesOfMatrices.j0 k l1 t102 bt105.1 bt105.2 bt113.1 bt113.2 bt121.1 true))))))))))))) = some r := h
 clear h
 replace H := Option.bind_eq_some_iff.mp H
 obtain ⟨t101, A30, H⟩ := H
 replace H : (if t101 = true then (some true) else ((spec_DrawLeftHalf.f k l0).bind fun t102 => ((impl_LeftHalf.f k t102).bind fun bt105 => ((spec_LeftHalf.f k t102).bind fun bt109 => ((impl_UpperHalf.f k t102).bind fun bt113 => ((spec_UpperHalf.f k t102).bind fun bt117 => ((impl_MiddleOf.f k t102).bind fun bt121 => ((spec_MiddleOf.f k t102).bind fun bt125 => (if (bt105.2 != bt109.2) = true then (laws_FnHalvesOfMatrices.j0 k l1 t102 bt105.1 bt105.2 bt113.1 bt113.2 bt121.1 true) else ((laws_uSameRows.f k bt105.1 bt109.1).bind fun t129 => (if t129 = true then (if (bt113.2 != bt117.2) = true then (laws_FnHalvesOfMatrices.j0 k l1 t102 bt105.1 bt105.2 bt113.1 bt113.2 bt121.1 true) else ((laws_uSameRows.f k bt113.1 bt117.1).bind fun t130 => (if t130 = true then (if (bt121.2 != bt125.2) = true then (laws_FnHalvesOfMatrices.j0 k l1 t102 bt105.1 bt105.2 bt113.1 bt113.2 bt121.1 true) else ((laws_uSame.f k bt121.1 bt125.1).bind fun t131 => (if t131 = true then (laws_FnHalvesOfMatrices.j0 k l1 t102 bt105.1 bt105.2 bt113.1 bt113.2 bt121.1 (bt121.2 != bt105.2)) else (laws_FnHalvesOfMatrices.j0 k l1 t102 bt105.1 bt105.2 bt113.1 bt113.2 bt121.1 true)))) else (laws_FnHalvesOfMatrices.j0 k l1 t102 bt105.1 bt105.2 bt113.1 bt113.2 bt121.1 true)))) else (laws_FnHalvesOfMatrices.j0 k l1 t102 bt105.1 bt105.2 bt113.1 bt113.2 bt121.1 true)))))))))))) = some r := H
 have A3 := am_ A30
 clear A30
 by_cases c4 : t101 = true
 ·subst c4
  have H1 : (some true) = some r := by rw [if_pos rfl] at H; exact H
  clear H
  have H := H1
  clear H1
  obtain rfl := Option.some.inj H
  go_enter Try.func5, Try.ntmps5
  go_wp2_with (first | ((with_reducible refine gate_callee (f := 6) rfl ?_); refine goesL_ (some 40) rfl rfl Try.func6 (by kernel_rfl) rfl #[.slice A0 l0.length c0, .slice A1 l1.length c1] rfl tc1_ ?_; (with_reducible refine (laws_big.calls _ _ l0 _ _ l1 true _ ?side1 ?side2 ?side3 ?side4 A3.out).mono ?_); (case side1 => exact tc12_); (case side2 => exact HC0.out); (case side3 => exact tc51_); (case side4 => exact HC1.out); rintro e w' ⟨rfl, ⟨nd, rfl⟩⟩; refine ⟨_, rfl, ?_⟩))
  go_ret
  exact ⟨by first | rfl | (simp [errW_none, errW_some] <;> rfl) | (simp [*, errW_none, errW_some] <;> rfl), by repeat (first | (with_reducible first | exact HB.out | apply below_alloc | apply pw_below_drewN | apply below_drew1) | exact HB.out)⟩
 ·replace c4 := Bool.eq_false_iff.mpr c4
  subst c4
  have H1 : ((spec_DrawLeftHalf.f k l0).bind fun t102 => ((impl_LeftHalf.f k t102).bind fun bt105 => ((spec_LeftHalf.f k t102).bind fun bt109 => ((impl_UpperHalf.f k t102).bind fun bt113 => ((spec_UpperHalf.f k t102).bind fun bt117 => ((impl_MiddleOf.f k t102).bind fun bt121 => ((spec_MiddleOf.f k t102).bind fun bt125 => (if (bt105.2 != bt109.2) = true then (laws_FnHalvesOfMatrices.j0 k l1 t102 bt105.1 bt105.2 bt113.1 bt113.2 bt121.1 true) else ((laws_uSameRows.f k bt105.1 bt109.1).bind fun t129 => (if t129 = true then (if (bt113.2 != bt117.2) = true then (laws_FnHalvesOfMatrices.j0 k l1 t102 bt105.1 bt105.2 bt113.1 bt113.2 bt121.1 true) else ((laws_uSameRows.f k bt113.1 bt117.1).bind fun t130 => (if t130 = true then (if (bt121.2 != bt125.2) = true then (laws_FnHalvesOfMatrices.j0 k l1 t102 bt105.1 bt105.2 bt113.1 bt113.2 bt121.1 true) else ((laws_uSame.f k bt121.1 bt125.1).bind fun t131 => (if t131 = true then (laws_FnHalvesOfMatrices.j0 k l1 t102 bt105.1 bt105.2 bt113.1 bt113.2 bt121.1 (bt121.2 != bt105.2)) else (laws_FnHalvesOfMatrices.j0 k l1 t102 bt105.1 bt105.2 bt113.1 bt113.2 bt121.1 true)))) else (laws_FnHalvesOfMatrices.j0 k l1 t102 bt105.1 bt105.2 bt113.1 bt113.2 bt121.1 true)))) else (laws_FnHalvesOfMatrices.j0 k l1 t102 bt105.1 bt105.2 bt113.1 bt113.2 bt121.1 true))))))))))) = some r := by rw [if_neg (show ¬ (false = true) by decide)] at H; exact H
  clear H
  have H := H1
  clear H1
  replace H := Option.bind_eq_some_iff.mp H
  obtain ⟨t102, A50, H⟩ := H
  replace H : ((impl_LeftHalf.f k t102).bind fun bt105 => ((spec_LeftHalf.f k t102).bind fun bt109 => ((impl_UpperHalf.f k t102).bind fun bt113 => ((spec_UpperHalf.f k t102).bind fun bt117 => ((impl_MiddleOf.f k t102).bind fun bt121 => ((spec_MiddleOf.f k t102).bind fun bt125 => (if (bt105.2 != bt109.2) = true then (laws_FnHalvesOfMatrices.j0 k l1 t102 bt105.1 bt105.2 bt113.1 bt113.2 bt121.1 true) else ((laws_uSameRows.f k bt105.1 bt109.1).bind fun t129 => (if t129 = true then (if (bt113.2 != bt117.2) = true then (laws_FnHalvesOfMatrices.j0 k l1 t102 bt105.1 bt105.2 bt113.1 bt113.2 bt121.1 true) else ((laws_uSameRows.f k bt113.1 bt117.1).bind fun t130 => (if t130 = true then (if (bt121.2 != bt125.2) = true then (laws_FnHalvesOfMatrices.j0 k l1 t102 bt105.1 bt105.2 bt113.1 bt113.2 bt121.1 true) else ((laws_uSame.f k bt121.1 bt125.1).bind fun t131 => (if t131 = true then (laws_FnHalvesOfMatrices.j0 k l1 t102 bt105.1 bt105.2 bt113.1 bt113.2 bt121.1 (bt121.2 != bt105.2)) else (laws_FnHalvesOfMatrices.j0 k l1 t102 bt105.1 bt105.2 bt113.1 bt113.2 bt121.1 true)))) else (laws_FnHalvesOfMatrices.j0 k l1 t102 bt105.1 bt105.2 bt113.1 bt113.2 bt121.1 true)))) else (laws_FnHalvesOfMatrices.j0 k l1 t102 bt105.1 bt105.2 bt113.1 bt113.2 bt121.1 true)))))))))) = some r := H
  have A5 := am_ A50
  clear A50
  replace H := Option.bind_eq_some_iff.mp H
  obtain ⟨⟨t105, t106⟩, A60, H⟩ := H
  replace H : ((spec_LeftHalf.f k t102).bind fun bt109 => ((impl_UpperHalf.f k t102).bind fun bt113 => ((spec_UpperHalf.f k t102).bind fun bt117 => ((impl_MiddleOf.f k t102).bind fun bt121 => ((spec_MiddleOf.f k t102).bind fun bt125 => (if (t106 != bt109.2) = true then (laws_FnHalvesOfMatrices.j0 k l1 t102 t105 t106 bt113.1 bt113.2 bt121.1 true) else ((laws_uSameRows.f k t105 bt109.1).bind fun t129 => (if t129 = true then (if (bt113.2 != bt117.2) = true then (laws_FnHalvesOfMatrices.j0 k l1 t102 t105 t106 bt113.1 bt113.2 bt121.1 true) else ((laws_uSameRows.f k bt113.1 bt117.1).bind fun t130 => (if t130 = true then (if (bt121.2 != bt125.2) = true then (laws_FnHalvesOfMatrices.j0 k l1 t102 t105 t106 bt113.1 bt113.2 bt121.1 true) else ((laws_uSame.f k bt121.1 bt125.1).bind fun t131 => (if t131 = true then (laws_FnHalvesOfMatrices.j0 k l1 t102 t105 t106 bt113.1 bt113.2 bt121.1 (bt121.2 != t106)) else (laws_FnHalvesOfMatrices.j0 k l1 t102 t105 t106 bt113.1 bt113.2 bt121.1 true)))) else (laws_FnHalvesOfMatrices.j0 k l1 t102 t105 t106 bt113.1 bt113.2 bt121.1 true)))) else (laws_FnHalvesOfMatrices.j0 k l1 t102 t105 t106 bt113.1 bt113.2 bt121.1 true))))))))) = some r := H
  have A6 := am_ A60
  clear A60
  replace H := Option.bind_eq_some_iff.mp H
  obtain ⟨⟨t109, t110⟩, A70, H⟩ := H
  replace H : ((impl_UpperHalf.f k t102).bind fun bt113 => ((spec_UpperHalf.f k t102).bind fun bt117 => ((impl_MiddleOf.f k t102).bind fun bt121 => ((spec_MiddleOf.f k t102).bind fun bt125 => (if (t106 != t110) = true then (laws_FnHalvesOfMatrices.j0 k l1 t102 t105 t106 bt113.1 bt113.2 bt121.1 true) else ((laws_uSameRows.f k t105 t109).bind fun t129 => (if t129 = true then (if (bt113.2 != bt117.2) = true then (laws_FnHalvesOfMatrices.j0 k l1 t102 t105 t106 bt113.1 bt113.2 bt121.1 true) else ((laws_uSameRows.f k bt113.1 bt117.1).bind fun t130 => (if t130 = true then (if (bt121.2 != bt125.2) = true then (laws_FnHalvesOfMatrices.j0 k l1 t102 t105 t106 bt113.1 bt113.2 bt121.1 true) else ((laws_uSame.f k bt121.1 bt125.1).bind fun t131 => (if t131 = true then (laws_FnHalvesOfMatrices.j0 k l1 t102 t105 t106 bt113.1 bt113.2 bt121.1 (bt121.2 != t106)) else (laws_FnHalvesOfMatrices.j0 k l1 t102 t105 t106 bt113.1 bt113.2 bt121.1 true)))) else (laws_FnHalvesOfMatrices.j0 k l1 t102 t105 t106 bt113.1 bt113.2 bt121.1 true)))) else (laws_FnHalvesOfMatrices.j0 k l1 t102 t105 t106 bt113.1 bt113.2 bt121.1 true)))))))) = some r := H
  have A7 := am_ A70
  clear A70
  replace H := Option.bind_eq_some_iff.mp H
  obtain ⟨⟨t113, t114⟩, A80, H⟩ := H
  replace H : ((spec_UpperHalf.f k t102).bind fun bt117 => ((impl_MiddleOf.f k t102).bind fun bt121 => ((spec_MiddleOf.f k t102).bind fun bt125 => (if (t106 != t110) = true then (laws_FnHalvesOfMatrices.j0 k l1 t102 t105 t106 t113 t114 bt121.1 true) else ((laws_uSameRows.f k t105 t109).bind fun t129 => (if t129 = true then (if (t114 != bt117.2) = true then (laws_FnHalvesOfMatrices.j0 k l1 t102 t105 t106 t113 t114 bt121.1 true) else ((laws_uSameRows.f k t113 bt117.1).bind fun t130 => (if t130 = true then (if (bt121.2 != bt125.2) = true then (laws_FnHalvesOfMatrices.j0 k l1 t102 t105 t106 t113 t114 bt121.1 true) else ((laws_uSame.f k bt121.1 bt125.1).bind fun t131 => (if t131 = true then (laws_FnHalvesOfMatrices.j0 k l1 t102 t105 t106 t113 t114 bt121.1 (bt121.2 != t106)) else (laws_FnHalvesOfMatrices.j0 k l1 t102 t105 t106 t113 t114 bt121.1 true)))) else (laws_FnHalvesOfMatrices.j0 k l1 t102 t105 t106 t113 t114 bt121.1 true)))) else (laws_FnHalvesOfMatrices.j0 k l1 t102 t105 t106 t113 t114 bt121.1 true))))))) = some r := H
  have A8 := am_ A80
  clear A80
  replace H := Option.bind_eq_some_iff.mp H
  obtain ⟨⟨t117, t118⟩, A90, H⟩ := H
  replace H : ((impl_MiddleOf.f k t102).bind fun bt121 => ((spec_MiddleOf.f k t102).bind fun bt125 => (if (t106 != t110) = true then (laws_FnHalvesOfMatrices.j0 k l1 t102 t105 t106 t113 t114 bt121.1 true) else ((laws_uSameRows.f k t105 t109).bind fun t129 => (if t129 = true then (if (t114 != t118) = true then (laws_FnHalvesOfMatrices.j0 k l1 t102 t105 t106 t113 t114 bt121.1 true) else ((laws_uSameRows.f k t113 t117).bind fun t130 => (if t130 = true then (if (bt121.2 != bt125.2) = true then (laws_FnHalvesOfMatrices.j0 k l1 t102 t105 t106 t113 t114 bt121.1 true) else ((laws_uSame.f k bt121.1 bt125.1).bind fun t131 => (if t131 = true then (laws_FnHalvesOfMatrices.j0 k l1 t102 t105 t106 t113 t114 bt121.1 (bt121.2 != t106)) else (laws_FnHalvesOfMatrices.j0 k l1 t102 t105 t106 t113 t114 bt121.1 true)))) else (laws_FnHalvesOfMatrices.j0 k l1 t102 t105 t106 t113 t114 bt121.1 true)))) else (laws_FnHalvesOfMatrices.j0 k l1 t102 t105 t106 t113 t114 bt121.1 true)))))) = some r := H
  have A9 := am_ A90
  clear A90
  replace H := Option.bind_eq_some_iff.mp H
  obtain ⟨⟨t121, t122⟩, A100, H⟩ := H
  replace H : ((spec_MiddleOf.f k t102).bind fun bt125 => (if (t106 != t110) = true then (laws_FnHalvesOfMatrices.j0 k l1 t102 t105 t106 t113 t114 t121 true) else ((laws_uSameRows.f k t105 t109).bind fun t129 => (if t129 = true then (if (t114 != t118) = true then (laws_FnHalvesOfMatrices.j0 k l1 t102 t105 t106 t113 t114 t121 true) else ((laws_uSameRows.f k t113 t117).bind fun t130 => (if t130 = true then (if (t122 != bt125.2) = true then (laws_FnHalvesOfMatrices.j0 k l1 t102 t105 t106 t113 t114 t121 true) else ((laws_uSame.f k t121 bt125.1).bind fun t131 => (if t131 = true then (laws_FnHalvesOfMatrices.j0 k l1 t102 t105 t106 t113 t114 t121 (t122 != t106)) else (laws_FnHalvesOfMatrices.j0 k l1 t102 t105 t106 t113 t114 t121 true)))) else (laws_FnHalvesOfMatrices.j0 k l1 t102 t105 t106 t113 t114 t121 true)))) else (laws_FnHalvesOfMatrices.j0 k l1 t102 t105 t106 t113 t114 t121 true))))) = some r := H
  have A10 := am_ A100
  clear A100
  replace H := Option.bind_eq_some_iff.mp H
  obtain ⟨⟨t125, t126⟩, A110, H⟩ := H
  replace H : (if (t106 != t110) = true then (laws_FnHalvesOfMatrices.j0 k l1 t102 t105 t106 t113 t114 t121 true) else ((laws_uSameRows.f k t105 t109).bind fun t129 => (if t129 = true then (if (t114 != t118) = true then (laws_FnHalvesOfMatrices.j0 k l1 t102 t105 t106 t113 t114 t121 true) else ((laws_uSameRows.f k t113 t117).bind fun t130 => (if t130 = true then (if (t122 != t126) = true then (laws_FnHalvesOfMatrices.j0 k l1 t102 t105 t106 t113 t114 t121 true) else ((laws_uSame.f k t121 t125).bind fun t131 => (if t131 = true then (laws_FnHalvesOfMatrices.j0 k l1 t102 t105 t106 t113 t114 t121 (t122 != t106)) else (laws_FnHalvesOfMatrices.j0 k l1 t102 t105 t106 t113 t114 t121 true)))) else (laws_FnHalvesOfMatrices.j0 k l1 t102 t105 t106 t113 t114 t121 true)))) else (laws_FnHalvesOfMatrices.j0 k l1 t102 t105 t106 t113 t114 t121 true)))) = some r := H
  have A11 := am_ A110
  clear A110
  have HC12 := am_ H
  clear H
  go_enter Try.func5, Try.ntmps5
  go_upto_region 10 with (first | ((with_reducible refine gate_callee (f := 6) rfl ?_); refine goesL_ (some 40) rfl rfl Try.func6 (by kernel_rfl) rfl #[.slice A0 l0.length c0, .slice A1 l1.length c1] rfl tc1_ ?_; (with_reducible refine (laws_big.calls _ _ l0 _ _ l1 false _ ?side1 ?side2 ?side3 ?side4 A3.out).mono ?_); (case side1 => exact tc12_); (case side2 => exact HC0.out); (case side3 => exact tc51_); (case side4 => exact HC1.out); rintro e w' ⟨rfl, ⟨nd, rfl⟩⟩; refine ⟨_, rfl, ?_⟩) | ((with_reducible refine gate_callee (f := 35) rfl ?_); refine goesL_ (some 42) rfl rfl Try.func35 (by kernel_rfl) rfl #[.slice A0 l0.length c0] rfl tc1_ ?_; (with_reducible refine (spec_DrawLeftHalf.calls k _ _ l0 t102 _ ?side1 ?side2 A5.out).mono ?_); (case side1 => exact tc12_); (case side2 => exact HC0.out); rintro e w13 ⟨v103, rfl, ho0, hb⟩; refine ⟨_, rfl, ?_⟩; have n0_ := am_ (Kd.N_lower (Kd.N_mono (ok' := fun k_ => True) ho0 (fun k_ hk_ => trivial)) (below_size tc0_)); have n1_ := am_ (below_step tc0_ hb); clear HB; have HO104 := n0_; have HB := n1_; clear n0_ n1_; (try clear hb ho0); obtain ⟨Ao14, co14, eo14⟩ := Kd.N_slice HO104.out; subst eo14) | ((with_reducible refine gate_callee (f := 36) rfl ?_); refine goesL_ (some 45) rfl rfl Try.func36 (by kernel_rfl) rfl #[.slice Ao14 t102.length co14] rfl tc1_ ?_; (with_reducible refine (impl_LeftHalf.calls k _ _ t102 t105 t106 _ ?side1 ?side2 A6.out).mono ?_); (case side1 => exact tc21_); (case side2 => exact tc71_); rintro e w15 ⟨v107, rfl, ho0, hb⟩; refine ⟨_, rfl, ?_⟩; have n0_ := am_ (Kd.N_elder' tc16_ (Kd.S_base ho0) hb); have n1_ := am_ (Kd.N_lower (Kd.N_mono (ok' := fun k_ => some k_ ≠ (.slice Ao14 t102.length co14 : Value).ownBlock) (Kd.S_N (Kd.S_bound ho0)) (fun k_ hk_ => (Kd.fresh' (Kd.N_lt tc16_) k_ hk_.2.1))) (below_size tc0_)); have n2_ := am_ (below_step tc0_ hb); clear HO104 HB; have HO104 := n0_; have HO108 := n1_; have HB := n2_; clear n0_ n1_ n2_; (try clear hb ho0)) | ((with_reducible refine gate_callee (f := 37) rfl ?_); refine goesL_ (some 50) rfl rfl Try.func37 (by kernel_rfl) rfl #[.slice Ao14 t102.length co14] rfl tc1_ ?_; (with_reducible refine (spec_LeftHalf.calls k _ _ t102 t109 t110 _ ?side1 ?side2 A7.out).mono ?_); (case side1 => exact tc21_); (case side2 => exact tc71_); rintro e w16 ⟨v111, rfl, ho0, hb⟩; refine ⟨_, rfl, ?_⟩; have n0_ := am_ (Kd.N_elder' tc16_ (Kd.S_base ho0) hb); have n1_ := am_ (Kd.N_elder' tc42_ (Kd.S_base ho0) hb); have n2_ := am_ (Kd.N_lower (Kd.N_mono (ok' := fun k_ => some k_ ≠ (.slice Ao14 t102.length co14 : Value).ownBlock ∧ some k_ ≠ (v107 : Value).ownBlock) (Kd.S_N (Kd.S_bound ho0)) (fun k_ hk_ => ⟨(Kd.fresh' (Kd.N_lt tc16_) k_ hk_.2.1), (Kd.fresh' (Kd.N_lt tc42_) k_ hk_.2.1)⟩)) (below_size tc0_)); have n3_ := am_ (below_step tc0_ hb); clear HO104 HO108 HB; have HO104 := n0_; have HO108 := n1_; have HO112 := n2_; have HB := n3_; clear n0_ n1_ n2_ n3_; (try clear hb ho0)) | ((with_reducible refine gate_callee (f := 38) rfl ?_); refine goesL_ (some 55) rfl rfl Try.func38 (by kernel_rfl) rfl #[.slice Ao14 t102.length co14] rfl tc1_ ?_; (with_reducible refine (impl_UpperHalf.calls k _ _ t102 t113 t114 _ ?side1 ?side2 A8.out).mono ?_); (case side1 => exact tc21_); (case side2 => exact tc71_); rintro e w17 ⟨v115, rfl, ho0, hb⟩; refine ⟨_, rfl, ?_⟩; have n0_ := am_ (Kd.N_elder' tc16_ (Kd.S_base ho0) hb); have n1_ := am_ (Kd.N_elder' tc42_ (Kd.S_base ho0) hb); have n2_ := am_ (Kd.N_elder' tc50_ (Kd.S_base ho0) hb); have n3_ := am_ (Kd.N_lower (Kd.N_mono (ok' := fun k_ => some k_ ≠ (.slice Ao14 t102.length co14 : Value).ownBlock ∧ some k_ ≠ (v107 : Value).ownBlock ∧ some k_ ≠ (v111 : Value).ownBlock) (Kd.S_N (Kd.S_bound ho0)) (fun k_ hk_ => ⟨(Kd.fresh' (Kd.N_lt tc16_) k_ hk_.2.1), (Kd.fresh' (Kd.N_lt tc42_) k_ hk_.2.1), (Kd.fresh' (Kd.N_lt tc50_) k_ hk_.2.1)⟩)) (below_size tc0_)); have n4_ := am_ (below_step tc0_ hb); clear HO104 HO108; clear HO112 HB; have HO104 := n0_; have HO108 := n1_; have HO112 := n2_; have HO116 := n3_; have HB := n4_; clear n0_ n1_ n2_ n3_ n4_; (try clear hb ho0)) | ((with_reducible refine gate_callee (f := 39) rfl ?_); refine goesL_ (some 60) rfl rfl Try.func39 (by kernel_rfl) rfl #[.slice Ao14 t102.length co14] rfl tc1_ ?_; (with_reducible refine (spec_UpperHalf.calls k _ _ t102 t117 t118 _ ?side1 ?side2 A9.out).mono ?_); (case side1 => exact tc21_); (case side2 => exact tc71_); rintro e w18 ⟨v119, rfl, ho0, hb⟩; refine ⟨_, rfl, ?_⟩; have n0_ := am_ (Kd.N_elder' tc16_ (Kd.S_base ho0) hb); have n1_ := am_ (Kd.N_elder' tc42_ (Kd.S_base ho0) hb); have n2_ := am_ (Kd.N_elder' tc50_ (Kd.S_base ho0) hb); have n3_ := am_ (Kd.N_elder' tc65_ (Kd.S_base ho0) hb); have n4_ := am_ (Kd.N_lower (Kd.N_mono (ok' := fun k_ => some k_ ≠ (.slice Ao14 t102.length co14 : Value).ownBlock ∧ some k_ ≠ (v107 : Value).ownBlock ∧ some k_ ≠ (v111 : Value).ownBlock ∧ some k_ ≠ (v115 : Value).ownBlock) (Kd.S_N (Kd.S_bound ho0)) (fun k_ hk_ => ⟨(Kd.fresh' (Kd.N_lt tc16_) k_ hk_.2.1), (Kd.fresh' (Kd.N_lt tc42_) k_ hk_.2.1), (Kd.fresh' (Kd.N_lt tc50_) k_ hk_.2.1), (Kd.fresh' (Kd.N_lt tc65_) k_ hk_.2.1)⟩)) (below_size tc0_)); have n5_ := am_ (below_step tc0_ hb); clear HO104 HO108; clear HO112 HO116 HB; have HO104 := n0_; have HO108 := n1_; have HO112 := n2_; have HO116 := n3_; have HO120 := n4_; have HB := n5_; clear n0_ n1_ n2_ n3_ n4_ n5_; (try clear hb ho0)) | ((with_reducible refine gate_callee (f := 40) rfl ?_); refine goesL_ (some 65) rfl rfl Try.func40 (by kernel_rfl) rfl #[.slice Ao14 t102.length co14] rfl tc1_ ?_; (with_reducible refine (impl_MiddleOf.calls k _ _ t102 t121 t122 _ ?side1 ?side2 A10.out).mono ?_); (case side1 => exact tc21_); (case side2 => exact tc71_); rintro e w19 ⟨v123, rfl, ho0, hb⟩; refine ⟨_, rfl, ?_⟩; have n0_ := am_ (Kd.N_elder' tc16_ (Kd.R_base ho0) hb); have n1_ := am_ (Kd.N_elder' tc42_ (Kd.R_base ho0) hb); have n2_ := am_ (Kd.N_elder' tc50_ (Kd.R_base ho0) hb); have n3_ := am_ (Kd.N_elder' tc65_ (Kd.R_base ho0) hb); have n4_ := am_ (Kd.N_elder' (by (with_reducible repeat (first | apply Kd.N_alloc | apply Kd.N_drewN | apply Kd.N_drew)); exact HO120.out) (Kd.R_base ho0) hb); have n5_ := am_ (Kd.R_lower ho0 (below_size tc0_)); have n6_ := am_ (below_step tc0_ hb); clear HO104 HO108; clear HO112 HO116; clear HO120 HB; have HO104 := n0_; have HO108 := n1_; have HO112 := n2_; have HO116 := n3_; have HO120 := n4_; have HO124 := n5_; have HB := n6_; clear n0_ n1_ n2_ n3_ n4_ n5_ n6_; (try clear hb ho0)) | ((with_reducible refine gate_callee (f := 41) rfl ?_); refine goesL_ (some 70) rfl rfl Try.func41 (by kernel_rfl) rfl #[.slice Ao14 t102.length co14] rfl tc1_ ?_; (with_reducible refine (spec_MiddleOf.calls k _ _ t102 t125 t126 _ ?side1 ?side2 A11.out).mono ?_); (case side1 => exact tc21_); (case side2 => exact tc71_); rintro e w20 ⟨v127, rfl, ho0, hb⟩; refine ⟨_, rfl, ?_⟩; have n0_ := am_ (Kd.N_elder' tc16_ (Kd.R_base ho0) hb); have n1_ := am_ (Kd.N_elder' tc42_ (Kd.R_base ho0) hb); have n2_ := am_ (Kd.N_elder' tc50_ (Kd.R_base ho0) hb); have n3_ := am_ (Kd.N_elder' tc65_ (Kd.R_base ho0) hb); have n4_ := am_ (Kd.N_elder' (by (with_reducible repeat (first | apply Kd.N_alloc | apply Kd.N_drewN | apply Kd.N_drew)); exact HO120.out) (Kd.R_base ho0) hb); have n5_ := am_ (Kd.R_elder' (by (with_reducible repeat (first | apply Kd.R_alloc | apply Kd.R_drewN | apply Kd.R_drew)); exact HO124.out) (Kd.R_base ho0) hb); have n6_ := am_ (Kd.R_lower (Kd.R_new' ho0 (Kd.R_lt (by (with_reducible repeat (first | apply Kd.R_alloc | apply Kd.R_drewN | apply Kd.R_drew)); exact HO124.out))) (below_size tc0_)); have n7_ := am_ (below_step tc0_ hb); clear HO104 HO108; clear HO112 HO116; clear HO120 HO124 HB; have HO104 := n0_; have HO108 := n1_; have HO112 := n2_; have HO116 := n3_; have HO120 := n4_; have HO124 := n5_; have HO128 := n6_; have HB := n7_; clear n0_ n1_ n2_ n3_ n4_ n5_ n6_ n7_; (try clear hb ho0)))
  (try simp only [Act.put, List.setIfInBounds_toArray, List.set_cons_zero, List.set_cons_succ])
  go_cut [108] (fun v108 wc => ∃ (kq : Nat) (x108_11 : Bool), v108 = .bool x108_11 ∧ Aside0 (laws_FnHalvesOfMatrices.j0 kq l1 t102 t105 t106 t113 t114 t121 x108_11 = some r) ∧ Aside0 (kq ≤ k) ∧ Aside0 (Kd.N (Kd.slice 3 (Kd.int .i64)) 24 wc w.heap.size (fun k_ => some k_ ≠ (v107 : Value).ownBlock ∧ some k_ ≠ (v115 : Value).ownBlock ∧ some k_ ≠ (v123 : Value).ownBlock) (.slice Ao14 t102.length co14) t102) ∧ Aside0 (Kd.N (Kd.slice 3 (Kd.int .i64)) 24 wc w.heap.size (fun k_ => some k_ ≠ ((.slice Ao14 t102.length co14) : Value).ownBlock ∧ some k_ ≠ (v115 : Value).ownBlock ∧ some k_ ≠ (v123 : Value).ownBlock) v107 t105) ∧ Aside0 (Kd.N (Kd.slice 3 (Kd.int .i64)) 24 wc w.heap.size (fun k_ => some k_ ≠ ((.slice Ao14 t102.length co14) : Value).ownBlock ∧ some k_ ≠ (v107 : Value).ownBlock ∧ some k_ ≠ (v123 : Value).ownBlock) v115 t113) ∧ Aside0 (Kd.R (Kd.int .i64) 3 wc w.heap.size (fun _ => True) v123 t121) ∧ Aside0 (Below w.heap.size w wc))
  case first => as_aux_lemma =>
   have H := HC12.out
   clear HC12
   by_cases c21 : (t106 != t110) = true
   ·rw [if_pos c21] at H
    have c21b0 : (t106 != t110) = true := c21
    (try (have c21b1 : decide (t106 = t110) = false := by simpa using c21))
    (try (have c21b2 : (t106 == t110) = false := by simpa using c21))
    (try (have c21b3 : ¬ (t106 = t110) := by simpa using c21))
    clear c21
    (first | rw [c21b0] | (simp only [i64_w, i32_w]; rw [c21b0]) | skip)
    have H' := am_ H
    clear H
    go_wp2
    go_meet
    case rel => exact ⟨_, (true), tc9_, H', ⟨by first | omega | exact Nat.le_refl _⟩, ⟨by (with_reducible repeat (first | apply Kd.N_alloc | apply Kd.N_drewN | apply Kd.N_drew)); exact Kd.N_mono HO104.out (fun _ hk => ⟨hk.1.1.1.1.1.2, ⟨hk.1.1.1.2, hk.1.2⟩⟩)⟩, ⟨by (with_reducible repeat (first | apply Kd.N_alloc | apply Kd.N_drewN | apply Kd.N_drew)); exact Kd.N_mono HO108.out (fun _ hk => ⟨hk.1.1.1.1.1, ⟨hk.1.1.1.2, hk.1.2⟩⟩)⟩, ⟨by (with_reducible repeat (first | apply Kd.N_alloc | apply Kd.N_drewN | apply Kd.N_drew)); exact Kd.N_mono HO116.out (fun _ hk => ⟨hk.1.1.1.1, ⟨hk.1.1.1.2.1, hk.1.2⟩⟩)⟩, ⟨by (with_reducible repeat (first | apply Kd.R_alloc | apply Kd.R_drewN | apply Kd.R_drew)); exact Kd.R_mono HO124.out (fun _ hk => trivial)⟩, ⟨by repeat (first | (with_reducible first | exact HB.out | apply below_alloc | apply pw_below_drewN | apply below_drew1) | exact HB.out)⟩⟩
   ·rw [if_neg c21] at H
    have c21b0 : (t106 != t110) = false := by simpa using c21
    (try (have c21b1 : decide (t106 = t110) = true := by simpa using c21))
    (try (have c21b2 : (t106 == t110) = true := by simpa using c21))
    clear c21
    (first | rw [c21b0] | (simp only [i64_w, i32_w]; rw [c21b0]) | skip)
    replace H := Option.bind_eq_some_iff.mp H
    obtain ⟨t129, A220, H⟩ := H
    replace H : (if t129 = true then (if (t114 != t118) = true then (laws_FnHalvesOfMatrices.j0 k l1 t102 t105 t106 t113 t114 t121 true) else ((laws_uSameRows.f k t113 t117).bind fun t130 => (if t130 = true then (if (t122 != t126) = true then (laws_FnHalvesOfMatrices.j0 k l1 t102 t105 t106 t113 t114 t121 true) else ((laws_uSame.f k t121 t125).bind fun t131 => (if t131 = true then (laws_FnHalvesOfMatrices.j0 k l1 t102 t105 t106 t113 t114 t121 (t122 != t106)) else (laws_FnHalvesOfMatrices.j0 k l1 t102 t105 t106 t113 t114 t121 true)))) else (laws_FnHalvesOfMatrices.j0 k l1 t102 t105 t106 t113 t114 t121 true)))) else (laws_FnHalvesOfMatrices.j0 k l1 t102 t105 t106 t113 t114 t121 true)) = some r := H
    have A22 := am_ A220
    clear A220
    by_cases c23 : t129 = true
    ·subst c23
     have H1 : (if (t114 != t118) = true then (laws_FnHalvesOfMatrices.j0 k l1 t102 t105 t106 t113 t114 t121 true) else ((laws_uSameRows.f k t113 t117).bind fun t130 => (if t130 = true then (if (t122 != t126) = true then (laws_FnHalvesOfMatrices.j0 k l1 t102 t105 t106 t113 t114 t121 true) else ((laws_uSame.f k t121 t125).bind fun t131 => (if t131 = true then (laws_FnHalvesOfMatrices.j0 k l1 t102 t105 t106 t113 t114 t121 (t122 != t106)) else (laws_FnHalvesOfMatrices.j0 k l1 t102 t105 t106 t113 t114 t121 true)))) else (laws_FnHalvesOfMatrices.j0 k l1 t102 t105 t106 t113 t114 t121 true)))) = some r := by rw [if_pos rfl] at H; exact H
     clear H
     have H := H1
     clear H1
     by_cases c24 : (t114 != t118) = true
     ·rw [if_pos c24] at H
      have c24b0 : (t114 != t118) = true := c24
      (try (have c24b1 : decide (t114 = t118) = false := by simpa using c24))
      (try (have c24b2 : (t114 == t118) = false := by simpa using c24))
      (try (have c24b3 : ¬ (t114 = t118) := by simpa using c24))
      clear c24
      have H' := am_ H
      clear H
      obtain ⟨Ao25, co25, eo25⟩ := Kd.N_slice HO108.out
      subst eo25
      obtain ⟨Ao26, co26, eo26⟩ := Kd.N_slice HO112.out
      subst eo26
      go_wp2_with (first | (go_at_call 42; (with_reducible refine (laws_uSameRows.calls k _ _ t105 _ _ t109 true _ ?side1 ?side2 ?side3 ?side4 A22.out).mono ?_); (case side1 => exact tc32_); (case side2 => exact (Kd.N_reads' HO108.out).2.1); (case side3 => exact tc30_); (case side4 => exact (Kd.N_reads' HO112.out).2.1); rintro e w' ⟨rfl, ⟨nd, rfl⟩⟩))
      go_meet
      case rel => exact ⟨_, (true), tc9_, H', ⟨by first | omega | exact Nat.le_refl _⟩, ⟨by (with_reducible repeat (first | apply Kd.N_alloc | apply Kd.N_drewN | apply Kd.N_drew)); exact Kd.N_mono HO104.out (fun _ hk => ⟨hk.1.1.1.1.1.2, ⟨hk.1.1.1.2, hk.1.2⟩⟩)⟩, ⟨by (with_reducible repeat (first | apply Kd.N_alloc | apply Kd.N_drewN | apply Kd.N_drew)); exact Kd.N_mono HO108.out (fun _ hk => ⟨hk.1.1.1.1.1, ⟨hk.1.1.1.2, hk.1.2⟩⟩)⟩, ⟨by (with_reducible repeat (first | apply Kd.N_alloc | apply Kd.N_drewN | apply Kd.N_drew)); exact Kd.N_mono HO116.out (fun _ hk => ⟨hk.1.1.1.1, ⟨hk.1.1.1.2.1, hk.1.2⟩⟩)⟩, ⟨by (with_reducible repeat (first | apply Kd.R_alloc | apply Kd.R_drewN | apply Kd.R_drew)); exact Kd.R_mono HO124.out (fun _ hk => trivial)⟩, ⟨by repeat (first | (with_reducible first | exact HB.out | apply below_alloc | apply pw_below_drewN | apply below_drew1) | exact HB.out)⟩⟩
     ·rw [if_neg c24] at H
      have c24b0 : (t114 != t118) = false := by simpa using c24
      (try (have c24b1 : decide (t114 = t118) = true := by simpa using c24))
      (try (have c24b2 : (t114 == t118) = true := by simpa using c24))
      clear c24
      replace H := Option.bind_eq_some_iff.mp H
      obtain ⟨t130, A270, H⟩ := H
      replace H : (if t130 = true then (if (t122 != t126) = true then (laws_FnHalvesOfMatrices.j0 k l1 t102 t105 t106 t113 t114 t121 true) else ((laws_uSame.f k t121 t125).bind fun t131 => (if t131 = true then (laws_FnHalvesOfMatrices.j0 k l1 t102 t105 t106 t113 t114 t121 (t122 != t106)) else (laws_FnHalvesOfMatrices.j0 k l1 t102 t105 t106 t113 t114 t121 true)))) else (laws_FnHalvesOfMatrices.j0 k l1 t102 t105 t106 t113 t114 t121 true)) = some r := H
      have A27 := am_ A270
      clear A270
      by_cases c28 : t130 = true
      ·subst c28
       have H1 : (if (t122 != t126) = true then (laws_FnHalvesOfMatrices.j0 k l1 t102 t105 t106 t113 t114 t121 true) else ((laws_uSame.f k t121 t125).bind fun t131 => (if t131 = true then (laws_FnHalvesOfMatrices.j0 k l1 t102 t105 t106 t113 t114 t121 (t122 != t106)) else (laws_FnHalvesOfMatrices.j0 k l1 t102 t105 t106 t113 t114 t121 true)))) = some r := by rw [if_pos rfl] at H; exact H
       clear H
       have H := H1
       clear H1
       by_cases c29 : (t122 != t126) = true
       ·rw [if_pos c29] at H
        have c29b0 : (t122 != t126) = true := c29
        (try (have c29b1 : decide (t122 = t126) = false := by simpa using c29))
        (try (have c29b2 : (t122 == t126) = false := by simpa using c29))
        (try (have c29b3 : ¬ (t122 = t126) := by simpa using c29))
        clear c29
        have H' := am_ H
        clear H
        obtain ⟨Ao30, co30, eo30⟩ := Kd.N_slice HO108.out
        subst eo30
        obtain ⟨Ao31, co31, eo31⟩ := Kd.N_slice HO112.out
        subst eo31
        go_wp2_with (first | (go_at_call 42; (with_reducible refine (laws_uSameRows.calls k _ _ t105 _ _ t109 true _ ?side1 ?side2 ?side3 ?side4 A22.out).mono ?_); (case side1 => exact tc32_); (case side2 => exact (Kd.N_reads' HO108.out).2.1); (case side3 => exact tc30_); (case side4 => exact (Kd.N_reads' HO112.out).2.1); rintro e w' ⟨rfl, ⟨nd, rfl⟩⟩; obtain ⟨Ao32, co32, eo32⟩ := Kd.N_slice HO116.out; subst eo32; obtain ⟨Ao33, co33, eo33⟩ := Kd.N_slice HO120.out; subst eo33) | (go_at_call 42; (with_reducible refine (laws_uSameRows.calls k _ _ t113 _ _ t117 true _ ?side1 ?side2 ?side3 ?side4 A27.out).mono ?_); (case side1 => exact tc48_); (case side2 => exact (Kd.N_reads' HO116.out).2.1); (case side3 => exact tc49_); (case side4 => exact (Kd.N_reads' HO120.out).2.1); rintro e w' ⟨rfl, ⟨nd, rfl⟩⟩))
        go_meet
        case rel => exact ⟨_, (true), tc9_, H', ⟨by first | omega | exact Nat.le_refl _⟩, ⟨by (with_reducible repeat (first | apply Kd.N_alloc | apply Kd.N_drewN | apply Kd.N_drew)); exact Kd.N_mono HO104.out (fun _ hk => ⟨hk.1.1.1.1.1.2, ⟨hk.1.1.1.2, hk.1.2⟩⟩)⟩, ⟨by (with_reducible repeat (first | apply Kd.N_alloc | apply Kd.N_drewN | apply Kd.N_drew)); exact Kd.N_mono HO108.out (fun _ hk => ⟨hk.1.1.1.1.1, ⟨hk.1.1.1.2, hk.1.2⟩⟩)⟩, ⟨by (with_reducible repeat (first | apply Kd.N_alloc | apply Kd.N_drewN | apply Kd.N_drew)); exact Kd.N_mono HO116.out (fun _ hk => ⟨hk.1.1.1.1, ⟨hk.1.1.1.2.1, hk.1.2⟩⟩)⟩, ⟨by (with_reducible repeat (first | apply Kd.R_alloc | apply Kd.R_drewN | apply Kd.R_drew)); exact Kd.R_mono HO124.out (fun _ hk => trivial)⟩, ⟨by repeat (first | (with_reducible first | exact HB.out | apply below_alloc | apply pw_below_drewN | apply below_drew1) | exact HB.out)⟩⟩
       ·rw [if_neg c29] at H
        have c29b0 : (t122 != t126) = false := by simpa using c29
        (try (have c29b1 : decide (t122 = t126) = true := by simpa using c29))
        (try (have c29b2 : (t122 == t126) = true := by simpa using c29))
        clear c29
        replace H := Option.bind_eq_some_iff.mp H
        obtain ⟨t131, A340, H⟩ := H
        replace H : (if t131 = true then (laws_FnHalvesOfMatrices.j0 k l1 t102 t105 t106 t113 t114 t121 (t122 != t106)) else (laws_FnHalvesOfMatrices.j0 k l1 t102 t105 t106 t113 t114 t121 true)) = some r := H
        have A34 := am_ A340
        clear A340
        by_cases c35 : t131 = true
        ·subst c35
         have H1 : (laws_FnHalvesOfMatrices.j0 k l1 t102 t105 t106 t113 t114 t121 (t122 != t106)) = some r := by rw [if_pos rfl] at H; exact H
         clear H
         have H := H1
         clear H1
         have H' := am_ H
         clear H
         obtain ⟨Ao36, co36, eo36⟩ := Kd.N_slice HO108.out
         subst eo36
         obtain ⟨Ao37, co37, eo37⟩ := Kd.N_slice HO112.out
         subst eo37
         go_wp2_with (first | (go_at_call 42; (with_reducible refine (laws_uSameRows.calls k _ _ t105 _ _ t109 true _ ?side1 ?side2 ?side3 ?side4 A22.out).mono ?_); (case side1 => exact tc32_); (case side2 => exact (Kd.N_reads' HO108.out).2.1); (case side3 => exact tc30_); (case side4 => exact (Kd.N_reads' HO112.out).2.1); rintro e w' ⟨rfl, ⟨nd, rfl⟩⟩; obtain ⟨Ao38, co38, eo38⟩ := Kd.N_slice HO116.out; subst eo38; obtain ⟨Ao39, co39, eo39⟩ := Kd.N_slice HO120.out; subst eo39) | (go_at_call 42; (with_reducible refine (laws_uSameRows.calls k _ _ t113 _ _ t117 true _ ?side1 ?side2 ?side3 ?side4 A27.out).mono ?_); (case side1 => exact tc48_); (case side2 => exact (Kd.N_reads' HO116.out).2.1); (case side3 => exact tc49_); (case side4 => exact (Kd.N_reads' HO120.out).2.1); rintro e w' ⟨rfl, ⟨nd, rfl⟩⟩; obtain ⟨Ao40, co40, eo40⟩ := Kd.R_slice HO124.out; subst eo40; obtain ⟨Ao41, co41, eo41⟩ := Kd.R_slice HO128.out; subst eo41) | (go_at_call 43; (with_reducible refine (laws_uSame.calls k _ _ t121 _ _ t125 true _ ?side1 ?side2 ?side3 ?side4 A34.out).mono ?_); (case side1 => repeat (first | exact (Kd.R_reads' HO124.out).2.2 | (with_reducible refine Kd.C_alloc ?_ _) | (with_reducible refine Kd.C_drewN ?_ _) | (with_reducible refine Kd.C_drew ?_))); (case side2 => exact (Kd.R_reads' HO124.out).2.1); (case side3 => repeat (first | exact (Kd.R_reads' HO128.out).2.2 | (with_reducible refine Kd.C_alloc ?_ _) | (with_reducible refine Kd.C_drewN ?_ _) | (with_reducible refine Kd.C_drew ?_))); (case side4 => exact (Kd.R_reads' HO128.out).2.1); rintro e w' ⟨rfl, ⟨nd, rfl⟩⟩))
         go_meet
         case rel => exact ⟨_, ((t122 != t106)), tc9_, H', ⟨by first | omega | exact Nat.le_refl _⟩, ⟨by (with_reducible repeat (first | apply Kd.N_alloc | apply Kd.N_drewN | apply Kd.N_drew)); exact Kd.N_mono HO104.out (fun _ hk => ⟨hk.1.1.1.1.1.2, ⟨hk.1.1.1.2, hk.1.2⟩⟩)⟩, ⟨by (with_reducible repeat (first | apply Kd.N_alloc | apply Kd.N_drewN | apply Kd.N_drew)); exact Kd.N_mono HO108.out (fun _ hk => ⟨hk.1.1.1.1.1, ⟨hk.1.1.1.2, hk.1.2⟩⟩)⟩, ⟨by (with_reducible repeat (first | apply Kd.N_alloc | apply Kd.N_drewN | apply Kd.N_drew)); exact Kd.N_mono HO116.out (fun _ hk => ⟨hk.1.1.1.1, ⟨hk.1.1.1.2.1, hk.1.2⟩⟩)⟩, ⟨by (with_reducible repeat (first | apply Kd.R_alloc | apply Kd.R_drewN | apply Kd.R_drew)); exact Kd.R_mono HO124.out (fun _ hk => trivial)⟩, ⟨by repeat (first | (with_reducible first | exact HB.out | apply below_alloc | apply pw_below_drewN | apply below_drew1) | exact HB.out)⟩⟩
        ·replace c35 := Bool.eq_false_iff.mpr c35
         subst c35
         have H1 : (laws_FnHalvesOfMatrices.j0 k l1 t102 t105 t106 t113 t114 t121 true) = some r := by rw [if_neg (show ¬ (false = true) by decide)] at H; exact H
         clear H
         have H := H1
         clear H1
         have H' := am_ H
         clear H
         obtain ⟨Ao42, co42, eo42⟩ := Kd.N_slice HO108.out
         subst eo42
         obtain ⟨Ao43, co43, eo43⟩ := Kd.N_slice HO112.out
         subst eo43
         go_wp2_with (first | (go_at_call 42; (with_reducible refine (laws_uSameRows.calls k _ _ t105 _ _ t109 true _ ?side1 ?side2 ?side3 ?side4 A22.out).mono ?_); (case side1 => exact tc32_); (case side2 => exact (Kd.N_reads' HO108.out).2.1); (case side3 => exact tc30_); (case side4 => exact (Kd.N_reads' HO112.out).2.1); rintro e w' ⟨rfl, ⟨nd, rfl⟩⟩; obtain ⟨Ao44, co44, eo44⟩ := Kd.N_slice HO116.out; subst eo44; obtain ⟨Ao45, co45, eo45⟩ := Kd.N_slice HO120.out; subst eo45) | (go_at_call 42; (with_reducible refine (laws_uSameRows.calls k _ _ t113 _ _ t117 true _ ?side1 ?side2 ?side3 ?side4 A27.out).mono ?_); (case side1 => exact tc48_); (case side2 => exact (Kd.N_reads' HO116.out).2.1); (case side3 => exact tc49_); (case side4 => exact (Kd.N_reads' HO120.out).2.1); rintro e w' ⟨rfl, ⟨nd, rfl⟩⟩; obtain ⟨Ao46, co46, eo46⟩ := Kd.R_slice HO124.out; subst eo46; obtain ⟨Ao47, co47, eo47⟩ := Kd.R_slice HO128.out; subst eo47) | (go_at_call 43; (with_reducible refine (laws_uSame.calls k _ _ t121 _ _ t125 false _ ?side1 ?side2 ?side3 ?side4 A34.out).mono ?_); (case side1 => repeat (first | exact (Kd.R_reads' HO124.out).2.2 | (with_reducible refine Kd.C_alloc ?_ _) | (with_reducible refine Kd.C_drewN ?_ _) | (with_reducible refine Kd.C_drew ?_))); (case side2 => exact (Kd.R_reads' HO124.out).2.1); (case side3 => repeat (first | exact (Kd.R_reads' HO128.out).2.2 | (with_reducible refine Kd.C_alloc ?_ _) | (with_reducible refine Kd.C_drewN ?_ _) | (with_reducible refine Kd.C_drew ?_))); (case side4 => exact (Kd.R_reads' HO128.out).2.1); rintro e w' ⟨rfl, ⟨nd, rfl⟩⟩))
         go_meet
         case rel => exact ⟨_, (true), tc9_, H', ⟨by first | omega | exact Nat.le_refl _⟩, ⟨by (with_reducible repeat (first | apply Kd.N_alloc | apply Kd.N_drewN | apply Kd.N_drew)); exact Kd.N_mono HO104.out (fun _ hk => ⟨hk.1.1.1.1.1.2, ⟨hk.1.1.1.2, hk.1.2⟩⟩)⟩, ⟨by (with_reducible repeat (first | apply Kd.N_alloc | apply Kd.N_drewN | apply Kd.N_drew)); exact Kd.N_mono HO108.out (fun _ hk => ⟨hk.1.1.1.1.1, ⟨hk.1.1.1.2, hk.1.2⟩⟩)⟩, ⟨by (with_reducible repeat (first | apply Kd.N_alloc | apply Kd.N_drewN | apply Kd.N_drew)); exact Kd.N_mono HO116.out (fun _ hk => ⟨hk.1.1.1.1, ⟨hk.1.1.1.2.1, hk.1.2⟩⟩)⟩, ⟨by (with_reducible repeat (first | apply Kd.R_alloc | apply Kd.R_drewN | apply Kd.R_drew)); exact Kd.R_mono HO124.out (fun _ hk => trivial)⟩, ⟨by repeat (first | (with_reducible first | exact HB.out | apply below_alloc | apply pw_below_drewN | apply below_drew1) | exact HB.out)⟩⟩
      ·replace c28 := Bool.eq_false_iff.mpr c28
       subst c28
       have H1 : (laws_FnHalvesOfMatrices.j0 k l1 t102 t105 t106 t113 t114 t121 true) = some r := by rw [if_neg (show ¬ (false = true) by decide)] at H; exact H
       clear H
       have H := H1
       clear H1
       have H' := am_ H
       clear H
       obtain ⟨Ao48, co48, eo48⟩ := Kd.N_slice HO108.out
       subst eo48
       obtain ⟨Ao49, co49, eo49⟩ := Kd.N_slice HO112.out
       subst eo49
       go_wp2_with (first | (go_at_call 42; (with_reducible refine (laws_uSameRows.calls k _ _ t105 _ _ t109 true _ ?side1 ?side2 ?side3 ?side4 A22.out).mono ?_); (case side1 => exact tc32_); (case side2 => exact (Kd.N_reads' HO108.out).2.1); (case side3 => exact tc30_); (case side4 => exact (Kd.N_reads' HO112.out).2.1); rintro e w' ⟨rfl, ⟨nd, rfl⟩⟩; obtain ⟨Ao50, co50, eo50⟩ := Kd.N_slice HO116.out; subst eo50; obtain ⟨Ao51, co51, eo51⟩ := Kd.N_slice HO120.out; subst eo51) | (go_at_call 42; (with_reducible refine (laws_uSameRows.calls k _ _ t113 _ _ t117 false _ ?side1 ?side2 ?side3 ?side4 A27.out).mono ?_); (case side1 => exact tc48_); (case side2 => exact (Kd.N_reads' HO116.out).2.1); (case side3 => exact tc49_); (case side4 => exact (Kd.N_reads' HO120.out).2.1); rintro e w' ⟨rfl, ⟨nd, rfl⟩⟩))
       go_meet
       case rel => exact ⟨_, (true), tc9_, H', ⟨by first | omega | exact Nat.le_refl _⟩, ⟨by (with_reducible repeat (first | apply Kd.N_alloc | apply Kd.N_drewN | apply Kd.N_drew)); exact Kd.N_mono HO104.out (fun _ hk => ⟨hk.1.1.1.1.1.2, ⟨hk.1.1.1.2, hk.1.2⟩⟩)⟩, ⟨by (with_reducible repeat (first | apply Kd.N_alloc | apply Kd.N_drewN | apply Kd.N_drew)); exact Kd.N_mono HO108.out (fun _ hk => ⟨hk.1.1.1.1.1, ⟨hk.1.1.1.2, hk.1.2⟩⟩)⟩, ⟨by (with_reducible repeat (first | apply Kd.N_alloc | apply Kd.N_drewN | apply Kd.N_drew)); exact Kd.N_mono HO116.out (fun _ hk => ⟨hk.1.1.1.1, ⟨hk.1.1.1.2.1, hk.1.2⟩⟩)⟩, ⟨by (with_reducible repeat (first | apply Kd.R_alloc | apply Kd.R_drewN | apply Kd.R_drew)); exact Kd.R_mono HO124.out (fun _ hk => trivial)⟩, ⟨by repeat (first | (with_reducible first | exact HB.out | apply below_alloc | apply pw_below_drewN | apply below_drew1) | exact HB.out)⟩⟩
    ·replace c23 := Bool.eq_false_iff.mpr c23
     subst c23
     have H1 : (laws_FnHalvesOfMatrices.j0 k l1 t102 t105 t106 t113 t114 t121 true) = some r := by rw [if_neg (show ¬ (false = true) by decide)] at H; exact H
     clear H
     have H := H1
     clear H1
     have H' := am_ H
     clear H
     obtain ⟨Ao52, co52, eo52⟩ := Kd.N_slice HO108.out
     subst eo52
     obtain ⟨Ao53, co53, eo53⟩ := Kd.N_slice HO112.out
     subst eo53
     go_wp2_with (first | (go_at_call 42; (with_reducible refine (laws_uSameRows.calls k _ _ t105 _ _ t109 false _ ?side1 ?side2 ?side3 ?side4 A22.out).mono ?_); (case side1 => exact tc32_); (case side2 => exact (Kd.N_reads' HO108.out).2.1); (case side3 => exact tc30_); (case side4 => exact (Kd.N_reads' HO112.out).2.1); rintro e w' ⟨rfl, ⟨nd, rfl⟩⟩))
     go_meet
     case rel => exact ⟨_, (true), tc9_, H', ⟨by first | omega | exact Nat.le_refl _⟩, ⟨by (with_reducible repeat (first | apply Kd.N_alloc | apply Kd.N_drewN | apply Kd.N_drew)); exact Kd.N_mono HO104.out (fun _ hk => ⟨hk.1.1.1.1.1.2, ⟨hk.1.1.1.2, hk.1.2⟩⟩)⟩, ⟨by (with_reducible repeat (first | apply Kd.N_alloc | apply Kd.N_drewN | apply Kd.N_drew)); exact Kd.N_mono HO108.out (fun _ hk => ⟨hk.1.1.1.1.1, ⟨hk.1.1.1.2, hk.1.2⟩⟩)⟩, ⟨by (with_reducible repeat (first | apply Kd.N_alloc | apply Kd.N_drewN | apply Kd.N_drew)); exact Kd.N_mono HO116.out (fun _ hk => ⟨hk.1.1.1.1, ⟨hk.1.1.1.2.1, hk.1.2⟩⟩)⟩, ⟨by (with_reducible repeat (first | apply Kd.R_alloc | apply Kd.R_drewN | apply Kd.R_drew)); exact Kd.R_mono HO124.out (fun _ hk => trivial)⟩, ⟨by repeat (first | (with_reducible first | exact HB.out | apply below_alloc | apply pw_below_drewN | apply below_drew1) | exact HB.out)⟩⟩
  case rest => as_aux_lemma =>
   clear HC12
   try clear c1
   try clear c2
   try clear p2
   try clear c3
   try clear c4
   try clear c5
   try clear c6
   try clear c21
   try clear c21b0
   try clear c21b1
   try clear c21b2
   try clear c23
   try clear c24
   try clear c24b0
   try clear c24b1
   try clear c24b2
   try clear c28
   try clear c29
   try clear c29b0
   try clear c29b1
   try clear c29b2
   try clear c35
   try clear c36
   try clear c37
   try clear c38
   try clear c39
   try clear c40
   try clear c41
   obtain ⟨kq, x108_11, rfl, HA, HJ11, HO_5, HO_6, HO_10, HO_14, HB⟩ := hcut
   cases kq with
   | zero => exact absurd HA.out (by simp [laws_FnHalvesOfMatrices.j0])
   | succ kj11 =>
    have H := HA.out
    clear HA
    simp only [laws_FnHalvesOfMatrices.j0] at H
    by_cases c54 : x108_11 = true
    ·subst c54
     exact absurd ((show (some false : Option Bool) = some r from (by rw [if_pos rfl] at H; exact H)).trans (congrArg some HR_.out)) (by simp)
    ·replace c54 := Bool.eq_false_iff.mpr c54
     subst c54
     have H1 : (if t106 = true then ((impl_FromLeftHalf.f kj11 t105).bind fun bt132 => (if bt132.2 = true then ((laws_uSameRows.f kj11 bt132.1 t102).bind fun t136 => (if t136 = true then (laws_FnHalvesOfMatrices.j1 kj11 l1 t102 t113 t114 t121 (((t102.length : Int) % 2) != 1)) else (laws_FnHalvesOfMatrices.j1 kj11 l1 t102 t113 t114 t121 true))) else (laws_FnHalvesOfMatrices.j1 kj11 l1 t102 t113 t114 t121 true))) else (laws_FnHalvesOfMatrices.j3 kj11 l1 t102 t113 t114)) = some r := by rw [if_neg (show ¬ (false = true) by decide)] at H; exact H
     clear H
     have H := H1
     clear H1
     have HC55 := am_ H
     clear H
     go_upto_if 109 with (fail)
     go_cut [] (fun wc => ∃ (kq : Nat), Aside0 (laws_FnHalvesOfMatrices.j3 kq l1 t102 t113 t114 = some r) ∧ Aside0 (kq ≤ kj11) ∧ Aside0 (Kd.N (Kd.slice 3 (Kd.int .i64)) 24 wc w.heap.size (fun k_ => some k_ ≠ (v115 : Value).ownBlock) (.slice Ao14 t102.length co14) t102) ∧ Aside0 (Kd.N (Kd.slice 3 (Kd.int .i64)) 24 wc w.heap.size (fun k_ => some k_ ≠ ((.slice Ao14 t102.length co14) : Value).ownBlock) v115 t113) ∧ Aside0 (Below w.heap.size w wc))
     case first => as_aux_lemma =>
      have H := HC55.out
      clear HC55
      by_cases c56 : t106 = true
      ·subst c56
       have H1 : ((impl_FromLeftHalf.f kj11 t105).bind fun bt132 => (if bt132.2 = true then ((laws_uSameRows.f kj11 bt132.1 t102).bind fun t136 => (if t136 = true then (laws_FnHalvesOfMatrices.j1 kj11 l1 t102 t113 t114 t121 (((t102.length : Int) % 2) != 1)) else (laws_FnHalvesOfMatrices.j1 kj11 l1 t102 t113 t114 t121 true))) else (laws_FnHalvesOfMatrices.j1 kj11 l1 t102 t113 t114 t121 true))) = some r := by rw [if_pos rfl] at H; exact H
       clear H
       have H := H1
       clear H1
       replace H := Option.bind_eq_some_iff.mp H
       obtain ⟨⟨t132, t133⟩, A570, H⟩ := H
       replace H : (if t133 = true then ((laws_uSameRows.f kj11 t132 t102).bind fun t136 => (if t136 = true then (laws_FnHalvesOfMatrices.j1 kj11 l1 t102 t113 t114 t121 (((t102.length : Int) % 2) != 1)) else (laws_FnHalvesOfMatrices.j1 kj11 l1 t102 t113 t114 t121 true))) else (laws_FnHalvesOfMatrices.j1 kj11 l1 t102 t113 t114 t121 true)) = some r := H
       have A57 := am_ A570
       clear A570
       have HC58 := am_ H
       clear H
       obtain ⟨Ao59, co59, eo59⟩ := Kd.N_slice HO_6.out
       subst eo59
       go_upto_region 14 with (first | ((with_reducible refine gate_callee (f := 44) rfl ?_); refine goesL_ (some 112) rfl rfl Try.func44 (by kernel_rfl) rfl #[.slice Ao59 t105.length co59] rfl tc1_ ?_; (with_reducible refine (impl_FromLeftHalf.calls kj11 _ _ t105 t132 t133 _ ?side1 ?side2 A57.out).mono ?_); (case side1 => repeat (first | exact (Kd.N_reads' HO_6.out).2.2 | (with_reducible refine Kd.C_alloc ?_ _) | (with_reducible refine Kd.C_drewN ?_ _) | (with_reducible refine Kd.C_drew ?_))); (case side2 => exact (Kd.N_reads' HO_6.out).2.1); rintro e w60 ⟨v134, rfl, ho0, hb⟩; refine ⟨_, rfl, ?_⟩; have n0_ := am_ (Kd.N_elder' tc46_ (Kd.S_base ho0) hb); have n1_ := am_ (Kd.N_elder' tc70_ (Kd.S_base ho0) hb); have n2_ := am_ (Kd.N_elder' tc66_ (Kd.S_base ho0) hb); have n3_ := am_ (Kd.R_below (by (with_reducible repeat (first | apply Kd.R_alloc | apply Kd.R_drewN | apply Kd.R_drew)); exact HO_14.out) hb); have n4_ := am_ (Kd.N_lower (Kd.N_mono (ok' := fun k_ => some k_ ≠ (.slice Ao14 t102.length co14 : Value).ownBlock ∧ some k_ ≠ (.slice Ao59 t105.length co59 : Value).ownBlock ∧ some k_ ≠ (v115 : Value).ownBlock ∧ some k_ ≠ (v123 : Value).ownBlock) (Kd.S_N (Kd.S_bound ho0)) (fun k_ hk_ => ⟨(Kd.fresh' (Kd.N_lt tc46_) k_ hk_.2.1), (Kd.fresh' (Kd.N_lt tc70_) k_ hk_.2.1), (Kd.fresh' (Kd.N_lt tc66_) k_ hk_.2.1), (Kd.fresh' (Kd.R_lt (by (with_reducible repeat (first | apply Kd.R_alloc | apply Kd.R_drewN | apply Kd.R_drew)); exact HO_14.out)) k_ hk_.2.1)⟩)) (below_size tc0_)); have n5_ := am_ (below_step tc0_ hb); clear HO_5 HO_6; clear HO_10 HO_14 HB; have HO_5 := n0_; have HO_6 := n1_; have HO_10 := n2_; have HO_14 := n3_; have HO135 := n4_; have HB := n5_; clear n0_ n1_ n2_ n3_ n4_ n5_; (try clear hb ho0)))
       (try simp only [Act.put, List.setIfInBounds_toArray, List.set_cons_zero, List.set_cons_succ])
       go_cut [128] (fun v128 wc => ∃ (kq : Nat) (x128_57 : Bool), v128 = .bool x128_57 ∧ Aside0 (laws_FnHalvesOfMatrices.j1 kq l1 t102 t113 t114 t121 x128_57 = some r) ∧ Aside0 (kq ≤ kj11) ∧ Aside0 (Kd.N (Kd.slice 3 (Kd.int .i64)) 24 wc w.heap.size (fun k_ => some k_ ≠ (v115 : Value).ownBlock ∧ some k_ ≠ (v123 : Value).ownBlock) (.slice Ao14 t102.length co14) t102) ∧ Aside0 (Kd.N (Kd.slice 3 (Kd.int .i64)) 24 wc w.heap.size (fun k_ => some k_ ≠ ((.slice Ao14 t102.length co14) : Value).ownBlock ∧ some k_ ≠ (v123 : Value).ownBlock) v115 t113) ∧ Aside0 (Kd.R (Kd.int .i64) 3 wc w.heap.size (fun _ => True) v123 t121) ∧ Aside0 (Below w.heap.size w wc))
       case first => as_aux_lemma =>
        have H := HC58.out
        clear HC58
        by_cases c61 : t133 = true
        ·subst c61
         have H1 : ((laws_uSameRows.f kj11 t132 t102).bind fun t136 => (if t136 = true then (laws_FnHalvesOfMatrices.j1 kj11 l1 t102 t113 t114 t121 (((t102.length : Int) % 2) != 1)) else (laws_FnHalvesOfMatrices.j1 kj11 l1 t102 t113 t114 t121 true))) = some r := by rw [if_pos rfl] at H; exact H
         clear H
         have H := H1
         clear H1
         replace H := Option.bind_eq_some_iff.mp H
         obtain ⟨t136, A620, H⟩ := H
         replace H : (if t136 = true then (laws_FnHalvesOfMatrices.j1 kj11 l1 t102 t113 t114 t121 (((t102.length : Int) % 2) != 1)) else (laws_FnHalvesOfMatrices.j1 kj11 l1 t102 t113 t114 t121 true)) = some r := H
         have A62 := am_ A620
         clear A620
         by_cases c63 : t136 = true
         ·subst c63
          have H1 : (laws_FnHalvesOfMatrices.j1 kj11 l1 t102 t113 t114 t121 (((t102.length : Int) % 2) != 1)) = some r := by rw [if_pos rfl] at H; exact H
          clear H
          have H := H1
          clear H1
          have H' := am_ H
          clear H
          obtain ⟨Ao64, co64, eo64⟩ := Kd.N_slice HO135.out
          subst eo64
          go_wp2_with (first | (go_at_call 42; (with_reducible refine (laws_uSameRows.calls kj11 _ _ t132 _ _ t102 true _ ?side1 ?side2 ?side3 ?side4 A62.out).mono ?_); (case side1 => repeat (first | exact (Kd.N_reads' HO135.out).2.2 | (with_reducible refine Kd.C_alloc ?_ _) | (with_reducible refine Kd.C_drewN ?_ _) | (with_reducible refine Kd.C_drew ?_))); (case side2 => exact (Kd.N_reads' HO135.out).2.1); (case side3 => exact tc58_); (case side4 => exact (Kd.N_reads' HO_5.out).2.1); rintro e w' ⟨rfl, ⟨nd, rfl⟩⟩))
          go_meet
          case rel => exact ⟨_, ((((t102.length : Int) % 2) != 1)), tc9_, H', ⟨by have := HJ11.out; first | omega | exact Nat.le_refl _⟩, ⟨by (with_reducible repeat (first | apply Kd.N_alloc | apply Kd.N_drewN | apply Kd.N_drew)); exact Kd.N_mono HO_5.out (fun _ hk => ⟨hk.1.2.1, hk.1.2.2⟩)⟩, ⟨by (with_reducible repeat (first | apply Kd.N_alloc | apply Kd.N_drewN | apply Kd.N_drew)); exact Kd.N_mono HO_10.out (fun _ hk => ⟨hk.1.1, hk.1.2.2⟩)⟩, ⟨by (with_reducible repeat (first | apply Kd.R_alloc | apply Kd.R_drewN | apply Kd.R_drew)); exact HO_14.out⟩, ⟨by repeat (first | (with_reducible first | exact HB.out | apply below_alloc | apply pw_below_drewN | apply below_drew1) | exact HB.out)⟩⟩
         ·replace c63 := Bool.eq_false_iff.mpr c63
          subst c63
          have H1 : (laws_FnHalvesOfMatrices.j1 kj11 l1 t102 t113 t114 t121 true) = some r := by rw [if_neg (show ¬ (false = true) by decide)] at H; exact H
          clear H
          have H := H1
          clear H1
          have H' := am_ H
          clear H
          obtain ⟨Ao65, co65, eo65⟩ := Kd.N_slice HO135.out
          subst eo65
          go_wp2_with (first | (go_at_call 42; (with_reducible refine (laws_uSameRows.calls kj11 _ _ t132 _ _ t102 false _ ?side1 ?side2 ?side3 ?side4 A62.out).mono ?_); (case side1 => repeat (first | exact (Kd.N_reads' HO135.out).2.2 | (with_reducible refine Kd.C_alloc ?_ _) | (with_reducible refine Kd.C_drewN ?_ _) | (with_reducible refine Kd.C_drew ?_))); (case side2 => exact (Kd.N_reads' HO135.out).2.1); (case side3 => exact tc58_); (case side4 => exact (Kd.N_reads' HO_5.out).2.1); rintro e w' ⟨rfl, ⟨nd, rfl⟩⟩))
          go_meet
          case rel => exact ⟨_, (true), tc9_, H', ⟨by have := HJ11.out; first | omega | exact Nat.le_refl _⟩, ⟨by (with_reducible repeat (first | apply Kd.N_alloc | apply Kd.N_drewN | apply Kd.N_drew)); exact Kd.N_mono HO_5.out (fun _ hk => ⟨hk.1.2.1, hk.1.2.2⟩)⟩, ⟨by (with_reducible repeat (first | apply Kd.N_alloc | apply Kd.N_drewN | apply Kd.N_drew)); exact Kd.N_mono HO_10.out (fun _ hk => ⟨hk.1.1, hk.1.2.2⟩)⟩, ⟨by (with_reducible repeat (first | apply Kd.R_alloc | apply Kd.R_drewN | apply Kd.R_drew)); exact HO_14.out⟩, ⟨by repeat (first | (with_reducible first | exact HB.out | apply below_alloc | apply pw_below_drewN | apply below_drew1) | exact HB.out)⟩⟩
        ·replace c61 := Bool.eq_false_iff.mpr c61
         subst c61
         have H1 : (laws_FnHalvesOfMatrices.j1 kj11 l1 t102 t113 t114 t121 true) = some r := by rw [if_neg (show ¬ (false = true) by decide)] at H; exact H
         clear H
         have H := H1
         clear H1
         have H' := am_ H
         clear H
         go_wp2
         go_meet
         case rel => exact ⟨_, (true), tc9_, H', ⟨by have := HJ11.out; first | omega | exact Nat.le_refl _⟩, ⟨by (with_reducible repeat (first | apply Kd.N_alloc | apply Kd.N_drewN | apply Kd.N_drew)); exact Kd.N_mono HO_5.out (fun _ hk => ⟨hk.1.2.1, hk.1.2.2⟩)⟩, ⟨by (with_reducible repeat (first | apply Kd.N_alloc | apply Kd.N_drewN | apply Kd.N_drew)); exact Kd.N_mono HO_10.out (fun _ hk => ⟨hk.1.1, hk.1.2.2⟩)⟩, ⟨by (with_reducible repeat (first | apply Kd.R_alloc | apply Kd.R_drewN | apply Kd.R_drew)); exact HO_14.out⟩, ⟨by repeat (first | (with_reducible first | exact HB.out | apply below_alloc | apply pw_below_drewN | apply below_drew1) | exact HB.out)⟩⟩
       case rest => as_aux_lemma =>
        clear HC58
        try clear c1
        try clear c2
        try clear p2
        try clear c3
        try clear c4
        try clear c5
        try clear c6
        try clear c21
        try clear c21b0
        try clear c21b1
        try clear c21b2
        try clear c23
        try clear c24
        try clear c24b0
        try clear c24b1
        try clear c24b2
        try clear c28
        try clear c29
        try clear c29b0
        try clear c29b1
        try clear c29b2
        try clear c35
        try clear c36
        try clear c37
        try clear c38
        try clear c39
        try clear c40
        try clear c41
        try clear c44
        try clear c54
        try clear c56
        try clear c61
        try clear c63
        try clear p2
        obtain ⟨kq, x128_57, rfl, HA, HJ57, HO_5, HO_10, HO_14, HB⟩ := hcut
        cases kq with
        | zero => exact absurd HA.out (by simp [laws_FnHalvesOfMatrices.j1])
        | succ kj57 =>
         have H := HA.out
         clear HA
         simp only [laws_FnHalvesOfMatrices.j1] at H
         by_cases c66 : x128_57 = true
         ·subst c66
          exact absurd ((show (some false : Option Bool) = some r from (by rw [if_pos rfl] at H; exact H)).trans (congrArg some HR_.out)) (by simp)
         ·replace c66 := Bool.eq_false_iff.mpr c66
          subst c66
          have H1 : (laws_FnHalvesOfMatrices.l0 kj57 l1 t102 t113 t114 t121 (t121.length : Int) 0) = some r := by rw [if_neg (show ¬ (false = true) by decide)] at H; exact H
          clear H
          have H := H1
          clear H1
          have H' := am_ H
          clear H
          obtain ⟨Ao67, co67, eo67⟩ := Kd.R_slice HO_14.out
          subst eo67
          go_wp2
          go_loopg [131] kj57 (fun kq v131 w' => ∃ (x131_3 : Int), v131 = .int .i64 x131_3 ∧ Aside0 (laws_FnHalvesOfMatrices.l0 kq l1 t102 t113 t114 t121 (t121.length : Int) x131_3 = some r) ∧ Aside0 (kq ≤ kj57) ∧ Aside0 (Kd.N (Kd.slice 3 (Kd.int .i64)) 24 w' w.heap.size (fun k_ => some k_ ≠ (v115 : Value).ownBlock ∧ some k_ ≠ ((.slice Ao67 t121.length co67) : Value).ownBlock) (.slice Ao14 t102.length co14) t102) ∧ Aside0 (Kd.N (Kd.slice 3 (Kd.int .i64)) 24 w' w.heap.size (fun k_ => some k_ ≠ ((.slice Ao14 t102.length co14) : Value).ownBlock ∧ some k_ ≠ ((.slice Ao67 t121.length co67) : Value).ownBlock) v115 t113) ∧ Aside0 (Kd.R (Kd.int .i64) 3 w' w.heap.size (fun _ => True) (.slice Ao67 t121.length co67) t121) ∧ Aside0 (Below w.heap.size w w'))
          case atStart => exact ⟨(0), tc9_, H', ⟨Nat.le_refl _⟩, ⟨by (with_reducible repeat (first | apply Kd.N_alloc | apply Kd.N_drewN | apply Kd.N_drew)); exact HO_5.out⟩, ⟨by (with_reducible repeat (first | apply Kd.N_alloc | apply Kd.N_drewN | apply Kd.N_drew)); exact HO_10.out⟩, ⟨by (with_reducible repeat (first | apply Kd.R_alloc | apply Kd.R_drewN | apply Kd.R_drew)); exact HO_14.out⟩, ⟨by repeat (first | (with_reducible first | exact HB.out | apply below_alloc | apply pw_below_drewN | apply below_drew1) | exact HB.out)⟩⟩
          case round => as_aux_lemma =>
           clear H'
           try clear c1
           try clear c2
           try clear p2
           try clear c3
           try clear c4
           try clear c5
           try clear c6
           try clear c21
           try clear c21b0
           try clear c21b1
           try clear c21b2
           try clear c23
           try clear c24
           try clear c24b0
           try clear c24b1
           try clear c24b2
           try clear c28
           try clear c29
           try clear c29b0
           try clear c29b1
           try clear c29b2
           try clear c35
           try clear c36
           try clear c37
           try clear c38
           try clear c39
           try clear c40
           try clear c41
           try clear c44
           try clear c54
           try clear c56
           try clear c61
           try clear c63
           try clear c66
           try clear p2
           obtain ⟨x131_3, rfl, HA, HK3, HO_5, HO_10, HO_129, HB⟩ := hrel
           cases gk with
           | zero => exact absurd HA.out (by simp [laws_FnHalvesOfMatrices.l0])
           | succ k3 =>
            have H := HA.out
            clear HA
            simp only [laws_FnHalvesOfMatrices.l0] at H
            by_cases c68 : x131_3 < (t121.length : Int)
            ·rw [if_pos c68] at H
             have c68b0 : decide (x131_3 < (t121.length : Int)) = true := decide_eq_true c68
             clear c68
             by_cases c69 : 0 ≤ x131_3
             ·rw [if_pos c69] at H
              have c69b0 : decide (0 ≤ x131_3) = true := decide_eq_true c69
              clear c69
              by_cases c70 : x131_3 < (t121.length : Int)
              ·rw [if_pos c70] at H
               have c70b0 : decide (x131_3 < (t121.length : Int)) = true := decide_eq_true c70
               clear c70
               by_cases c71 : (rd t121 x131_3) = (wrap64 (1 - (wrap64 (2 * (Int.tmod x131_3 2)))))
               ·rw [if_pos c71] at H
                have c71b0 : ((rd t121 x131_3) == (wrap64 (1 - (wrap64 (2 * (Int.tmod x131_3 2)))))) = true := beq_iff_eq.mpr c71
                have c71b1 : ((rd t121 x131_3) != (wrap64 (1 - (wrap64 (2 * (Int.tmod x131_3 2)))))) = false := bne_eq_false_iff_eq.mpr c71
                clear c71
                have H' := am_ H
                clear H
                have p137 : 0 ≤ (x131_3 : Int) := of_decide_eq_true tc2_
                have q137 : x131_3 < (t121.length : Int) := of_decide_eq_true tc2_
                obtain ⟨ad137, e137, hx137_0⟩ := Kd.at_int (Kd.R_reads' HO_129.out).2.2 x131_3 p137 q137
                cases e137
                replace p137 := eq_true p137
                replace q137 := eq_true q137
                go_wp2
                go_roundg k3
                case measure => have := HJ11.out; have := HJ57.out; have := HK3.out; omega
                case rel => exact ⟨(wrap64 (x131_3 + 1)), tc9_, H', ⟨by have := HJ11.out; have := HJ57.out; have := HK3.out; omega⟩, ⟨by (with_reducible repeat (first | apply Kd.N_alloc | apply Kd.N_drewN | apply Kd.N_drew)); exact HO_5.out⟩, ⟨by (with_reducible repeat (first | apply Kd.N_alloc | apply Kd.N_drewN | apply Kd.N_drew)); exact HO_10.out⟩, ⟨by (with_reducible repeat (first | apply Kd.R_alloc | apply Kd.R_drewN | apply Kd.R_drew)); exact HO_129.out⟩, ⟨by repeat (first | (with_reducible first | exact HB.out | apply below_alloc | apply pw_below_drewN | apply below_drew1) | exact HB.out)⟩⟩
               ·rw [if_neg c71] at H
                have c71b0 : ((rd t121 x131_3) == (wrap64 (1 - (wrap64 (2 * (Int.tmod x131_3 2)))))) = false := beq_eq_false_iff_ne.mpr c71
                have c71b1 : ((rd t121 x131_3) != (wrap64 (1 - (wrap64 (2 * (Int.tmod x131_3 2)))))) = true := bne_iff_ne.mpr c71
                obtain rfl := Option.some.inj H
                have p137 : 0 ≤ (x131_3 : Int) := of_decide_eq_true tc2_
                have q137 : x131_3 < (t121.length : Int) := of_decide_eq_true tc2_
                obtain ⟨ad137, e137, hx137_0⟩ := Kd.at_int (Kd.R_reads' HO_129.out).2.2 x131_3 p137 q137
                cases e137
                replace p137 := eq_true p137
                replace q137 := eq_true q137
                go_wp2
                go_ret
                exact ⟨by first | rfl | (simp [errW_none, errW_some] <;> rfl) | (simp [*, errW_none, errW_some] <;> rfl), by repeat (first | (with_reducible first | exact HB.out | apply below_alloc | apply pw_below_drewN | apply below_drew1) | exact HB.out)⟩
              ·rw [if_neg c70] at H
               exact absurd H (by simp)
             ·rw [if_neg c69] at H
              exact absurd H (by simp)
            ·rw [if_neg c68] at H
             have c68b0 : decide (x131_3 < (t121.length : Int)) = false := decide_eq_false c68
             clear c68
             have H' := am_ H
             clear H
             go_wp2
             go_meet
             case rel => exact ⟨_, H', ⟨by have := HJ11.out; have := HJ57.out; have := HK3.out; first | omega | exact Nat.le_refl _⟩, ⟨by (with_reducible repeat (first | apply Kd.N_alloc | apply Kd.N_drewN | apply Kd.N_drew)); exact Kd.N_mono HO_5.out (fun _ hk => hk.1)⟩, ⟨by (with_reducible repeat (first | apply Kd.N_alloc | apply Kd.N_drewN | apply Kd.N_drew)); exact Kd.N_mono HO_10.out (fun _ hk => hk.1)⟩, ⟨by repeat (first | (with_reducible first | exact HB.out | apply below_alloc | apply pw_below_drewN | apply below_drew1) | exact HB.out)⟩⟩
      ·replace c56 := Bool.eq_false_iff.mpr c56
       subst c56
       have H1 : (laws_FnHalvesOfMatrices.j3 kj11 l1 t102 t113 t114) = some r := by rw [if_neg (show ¬ (false = true) by decide)] at H; exact H
       clear H
       have H := H1
       clear H1
       have H' := am_ H
       clear H
       go_wp2
       go_meet
       case rel => exact ⟨_, H', ⟨by have := HJ11.out; first | omega | exact Nat.le_refl _⟩, ⟨by (with_reducible repeat (first | apply Kd.N_alloc | apply Kd.N_drewN | apply Kd.N_drew)); exact Kd.N_mono HO_5.out (fun _ hk => hk.2.1)⟩, ⟨by (with_reducible repeat (first | apply Kd.N_alloc | apply Kd.N_drewN | apply Kd.N_drew)); exact Kd.N_mono HO_10.out (fun _ hk => hk.1)⟩, ⟨by repeat (first | (with_reducible first | exact HB.out | apply below_alloc | apply pw_below_drewN | apply below_drew1) | exact HB.out)⟩⟩
     case rest => as_aux_lemma =>
      clear HC55
      try clear c1
      try clear p1
      try clear q1
      try clear hx1
      try clear c2
      try clear p2
      try clear c3
      try clear c4
      try clear c5
      try clear c6
      try clear p6
      try clear c7
      try clear p13
      try clear q13
      try clear hx13
      try clear c21
      try clear c21b0
      try clear c21b1
      try clear c21b2
      try clear c23
      try clear c24
      try clear c24b0
      try clear c24b1
      try clear c24b2
      try clear c28
      try clear c29
      try clear c29b0
      try clear c29b1
      try clear c29b2
      try clear c35
      try clear c36
      try clear c37
      try clear c38
      try clear c39
      try clear c40
      try clear c41
      try clear c44
      try clear c54
      try clear c56
      try clear c61
      try clear c63
      try clear p64
      try clear c66
      try clear c68
      try clear c68b0
      try clear c69
      try clear c69b0
      try clear c70
      try clear c70b0
      try clear c71
      try clear c71b0
      try clear c71b1
      try clear hx137_0
      try clear p137
      try clear p2
      try clear q137
      obtain ⟨kq, HA, HJ54, HO_5, HO_10, HB⟩ := hcut
      cases kq with
      | zero => exact absurd HA.out (by simp [laws_FnHalvesOfMatrices.j3])
      | succ kj54 =>
       have H := HA.out
       clear HA
       simp only [laws_FnHalvesOfMatrices.j3] at H
       have HC72 := am_ H
       clear H
       go_upto_if 143 with (fail)
       go_cut [] (fun wc => ∃ (kq : Nat), Aside0 (laws_FnHalvesOfMatrices.j4 kq l1 = some r) ∧ Aside0 (kq ≤ kj54) ∧ Aside0 (Below w.heap.size w wc))
       case first => as_aux_lemma =>
        have H := HC72.out
        clear HC72
        by_cases c73 : t114 = true
        ·subst c73
         have H1 : ((impl_FromUpperHalf.f kj54 t113).bind fun bt138 => (if bt138.2 = true then ((laws_uSameRows.f kj54 bt138.1 t102).bind fun t142 => (if t142 = true then (laws_FnHalvesOfMatrices.j4 kj54 l1) else (some false))) else (some false))) = some r := by rw [if_pos rfl] at H; exact H
         clear H
         have H := H1
         clear H1
         replace H := Option.bind_eq_some_iff.mp H
         obtain ⟨⟨t138, t139⟩, A740, H⟩ := H
         replace H : (if t139 = true then ((laws_uSameRows.f kj54 t138 t102).bind fun t142 => (if t142 = true then (laws_FnHalvesOfMatrices.j4 kj54 l1) else (some false))) else (some false)) = some r := H
         have A74 := am_ A740
         clear A740
         by_cases c75 : t139 = true
         ·subst c75
          have H1 : ((laws_uSameRows.f kj54 t138 t102).bind fun t142 => (if t142 = true then (laws_FnHalvesOfMatrices.j4 kj54 l1) else (some false))) = some r := by rw [if_pos rfl] at H; exact H
          clear H
          have H := H1
          clear H1
          replace H := Option.bind_eq_some_iff.mp H
          obtain ⟨t142, A760, H⟩ := H
          replace H : (if t142 = true then (laws_FnHalvesOfMatrices.j4 kj54 l1) else (some false)) = some r := H
          have A76 := am_ A760
          clear A760
          by_cases c77 : t142 = true
          ·subst c77
           have H1 : (laws_FnHalvesOfMatrices.j4 kj54 l1) = some r := by rw [if_pos rfl] at H; exact H
           clear H
           have H := H1
           clear H1
           have H' := am_ H
           clear H
           obtain ⟨Ao78, co78, eo78⟩ := Kd.N_slice HO_10.out
           subst eo78
           go_wp2_with (first | ((with_reducible refine gate_callee (f := 45) rfl ?_); refine goesL_ (some 146) rfl rfl Try.func45 (by kernel_rfl) rfl #[.slice Ao78 t113.length co78] rfl tc1_ ?_; (with_reducible refine (impl_FromUpperHalf.calls kj54 _ _ t113 t138 true _ ?side1 ?side2 A74.out).mono ?_); (case side1 => repeat (first | exact (Kd.N_reads' HO_10.out).2.2 | (with_reducible refine Kd.C_alloc ?_ _) | (with_reducible refine Kd.C_drewN ?_ _) | (with_reducible refine Kd.C_drew ?_))); (case side2 => exact (Kd.N_reads' HO_10.out).2.1); rintro e w79 ⟨v140, rfl, ho0, hb⟩; refine ⟨_, rfl, ?_⟩; have n0_ := am_ (Kd.N_elder' tc46_ (Kd.S_base ho0) hb); have n1_ := am_ (Kd.N_elder' tc66_ (Kd.S_base ho0) hb); have n2_ := am_ (Kd.N_lower (Kd.N_mono (ok' := fun k_ => some k_ ≠ (.slice Ao14 t102.length co14 : Value).ownBlock ∧ some k_ ≠ (.slice Ao78 t113.length co78 : Value).ownBlock) (Kd.S_N (Kd.S_bound ho0)) (fun k_ hk_ => ⟨(Kd.fresh' (Kd.N_lt tc46_) k_ hk_.2.1), (Kd.fresh' (Kd.N_lt tc66_) k_ hk_.2.1)⟩)) (below_size tc0_)); have n3_ := am_ (below_step tc0_ hb); clear HO_5 HO_10 HB; have HO_5 := n0_; have HO_10 := n1_; have HO141 := n2_; have HB := n3_; clear n0_ n1_ n2_ n3_; (try clear hb ho0); obtain ⟨Ao80, co80, eo80⟩ := Kd.N_slice HO141.out; subst eo80) | (go_at_call 42; (with_reducible refine (laws_uSameRows.calls kj54 _ _ t138 _ _ t102 true _ ?side1 ?side2 ?side3 ?side4 A76.out).mono ?_); (case side1 => repeat (first | exact (Kd.N_reads' HO141.out).2.2 | (with_reducible refine Kd.C_alloc ?_ _) | (with_reducible refine Kd.C_drewN ?_ _) | (with_reducible refine Kd.C_drew ?_))); (case side2 => exact (Kd.N_reads' HO141.out).2.1); (case side3 => exact tc58_); (case side4 => exact (Kd.N_reads' HO_5.out).2.1); rintro e w' ⟨rfl, ⟨nd, rfl⟩⟩))
           go_meet
           case rel => exact ⟨_, H', ⟨by have := HJ11.out; have := HJ54.out; first | omega | exact Nat.le_refl _⟩, ⟨by repeat (first | (with_reducible first | exact HB.out | apply below_alloc | apply pw_below_drewN | apply below_drew1) | exact HB.out)⟩⟩
          ·replace c77 := Bool.eq_false_iff.mpr c77
           subst c77
           exact absurd ((show (some false : Option Bool) = some r from tc78_).trans (congrArg some HR_.out)) (by simp)
         ·replace c75 := Bool.eq_false_iff.mpr c75
          subst c75
          exact absurd ((show (some false : Option Bool) = some r from tc78_).trans (congrArg some HR_.out)) (by simp)
        ·replace c73 := Bool.eq_false_iff.mpr c73
         subst c73
         have H1 : (laws_FnHalvesOfMatrices.j4 kj54 l1) = some r := by rw [if_neg (show ¬ (false = true) by decide)] at H; exact H
         clear H
         have H := H1
         clear H1
         have H' := am_ H
         clear H
         go_wp2
         go_meet
         case rel => exact ⟨_, H', ⟨by have := HJ11.out; have := HJ54.out; first | omega | exact Nat.le_refl _⟩, ⟨by repeat (first | (with_reducible first | exact HB.out | apply below_alloc | apply pw_below_drewN | apply below_drew1) | exact HB.out)⟩⟩
       case rest => as_aux_lemma =>
        clear HC72
        try clear c1
        try clear p1
        try clear q1
        try clear hx1
        try clear c2
        try clear p2
        try clear c3
        try clear c4
        try clear c5
        try clear c6
        try clear p6
        try clear c7
        try clear p13
        try clear q13
        try clear hx13
        try clear c21
        try clear c21b0
        try clear c21b1
        try clear c21b2
        try clear c23
        try clear c24
        try clear c24b0
        try clear c24b1
        try clear c24b2
        try clear c28
        try clear c29
        try clear c29b0
        try clear c29b1
        try clear c29b2
        try clear c35
        try clear c36
        try clear c37
        try clear c38
        try clear c39
        try clear c40
        try clear c41
        try clear c44
        try clear c45
        try clear c54
        try clear c56
        try clear c61
        try clear c63
        try clear p64
        try clear c66
        try clear c68
        try clear c68b0
        try clear c69
        try clear c69b0
        try clear c70
        try clear c70b0
        try clear c71
        try clear c71b0
        try clear c71b1
        try clear c73
        try clear c75
        try clear c77
        try clear hx137_0
        try clear p1
        try clear p13
        try clear p137
        try clear p2
        try clear p6
        try clear p64
        try clear q1
        try clear q13
        try clear q137
        obtain ⟨kq, HA, HJ71, HB⟩ := hcut
        cases kq with
        | zero => exact absurd HA.out (by simp [laws_FnHalvesOfMatrices.j4])
        | succ kj71 =>
         have H := HA.out
         clear HA
         simp only [laws_FnHalvesOfMatrices.j4] at H
         replace H := Option.bind_eq_some_iff.mp H
         obtain ⟨t143, A860, H⟩ := H
         replace H : ((impl_FromLeftHalf.f kj71 t143).bind fun bt146 => ((spec_FromLeftHalf.f kj71 t143).bind fun bt150 => (if (bt146.2 != bt150.2) = true then (laws_FnHalvesOfMatrices.j5 kj71 l1 t143 bt146.1 bt146.2 true) else ((laws_uSameRows.f kj71 bt146.1 bt150.1).bind fun t154 => (laws_FnHalvesOfMatrices.j5 kj71 l1 t143 bt146.1 bt146.2 (!t154)))))) = some r := H
         have A86 := am_ A860
         clear A860
         replace H := Option.bind_eq_some_iff.mp H
         obtain ⟨⟨t146, t147⟩, A870, H⟩ := H
         replace H : ((spec_FromLeftHalf.f kj71 t143).bind fun bt150 => (if (t147 != bt150.2) = true then (laws_FnHalvesOfMatrices.j5 kj71 l1 t143 t146 t147 true) else ((laws_uSameRows.f kj71 t146 bt150.1).bind fun t154 => (laws_FnHalvesOfMatrices.j5 kj71 l1 t143 t146 t147 (!t154))))) = some r := H
         have A87 := am_ A870
         clear A870
         replace H := Option.bind_eq_some_iff.mp H
         obtain ⟨⟨t150, t151⟩, A880, H⟩ := H
         replace H : (if (t147 != t151) = true then (laws_FnHalvesOfMatrices.j5 kj71 l1 t143 t146 t147 true) else ((laws_uSameRows.f kj71 t146 t150).bind fun t154 => (laws_FnHalvesOfMatrices.j5 kj71 l1 t143 t146 t147 (!t154)))) = some r := H
         have A88 := am_ A880
         clear A880
         have HC89 := am_ H
         clear H
         go_upto_region 29 with (first | ((with_reducible refine gate_callee (f := 46) rfl ?_); refine goesL_ (some 158) rfl rfl Try.func46 (by kernel_rfl) rfl #[.slice A1 l1.length c1] rfl tc1_ ?_; (with_reducible refine (spec_DrawFromLeftHalf.calls kj71 _ _ l1 t143 _ ?side1 ?side2 A86.out).mono ?_); (case side1 => repeat (first | exact (Kd.C_below HR1.out HB.out) | (with_reducible refine Kd.C_alloc ?_ _) | (with_reducible refine Kd.C_drewN ?_ _) | (with_reducible refine Kd.C_drew ?_))); (case side2 => exact HC1.out); rintro e w90 ⟨v144, rfl, ho0, hb⟩; refine ⟨_, rfl, ?_⟩; have n0_ := am_ (Kd.N_lower (Kd.N_mono (ok' := fun k_ => True) ho0 (fun k_ hk_ => trivial)) (below_size tc0_)); have n1_ := am_ (below_step tc0_ hb); clear HB; have HO145 := n0_; have HB := n1_; clear n0_ n1_; (try clear hb ho0); obtain ⟨Ao91, co91, eo91⟩ := Kd.N_slice HO145.out; subst eo91) | ((with_reducible refine gate_callee (f := 44) rfl ?_); refine goesL_ (some 161) rfl rfl Try.func44 (by kernel_rfl) rfl #[.slice Ao91 t143.length co91] rfl tc1_ ?_; (with_reducible refine (impl_FromLeftHalf.calls kj71 _ _ t143 t146 t147 _ ?side1 ?side2 A87.out).mono ?_); (case side1 => repeat (first | exact (Kd.N_reads' HO145.out).2.2 | (with_reducible refine Kd.C_alloc ?_ _) | (with_reducible refine Kd.C_drewN ?_ _) | (with_reducible refine Kd.C_drew ?_))); (case side2 => exact (Kd.N_reads' HO145.out).2.1); rintro e w92 ⟨v148, rfl, ho0, hb⟩; refine ⟨_, rfl, ?_⟩; have n0_ := am_ (Kd.N_elder' tc67_ (Kd.S_base ho0) hb); have n1_ := am_ (Kd.N_lower (Kd.N_mono (ok' := fun k_ => some k_ ≠ (.slice Ao91 t143.length co91 : Value).ownBlock) (Kd.S_N (Kd.S_bound ho0)) (fun k_ hk_ => (Kd.fresh' (Kd.N_lt tc67_) k_ hk_.2.1))) (below_size tc0_)); have n2_ := am_ (below_step tc0_ hb); clear HO145 HB; have HO145 := n0_; have HO149 := n1_; have HB := n2_; clear n0_ n1_ n2_; (try clear hb ho0)) | ((with_reducible refine gate_callee (f := 47) rfl ?_); refine goesL_ (some 166) rfl rfl Try.func47 (by kernel_rfl) rfl #[.slice Ao91 t143.length co91] rfl tc1_ ?_; (with_reducible refine (spec_FromLeftHalf.calls kj71 _ _ t143 t150 t151 _ ?side1 ?side2 A88.out).mono ?_); (case side1 => repeat (first | exact (Kd.N_reads' HO145.out).2.2 | (with_reducible refine Kd.C_alloc ?_ _) | (with_reducible refine Kd.C_drewN ?_ _) | (with_reducible refine Kd.C_drew ?_))); (case side2 => exact (Kd.N_reads' HO145.out).2.1); rintro e w93 ⟨v152, rfl, ho0, hb⟩; refine ⟨_, rfl, ?_⟩; have n0_ := am_ (Kd.N_elder' tc67_ (Kd.S_base ho0) hb); have n1_ := am_ (Kd.N_elder' (by (with_reducible repeat (first | apply Kd.N_alloc | apply Kd.N_drewN | apply Kd.N_drew)); exact HO149.out) (Kd.S_base ho0) hb); have n2_ := am_ (Kd.N_lower (Kd.N_mono (ok' := fun k_ => some k_ ≠ (.slice Ao91 t143.length co91 : Value).ownBlock ∧ some k_ ≠ (v148 : Value).ownBlock) (Kd.S_N (Kd.S_bound ho0)) (fun k_ hk_ => ⟨(Kd.fresh' (Kd.N_lt tc67_) k_ hk_.2.1), (Kd.fresh' (Kd.N_lt (by (with_reducible repeat (first | apply Kd.N_alloc | apply Kd.N_drewN | apply Kd.N_drew)); exact HO149.out)) k_ hk_.2.1)⟩)) (below_size tc0_)); have n3_ := am_ (below_step tc0_ hb); clear HO145 HO149 HB; have HO145 := n0_; have HO149 := n1_; have HO153 := n2_; have HB := n3_; clear n0_ n1_ n2_ n3_; (try clear hb ho0)))
         (try simp only [Act.put, List.setIfInBounds_toArray, List.set_cons_zero, List.set_cons_succ])
         go_cut [177] (fun v177 wc => ∃ (kq : Nat) (x177_88 : Bool), v177 = .bool x177_88 ∧ Aside0 (laws_FnHalvesOfMatrices.j5 kq l1 t143 t146 t147 x177_88 = some r) ∧ Aside0 (kq ≤ kj71) ∧ Aside0 (Kd.N (Kd.slice 3 (Kd.int .i64)) 24 wc w.heap.size (fun k_ => some k_ ≠ (v148 : Value).ownBlock) (.slice Ao91 t143.length co91) t143) ∧ Aside0 (Kd.N (Kd.slice 3 (Kd.int .i64)) 24 wc w.heap.size (fun k_ => some k_ ≠ ((.slice Ao91 t143.length co91) : Value).ownBlock) v148 t146) ∧ Aside0 (Below w.heap.size w wc))
         case first => as_aux_lemma =>
          have H := HC89.out
          clear HC89
          by_cases c94 : (t147 != t151) = true
          ·rw [if_pos c94] at H
           have c94b0 : (t147 != t151) = true := c94
           (try (have c94b1 : decide (t147 = t151) = false := by simpa using c94))
           (try (have c94b2 : (t147 == t151) = false := by simpa using c94))
           (try (have c94b3 : ¬ (t147 = t151) := by simpa using c94))
           clear c94
           (first | rw [c94b0] | (simp only [i64_w, i32_w]; rw [c94b0]) | skip)
           have H' := am_ H
           clear H
           go_wp2
           go_meet
           case rel => exact ⟨_, (true), tc9_, H', ⟨by have := HJ11.out; have := HJ54.out; have := HJ71.out; first | omega | exact Nat.le_refl _⟩, ⟨by (with_reducible repeat (first | apply Kd.N_alloc | apply Kd.N_drewN | apply Kd.N_drew)); exact Kd.N_mono HO145.out (fun _ hk => hk.1.2)⟩, ⟨by (with_reducible repeat (first | apply Kd.N_alloc | apply Kd.N_drewN | apply Kd.N_drew)); exact Kd.N_mono HO149.out (fun _ hk => hk.1)⟩, ⟨by repeat (first | (with_reducible first | exact HB.out | apply below_alloc | apply pw_below_drewN | apply below_drew1) | exact HB.out)⟩⟩
          ·rw [if_neg c94] at H
           have c94b0 : (t147 != t151) = false := by simpa using c94
           (try (have c94b1 : decide (t147 = t151) = true := by simpa using c94))
           (try (have c94b2 : (t147 == t151) = true := by simpa using c94))
           clear c94
           (first | rw [c94b0] | (simp only [i64_w, i32_w]; rw [c94b0]) | skip)
           replace H := Option.bind_eq_some_iff.mp H
           obtain ⟨t154, A950, H⟩ := H
           replace H : (laws_FnHalvesOfMatrices.j5 kj71 l1 t143 t146 t147 (!t154)) = some r := H
           have A95 := am_ A950
           clear A950
           have H' := am_ H
           clear H
           obtain ⟨Ao96, co96, eo96⟩ := Kd.N_slice HO149.out
           subst eo96
           obtain ⟨Ao97, co97, eo97⟩ := Kd.N_slice HO153.out
           subst eo97
           go_wp2_with (first | (go_at_call 42; (with_reducible refine (laws_uSameRows.calls kj71 _ _ t146 _ _ t150 t154 _ ?side1 ?side2 ?side3 ?side4 A95.out).mono ?_); (case side1 => repeat (first | exact (Kd.N_reads' HO149.out).2.2 | (with_reducible refine Kd.C_alloc ?_ _) | (with_reducible refine Kd.C_drewN ?_ _) | (with_reducible refine Kd.C_drew ?_))); (case side2 => exact (Kd.N_reads' HO149.out).2.1); (case side3 => repeat (first | exact (Kd.N_reads' HO153.out).2.2 | (with_reducible refine Kd.C_alloc ?_ _) | (with_reducible refine Kd.C_drewN ?_ _) | (with_reducible refine Kd.C_drew ?_))); (case side4 => exact (Kd.N_reads' HO153.out).2.1); rintro e w' ⟨rfl, ⟨nd, rfl⟩⟩))
           go_meet
           case rel => exact ⟨_, (!t154), tc9_, H', ⟨by have := HJ11.out; have := HJ54.out; have := HJ71.out; first | omega | exact Nat.le_refl _⟩, ⟨by (with_reducible repeat (first | apply Kd.N_alloc | apply Kd.N_drewN | apply Kd.N_drew)); exact Kd.N_mono HO145.out (fun _ hk => hk.1.2)⟩, ⟨by (with_reducible repeat (first | apply Kd.N_alloc | apply Kd.N_drewN | apply Kd.N_drew)); exact Kd.N_mono HO149.out (fun _ hk => hk.1)⟩, ⟨by repeat (first | (with_reducible first | exact HB.out | apply below_alloc | apply pw_below_drewN | apply below_drew1) | exact HB.out)⟩⟩
         case rest => as_aux_lemma =>
          clear HC89
          try clear c1
          try clear p1
          try clear q1
          try clear hx1
          try clear c2
          try clear p2
          try clear c3
          try clear c4
          try clear c5
          try clear c6
          try clear p6
          try clear c7
          try clear c9
          try clear p13
          try clear q13
          try clear hx13
          try clear c21
          try clear c21b0
          try clear c21b1
          try clear c21b2
          try clear c23
          try clear c24
          try clear c24b0
          try clear c24b1
          try clear c24b2
          try clear c28
          try clear c29
          try clear c29b0
          try clear c29b1
          try clear c29b2
          try clear c35
          try clear c36
          try clear c37
          try clear c38
          try clear c39
          try clear c40
          try clear c41
          try clear c44
          try clear c45
          try clear c46
          try clear c47
          try clear c54
          try clear c56
          try clear c61
          try clear c63
          try clear p64
          try clear c66
          try clear c68
          try clear c68b0
          try clear c69
          try clear c69b0
          try clear c70
          try clear c70b0
          try clear c71
          try clear c71b0
          try clear c71b1
          try clear c73
          try clear c75
          try clear c77
          try clear c94
          try clear c94b0
          try clear c94b1
          try clear c94b2
          try clear hx137_0
          try clear p1
          try clear p13
          try clear p137
          try clear p2
          try clear p6
          try clear p64
          try clear q1
          try clear q13
          try clear q137
          obtain ⟨kq, x177_88, rfl, HA, HJ88, HO_24, HO_25, HB⟩ := hcut
          cases kq with
          | zero => exact absurd HA.out (by simp [laws_FnHalvesOfMatrices.j5])
          | succ kj88 =>
           have H := HA.out
           clear HA
           simp only [laws_FnHalvesOfMatrices.j5] at H
           by_cases c98 : x177_88 = true
           ·subst c98
            exact absurd ((show (some false : Option Bool) = some r from (by rw [if_pos rfl] at H; exact H)).trans (congrArg some HR_.out)) (by simp)
           ·replace c98 := Bool.eq_false_iff.mpr c98
            subst c98
            have H1 : (if t147 = true then ((impl_LeftHalf.f kj88 t146).bind fun bt155 => (if bt155.2 = true then ((laws_uSameRows.f kj88 bt155.1 t143).bind fun t159 => (if t159 = true then (laws_FnHalvesOfMatrices.j6 kj88 l1) else (some false))) else (some false))) else (laws_FnHalvesOfMatrices.j6 kj88 l1)) = some r := by rw [if_neg (show ¬ (false = true) by decide)] at H; exact H
            clear H
            have H := H1
            clear H1
            have HC99 := am_ H
            clear H
            go_upto_if 178 with (fail)
            go_cut [] (fun wc => ∃ (kq : Nat), Aside0 (laws_FnHalvesOfMatrices.j6 kq l1 = some r) ∧ Aside0 (kq ≤ kj88) ∧ Aside0 (Below w.heap.size w wc))
            case first => as_aux_lemma =>
             have H := HC99.out
             clear HC99
             by_cases c100 : t147 = true
             ·subst c100
              have H1 : ((impl_LeftHalf.f kj88 t146).bind fun bt155 => (if bt155.2 = true then ((laws_uSameRows.f kj88 bt155.1 t143).bind fun t159 => (if t159 = true then (laws_FnHalvesOfMatrices.j6 kj88 l1) else (some false))) else (some false))) = some r := by rw [if_pos rfl] at H; exact H
              clear H
              have H := H1
              clear H1
              replace H := Option.bind_eq_some_iff.mp H
              obtain ⟨⟨t155, t156⟩, A1010, H⟩ := H
              replace H : (if t156 = true then ((laws_uSameRows.f kj88 t155 t143).bind fun t159 => (if t159 = true then (laws_FnHalvesOfMatrices.j6 kj88 l1) else (some false))) else (some false)) = some r := H
              have A101 := am_ A1010
              clear A1010
              by_cases c102 : t156 = true
              ·subst c102
               have H1 : ((laws_uSameRows.f kj88 t155 t143).bind fun t159 => (if t159 = true then (laws_FnHalvesOfMatrices.j6 kj88 l1) else (some false))) = some r := by rw [if_pos rfl] at H; exact H
               clear H
               have H := H1
               clear H1
               replace H := Option.bind_eq_some_iff.mp H
               obtain ⟨t159, A1030, H⟩ := H
               replace H : (if t159 = true then (laws_FnHalvesOfMatrices.j6 kj88 l1) else (some false)) = some r := H
               have A103 := am_ A1030
               clear A1030
               by_cases c104 : t159 = true
               ·subst c104
                have H1 : (laws_FnHalvesOfMatrices.j6 kj88 l1) = some r := by rw [if_pos rfl] at H; exact H
                clear H
                have H := H1
                clear H1
                have H' := am_ H
                clear H
                obtain ⟨Ao105, co105, eo105⟩ := Kd.N_slice HO_25.out
                subst eo105
                go_wp2_with (first | ((with_reducible refine gate_callee (f := 36) rfl ?_); refine goesL_ (some 181) rfl rfl Try.func36 (by kernel_rfl) rfl #[.slice Ao105 t146.length co105] rfl tc1_ ?_; (with_reducible refine (impl_LeftHalf.calls kj88 _ _ t146 t155 true _ ?side1 ?side2 A101.out).mono ?_); (case side1 => repeat (first | exact (Kd.N_reads' HO_25.out).2.2 | (with_reducible refine Kd.C_alloc ?_ _) | (with_reducible refine Kd.C_drewN ?_ _) | (with_reducible refine Kd.C_drew ?_))); (case side2 => exact (Kd.N_reads' HO_25.out).2.1); rintro e w106 ⟨v157, rfl, ho0, hb⟩; refine ⟨_, rfl, ?_⟩; have n0_ := am_ (Kd.N_elder' (by (with_reducible repeat (first | apply Kd.N_alloc | apply Kd.N_drewN | apply Kd.N_drew)); exact HO_24.out) (Kd.S_base ho0) hb); have n1_ := am_ (Kd.N_elder' (by (with_reducible repeat (first | apply Kd.N_alloc | apply Kd.N_drewN | apply Kd.N_drew)); exact HO_25.out) (Kd.S_base ho0) hb); have n2_ := am_ (Kd.N_lower (Kd.N_mono (ok' := fun k_ => some k_ ≠ (.slice Ao91 t143.length co91 : Value).ownBlock ∧ some k_ ≠ (.slice Ao105 t146.length co105 : Value).ownBlock) (Kd.S_N (Kd.S_bound ho0)) (fun k_ hk_ => ⟨(Kd.fresh' (Kd.N_lt (by (with_reducible repeat (first | apply Kd.N_alloc | apply Kd.N_drewN | apply Kd.N_drew)); exact HO_24.out)) k_ hk_.2.1), (Kd.fresh' (Kd.N_lt (by (with_reducible repeat (first | apply Kd.N_alloc | apply Kd.N_drewN | apply Kd.N_drew)); exact HO_25.out)) k_ hk_.2.1)⟩)) (below_size tc0_)); have n3_ := am_ (below_step tc0_ hb); clear HO_24 HO_25 HB; have HO_24 := n0_; have HO_25 := n1_; have HO158 := n2_; have HB := n3_; clear n0_ n1_ n2_ n3_; (try clear hb ho0); obtain ⟨Ao107, co107, eo107⟩ := Kd.N_slice HO158.out; subst eo107) | (go_at_call 42; (with_reducible refine (laws_uSameRows.calls kj88 _ _ t155 _ _ t143 true _ ?side1 ?side2 ?side3 ?side4 A103.out).mono ?_); (case side1 => repeat (first | exact (Kd.N_reads' HO158.out).2.2 | (with_reducible refine Kd.C_alloc ?_ _) | (with_reducible refine Kd.C_drewN ?_ _) | (with_reducible refine Kd.C_drew ?_))); (case side2 => exact (Kd.N_reads' HO158.out).2.1); (case side3 => repeat (first | exact (Kd.N_reads' HO_24.out).2.2 | (with_reducible refine Kd.C_alloc ?_ _) | (with_reducible refine Kd.C_drewN ?_ _) | (with_reducible refine Kd.C_drew ?_))); (case side4 => exact (Kd.N_reads' HO_24.out).2.1); rintro e w' ⟨rfl, ⟨nd, rfl⟩⟩))
                go_meet
                case rel => exact ⟨_, H', ⟨by have := HJ11.out; have := HJ54.out; have := HJ71.out; have := HJ88.out; first | omega | exact Nat.le_refl _⟩, ⟨by repeat (first | (with_reducible first | exact HB.out | apply below_alloc | apply pw_below_drewN | apply below_drew1) | exact HB.out)⟩⟩
               ·replace c104 := Bool.eq_false_iff.mpr c104
                subst c104
                exact absurd ((show (some false : Option Bool) = some r from tc78_).trans (congrArg some HR_.out)) (by simp)
              ·replace c102 := Bool.eq_false_iff.mpr c102
               subst c102
               exact absurd ((show (some false : Option Bool) = some r from tc78_).trans (congrArg some HR_.out)) (by simp)
             ·replace c100 := Bool.eq_false_iff.mpr c100
              subst c100
              have H1 : (laws_FnHalvesOfMatrices.j6 kj88 l1) = some r := by rw [if_neg (show ¬ (false = true) by decide)] at H; exact H
              clear H
              have H := H1
              clear H1
              have H' := am_ H
              clear H
              go_wp2
              go_meet
              case rel => exact ⟨_, H', ⟨by have := HJ11.out; have := HJ54.out; have := HJ71.out; have := HJ88.out; first | omega | exact Nat.le_refl _⟩, ⟨by repeat (first | (with_reducible first | exact HB.out | apply below_alloc | apply pw_below_drewN | apply below_drew1) | exact HB.out)⟩⟩
            case rest => as_aux_lemma =>
             clear HC99
             try clear c1
             try clear p1
             try clear q1
             try clear hx1
             try clear c2
             try clear p2
             try clear c3
             try clear c4
             try clear c5
             try clear c6
             try clear p6
             try clear c7
             try clear c9
             try clear c10
             try clear p13
             try clear q13
             try clear hx13
             try clear c21
             try clear c21b0
             try clear c21b1
             try clear c21b2
             try clear c23
             try clear c24
             try clear c24b0
             try clear c24b1
             try clear c24b2
             try clear c28
             try clear c29
             try clear c29b0
             try clear c29b1
             try clear c29b2
             try clear c35
             try clear c36
             try clear c37
             try clear c38
             try clear c39
             try clear c40
             try clear c41
             try clear c44
             try clear c45
             try clear c46
             try clear c47
             try clear c54
             try clear c56
             try clear c61
             try clear c63
             try clear p64
             try clear c66
             try clear c68
             try clear c68b0
             try clear c69
             try clear c69b0
             try clear c70
             try clear c70b0
             try clear c71
             try clear c71b0
             try clear c71b1
             try clear c73
             try clear c75
             try clear c77
             try clear c94
             try clear c94b0
             try clear c94b1
             try clear c94b2
             try clear c98
             try clear c100
             try clear c102
             try clear c104
             try clear hx137_0
             try clear p1
             try clear p13
             try clear p137
             try clear p2
             try clear p6
             try clear p64
             try clear q1
             try clear q13
             try clear q137
             obtain ⟨kq, HA, HJ98, HB⟩ := hcut
             cases kq with
             | zero => exact absurd HA.out (by simp [laws_FnHalvesOfMatrices.j6])
             | succ kj98 =>
              have H := HA.out
              clear HA
              simp only [laws_FnHalvesOfMatrices.j6] at H
              replace H := Option.bind_eq_some_iff.mp H
              obtain ⟨t160, A1130, H⟩ := H
              replace H : ((impl_FromUpperHalf.f kj98 t160).bind fun bt163 => ((spec_FromUpperHalf.f kj98 t160).bind fun bt167 => (if (bt163.2 != bt167.2) = true then (laws_FnHalvesOfMatrices.j7 kj98 t160 bt163.1 bt163.2 true) else ((laws_uSameRows.f kj98 bt163.1 bt167.1).bind fun t171 => (laws_FnHalvesOfMatrices.j7 kj98 t160 bt163.1 bt163.2 (!t171)))))) = some r := H
              have A113 := am_ A1130
              clear A1130
              replace H := Option.bind_eq_some_iff.mp H
              obtain ⟨⟨t163, t164⟩, A1140, H⟩ := H
              replace H : ((spec_FromUpperHalf.f kj98 t160).bind fun bt167 => (if (t164 != bt167.2) = true then (laws_FnHalvesOfMatrices.j7 kj98 t160 t163 t164 true) else ((laws_uSameRows.f kj98 t163 bt167.1).bind fun t171 => (laws_FnHalvesOfMatrices.j7 kj98 t160 t163 t164 (!t171))))) = some r := H
              have A114 := am_ A1140
              clear A1140
              replace H := Option.bind_eq_some_iff.mp H
              obtain ⟨⟨t167, t168⟩, A1150, H⟩ := H
              replace H : (if (t164 != t168) = true then (laws_FnHalvesOfMatrices.j7 kj98 t160 t163 t164 true) else ((laws_uSameRows.f kj98 t163 t167).bind fun t171 => (laws_FnHalvesOfMatrices.j7 kj98 t160 t163 t164 (!t171)))) = some r := H
              have A115 := am_ A1150
              clear A1150
              have HC116 := am_ H
              clear H
              go_upto_region 38 with (first | ((with_reducible refine gate_callee (f := 48) rfl ?_); refine goesL_ (some 193) rfl rfl Try.func48 (by kernel_rfl) rfl #[.slice A1 l1.length c1] rfl tc1_ ?_; (with_reducible refine (spec_DrawFromUpperHalf.calls kj98 _ _ l1 t160 _ ?side1 ?side2 A113.out).mono ?_); (case side1 => repeat (first | exact (Kd.C_below HR1.out HB.out) | (with_reducible refine Kd.C_alloc ?_ _) | (with_reducible refine Kd.C_drewN ?_ _) | (with_reducible refine Kd.C_drew ?_))); (case side2 => exact HC1.out); rintro e w117 ⟨v161, rfl, ho0, hb⟩; refine ⟨_, rfl, ?_⟩; have n0_ := am_ (Kd.N_lower (Kd.N_mono (ok' := fun k_ => True) ho0 (fun k_ hk_ => trivial)) (below_size tc0_)); have n1_ := am_ (below_step tc0_ hb); clear HB; have HO162 := n0_; have HB := n1_; clear n0_ n1_; (try clear hb ho0); obtain ⟨Ao118, co118, eo118⟩ := Kd.N_slice HO162.out; subst eo118) | ((with_reducible refine gate_callee (f := 45) rfl ?_); refine goesL_ (some 196) rfl rfl Try.func45 (by kernel_rfl) rfl #[.slice Ao118 t160.length co118] rfl tc1_ ?_; (with_reducible refine (impl_FromUpperHalf.calls kj98 _ _ t160 t163 t164 _ ?side1 ?side2 A114.out).mono ?_); (case side1 => repeat (first | exact (Kd.N_reads' HO162.out).2.2 | (with_reducible refine Kd.C_alloc ?_ _) | (with_reducible refine Kd.C_drewN ?_ _) | (with_reducible refine Kd.C_drew ?_))); (case side2 => exact (Kd.N_reads' HO162.out).2.1); rintro e w119 ⟨v165, rfl, ho0, hb⟩; refine ⟨_, rfl, ?_⟩; have n0_ := am_ (Kd.N_elder' tc68_ (Kd.S_base ho0) hb); have n1_ := am_ (Kd.N_lower (Kd.N_mono (ok' := fun k_ => some k_ ≠ (.slice Ao118 t160.length co118 : Value).ownBlock) (Kd.S_N (Kd.S_bound ho0)) (fun k_ hk_ => (Kd.fresh' (Kd.N_lt tc68_) k_ hk_.2.1))) (below_size tc0_)); have n2_ := am_ (below_step tc0_ hb); clear HO162 HB; have HO162 := n0_; have HO166 := n1_; have HB := n2_; clear n0_ n1_ n2_; (try clear hb ho0)) | ((with_reducible refine gate_callee (f := 49) rfl ?_); refine goesL_ (some 201) rfl rfl Try.func49 (by kernel_rfl) rfl #[.slice Ao118 t160.length co118] rfl tc1_ ?_; (with_reducible refine (spec_FromUpperHalf.calls kj98 _ _ t160 t167 t168 _ ?side1 ?side2 A115.out).mono ?_); (case side1 => repeat (first | exact (Kd.N_reads' HO162.out).2.2 | (with_reducible refine Kd.C_alloc ?_ _) | (with_reducible refine Kd.C_drewN ?_ _) | (with_reducible refine Kd.C_drew ?_))); (case side2 => exact (Kd.N_reads' HO162.out).2.1); rintro e w120 ⟨v169, rfl, ho0, hb⟩; refine ⟨_, rfl, ?_⟩; have n0_ := am_ (Kd.N_elder' tc68_ (Kd.S_base ho0) hb); have n1_ := am_ (Kd.N_elder' (by (with_reducible repeat (first | apply Kd.N_alloc | apply Kd.N_drewN | apply Kd.N_drew)); exact HO166.out) (Kd.S_base ho0) hb); have n2_ := am_ (Kd.N_lower (Kd.N_mono (ok' := fun k_ => some k_ ≠ (.slice Ao118 t160.length co118 : Value).ownBlock ∧ some k_ ≠ (v165 : Value).ownBlock) (Kd.S_N (Kd.S_bound ho0)) (fun k_ hk_ => ⟨(Kd.fresh' (Kd.N_lt tc68_) k_ hk_.2.1), (Kd.fresh' (Kd.N_lt (by (with_reducible repeat (first | apply Kd.N_alloc | apply Kd.N_drewN | apply Kd.N_drew)); exact HO166.out)) k_ hk_.2.1)⟩)) (below_size tc0_)); have n3_ := am_ (below_step tc0_ hb); clear HO162 HO166 HB; have HO162 := n0_; have HO166 := n1_; have HO170 := n2_; have HB := n3_; clear n0_ n1_ n2_ n3_; (try clear hb ho0)))
              (try simp only [Act.put, List.setIfInBounds_toArray, List.set_cons_zero, List.set_cons_succ])
              go_cut [212] (fun v212 wc => ∃ (kq : Nat) (x212_115 : Bool), v212 = .bool x212_115 ∧ Aside0 (laws_FnHalvesOfMatrices.j7 kq t160 t163 t164 x212_115 = some r) ∧ Aside0 (kq ≤ kj98) ∧ Aside0 (Kd.N (Kd.slice 3 (Kd.int .i64)) 24 wc w.heap.size (fun k_ => some k_ ≠ (v165 : Value).ownBlock) (.slice Ao118 t160.length co118) t160) ∧ Aside0 (Kd.N (Kd.slice 3 (Kd.int .i64)) 24 wc w.heap.size (fun k_ => some k_ ≠ ((.slice Ao118 t160.length co118) : Value).ownBlock) v165 t163) ∧ Aside0 (Below w.heap.size w wc))
              case first => as_aux_lemma =>
               have H := HC116.out
               clear HC116
               by_cases c121 : (t164 != t168) = true
               ·rw [if_pos c121] at H
                have c121b0 : (t164 != t168) = true := c121
                (try (have c121b1 : decide (t164 = t168) = false := by simpa using c121))
                (try (have c121b2 : (t164 == t168) = false := by simpa using c121))
                (try (have c121b3 : ¬ (t164 = t168) := by simpa using c121))
                clear c121
                (first | rw [c121b0] | (simp only [i64_w, i32_w]; rw [c121b0]) | skip)
                have H' := am_ H
                clear H
                go_wp2
                go_meet
                case rel => exact ⟨_, (true), tc9_, H', ⟨by have := HJ11.out; have := HJ54.out; have := HJ71.out; have := HJ88.out; have := HJ98.out; first | omega | exact Nat.le_refl _⟩, ⟨by (with_reducible repeat (first | apply Kd.N_alloc | apply Kd.N_drewN | apply Kd.N_drew)); exact Kd.N_mono HO162.out (fun _ hk => hk.1.2)⟩, ⟨by (with_reducible repeat (first | apply Kd.N_alloc | apply Kd.N_drewN | apply Kd.N_drew)); exact Kd.N_mono HO166.out (fun _ hk => hk.1)⟩, ⟨by repeat (first | (with_reducible first | exact HB.out | apply below_alloc | apply pw_below_drewN | apply below_drew1) | exact HB.out)⟩⟩
               ·rw [if_neg c121] at H
                have c121b0 : (t164 != t168) = false := by simpa using c121
                (try (have c121b1 : decide (t164 = t168) = true := by simpa using c121))
                (try (have c121b2 : (t164 == t168) = true := by simpa using c121))
                clear c121
                (first | rw [c121b0] | (simp only [i64_w, i32_w]; rw [c121b0]) | skip)
                replace H := Option.bind_eq_some_iff.mp H
                obtain ⟨t171, A1220, H⟩ := H
                replace H : (laws_FnHalvesOfMatrices.j7 kj98 t160 t163 t164 (!t171)) = some r := H
                have A122 := am_ A1220
                clear A1220
                have H' := am_ H
                clear H
                obtain ⟨Ao123, co123, eo123⟩ := Kd.N_slice HO166.out
                subst eo123
                obtain ⟨Ao124, co124, eo124⟩ := Kd.N_slice HO170.out
                subst eo124
                go_wp2_with (first | (go_at_call 42; (with_reducible refine (laws_uSameRows.calls kj98 _ _ t163 _ _ t167 t171 _ ?side1 ?side2 ?side3 ?side4 A122.out).mono ?_); (case side1 => repeat (first | exact (Kd.N_reads' HO166.out).2.2 | (with_reducible refine Kd.C_alloc ?_ _) | (with_reducible refine Kd.C_drewN ?_ _) | (with_reducible refine Kd.C_drew ?_))); (case side2 => exact (Kd.N_reads' HO166.out).2.1); (case side3 => repeat (first | exact (Kd.N_reads' HO170.out).2.2 | (with_reducible refine Kd.C_alloc ?_ _) | (with_reducible refine Kd.C_drewN ?_ _) | (with_reducible refine Kd.C_drew ?_))); (case side4 => exact (Kd.N_reads' HO170.out).2.1); rintro e w' ⟨rfl, ⟨nd, rfl⟩⟩))
                go_meet
                case rel => exact ⟨_, (!t171), tc9_, H', ⟨by have := HJ11.out; have := HJ54.out; have := HJ71.out; have := HJ88.out; have := HJ98.out; first | omega | exact Nat.le_refl _⟩, ⟨by (with_reducible repeat (first | apply Kd.N_alloc | apply Kd.N_drewN | apply Kd.N_drew)); exact Kd.N_mono HO162.out (fun _ hk => hk.1.2)⟩, ⟨by (with_reducible repeat (first | apply Kd.N_alloc | apply Kd.N_drewN | apply Kd.N_drew)); exact Kd.N_mono HO166.out (fun _ hk => hk.1)⟩, ⟨by repeat (first | (with_reducible first | exact HB.out | apply below_alloc | apply pw_below_drewN | apply below_drew1) | exact HB.out)⟩⟩
              case rest => as_aux_lemma =>
               clear HC116
               try clear c1
               try clear p1
               try clear q1
               try clear hx1
               try clear c2
               try clear p2
               try clear c3
               try clear c4
               try clear c5
               try clear c6
               try clear p6
               try clear c7
               try clear c9
               try clear c10
               try clear c12
               try clear p13
               try clear q13
               try clear hx13
               try clear c21
               try clear c21b0
               try clear c21b1
               try clear c21b2
               try clear c23
               try clear c24
               try clear c24b0
               try clear c24b1
               try clear c24b2
               try clear c28
               try clear c29
               try clear c29b0
               try clear c29b1
               try clear c29b2
               try clear c35
               try clear c36
               try clear c37
               try clear c38
               try clear c39
               try clear c40
               try clear c41
               try clear c44
               try clear c45
               try clear c46
               try clear c47
               try clear c48
               try clear c49
               try clear c54
               try clear c56
               try clear c61
               try clear c63
               try clear p64
               try clear c66
               try clear c68
               try clear c68b0
               try clear c69
               try clear c69b0
               try clear c70
               try clear c70b0
               try clear c71
               try clear c71b0
               try clear c71b1
               try clear c73
               try clear c75
               try clear c77
               try clear c94
               try clear c94b0
               try clear c94b1
               try clear c94b2
               try clear c98
               try clear c100
               try clear c102
               try clear c104
               try clear c121
               try clear c121b0
               try clear c121b1
               try clear c121b2
               try clear hx137_0
               try clear p1
               try clear p13
               try clear p137
               try clear p2
               try clear p6
               try clear p64
               try clear q1
               try clear q13
               try clear q137
               obtain ⟨kq, x212_115, rfl, HA, HJ115, HO_31, HO_32, HB⟩ := hcut
               cases kq with
               | zero => exact absurd HA.out (by simp [laws_FnHalvesOfMatrices.j7])
               | succ kj115 =>
                have H := HA.out
                clear HA
                simp only [laws_FnHalvesOfMatrices.j7] at H
                by_cases c125 : x212_115 = true
                ·subst c125
                 exact absurd ((show (some false : Option Bool) = some r from (by rw [if_pos rfl] at H; exact H)).trans (congrArg some HR_.out)) (by simp)
                ·replace c125 := Bool.eq_false_iff.mpr c125
                 subst c125
                 have H1 : (if t164 = true then ((impl_UpperHalf.f kj115 t163).bind fun bt172 => (if bt172.2 = true then ((laws_uSameRows.f kj115 bt172.1 t160).bind fun t176 => (some t176)) else (some false))) else (some true)) = some r := by rw [if_neg (show ¬ (false = true) by decide)] at H; exact H
                 clear H
                 have H := H1
                 clear H1
                 by_cases c126 : t164 = true
                 ·subst c126
                  have H1 : ((impl_UpperHalf.f kj115 t163).bind fun bt172 => (if bt172.2 = true then ((laws_uSameRows.f kj115 bt172.1 t160).bind fun t176 => (some t176)) else (some false))) = some r := by rw [if_pos rfl] at H; exact H
                  clear H
                  have H := H1
                  clear H1
                  replace H := Option.bind_eq_some_iff.mp H
                  obtain ⟨⟨t172, t173⟩, A1270, H⟩ := H
                  replace H : (if t173 = true then ((laws_uSameRows.f kj115 t172 t160).bind fun t176 => (some t176)) else (some false)) = some r := H
                  have A127 := am_ A1270
                  clear A1270
                  by_cases c128 : t173 = true
                  ·subst c128
                   have H1 : ((laws_uSameRows.f kj115 t172 t160).bind fun t176 => (some t176)) = some r := by rw [if_pos rfl] at H; exact H
                   clear H
                   have H := H1
                   clear H1
                   replace H := Option.bind_eq_some_iff.mp H
                   obtain ⟨t176, A1290, H⟩ := H
                   replace H : (some t176) = some r := H
                   have A129 := am_ A1290
                   clear A1290
                   obtain rfl := Option.some.inj H
                   obtain ⟨Ao130, co130, eo130⟩ := Kd.N_slice HO_32.out
                   subst eo130
                   go_wp2_with (first | ((with_reducible refine gate_callee (f := 38) rfl ?_); refine goesL_ (some 217) rfl rfl Try.func38 (by kernel_rfl) rfl #[.slice Ao130 t163.length co130] rfl tc1_ ?_; (with_reducible refine (impl_UpperHalf.calls kj115 _ _ t163 t172 true _ ?side1 ?side2 A127.out).mono ?_); (case side1 => repeat (first | exact (Kd.N_reads' HO_32.out).2.2 | (with_reducible refine Kd.C_alloc ?_ _) | (with_reducible refine Kd.C_drewN ?_ _) | (with_reducible refine Kd.C_drew ?_))); (case side2 => exact (Kd.N_reads' HO_32.out).2.1); rintro e w131 ⟨v174, rfl, ho0, hb⟩; refine ⟨_, rfl, ?_⟩; have n0_ := am_ (Kd.N_elder' (by (with_reducible repeat (first | apply Kd.N_alloc | apply Kd.N_drewN | apply Kd.N_drew)); exact HO_31.out) (Kd.S_base ho0) hb); have n1_ := am_ (Kd.N_elder' (by (with_reducible repeat (first | apply Kd.N_alloc | apply Kd.N_drewN | apply Kd.N_drew)); exact HO_32.out) (Kd.S_base ho0) hb); have n2_ := am_ (Kd.N_lower (Kd.N_mono (ok' := fun k_ => some k_ ≠ (.slice Ao118 t160.length co118 : Value).ownBlock ∧ some k_ ≠ (.slice Ao130 t163.length co130 : Value).ownBlock) (Kd.S_N (Kd.S_bound ho0)) (fun k_ hk_ => ⟨(Kd.fresh' (Kd.N_lt (by (with_reducible repeat (first | apply Kd.N_alloc | apply Kd.N_drewN | apply Kd.N_drew)); exact HO_31.out)) k_ hk_.2.1), (Kd.fresh' (Kd.N_lt (by (with_reducible repeat (first | apply Kd.N_alloc | apply Kd.N_drewN | apply Kd.N_drew)); exact HO_32.out)) k_ hk_.2.1)⟩)) (below_size tc0_)); have n3_ := am_ (below_step tc0_ hb); clear HO_31 HO_32 HB; have HO_31 := n0_; have HO_32 := n1_; have HO175 := n2_; have HB := n3_; clear n0_ n1_ n2_ n3_; (try clear hb ho0); obtain ⟨Ao132, co132, eo132⟩ := Kd.N_slice HO175.out; subst eo132) | (go_at_call 42; (with_reducible refine (laws_uSameRows.calls kj115 _ _ t172 _ _ t160 t176 _ ?side1 ?side2 ?side3 ?side4 A129.out).mono ?_); (case side1 => repeat (first | exact (Kd.N_reads' HO175.out).2.2 | (with_reducible refine Kd.C_alloc ?_ _) | (with_reducible refine Kd.C_drewN ?_ _) | (with_reducible refine Kd.C_drew ?_))); (case side2 => exact (Kd.N_reads' HO175.out).2.1); (case side3 => repeat (first | exact (Kd.N_reads' HO_31.out).2.2 | (with_reducible refine Kd.C_alloc ?_ _) | (with_reducible refine Kd.C_drewN ?_ _) | (with_reducible refine Kd.C_drew ?_))); (case side4 => exact (Kd.N_reads' HO_31.out).2.1); rintro e w' ⟨rfl, ⟨nd, rfl⟩⟩))
                   go_ret
                   exact ⟨by first | rfl | (simp [errW_none, errW_some] <;> rfl) | (simp [*, errW_none, errW_some] <;> rfl), by repeat (first | (with_reducible first | exact HB.out | apply below_alloc | apply pw_below_drewN | apply below_drew1) | exact HB.out)⟩
                  ·replace c128 := Bool.eq_false_iff.mpr c128
                   subst c128
                   exact absurd ((show (some false : Option Bool) = some r from tc78_).trans (congrArg some HR_.out)) (by simp)
                 ·replace c126 := Bool.eq_false_iff.mpr c126
                  subst c126
                  have H1 : (some true) = some r := by rw [if_neg (show ¬ (false = true) by decide)] at H; exact H
                  clear H
                  have H := H1
                  clear H1
                  obtain rfl := Option.some.inj H
                  go_wp2
                  go_ret
                  exact ⟨by first | rfl | (simp [errW_none, errW_some] <;> rfl) | (simp [*, errW_none, errW_some] <;> rfl), by repeat (first | (with_reducible first | exact HB.out | apply below_alloc | apply pw_below_drewN | apply below_drew1) | exact HB.out)⟩

/-- THE ONE PURE STATEMENT of laws_FnHalvesOfMatrices: yours. -/

def laws_FnHalvesOfMatrices.Pure : Prop := ∀ (l0 : List Int) (l1 : List Int), l0.length ≤ maxLen → l0.length * 1 ≤ 140737488351232 → (∀ x ∈ l0, (Lit.int .u8 x).wf = true) → l1.length ≤ maxLen → l1.length * 1 ≤ 140737488351232 → (∀ x ∈ l1, (Lit.int .u8 x).wf = true) → ∃ k, laws_FnHalvesOfMatrices.f k l0 l1 = some true
theorem laws_FnHalvesOfMatrices.walk (P : laws_FnHalvesOfMatrices.Pure) (a0 : Option Addr) (len0 cap0 : Nat) (z0 : List Int) (a1 : Option Addr) (len1 cap1 : Nat) (z1 : List Int) (w : World) (w0 : (a0 = none ∧ len0 = 0 ∧ cap0 = 0 ∧ z0 = []) ∨ ∃ x, a0 = some x ∧ len0 ≤ cap0 ∧ cap0 ≤ maxLen ∧ z0.length = cap0 ∧ (∀ i, i < z0.length → w.cell? (x.add i) = some (.int .u8 (z0.getD i 0))) ∧ ∀ n ∈ z0, (Lit.int .u8 n).wf = true) (y0 : len0 * 1 ≤ 140737488351232) (w1 : (a1 = none ∧ len1 = 0 ∧ cap1 = 0 ∧ z1 = []) ∨ ∃ x, a1 = some x ∧ len1 ≤ cap1 ∧ cap1 ≤ maxLen ∧ z1.length = cap1 ∧ (∀ i, i < z1.length → w.cell? (x.add i) = some (.int .u8 (z1.getD i 0))) ∧ ∀ n ∈ z1, (Lit.int .u8 n).wf = true) (y1 : len1 * 1 ≤ 140737488351232) :
  Calls Try.prog 5 #[.slice a0 len0 cap0, .slice a1 len1 cap1] w fun e w' => e = .returned (.bool true) ∧ Below w.heap.size w w' := by
 obtain ⟨l0, rfl, hr0, hm0, hw0, hc0⟩ := ReadsInt.ofRowC w0
 obtain ⟨l1, rfl, hr1, hm1, hw1, hc1⟩ := ReadsInt.ofRowC w1
 obtain ⟨k, h⟩ := P l0 l1 hm0 y0 hw0 hm1 y1 hw1
 refine (laws_FnHalvesOfMatrices.calls k _ _ l0 _ _ l1 true w rfl (Kd.C_of_reads (d := (0 : Int)) (h1 := fun _ => rfl) hr0) hc0 (Kd.C_of_reads (d := (0 : Int)) (h1 := fun _ => rfl) hr1) hc1 h).mono ?_
 rintro e w' ⟨rfl, hd⟩
 exact ⟨rfl, hd⟩

end Go.Proofs.Ytiajdpjfofbpnaa.X
