-- Written by a program of this session (wip/xprint.py) that drives the kit's print; the contracts of what it does not take are this session's own.
import Derived.Test.YtkfoockclldieaaCFnKindsOfPlacesx0
import Derived.Test.YtkfoockclldieaaCFnKindsOfPlacesx1
import Derived.Test.YtkfoockclldieaaCFnKindsOfPlacesx2
import Derived.Test.YtkfoockclldieaaCFnKindsOfPlacesx3
import Derived.Test.YtkfoockclldieaaCFnKindsOfPlacesx4
namespace Go.Proofs.Ytkfoockclldieaa.X
open Go.RowKit Go.Proofs.YtkfoockclldieaaW.PrintWords Go.Proofs.YtkfoockclldieaaW.PrintLast Go.Proofs.YtkfoockclldieaaW.PrintMore
attribute [local go_sem] max2_int min2_int max_two min_two max_three min_three max_four min_four   -- for this text's walks alone
set_option linter.unusedVariables false
set_option linter.unusedSimpArgs false

/-! ### laws_FnKindsOfPlaces: function 3 -/
mutual
def laws_FnKindsOfPlaces.j0 : Nat → List Int → List (List Int) → List (List Int) → Bool → List Int → Bool → Option (Bool)
 | 0, _, _, _, _, _, _ => none
 | k + 1, x1, x5, x6, x9, x10, x83 => if x83 = true then (some false) else ((spec_DrawFromKinds.f k x1).bind fun t124 => ((impl_FromKinds.f k t124).bind fun bt127 => ((spec_FromKinds.f k t124).bind fun bt131 => (if (bt127.2 != bt131.2) = true then (laws_FnKindsOfPlaces.j1 k x5 x6 x9 x10 t124 bt127.1 bt127.2 true) else ((laws_uSameRows.f k bt127.1 bt131.1).bind fun t135 => (laws_FnKindsOfPlaces.j1 k x5 x6 x9 x10 t124 bt127.1 bt127.2 (!t135)))))))
def laws_FnKindsOfPlaces.j1 : Nat → List (List Int) → List (List Int) → Bool → List Int → List (List Int) → List (List Int) → Bool → Bool → Option (Bool)
 | 0, _, _, _, _, _, _, _, _ => none
 | k + 1, x5, x6, x9, x10, x14, x15, x16, x104 => if x104 = true then (some false) else (if x16 = true then ((impl_KindsOf.f k x15).bind fun bt136 => (if bt136.2 = true then ((laws_uSameRows.f k bt136.1 x14).bind fun t140 => (if t140 = true then (laws_FnKindsOfPlaces.j2 k x5 x6 x9 x10) else (some false))) else (some false))) else (laws_FnKindsOfPlaces.j2 k x5 x6 x9 x10))
def laws_FnKindsOfPlaces.j2 : Nat → List (List Int) → List (List Int) → Bool → List Int → Option (Bool)
 | 0, _, _, _, _ => none
 | k + 1, x5, x6, x9, x10 => if x9 = true then ((impl_FromKinds.f k x6).bind fun bt141 => ((impl_InversionsOf.f k x5).bind fun bt145 => ((impl_MinusOnes.f k x5).bind fun bt147 => (if bt141.2 = true then (if bt145.2 = true then (if bt147.2 = true then ((laws_uSameRows.f k bt141.1 x5).bind fun t149 => (if t149 = true then (if 0 < (x10.length : Int) then (if 3 < (x10.length : Int) then (if (rd x10 0) = (rd x10 3) then (if 1 < (x10.length : Int) then (if 2 < (x10.length : Int) then (if (rd x10 1) = (rd x10 2) then (if (rd x10 0) = (wrap64 (bt145.1 - bt147.1)) then (if 5 < (x10.length : Int) then (if (rd x10 5) = bt147.1 then (if 4 < (x10.length : Int) then (if (rd x10 4) = (wrap64 ((x5.length : Int) + bt147.1)) then (if (rd x10 1) = (wrap64 ((wrap64 (Int.tdiv (wrap64 ((x5.length : Int) * (wrap64 ((x5.length : Int) - 1)))) 2)) - bt145.1)) then ((laws_uSum.f k x10).bind fun t158 => (some (t158 == (wrap64 ((x5.length : Int) * (x5.length : Int)))))) else (some false)) else (some false)) else (none)) else (some false)) else (none)) else (some false)) else (some false)) else (none)) else (none)) else (some false)) else (none)) else (none)) else (some false))) else (some false)) else (some false)) else (some false))))) else (some true)
end
def laws_FnKindsOfPlaces.f (k : Nat) (l0 : List Int) (l1 : List Int) : Option (Bool) := (laws_big.f l0 l1).bind fun t101 => (if t101 = true then (some true) else ((spec_DrawKindsOf.f k l0).bind fun t102 => ((impl_KindsOf.f k t102).bind fun bt105 => ((spec_KindsOf.f k t102).bind fun bt109 => ((impl_KindCounts.f k t102).bind fun bt113 => ((spec_KindCounts.f k t102).bind fun bt117 => (if (bt105.2 != bt109.2) = true then (laws_FnKindsOfPlaces.j0 k l1 t102 bt105.1 bt109.2 bt113.1 true) else ((laws_uSameRows.f k bt105.1 bt109.1).bind fun t121 => (if t121 = true then (if (bt113.2 != bt117.2) = true then (laws_FnKindsOfPlaces.j0 k l1 t102 bt105.1 bt109.2 bt113.1 true) else ((laws_uSame.f k bt113.1 bt117.1).bind fun t122 => (if t122 = true then ((impl_IsSignMatrix.f k t102).bind fun t123 => (if (bt105.2 != t123) = true then (laws_FnKindsOfPlaces.j0 k l1 t102 bt105.1 bt109.2 bt113.1 true) else (laws_FnKindsOfPlaces.j0 k l1 t102 bt105.1 bt109.2 bt113.1 (bt113.2 != bt105.2)))) else (laws_FnKindsOfPlaces.j0 k l1 t102 bt105.1 bt109.2 bt113.1 true)))) else (laws_FnKindsOfPlaces.j0 k l1 t102 bt105.1 bt109.2 bt113.1 true))))))))))
def laws_FnKindsOfPlaces.T25 : Bool × List (List Nat × List Nat) := (true, [([], []), ([0], [0]), ([1], [1]), ([1, 2], [1, 2]), ([3, 1], [3]), ([4], [4]), ([4, 5], [4, 5]), ([6, 4], [6]), ([7], [7]), ([7], [7]), ([8, 9, 7, 7], [7, 8, 9]), ([7, 10], [7, 10]), ([11, 10], [11]), ([12], [12]), ([13, 12], [12, 13]), ([14, 12], [12, 14]), ([12], [12]), ([16, 12], [12, 16]), ([17, 12], [12, 17]), ([15, 18, 12], [12, 15, 18]), ([12, 19], [12, 19]), ([20, 12], [20]), ([21], [21]), ([22, 21], [21, 22]), ([23, 21], [21, 23]), ([21], [21]), ([25, 21], [21, 25]), ([26, 21], [21, 26]), ([24, 27, 21], [21, 24, 27]), ([21, 28], [21, 28]), ([29, 21], [29]), ([30], [30]), ([31, 30], [30, 31]), ([32, 30], [30, 32]), ([30], [30]), ([30], [30]), ([34, 35, 30], [30, 34, 35]), ([33, 36, 30], [30, 33, 36]), ([30, 37], [30, 37]), ([38, 30], [38]), ([39], [39]), ([40, 39], [39, 40]), ([41, 39], [39, 41]), ([39], [39]), ([42, 43, 39], [39, 42, 43]), ([39, 44], [39, 44]), ([45, 39], [45]), ([46], [46]), ([47, 46], [46, 47]), ([48, 46], [46, 48]), ([46], [46]), ([46], [46]), ([50, 51, 46], [46, 50, 51]), ([49, 52, 46], [46, 49, 52]), ([46, 53], [46, 53]), ([54, 46], [54]), ([55], [55]), ([56, 55], [55, 56]), ([57, 55], [55, 57]), ([55], [55]), ([55], [55]), ([60, 55], [55, 60]), ([59, 61, 55], [55, 59, 61]), ([62, 55], [55, 62]), ([55], [55]), ([63, 64, 55], [55, 63, 64]), ([58, 65, 55], [55, 58, 65]), ([55, 66], [55, 66]), ([67, 55], [67]), ([68], [68]), ([69, 68, 68], [68, 69]), ([68], [68]), ([68], [68]), ([71, 72, 68], [68, 71, 72]), ([70, 73, 68], [68, 70, 73]), ([68, 74], [68, 74]), ([75, 70, 0, 1, 2, 3, 4, 5, 6, 7, 8, 9, 10, 11, 12, 13, 14, 15, 16, 17, 18, 19, 20, 21, 22, 23, 24, 25, 26, 27, 28, 29, 30, 31, 32, 33, 34, 35, 36, 37, 38, 39, 40, 41, 42, 43, 44, 45, 46, 47, 48, 49, 50, 51, 52, 53, 54, 55, 56, 57, 58, 59, 60, 61, 62, 63, 64, 65, 66, 67, 68, 69, 70, 71, 72, 73, 74, 75], [75])])
def laws_FnKindsOfPlaces.B25 : List Nat := [0, 1, 3, 7, 15, 31, 63, 127, 255, 255, 1023, 2047, 4095, 8191, 16383, 32767, 8191, 73727, 204799, 524287, 1048575, 2097151, 4194303, 8388607, 16777215, 4194303, 37748735, 104857599, 268435455, 536870911, 1073741823, 2147483647, 4294967295, 8589934591, 2147483647, 2147483647, 53687091199, 137438953471, 274877906943, 549755813887, 1099511627775, 2199023255551, 4398046511103, 1099511627775, 17592186044415, 35184372088831, 70368744177663, 140737488355327, 281474976710655, 562949953421311, 140737488355327, 140737488355327, 3518437208883199, 9007199254740991, 18014398509481983, 36028797018963967, 72057594037927935, 144115188075855871, 288230376151711743, 72057594037927935, 72057594037927935, 1224979098644774911, 4107282860161892351, 8718968878589280255, 72057594037927935, 36389084989153607679, 73786976294838206463, 147573952589676412927, 295147905179352825855, 590295810358705651711, 1180591620717411303423, 590295810358705651711, 590295810358705651711, 7673845534663173472255, 18889465931478580854783, 37778931862957161709567, 75557863725914323419135]
theorem laws_FnKindsOfPlaces.tab25 : rtab .any (opsOf Try.f3 25) = laws_FnKindsOfPlaces.T25 := by kernel_rfl
theorem laws_FnKindsOfPlaces.bits25 : waitsOk laws_FnKindsOfPlaces.T25.2 laws_FnKindsOfPlaces.B25 = true := by kernel_rfl
theorem laws_FnKindsOfPlaces.j0_dead (k : Nat) (a0 : List Int) (a1 : List (List Int)) (a2 : List (List Int)) (a3 : Bool) (a4 : List Int) (h : laws_FnKindsOfPlaces.j0 k a0 a1 a2 a3 a4 true = some true) : False := by cases k <;> simp [laws_FnKindsOfPlaces.j0] at h
theorem laws_FnKindsOfPlaces.j1_dead (k : Nat) (a0 : List (List Int)) (a1 : List (List Int)) (a2 : Bool) (a3 : List Int) (a4 : List (List Int)) (a5 : List (List Int)) (a6 : Bool) (h : laws_FnKindsOfPlaces.j1 k a0 a1 a2 a3 a4 a5 a6 true = some true) : False := by cases k <;> simp [laws_FnKindsOfPlaces.j1] at h
set_option maxHeartbeats 8000000 in
set_option maxRecDepth 100000 in
theorem laws_FnKindsOfPlaces.calls (k : Nat) (A0 : Option Addr) (c0 : Nat) (l0 : List Int) (A1 : Option Addr) (c1 : Nat) (l1 : List Int) (r : Bool) (w : World) (hr_ : r = true) (hr0 : Kd.C (Kd.int .u8) w A0 l0.length l0) (hc0 : l0.length ≤ c0) (hr1 : Kd.C (Kd.int .u8) w A1 l1.length l1) (hc1 : l1.length ≤ c1) (h : laws_FnKindsOfPlaces.f k l0 l1 = some r) :
  Calls Try.prog 3 #[.slice A0 l0.length c0, .slice A1 l1.length c1] w fun e w' => e = .returned (.bool r) ∧ Below w.heap.size w w' := by
 have HR_ := am_ hr_
 clear hr_
 have HR0 := am_ hr0
 have HC0 := am_ hc0
 clear hr0 hc0
 have HR1 := am_ hr1
 have HC1 := am_ hc1
 clear hr1 hc1
 have HB := am_ (Below.refl w.heap.size w)
 have H : ((laws_big.f l0 l1).bind fun t101 => (if t101 = true then (some true) else ((spec_DrawKindsOf.f k l0).bind fun t102 => ((impl_KindsOf.f k t102).bind fun bt105 => ((spec_KindsOf.f k t102).bind fun bt109 => ((impl_KindCounts.f k t102).bind fun bt113 => ((spec_KindCounts.f k t102).bind fun bt117 => (if (bt105.2 != bt109.2) = true then (laws_FnKindsOfPlaces.j0 k l1 t102 bt105.1 bt109.2 bt113.1 true) else ((laws_uSameRows.f k bt105.1 bt109.1).bind fun t121 => (if t121 = true then (if (bt113.2 != bt117.2) = true then (laws_FnKindsOfPlaces.j0 k l1 t102 bt105.1 bt109.2 bt113.1 true) else ((laws_uSame.f k bt113.1 bt117.1).bind fun t122 => (if t122 = true then ((impl_IsSignMatrix.f k t102).bind fun t123 => (if (bt105.2 != t123) = true then (laws_FnKindsOfPlaces.j0 k l1 t102 bt105.1 bt109.2 bt113.1 true) else (laws_FnKindsOfPlaces.j0 k l1 t102 bt105.1 bt109.2 bt113.1 (bt113.2 != bt105.2)))) else (laws_FnKindsOfPlaces.j0 k l1 t102 bt105.1 bt109.2 bt113.1 true)))) else (laws_FnKindsOfPlaces.j0 k l1 t102 bt105.1 bt109.2 bt113.1 true))))))))))) = some r := h
 clear h
 replace H := Option.bind_eq_some_iff.mp H
 obtain ⟨t101, A30, H⟩ := H
 replace H : (if t101 = true then (some true) else ((spec_DrawKindsOf.f k l0).bind fun t102 => ((impl_KindsOf.f k t102).bind fun bt105 => ((spec_KindsOf.f k t102).bind fun bt109 => ((impl_KindCounts.f k t102).bind fun bt113 => ((spec_KindCounts.f k t102).bind fun bt117 => (if (bt105.2 != bt109.2) = true then (laws_FnKindsOfPlaces.j0 k l1 t102 bt105.1 bt109.2 bt113.1 true) else ((laws_uSameRows.f k bt105.1 bt109.1).bind fun t121 => (if t121 = true then (if (bt113.2 != bt117.2) = true then (laws_FnKindsOfPlaces.j0 k l1 t102 bt105.1 bt109.2 bt113.1 true) else ((laws_uSame.f k bt113.1 bt117.1).bind fun t122 => (if t122 = true then ((impl_IsSignMatrix.f k t102).bind fun t123 => (if (bt105.2 != t123) = true then (laws_FnKindsOfPlaces.j0 k l1 t102 bt105.1 bt109.2 bt113.1 true) else (laws_FnKindsOfPlaces.j0 k l1 t102 bt105.1 bt109.2 bt113.1 (bt113.2 != bt105.2)))) else (laws_FnKindsOfPlaces.j0 k l1 t102 bt105.1 bt109.2 bt113.1 true)))) else (laws_FnKindsOfPlaces.j0 k l1 t102 bt105.1 bt109.2 bt113.1 true)))))))))) = some r := H
 have A3 := am_ A30
 clear A30
 by_cases c4 : t101 = true
 ·subst c4
  have H1 : (some true) = some r := by rw [if_pos rfl] at H; exact H
  clear H
  have H := H1
  clear H1
  obtain rfl := Option.some.inj H
  go_enter Try.func3, Try.ntmps3
  go_wp2_with (first | ((with_reducible refine gate_callee (f := 5) rfl ?_); refine goesL_ (some 30) rfl rfl Try.func5 (by kernel_rfl) rfl #[.slice A0 l0.length c0, .slice A1 l1.length c1] rfl tc0_ ?_; (with_reducible refine (laws_big.calls _ _ l0 _ _ l1 true _ ?side1 ?side2 ?side3 ?side4 A3.out).mono ?_); (case side1 => exact tc8_); (case side2 => exact HC0.out); (case side3 => exact tc36_); (case side4 => exact HC1.out); rintro e w' ⟨rfl, ⟨nd, rfl⟩⟩; refine ⟨_, rfl, ?_⟩))
  go_ret
  exact ⟨by first | rfl | (simp [errW_none, errW_some] <;> rfl) | (simp [*, errW_none, errW_some] <;> rfl), by repeat (first | (with_reducible first | exact HB.out | apply below_alloc | apply pw_below_drewN | apply below_drew1) | exact HB.out)⟩
 ·replace c4 := Bool.eq_false_iff.mpr c4
  subst c4
  have H1 : ((spec_DrawKindsOf.f k l0).bind fun t102 => ((impl_KindsOf.f k t102).bind fun bt105 => ((spec_KindsOf.f k t102).bind fun bt109 => ((impl_KindCounts.f k t102).bind fun bt113 => ((spec_KindCounts.f k t102).bind fun bt117 => (if (bt105.2 != bt109.2) = true then (laws_FnKindsOfPlaces.j0 k l1 t102 bt105.1 bt109.2 bt113.1 true) else ((laws_uSameRows.f k bt105.1 bt109.1).bind fun t121 => (if t121 = true then (if (bt113.2 != bt117.2) = true then (laws_FnKindsOfPlaces.j0 k l1 t102 bt105.1 bt109.2 bt113.1 true) else ((laws_uSame.f k bt113.1 bt117.1).bind fun t122 => (if t122 = true then ((impl_IsSignMatrix.f k t102).bind fun t123 => (if (bt105.2 != t123) = true then (laws_FnKindsOfPlaces.j0 k l1 t102 bt105.1 bt109.2 bt113.1 true) else (laws_FnKindsOfPlaces.j0 k l1 t102 bt105.1 bt109.2 bt113.1 (bt113.2 != bt105.2)))) else (laws_FnKindsOfPlaces.j0 k l1 t102 bt105.1 bt109.2 bt113.1 true)))) else (laws_FnKindsOfPlaces.j0 k l1 t102 bt105.1 bt109.2 bt113.1 true))))))))) = some r := by rw [if_neg (show ¬ (false = true) by decide)] at H; exact H
  clear H
  have H := H1
  clear H1
  replace H := Option.bind_eq_some_iff.mp H
  obtain ⟨t102, A50, H⟩ := H
  replace H : ((impl_KindsOf.f k t102).bind fun bt105 => ((spec_KindsOf.f k t102).bind fun bt109 => ((impl_KindCounts.f k t102).bind fun bt113 => ((spec_KindCounts.f k t102).bind fun bt117 => (if (bt105.2 != bt109.2) = true then (laws_FnKindsOfPlaces.j0 k l1 t102 bt105.1 bt109.2 bt113.1 true) else ((laws_uSameRows.f k bt105.1 bt109.1).bind fun t121 => (if t121 = true then (if (bt113.2 != bt117.2) = true then (laws_FnKindsOfPlaces.j0 k l1 t102 bt105.1 bt109.2 bt113.1 true) else ((laws_uSame.f k bt113.1 bt117.1).bind fun t122 => (if t122 = true then ((impl_IsSignMatrix.f k t102).bind fun t123 => (if (bt105.2 != t123) = true then (laws_FnKindsOfPlaces.j0 k l1 t102 bt105.1 bt109.2 bt113.1 true) else (laws_FnKindsOfPlaces.j0 k l1 t102 bt105.1 bt109.2 bt113.1 (bt113.2 != bt105.2)))) else (laws_FnKindsOfPlaces.j0 k l1 t102 bt105.1 bt109.2 bt113.1 true)))) else (laws_FnKindsOfPlaces.j0 k l1 t102 bt105.1 bt109.2 bt113.1 true)))))))) = some r := H
  have A5 := am_ A50
  clear A50
  replace H := Option.bind_eq_some_iff.mp H
  obtain ⟨⟨t105, t106⟩, A60, H⟩ := H
  replace H : ((spec_KindsOf.f k t102).bind fun bt109 => ((impl_KindCounts.f k t102).bind fun bt113 => ((spec_KindCounts.f k t102).bind fun bt117 => (if (t106 != bt109.2) = true then (laws_FnKindsOfPlaces.j0 k l1 t102 t105 bt109.2 bt113.1 true) else ((laws_uSameRows.f k t105 bt109.1).bind fun t121 => (if t121 = true then (if (bt113.2 != bt117.2) = true then (laws_FnKindsOfPlaces.j0 k l1 t102 t105 bt109.2 bt113.1 true) else ((laws_uSame.f k bt113.1 bt117.1).bind fun t122 => (if t122 = true then ((impl_IsSignMatrix.f k t102).bind fun t123 => (if (t106 != t123) = true then (laws_FnKindsOfPlaces.j0 k l1 t102 t105 bt109.2 bt113.1 true) else (laws_FnKindsOfPlaces.j0 k l1 t102 t105 bt109.2 bt113.1 (bt113.2 != t106)))) else (laws_FnKindsOfPlaces.j0 k l1 t102 t105 bt109.2 bt113.1 true)))) else (laws_FnKindsOfPlaces.j0 k l1 t102 t105 bt109.2 bt113.1 true))))))) = some r := H
  have A6 := am_ A60
  clear A60
  replace H := Option.bind_eq_some_iff.mp H
  obtain ⟨⟨t109, t110⟩, A70, H⟩ := H
  replace H : ((impl_KindCounts.f k t102).bind fun bt113 => ((spec_KindCounts.f k t102).bind fun bt117 => (if (t106 != t110) = true then (laws_FnKindsOfPlaces.j0 k l1 t102 t105 t110 bt113.1 true) else ((laws_uSameRows.f k t105 t109).bind fun t121 => (if t121 = true then (if (bt113.2 != bt117.2) = true then (laws_FnKindsOfPlaces.j0 k l1 t102 t105 t110 bt113.1 true) else ((laws_uSame.f k bt113.1 bt117.1).bind fun t122 => (if t122 = true then ((impl_IsSignMatrix.f k t102).bind fun t123 => (if (t106 != t123) = true then (laws_FnKindsOfPlaces.j0 k l1 t102 t105 t110 bt113.1 true) else (laws_FnKindsOfPlaces.j0 k l1 t102 t105 t110 bt113.1 (bt113.2 != t106)))) else (laws_FnKindsOfPlaces.j0 k l1 t102 t105 t110 bt113.1 true)))) else (laws_FnKindsOfPlaces.j0 k l1 t102 t105 t110 bt113.1 true)))))) = some r := H
  have A7 := am_ A70
  clear A70
  replace H := Option.bind_eq_some_iff.mp H
  obtain ⟨⟨t113, t114⟩, A80, H⟩ := H
  replace H : ((spec_KindCounts.f k t102).bind fun bt117 => (if (t106 != t110) = true then (laws_FnKindsOfPlaces.j0 k l1 t102 t105 t110 t113 true) else ((laws_uSameRows.f k t105 t109).bind fun t121 => (if t121 = true then (if (t114 != bt117.2) = true then (laws_FnKindsOfPlaces.j0 k l1 t102 t105 t110 t113 true) else ((laws_uSame.f k t113 bt117.1).bind fun t122 => (if t122 = true then ((impl_IsSignMatrix.f k t102).bind fun t123 => (if (t106 != t123) = true then (laws_FnKindsOfPlaces.j0 k l1 t102 t105 t110 t113 true) else (laws_FnKindsOfPlaces.j0 k l1 t102 t105 t110 t113 (t114 != t106)))) else (laws_FnKindsOfPlaces.j0 k l1 t102 t105 t110 t113 true)))) else (laws_FnKindsOfPlaces.j0 k l1 t102 t105 t110 t113 true))))) = some r := H
  have A8 := am_ A80
  clear A80
  replace H := Option.bind_eq_some_iff.mp H
  obtain ⟨⟨t117, t118⟩, A90, H⟩ := H
  replace H : (if (t106 != t110) = true then (laws_FnKindsOfPlaces.j0 k l1 t102 t105 t110 t113 true) else ((laws_uSameRows.f k t105 t109).bind fun t121 => (if t121 = true then (if (t114 != t118) = true then (laws_FnKindsOfPlaces.j0 k l1 t102 t105 t110 t113 true) else ((laws_uSame.f k t113 t117).bind fun t122 => (if t122 = true then ((impl_IsSignMatrix.f k t102).bind fun t123 => (if (t106 != t123) = true then (laws_FnKindsOfPlaces.j0 k l1 t102 t105 t110 t113 true) else (laws_FnKindsOfPlaces.j0 k l1 t102 t105 t110 t113 (t114 != t106)))) else (laws_FnKindsOfPlaces.j0 k l1 t102 t105 t110 t113 true)))) else (laws_FnKindsOfPlaces.j0 k l1 t102 t105 t110 t113 true)))) = some r := H
  have A9 := am_ A90
  clear A90
  have HC10 := am_ H
  clear H
  go_enter Try.func3, Try.ntmps3
  go_upto_region 8 with (first | ((with_reducible refine gate_callee (f := 5) rfl ?_); refine goesL_ (some 30) rfl rfl Try.func5 (by kernel_rfl) rfl #[.slice A0 l0.length c0, .slice A1 l1.length c1] rfl tc0_ ?_; (with_reducible refine (laws_big.calls _ _ l0 _ _ l1 false _ ?side1 ?side2 ?side3 ?side4 A3.out).mono ?_); (case side1 => exact tc8_); (case side2 => exact HC0.out); (case side3 => exact tc36_); (case side4 => exact HC1.out); rintro e w' ⟨rfl, ⟨nd, rfl⟩⟩; refine ⟨_, rfl, ?_⟩) | ((with_reducible refine gate_callee (f := 6) rfl ?_); refine goesL_ (some 32) rfl rfl Try.func6 (by kernel_rfl) rfl #[.slice A0 l0.length c0] rfl tc0_ ?_; (with_reducible refine (spec_DrawKindsOf.calls k _ _ l0 t102 _ ?side1 ?side2 A5.out).mono ?_); (case side1 => exact tc8_); (case side2 => exact HC0.out); rintro e w11 ⟨v103, rfl, ho0, hb⟩; refine ⟨_, rfl, ?_⟩; have n0_ := am_ (Kd.S_lower ho0 (below_size tc1_)); have n1_ := am_ (below_step tc1_ hb); clear HB; have HO104 := n0_; have HB := n1_; clear n0_ n1_; (try clear hb ho0); obtain ⟨Ao12, co12, eo12⟩ := Kd.S_slice HO104.out; subst eo12) | ((with_reducible refine gate_callee (f := 7) rfl ?_); refine goesL_ (some 35) rfl rfl Try.func7 (by kernel_rfl) rfl #[.slice Ao12 t102.length co12] rfl tc0_ ?_; (with_reducible refine (impl_KindsOf.calls k _ _ t102 t105 t106 _ ?side1 ?side2 A6.out).mono ?_); (case side1 => exact tc18_); (case side2 => exact tc49_); rintro e w13 ⟨v107, rfl, ho0, hb⟩; refine ⟨_, rfl, ?_⟩; have n0_ := am_ (Kd.S_below tc15_ hb); have n1_ := am_ (Kd.S_lower (Kd.S_new' ho0 (Kd.S_lt tc15_)) (below_size tc1_)); have n2_ := am_ (below_step tc1_ hb); clear HO104 HB; have HO104 := n0_; have HO108 := n1_; have HB := n2_; clear n0_ n1_ n2_; (try clear hb ho0)) | ((with_reducible refine gate_callee (f := 8) rfl ?_); refine goesL_ (some 40) rfl rfl Try.func8 (by kernel_rfl) rfl #[.slice Ao12 t102.length co12] rfl tc0_ ?_; (with_reducible refine (spec_KindsOf.calls k _ _ t102 t109 t110 _ ?side1 ?side2 A7.out).mono ?_); (case side1 => exact tc18_); (case side2 => exact tc49_); rintro e w14 ⟨v111, rfl, ho0, hb⟩; refine ⟨_, rfl, ?_⟩; have n0_ := am_ (Kd.S_below tc15_ hb); have n1_ := am_ (Kd.S_below tc39_ hb); have n2_ := am_ (Kd.S_lower (Kd.S_new' (Kd.S_new' ho0 (Kd.S_lt tc15_)) (Kd.S_lt tc39_)) (below_size tc1_)); have n3_ := am_ (below_step tc1_ hb); clear HO104 HO108 HB; have HO104 := n0_; have HO108 := n1_; have HO112 := n2_; have HB := n3_; clear n0_ n1_ n2_ n3_; (try clear hb ho0)) | ((with_reducible refine gate_callee (f := 9) rfl ?_); refine goesL_ (some 45) rfl rfl Try.func9 (by kernel_rfl) rfl #[.slice Ao12 t102.length co12] rfl tc0_ ?_; (with_reducible refine (impl_KindCounts.calls k _ _ t102 t113 t114 _ ?side1 ?side2 A8.out).mono ?_); (case side1 => exact tc18_); (case side2 => exact tc49_); rintro e w15 ⟨v115, rfl, ho0, hb⟩; refine ⟨_, rfl, ?_⟩; have n0_ := am_ (Kd.S_below tc15_ hb); have n1_ := am_ (Kd.S_below tc39_ hb); have n2_ := am_ (Kd.S_below tc54_ hb); have n3_ := am_ (Kd.R_lower ho0 (below_size tc1_)); have n4_ := am_ (below_step tc1_ hb); clear HO104 HO108; clear HO112 HB; have HO104 := n0_; have HO108 := n1_; have HO112 := n2_; have HO116 := n3_; have HB := n4_; clear n0_ n1_ n2_ n3_ n4_; (try clear hb ho0)) | ((with_reducible refine gate_callee (f := 10) rfl ?_); refine goesL_ (some 50) rfl rfl Try.func10 (by kernel_rfl) rfl #[.slice Ao12 t102.length co12] rfl tc0_ ?_; (with_reducible refine (spec_KindCounts.calls k _ _ t102 t117 t118 _ ?side1 ?side2 A9.out).mono ?_); (case side1 => exact tc18_); (case side2 => exact tc49_); rintro e w16 ⟨v119, rfl, ho0, hb⟩; refine ⟨_, rfl, ?_⟩; have n0_ := am_ (Kd.S_below tc15_ hb); have n1_ := am_ (Kd.S_below tc39_ hb); have n2_ := am_ (Kd.S_below tc54_ hb); have n3_ := am_ (Kd.R_below tc55_ hb); have n4_ := am_ (Kd.R_lower (Kd.R_new' ho0 (Kd.R_lt tc55_)) (below_size tc1_)); have n5_ := am_ (below_step tc1_ hb); clear HO104 HO108; clear HO112 HO116 HB; have HO104 := n0_; have HO108 := n1_; have HO112 := n2_; have HO116 := n3_; have HO120 := n4_; have HB := n5_; clear n0_ n1_ n2_ n3_ n4_ n5_; (try clear hb ho0)))
  (try simp only [Act.put, List.setIfInBounds_toArray, List.set_cons_zero, List.set_cons_succ])
  go_cut [83] (fun v83 wc => ∃ (kq : Nat) (x83_9 : Bool), v83 = .bool x83_9 ∧ Aside0 (laws_FnKindsOfPlaces.j0 kq l1 t102 t105 t110 t113 x83_9 = some r) ∧ Aside0 (kq ≤ k) ∧ Aside0 (Kd.S (Kd.slice 3 (Kd.int .i64)) 28 wc w.heap.size (fun _ => True) (.slice Ao12 t102.length co12) t102) ∧ Aside0 (Kd.S (Kd.slice 3 (Kd.int .i64)) 28 wc w.heap.size (fun _ => True) v107 t105) ∧ Aside0 (Kd.R (Kd.int .i64) 3 wc w.heap.size (fun _ => True) v115 t113) ∧ Aside0 (Below w.heap.size w wc))
  case first => as_aux_lemma =>
   have H := HC10.out
   clear HC10
   by_cases c17 : (t106 != t110) = true
   ·rw [if_pos c17] at H
    exact (laws_FnKindsOfPlaces.j0_dead _ _ _ _ _ _ (H.trans (congrArg some HR_.out))).elim
   ·rw [if_neg c17] at H
    have c17b0 : (t106 != t110) = false := by simpa using c17
    (try (have c17b1 : decide (t106 = t110) = true := by simpa using c17))
    (try (have c17b2 : (t106 == t110) = true := by simpa using c17))
    clear c17
    (first | rw [c17b0] | (simp only [i64_w, i32_w]; rw [c17b0]) | skip)
    replace H := Option.bind_eq_some_iff.mp H
    obtain ⟨t121, A180, H⟩ := H
    replace H : (if t121 = true then (if (t114 != t118) = true then (laws_FnKindsOfPlaces.j0 k l1 t102 t105 t110 t113 true) else ((laws_uSame.f k t113 t117).bind fun t122 => (if t122 = true then ((impl_IsSignMatrix.f k t102).bind fun t123 => (if (t106 != t123) = true then (laws_FnKindsOfPlaces.j0 k l1 t102 t105 t110 t113 true) else (laws_FnKindsOfPlaces.j0 k l1 t102 t105 t110 t113 (t114 != t106)))) else (laws_FnKindsOfPlaces.j0 k l1 t102 t105 t110 t113 true)))) else (laws_FnKindsOfPlaces.j0 k l1 t102 t105 t110 t113 true)) = some r := H
    have A18 := am_ A180
    clear A180
    by_cases c19 : t121 = true
    ·subst c19
     have H1 : (if (t114 != t118) = true then (laws_FnKindsOfPlaces.j0 k l1 t102 t105 t110 t113 true) else ((laws_uSame.f k t113 t117).bind fun t122 => (if t122 = true then ((impl_IsSignMatrix.f k t102).bind fun t123 => (if (t106 != t123) = true then (laws_FnKindsOfPlaces.j0 k l1 t102 t105 t110 t113 true) else (laws_FnKindsOfPlaces.j0 k l1 t102 t105 t110 t113 (t114 != t106)))) else (laws_FnKindsOfPlaces.j0 k l1 t102 t105 t110 t113 true)))) = some r := by rw [if_pos rfl] at H; exact H
     clear H
     have H := H1
     clear H1
     by_cases c20 : (t114 != t118) = true
     ·rw [if_pos c20] at H
      exact (laws_FnKindsOfPlaces.j0_dead _ _ _ _ _ _ (H.trans (congrArg some HR_.out))).elim
     ·rw [if_neg c20] at H
      have c20b0 : (t114 != t118) = false := by simpa using c20
      (try (have c20b1 : decide (t114 = t118) = true := by simpa using c20))
      (try (have c20b2 : (t114 == t118) = true := by simpa using c20))
      clear c20
      replace H := Option.bind_eq_some_iff.mp H
      obtain ⟨t122, A230, H⟩ := H
      replace H : (if t122 = true then ((impl_IsSignMatrix.f k t102).bind fun t123 => (if (t106 != t123) = true then (laws_FnKindsOfPlaces.j0 k l1 t102 t105 t110 t113 true) else (laws_FnKindsOfPlaces.j0 k l1 t102 t105 t110 t113 (t114 != t106)))) else (laws_FnKindsOfPlaces.j0 k l1 t102 t105 t110 t113 true)) = some r := H
      have A23 := am_ A230
      clear A230
      by_cases c24 : t122 = true
      ·subst c24
       have H1 : ((impl_IsSignMatrix.f k t102).bind fun t123 => (if (t106 != t123) = true then (laws_FnKindsOfPlaces.j0 k l1 t102 t105 t110 t113 true) else (laws_FnKindsOfPlaces.j0 k l1 t102 t105 t110 t113 (t114 != t106)))) = some r := by rw [if_pos rfl] at H; exact H
       clear H
       have H := H1
       clear H1
       replace H := Option.bind_eq_some_iff.mp H
       obtain ⟨t123, A250, H⟩ := H
       replace H : (if (t106 != t123) = true then (laws_FnKindsOfPlaces.j0 k l1 t102 t105 t110 t113 true) else (laws_FnKindsOfPlaces.j0 k l1 t102 t105 t110 t113 (t114 != t106))) = some r := H
       have A25 := am_ A250
       clear A250
       by_cases c26 : (t106 != t123) = true
       ·rw [if_pos c26] at H
        exact (laws_FnKindsOfPlaces.j0_dead _ _ _ _ _ _ (H.trans (congrArg some HR_.out))).elim
       ·rw [if_neg c26] at H
        have c26b0 : (t106 != t123) = false := by simpa using c26
        (try (have c26b1 : decide (t106 = t123) = true := by simpa using c26))
        (try (have c26b2 : (t106 == t123) = true := by simpa using c26))
        clear c26
        have H' := am_ H
        clear H
        obtain ⟨Ao32, co32, eo32⟩ := Kd.S_slice HO108.out
        subst eo32
        obtain ⟨Ao33, co33, eo33⟩ := Kd.S_slice HO112.out
        subst eo33
        go_wp2_with (first | (go_at_call 11; (with_reducible refine (laws_uSameRows.calls k _ _ t105 _ _ t109 true _ ?side1 ?side2 ?side3 ?side4 A18.out).mono ?_); (case side1 => repeat (first | exact (Kd.S_reads' HO108.out).2.2 | (with_reducible refine Kd.C_alloc ?_ _) | (with_reducible refine Kd.C_drewN ?_ _) | (with_reducible refine Kd.C_drew ?_))); (case side2 => exact (Kd.S_reads' HO108.out).2.1); (case side3 => repeat (first | exact (Kd.S_reads' HO112.out).2.2 | (with_reducible refine Kd.C_alloc ?_ _) | (with_reducible refine Kd.C_drewN ?_ _) | (with_reducible refine Kd.C_drew ?_))); (case side4 => exact (Kd.S_reads' HO112.out).2.1); rintro e w' ⟨rfl, ⟨nd, rfl⟩⟩; obtain ⟨Ao34, co34, eo34⟩ := Kd.R_slice HO116.out; subst eo34; obtain ⟨Ao35, co35, eo35⟩ := Kd.R_slice HO120.out; subst eo35) | (go_at_call 12; (with_reducible refine (laws_uSame.calls k _ _ t113 _ _ t117 true _ ?side1 ?side2 ?side3 ?side4 A23.out).mono ?_); (case side1 => repeat (first | exact (Kd.R_reads' HO116.out).2.2 | (with_reducible refine Kd.C_alloc ?_ _) | (with_reducible refine Kd.C_drewN ?_ _) | (with_reducible refine Kd.C_drew ?_))); (case side2 => exact (Kd.R_reads' HO116.out).2.1); (case side3 => repeat (first | exact (Kd.R_reads' HO120.out).2.2 | (with_reducible refine Kd.C_alloc ?_ _) | (with_reducible refine Kd.C_drewN ?_ _) | (with_reducible refine Kd.C_drew ?_))); (case side4 => exact (Kd.R_reads' HO120.out).2.1); rintro e w' ⟨rfl, ⟨nd, rfl⟩⟩) | (go_at_call 13; (with_reducible refine (impl_IsSignMatrix.calls k _ _ t102 t123 _ ?side1 ?side2 A25.out).mono ?_); (case side1 => exact tc18_); (case side2 => exact tc49_); rintro e w36 ⟨rfl, hb⟩; have n0_ := am_ (Kd.S_below tc15_ hb); have n1_ := am_ (Kd.S_below tc39_ hb); have n2_ := am_ (Kd.S_below tc54_ hb); have n3_ := am_ (Kd.R_below tc55_ hb); have n4_ := am_ (Kd.R_below (by (with_reducible repeat (first | apply Kd.R_alloc | apply Kd.R_drewN | apply Kd.R_drew)); exact HO120.out) hb); have n5_ := am_ (below_step tc1_ hb); clear HO104 HO108; clear HO112 HO116; clear HO120 HB; have HO104 := n0_; have HO108 := n1_; have HO112 := n2_; have HO116 := n3_; have HO120 := n4_; have HB := n5_; clear n0_ n1_ n2_ n3_ n4_ n5_; (try clear hb)))
        go_meet
        case rel => exact ⟨_, ((t114 != t106)), tc6_, H', ⟨by first | omega | exact Nat.le_refl _⟩, ⟨by (with_reducible repeat (first | apply Kd.S_alloc | apply Kd.S_drewN | apply Kd.S_drew)); exact Kd.S_mono HO104.out (fun _ _ => trivial)⟩, ⟨by (with_reducible repeat (first | apply Kd.S_alloc | apply Kd.S_drewN | apply Kd.S_drew)); exact Kd.S_mono HO108.out (fun _ _ => trivial)⟩, ⟨by (with_reducible repeat (first | apply Kd.R_alloc | apply Kd.R_drewN | apply Kd.R_drew)); exact Kd.R_mono HO116.out (fun _ _ => trivial)⟩, ⟨by repeat (first | (with_reducible first | exact HB.out | apply below_alloc | apply pw_below_drewN | apply below_drew1) | exact HB.out)⟩⟩
      ·replace c24 := Bool.eq_false_iff.mpr c24
       subst c24
       exact (laws_FnKindsOfPlaces.j0_dead _ _ _ _ _ _ ((show (laws_FnKindsOfPlaces.j0 k l1 t102 t105 t110 t113 true) = some r from tc42_).trans (congrArg some HR_.out))).elim
    ·replace c19 := Bool.eq_false_iff.mpr c19
     subst c19
     exact (laws_FnKindsOfPlaces.j0_dead _ _ _ _ _ _ ((show (laws_FnKindsOfPlaces.j0 k l1 t102 t105 t110 t113 true) = some r from tc42_).trans (congrArg some HR_.out))).elim
  case rest => as_aux_lemma =>
   clear HC10
   try clear c1
   try clear c2
   try clear p2
   try clear c3
   try clear c4
   try clear c5
   try clear c6
   try clear c7
   try clear c8
   try clear c9
   try clear c10
   try clear c17
   try clear c17b0
   try clear c17b1
   try clear c17b2
   try clear c19
   try clear c20
   try clear c20b0
   try clear c20b1
   try clear c20b2
   try clear c24
   try clear c26
   try clear c26b0
   try clear c26b1
   try clear c26b2
   obtain ⟨kq, x83_9, rfl, HA, HJ9, HO_5, HO_6, HO_10, HB⟩ := hcut
   cases kq with
   | zero => exact absurd HA.out (by simp [laws_FnKindsOfPlaces.j0])
   | succ kj9 =>
    have H := HA.out
    clear HA
    simp only [laws_FnKindsOfPlaces.j0] at H
    by_cases c43 : x83_9 = true
    ·subst c43
     exact absurd ((show (some false : Option Bool) = some r from (by rw [if_pos rfl] at H; exact H)).trans (congrArg some HR_.out)) (by simp)
    ·replace c43 := Bool.eq_false_iff.mpr c43
     subst c43
     have H1 : ((spec_DrawFromKinds.f kj9 l1).bind fun t124 => ((impl_FromKinds.f kj9 t124).bind fun bt127 => ((spec_FromKinds.f kj9 t124).bind fun bt131 => (if (bt127.2 != bt131.2) = true then (laws_FnKindsOfPlaces.j1 kj9 t102 t105 t110 t113 t124 bt127.1 bt127.2 true) else ((laws_uSameRows.f kj9 bt127.1 bt131.1).bind fun t135 => (laws_FnKindsOfPlaces.j1 kj9 t102 t105 t110 t113 t124 bt127.1 bt127.2 (!t135))))))) = some r := by rw [if_neg (show ¬ (false = true) by decide)] at H; exact H
     clear H
     have H := H1
     clear H1
     replace H := Option.bind_eq_some_iff.mp H
     obtain ⟨t124, A440, H⟩ := H
     replace H : ((impl_FromKinds.f kj9 t124).bind fun bt127 => ((spec_FromKinds.f kj9 t124).bind fun bt131 => (if (bt127.2 != bt131.2) = true then (laws_FnKindsOfPlaces.j1 kj9 t102 t105 t110 t113 t124 bt127.1 bt127.2 true) else ((laws_uSameRows.f kj9 bt127.1 bt131.1).bind fun t135 => (laws_FnKindsOfPlaces.j1 kj9 t102 t105 t110 t113 t124 bt127.1 bt127.2 (!t135)))))) = some r := H
     have A44 := am_ A440
     clear A440
     replace H := Option.bind_eq_some_iff.mp H
     obtain ⟨⟨t127, t128⟩, A450, H⟩ := H
     replace H : ((spec_FromKinds.f kj9 t124).bind fun bt131 => (if (t128 != bt131.2) = true then (laws_FnKindsOfPlaces.j1 kj9 t102 t105 t110 t113 t124 t127 t128 true) else ((laws_uSameRows.f kj9 t127 bt131.1).bind fun t135 => (laws_FnKindsOfPlaces.j1 kj9 t102 t105 t110 t113 t124 t127 t128 (!t135))))) = some r := H
     have A45 := am_ A450
     clear A450
     replace H := Option.bind_eq_some_iff.mp H
     obtain ⟨⟨t131, t132⟩, A460, H⟩ := H
     replace H : (if (t128 != t132) = true then (laws_FnKindsOfPlaces.j1 kj9 t102 t105 t110 t113 t124 t127 t128 true) else ((laws_uSameRows.f kj9 t127 t131).bind fun t135 => (laws_FnKindsOfPlaces.j1 kj9 t102 t105 t110 t113 t124 t127 t128 (!t135)))) = some r := H
     have A46 := am_ A460
     clear A460
     have HC47 := am_ H
     clear H
     go_upto_region 13 with (first | ((with_reducible refine gate_callee (f := 14) rfl ?_); refine goesL_ (some 85) rfl rfl Try.func14 (by kernel_rfl) rfl #[.slice A1 l1.length c1] rfl tc0_ ?_; (with_reducible refine (spec_DrawFromKinds.calls kj9 _ _ l1 t124 _ ?side1 ?side2 A44.out).mono ?_); (case side1 => repeat (first | exact (Kd.C_below HR1.out HB.out) | (with_reducible refine Kd.C_alloc ?_ _) | (with_reducible refine Kd.C_drewN ?_ _) | (with_reducible refine Kd.C_drew ?_))); (case side2 => exact HC1.out); rintro e w48 ⟨v125, rfl, ho0, hb⟩; refine ⟨_, rfl, ?_⟩; have n0_ := am_ (Kd.S_below tc11_ hb); have n1_ := am_ (Kd.S_below tc20_ hb); have n2_ := am_ (Kd.R_below tc19_ hb); have n3_ := am_ (Kd.S_lower (Kd.S_new' (Kd.S_new' (Kd.S_new' ho0 (Kd.S_lt tc11_)) (Kd.S_lt tc20_)) (Kd.R_lt tc19_)) (below_size tc1_)); have n4_ := am_ (below_step tc1_ hb); clear HO_5 HO_6; clear HO_10 HB; have HO_5 := n0_; have HO_6 := n1_; have HO_10 := n2_; have HO126 := n3_; have HB := n4_; clear n0_ n1_ n2_ n3_ n4_; (try clear hb ho0); obtain ⟨Ao49, co49, eo49⟩ := Kd.S_slice HO126.out; subst eo49) | ((with_reducible refine gate_callee (f := 15) rfl ?_); refine goesL_ (some 88) rfl rfl Try.func15 (by kernel_rfl) rfl #[.slice Ao49 t124.length co49] rfl tc0_ ?_; (with_reducible refine (impl_FromKinds.calls kj9 _ _ t124 t127 t128 _ ?side1 ?side2 A45.out).mono ?_); (case side1 => repeat (first | exact (Kd.S_reads' HO126.out).2.2 | (with_reducible refine Kd.C_alloc ?_ _) | (with_reducible refine Kd.C_drewN ?_ _) | (with_reducible refine Kd.C_drew ?_))); (case side2 => exact (Kd.S_reads' HO126.out).2.1); rintro e w50 ⟨v129, rfl, ho0, hb⟩; refine ⟨_, rfl, ?_⟩; have n0_ := am_ (Kd.S_below tc11_ hb); have n1_ := am_ (Kd.S_below tc20_ hb); have n2_ := am_ (Kd.R_below tc19_ hb); have n3_ := am_ (Kd.S_below tc47_ hb); have n4_ := am_ (Kd.S_lower (Kd.S_new' (Kd.S_new' (Kd.S_new' (Kd.S_new' ho0 (Kd.S_lt tc11_)) (Kd.S_lt tc20_)) (Kd.R_lt tc19_)) (Kd.S_lt tc47_)) (below_size tc1_)); have n5_ := am_ (below_step tc1_ hb); clear HO_5 HO_6; clear HO_10 HO126 HB; have HO_5 := n0_; have HO_6 := n1_; have HO_10 := n2_; have HO126 := n3_; have HO130 := n4_; have HB := n5_; clear n0_ n1_ n2_ n3_ n4_ n5_; (try clear hb ho0)) | ((with_reducible refine gate_callee (f := 16) rfl ?_); refine goesL_ (some 93) rfl rfl Try.func16 (by kernel_rfl) rfl #[.slice Ao49 t124.length co49] rfl tc0_ ?_; (with_reducible refine (spec_FromKinds.calls kj9 _ _ t124 t131 t132 _ ?side1 ?side2 A46.out).mono ?_); (case side1 => repeat (first | exact (Kd.S_reads' HO126.out).2.2 | (with_reducible refine Kd.C_alloc ?_ _) | (with_reducible refine Kd.C_drewN ?_ _) | (with_reducible refine Kd.C_drew ?_))); (case side2 => exact (Kd.S_reads' HO126.out).2.1); rintro e w51 ⟨v133, rfl, ho0, hb⟩; refine ⟨_, rfl, ?_⟩; have n0_ := am_ (Kd.S_below tc11_ hb); have n1_ := am_ (Kd.S_below tc20_ hb); have n2_ := am_ (Kd.R_below tc19_ hb); have n3_ := am_ (Kd.S_below tc47_ hb); have n4_ := am_ (Kd.S_below (by (with_reducible repeat (first | apply Kd.S_alloc | apply Kd.S_drewN | apply Kd.S_drew)); exact HO130.out) hb); have n5_ := am_ (Kd.S_lower (Kd.S_new' (Kd.S_new' (Kd.S_new' (Kd.S_new' (Kd.S_new' ho0 (Kd.S_lt tc11_)) (Kd.S_lt tc20_)) (Kd.R_lt tc19_)) (Kd.S_lt tc47_)) (Kd.S_lt (by (with_reducible repeat (first | apply Kd.S_alloc | apply Kd.S_drewN | apply Kd.S_drew)); exact HO130.out))) (below_size tc1_)); have n6_ := am_ (below_step tc1_ hb); clear HO_5 HO_6; clear HO_10 HO126; clear HO130 HB; have HO_5 := n0_; have HO_6 := n1_; have HO_10 := n2_; have HO126 := n3_; have HO130 := n4_; have HO134 := n5_; have HB := n6_; clear n0_ n1_ n2_ n3_ n4_ n5_ n6_; (try clear hb ho0)))
     (try simp only [Act.put, List.setIfInBounds_toArray, List.set_cons_zero, List.set_cons_succ])
     go_cut [104] (fun v104 wc => ∃ (kq : Nat) (x104_46 : Bool), v104 = .bool x104_46 ∧ Aside0 (laws_FnKindsOfPlaces.j1 kq t102 t105 t110 t113 t124 t127 t128 x104_46 = some r) ∧ Aside0 (kq ≤ kj9) ∧ Aside0 (Kd.S (Kd.slice 3 (Kd.int .i64)) 28 wc w.heap.size (fun _ => True) (.slice Ao12 t102.length co12) t102) ∧ Aside0 (Kd.S (Kd.slice 3 (Kd.int .i64)) 28 wc w.heap.size (fun _ => True) v107 t105) ∧ Aside0 (Kd.R (Kd.int .i64) 3 wc w.heap.size (fun _ => True) v115 t113) ∧ Aside0 (Kd.S (Kd.slice 3 (Kd.int .i64)) 28 wc w.heap.size (fun _ => True) (.slice Ao49 t124.length co49) t124) ∧ Aside0 (Kd.S (Kd.slice 3 (Kd.int .i64)) 28 wc w.heap.size (fun _ => True) v129 t127) ∧ Aside0 (Below w.heap.size w wc))
     case first => as_aux_lemma =>
      have H := HC47.out
      clear HC47
      by_cases c52 : (t128 != t132) = true
      ·rw [if_pos c52] at H
       exact (laws_FnKindsOfPlaces.j1_dead _ _ _ _ _ _ _ _ (H.trans (congrArg some HR_.out))).elim
      ·rw [if_neg c52] at H
       have c52b0 : (t128 != t132) = false := by simpa using c52
       (try (have c52b1 : decide (t128 = t132) = true := by simpa using c52))
       (try (have c52b2 : (t128 == t132) = true := by simpa using c52))
       clear c52
       (first | rw [c52b0] | (simp only [i64_w, i32_w]; rw [c52b0]) | skip)
       replace H := Option.bind_eq_some_iff.mp H
       obtain ⟨t135, A530, H⟩ := H
       replace H : (laws_FnKindsOfPlaces.j1 kj9 t102 t105 t110 t113 t124 t127 t128 (!t135)) = some r := H
       have A53 := am_ A530
       clear A530
       have H' := am_ H
       clear H
       obtain ⟨Ao54, co54, eo54⟩ := Kd.S_slice HO130.out
       subst eo54
       obtain ⟨Ao55, co55, eo55⟩ := Kd.S_slice HO134.out
       subst eo55
       go_wp2_with (first | (go_at_call 11; (with_reducible refine (laws_uSameRows.calls kj9 _ _ t127 _ _ t131 t135 _ ?side1 ?side2 ?side3 ?side4 A53.out).mono ?_); (case side1 => repeat (first | exact (Kd.S_reads' HO130.out).2.2 | (with_reducible refine Kd.C_alloc ?_ _) | (with_reducible refine Kd.C_drewN ?_ _) | (with_reducible refine Kd.C_drew ?_))); (case side2 => exact (Kd.S_reads' HO130.out).2.1); (case side3 => repeat (first | exact (Kd.S_reads' HO134.out).2.2 | (with_reducible refine Kd.C_alloc ?_ _) | (with_reducible refine Kd.C_drewN ?_ _) | (with_reducible refine Kd.C_drew ?_))); (case side4 => exact (Kd.S_reads' HO134.out).2.1); rintro e w' ⟨rfl, ⟨nd, rfl⟩⟩))
       go_meet
       case rel => exact ⟨_, (!t135), tc6_, H', ⟨by have := HJ9.out; first | omega | exact Nat.le_refl _⟩, ⟨by (with_reducible repeat (first | apply Kd.S_alloc | apply Kd.S_drewN | apply Kd.S_drew)); exact Kd.S_mono HO_5.out (fun _ _ => trivial)⟩, ⟨by (with_reducible repeat (first | apply Kd.S_alloc | apply Kd.S_drewN | apply Kd.S_drew)); exact Kd.S_mono HO_6.out (fun _ _ => trivial)⟩, ⟨by (with_reducible repeat (first | apply Kd.R_alloc | apply Kd.R_drewN | apply Kd.R_drew)); exact HO_10.out⟩, ⟨by (with_reducible repeat (first | apply Kd.S_alloc | apply Kd.S_drewN | apply Kd.S_drew)); exact Kd.S_mono HO126.out (fun _ _ => trivial)⟩, ⟨by (with_reducible repeat (first | apply Kd.S_alloc | apply Kd.S_drewN | apply Kd.S_drew)); exact Kd.S_mono HO130.out (fun _ _ => trivial)⟩, ⟨by repeat (first | (with_reducible first | exact HB.out | apply below_alloc | apply pw_below_drewN | apply below_drew1) | exact HB.out)⟩⟩
     case rest => as_aux_lemma =>
      clear HC47
      try clear c1
      try clear c2
      try clear p2
      try clear c3
      try clear c4
      try clear c5
      try clear c6
      try clear c7
      try clear c8
      try clear c9
      try clear c10
      try clear c14
      try clear c15
      try clear c16
      try clear c17
      try clear c17b0
      try clear c17b1
      try clear c17b2
      try clear c19
      try clear c20
      try clear c20b0
      try clear c20b1
      try clear c20b2
      try clear c24
      try clear c26
      try clear c26b0
      try clear c26b1
      try clear c26b2
      try clear c43
      try clear c52
      try clear c52b0
      try clear c52b1
      try clear c52b2
      try clear p2
      obtain ⟨kq, x104_46, rfl, HA, HJ46, HO_5, HO_6, HO_10, HO_14, HO_15, HB⟩ := hcut
      cases kq with
      | zero => exact absurd HA.out (by simp [laws_FnKindsOfPlaces.j1])
      | succ kj46 =>
       have H := HA.out
       clear HA
       simp only [laws_FnKindsOfPlaces.j1] at H
       by_cases c56 : x104_46 = true
       ·subst c56
        exact absurd ((show (some false : Option Bool) = some r from (by rw [if_pos rfl] at H; exact H)).trans (congrArg some HR_.out)) (by simp)
       ·replace c56 := Bool.eq_false_iff.mpr c56
        subst c56
        have H1 : (if t128 = true then ((impl_KindsOf.f kj46 t127).bind fun bt136 => (if bt136.2 = true then ((laws_uSameRows.f kj46 bt136.1 t124).bind fun t140 => (if t140 = true then (laws_FnKindsOfPlaces.j2 kj46 t102 t105 t110 t113) else (some false))) else (some false))) else (laws_FnKindsOfPlaces.j2 kj46 t102 t105 t110 t113)) = some r := by rw [if_neg (show ¬ (false = true) by decide)] at H; exact H
        clear H
        have H := H1
        clear H1
        have HC57 := am_ H
        clear H
        go_upto_if 105 with (fail)
        go_cut [] (fun wc => ∃ (kq : Nat), Aside0 (laws_FnKindsOfPlaces.j2 kq t102 t105 t110 t113 = some r) ∧ Aside0 (kq ≤ kj46) ∧ Aside0 (Kd.S (Kd.slice 3 (Kd.int .i64)) 28 wc w.heap.size (fun _ => True) (.slice Ao12 t102.length co12) t102) ∧ Aside0 (Kd.S (Kd.slice 3 (Kd.int .i64)) 28 wc w.heap.size (fun _ => True) v107 t105) ∧ Aside0 (Kd.R (Kd.int .i64) 3 wc w.heap.size (fun _ => True) v115 t113) ∧ Aside0 (Below w.heap.size w wc))
        case first => as_aux_lemma =>
         have H := HC57.out
         clear HC57
         by_cases c58 : t128 = true
         ·subst c58
          have H1 : ((impl_KindsOf.f kj46 t127).bind fun bt136 => (if bt136.2 = true then ((laws_uSameRows.f kj46 bt136.1 t124).bind fun t140 => (if t140 = true then (laws_FnKindsOfPlaces.j2 kj46 t102 t105 t110 t113) else (some false))) else (some false))) = some r := by rw [if_pos rfl] at H; exact H
          clear H
          have H := H1
          clear H1
          replace H := Option.bind_eq_some_iff.mp H
          obtain ⟨⟨t136, t137⟩, A590, H⟩ := H
          replace H : (if t137 = true then ((laws_uSameRows.f kj46 t136 t124).bind fun t140 => (if t140 = true then (laws_FnKindsOfPlaces.j2 kj46 t102 t105 t110 t113) else (some false))) else (some false)) = some r := H
          have A59 := am_ A590
          clear A590
          by_cases c60 : t137 = true
          ·subst c60
           have H1 : ((laws_uSameRows.f kj46 t136 t124).bind fun t140 => (if t140 = true then (laws_FnKindsOfPlaces.j2 kj46 t102 t105 t110 t113) else (some false))) = some r := by rw [if_pos rfl] at H; exact H
           clear H
           have H := H1
           clear H1
           replace H := Option.bind_eq_some_iff.mp H
           obtain ⟨t140, A610, H⟩ := H
           replace H : (if t140 = true then (laws_FnKindsOfPlaces.j2 kj46 t102 t105 t110 t113) else (some false)) = some r := H
           have A61 := am_ A610
           clear A610
           by_cases c62 : t140 = true
           ·subst c62
            have H1 : (laws_FnKindsOfPlaces.j2 kj46 t102 t105 t110 t113) = some r := by rw [if_pos rfl] at H; exact H
            clear H
            have H := H1
            clear H1
            have H' := am_ H
            clear H
            obtain ⟨Ao63, co63, eo63⟩ := Kd.S_slice HO_15.out
            subst eo63
            go_wp2_with (first | ((with_reducible refine gate_callee (f := 7) rfl ?_); refine goesL_ (some 108) rfl rfl Try.func7 (by kernel_rfl) rfl #[.slice Ao63 t127.length co63] rfl tc0_ ?_; (with_reducible refine (impl_KindsOf.calls kj46 _ _ t127 t136 true _ ?side1 ?side2 A59.out).mono ?_); (case side1 => repeat (first | exact (Kd.S_reads' HO_15.out).2.2 | (with_reducible refine Kd.C_alloc ?_ _) | (with_reducible refine Kd.C_drewN ?_ _) | (with_reducible refine Kd.C_drew ?_))); (case side2 => exact (Kd.S_reads' HO_15.out).2.1); rintro e w64 ⟨v138, rfl, ho0, hb⟩; refine ⟨_, rfl, ?_⟩; have n0_ := am_ (Kd.S_below tc11_ hb); have n1_ := am_ (Kd.S_below tc20_ hb); have n2_ := am_ (Kd.R_below tc19_ hb); have n3_ := am_ (Kd.S_below (by (with_reducible repeat (first | apply Kd.S_alloc | apply Kd.S_drewN | apply Kd.S_drew)); exact HO_14.out) hb); have n4_ := am_ (Kd.S_below (by (with_reducible repeat (first | apply Kd.S_alloc | apply Kd.S_drewN | apply Kd.S_drew)); exact HO_15.out) hb); have n5_ := am_ (Kd.S_lower (Kd.S_new' (Kd.S_new' (Kd.S_new' (Kd.S_new' (Kd.S_new' ho0 (Kd.S_lt tc11_)) (Kd.S_lt tc20_)) (Kd.R_lt tc19_)) (Kd.S_lt (by (with_reducible repeat (first | apply Kd.S_alloc | apply Kd.S_drewN | apply Kd.S_drew)); exact HO_14.out))) (Kd.S_lt (by (with_reducible repeat (first | apply Kd.S_alloc | apply Kd.S_drewN | apply Kd.S_drew)); exact HO_15.out))) (below_size tc1_)); have n6_ := am_ (below_step tc1_ hb); clear HO_5 HO_6; clear HO_10 HO_14; clear HO_15 HB; have HO_5 := n0_; have HO_6 := n1_; have HO_10 := n2_; have HO_14 := n3_; have HO_15 := n4_; have HO139 := n5_; have HB := n6_; clear n0_ n1_ n2_ n3_ n4_ n5_ n6_; (try clear hb ho0); obtain ⟨Ao65, co65, eo65⟩ := Kd.S_slice HO139.out; subst eo65) | (go_at_call 11; (with_reducible refine (laws_uSameRows.calls kj46 _ _ t136 _ _ t124 true _ ?side1 ?side2 ?side3 ?side4 A61.out).mono ?_); (case side1 => repeat (first | exact (Kd.S_reads' HO139.out).2.2 | (with_reducible refine Kd.C_alloc ?_ _) | (with_reducible refine Kd.C_drewN ?_ _) | (with_reducible refine Kd.C_drew ?_))); (case side2 => exact (Kd.S_reads' HO139.out).2.1); (case side3 => repeat (first | exact (Kd.S_reads' HO_14.out).2.2 | (with_reducible refine Kd.C_alloc ?_ _) | (with_reducible refine Kd.C_drewN ?_ _) | (with_reducible refine Kd.C_drew ?_))); (case side4 => exact (Kd.S_reads' HO_14.out).2.1); rintro e w' ⟨rfl, ⟨nd, rfl⟩⟩))
            go_meet
            case rel => exact ⟨_, H', ⟨by have := HJ9.out; have := HJ46.out; first | omega | exact Nat.le_refl _⟩, ⟨by (with_reducible repeat (first | apply Kd.S_alloc | apply Kd.S_drewN | apply Kd.S_drew)); exact Kd.S_mono HO_5.out (fun _ _ => trivial)⟩, ⟨by (with_reducible repeat (first | apply Kd.S_alloc | apply Kd.S_drewN | apply Kd.S_drew)); exact Kd.S_mono HO_6.out (fun _ _ => trivial)⟩, ⟨by (with_reducible repeat (first | apply Kd.R_alloc | apply Kd.R_drewN | apply Kd.R_drew)); exact HO_10.out⟩, ⟨by repeat (first | (with_reducible first | exact HB.out | apply below_alloc | apply pw_below_drewN | apply below_drew1) | exact HB.out)⟩⟩
           ·replace c62 := Bool.eq_false_iff.mpr c62
            subst c62
            exact absurd ((show (some false : Option Bool) = some r from tc42_).trans (congrArg some HR_.out)) (by simp)
          ·replace c60 := Bool.eq_false_iff.mpr c60
           subst c60
           exact absurd ((show (some false : Option Bool) = some r from tc42_).trans (congrArg some HR_.out)) (by simp)
         ·replace c58 := Bool.eq_false_iff.mpr c58
          subst c58
          have H1 : (laws_FnKindsOfPlaces.j2 kj46 t102 t105 t110 t113) = some r := by rw [if_neg (show ¬ (false = true) by decide)] at H; exact H
          clear H
          have H := H1
          clear H1
          have H' := am_ H
          clear H
          go_wp2
          go_meet
          case rel => exact ⟨_, H', ⟨by have := HJ9.out; have := HJ46.out; first | omega | exact Nat.le_refl _⟩, ⟨by (with_reducible repeat (first | apply Kd.S_alloc | apply Kd.S_drewN | apply Kd.S_drew)); exact Kd.S_mono HO_5.out (fun _ _ => trivial)⟩, ⟨by (with_reducible repeat (first | apply Kd.S_alloc | apply Kd.S_drewN | apply Kd.S_drew)); exact Kd.S_mono HO_6.out (fun _ _ => trivial)⟩, ⟨by (with_reducible repeat (first | apply Kd.R_alloc | apply Kd.R_drewN | apply Kd.R_drew)); exact HO_10.out⟩, ⟨by repeat (first | (with_reducible first | exact HB.out | apply below_alloc | apply pw_below_drewN | apply below_drew1) | exact HB.out)⟩⟩
        case rest => as_aux_lemma =>
         clear HC57
         try clear c1
         try clear c2
         try clear p2
         try clear c3
         try clear c4
         try clear c5
         try clear c6
         try clear c7
         try clear c8
         try clear c9
         try clear c10
         try clear c14
         try clear c15
         try clear c16
         try clear c17
         try clear c17b0
         try clear c17b1
         try clear c17b2
         try clear c19
         try clear c20
         try clear c20b0
         try clear c20b1
         try clear c20b2
         try clear c24
         try clear c26
         try clear c26b0
         try clear c26b1
         try clear c26b2
         try clear c43
         try clear c52
         try clear c52b0
         try clear c52b1
         try clear c52b2
         try clear c56
         try clear c58
         try clear c60
         try clear c62
         try clear p2
         obtain ⟨kq, HA, HJ56, HO_5, HO_6, HO_10, HB⟩ := hcut
         cases kq with
         | zero => exact absurd HA.out (by simp [laws_FnKindsOfPlaces.j2])
         | succ kj56 =>
          have H := HA.out
          clear HA
          simp only [laws_FnKindsOfPlaces.j2] at H
          by_cases c71 : t110 = true
          ·subst c71
           have H1 : ((impl_FromKinds.f kj56 t105).bind fun bt141 => ((impl_InversionsOf.f kj56 t102).bind fun bt145 => ((impl_MinusOnes.f kj56 t102).bind fun bt147 => (if bt141.2 = true then (if bt145.2 = true then (if bt147.2 = true then ((laws_uSameRows.f kj56 bt141.1 t102).bind fun t149 => (if t149 = true then (if 0 < (t113.length : Int) then (if 3 < (t113.length : Int) then (if (rd t113 0) = (rd t113 3) then (if 1 < (t113.length : Int) then (if 2 < (t113.length : Int) then (if (rd t113 1) = (rd t113 2) then (if (rd t113 0) = (wrap64 (bt145.1 - bt147.1)) then (if 5 < (t113.length : Int) then (if (rd t113 5) = bt147.1 then (if 4 < (t113.length : Int) then (if (rd t113 4) = (wrap64 ((t102.length : Int) + bt147.1)) then (if (rd t113 1) = (wrap64 ((wrap64 (Int.tdiv (wrap64 ((t102.length : Int) * (wrap64 ((t102.length : Int) - 1)))) 2)) - bt145.1)) then ((laws_uSum.f kj56 t113).bind fun t158 => (some (t158 == (wrap64 ((t102.length : Int) * (t102.length : Int)))))) else (some false)) else (some false)) else (none)) else (some false)) else (none)) else (some false)) else (some false)) else (none)) else (none)) else (some false)) else (none)) else (none)) else (some false))) else (some false)) else (some false)) else (some false))))) = some r := by rw [if_pos rfl] at H; exact H
           clear H
           have H := H1
           clear H1
           replace H := Option.bind_eq_some_iff.mp H
           obtain ⟨⟨t141, t142⟩, A720, H⟩ := H
           replace H : ((impl_InversionsOf.f kj56 t102).bind fun bt145 => ((impl_MinusOnes.f kj56 t102).bind fun bt147 => (if t142 = true then (if bt145.2 = true then (if bt147.2 = true then ((laws_uSameRows.f kj56 t141 t102).bind fun t149 => (if t149 = true then (if 0 < (t113.length : Int) then (if 3 < (t113.length : Int) then (if (rd t113 0) = (rd t113 3) then (if 1 < (t113.length : Int) then (if 2 < (t113.length : Int) then (if (rd t113 1) = (rd t113 2) then (if (rd t113 0) = (wrap64 (bt145.1 - bt147.1)) then (if 5 < (t113.length : Int) then (if (rd t113 5) = bt147.1 then (if 4 < (t113.length : Int) then (if (rd t113 4) = (wrap64 ((t102.length : Int) + bt147.1)) then (if (rd t113 1) = (wrap64 ((wrap64 (Int.tdiv (wrap64 ((t102.length : Int) * (wrap64 ((t102.length : Int) - 1)))) 2)) - bt145.1)) then ((laws_uSum.f kj56 t113).bind fun t158 => (some (t158 == (wrap64 ((t102.length : Int) * (t102.length : Int)))))) else (some false)) else (some false)) else (none)) else (some false)) else (none)) else (some false)) else (some false)) else (none)) else (none)) else (some false)) else (none)) else (none)) else (some false))) else (some false)) else (some false)) else (some false)))) = some r := H
           have A72 := am_ A720
           clear A720
           replace H := Option.bind_eq_some_iff.mp H
           obtain ⟨⟨t145, t146⟩, A730, H⟩ := H
           replace H : ((impl_MinusOnes.f kj56 t102).bind fun bt147 => (if t142 = true then (if t146 = true then (if bt147.2 = true then ((laws_uSameRows.f kj56 t141 t102).bind fun t149 => (if t149 = true then (if 0 < (t113.length : Int) then (if 3 < (t113.length : Int) then (if (rd t113 0) = (rd t113 3) then (if 1 < (t113.length : Int) then (if 2 < (t113.length : Int) then (if (rd t113 1) = (rd t113 2) then (if (rd t113 0) = (wrap64 (t145 - bt147.1)) then (if 5 < (t113.length : Int) then (if (rd t113 5) = bt147.1 then (if 4 < (t113.length : Int) then (if (rd t113 4) = (wrap64 ((t102.length : Int) + bt147.1)) then (if (rd t113 1) = (wrap64 ((wrap64 (Int.tdiv (wrap64 ((t102.length : Int) * (wrap64 ((t102.length : Int) - 1)))) 2)) - t145)) then ((laws_uSum.f kj56 t113).bind fun t158 => (some (t158 == (wrap64 ((t102.length : Int) * (t102.length : Int)))))) else (some false)) else (some false)) else (none)) else (some false)) else (none)) else (some false)) else (some false)) else (none)) else (none)) else (some false)) else (none)) else (none)) else (some false))) else (some false)) else (some false)) else (some false))) = some r := H
           have A73 := am_ A730
           clear A730
           replace H := Option.bind_eq_some_iff.mp H
           obtain ⟨⟨t147, t148⟩, A740, H⟩ := H
           replace H : (if t142 = true then (if t146 = true then (if t148 = true then ((laws_uSameRows.f kj56 t141 t102).bind fun t149 => (if t149 = true then (if 0 < (t113.length : Int) then (if 3 < (t113.length : Int) then (if (rd t113 0) = (rd t113 3) then (if 1 < (t113.length : Int) then (if 2 < (t113.length : Int) then (if (rd t113 1) = (rd t113 2) then (if (rd t113 0) = (wrap64 (t145 - t147)) then (if 5 < (t113.length : Int) then (if (rd t113 5) = t147 then (if 4 < (t113.length : Int) then (if (rd t113 4) = (wrap64 ((t102.length : Int) + t147)) then (if (rd t113 1) = (wrap64 ((wrap64 (Int.tdiv (wrap64 ((t102.length : Int) * (wrap64 ((t102.length : Int) - 1)))) 2)) - t145)) then ((laws_uSum.f kj56 t113).bind fun t158 => (some (t158 == (wrap64 ((t102.length : Int) * (t102.length : Int)))))) else (some false)) else (some false)) else (none)) else (some false)) else (none)) else (some false)) else (some false)) else (none)) else (none)) else (some false)) else (none)) else (none)) else (some false))) else (some false)) else (some false)) else (some false)) = some r := H
           have A74 := am_ A740
           clear A740
           by_cases c75 : t142 = true
           ·subst c75
            have H1 : (if t146 = true then (if t148 = true then ((laws_uSameRows.f kj56 t141 t102).bind fun t149 => (if t149 = true then (if 0 < (t113.length : Int) then (if 3 < (t113.length : Int) then (if (rd t113 0) = (rd t113 3) then (if 1 < (t113.length : Int) then (if 2 < (t113.length : Int) then (if (rd t113 1) = (rd t113 2) then (if (rd t113 0) = (wrap64 (t145 - t147)) then (if 5 < (t113.length : Int) then (if (rd t113 5) = t147 then (if 4 < (t113.length : Int) then (if (rd t113 4) = (wrap64 ((t102.length : Int) + t147)) then (if (rd t113 1) = (wrap64 ((wrap64 (Int.tdiv (wrap64 ((t102.length : Int) * (wrap64 ((t102.length : Int) - 1)))) 2)) - t145)) then ((laws_uSum.f kj56 t113).bind fun t158 => (some (t158 == (wrap64 ((t102.length : Int) * (t102.length : Int)))))) else (some false)) else (some false)) else (none)) else (some false)) else (none)) else (some false)) else (some false)) else (none)) else (none)) else (some false)) else (none)) else (none)) else (some false))) else (some false)) else (some false)) = some r := by rw [if_pos rfl] at H; exact H
            clear H
            have H := H1
            clear H1
            by_cases c76 : t146 = true
            ·subst c76
             have H1 : (if t148 = true then ((laws_uSameRows.f kj56 t141 t102).bind fun t149 => (if t149 = true then (if 0 < (t113.length : Int) then (if 3 < (t113.length : Int) then (if (rd t113 0) = (rd t113 3) then (if 1 < (t113.length : Int) then (if 2 < (t113.length : Int) then (if (rd t113 1) = (rd t113 2) then (if (rd t113 0) = (wrap64 (t145 - t147)) then (if 5 < (t113.length : Int) then (if (rd t113 5) = t147 then (if 4 < (t113.length : Int) then (if (rd t113 4) = (wrap64 ((t102.length : Int) + t147)) then (if (rd t113 1) = (wrap64 ((wrap64 (Int.tdiv (wrap64 ((t102.length : Int) * (wrap64 ((t102.length : Int) - 1)))) 2)) - t145)) then ((laws_uSum.f kj56 t113).bind fun t158 => (some (t158 == (wrap64 ((t102.length : Int) * (t102.length : Int)))))) else (some false)) else (some false)) else (none)) else (some false)) else (none)) else (some false)) else (some false)) else (none)) else (none)) else (some false)) else (none)) else (none)) else (some false))) else (some false)) = some r := by rw [if_pos rfl] at H; exact H
             clear H
             have H := H1
             clear H1
             by_cases c77 : t148 = true
             ·subst c77
              have H1 : ((laws_uSameRows.f kj56 t141 t102).bind fun t149 => (if t149 = true then (if 0 < (t113.length : Int) then (if 3 < (t113.length : Int) then (if (rd t113 0) = (rd t113 3) then (if 1 < (t113.length : Int) then (if 2 < (t113.length : Int) then (if (rd t113 1) = (rd t113 2) then (if (rd t113 0) = (wrap64 (t145 - t147)) then (if 5 < (t113.length : Int) then (if (rd t113 5) = t147 then (if 4 < (t113.length : Int) then (if (rd t113 4) = (wrap64 ((t102.length : Int) + t147)) then (if (rd t113 1) = (wrap64 ((wrap64 (Int.tdiv (wrap64 ((t102.length : Int) * (wrap64 ((t102.length : Int) - 1)))) 2)) - t145)) then ((laws_uSum.f kj56 t113).bind fun t158 => (some (t158 == (wrap64 ((t102.length : Int) * (t102.length : Int)))))) else (some false)) else (some false)) else (none)) else (some false)) else (none)) else (some false)) else (some false)) else (none)) else (none)) else (some false)) else (none)) else (none)) else (some false))) = some r := by rw [if_pos rfl] at H; exact H
              clear H
              have H := H1
              clear H1
              replace H := Option.bind_eq_some_iff.mp H
              obtain ⟨t149, A780, H⟩ := H
              replace H : (if t149 = true then (if 0 < (t113.length : Int) then (if 3 < (t113.length : Int) then (if (rd t113 0) = (rd t113 3) then (if 1 < (t113.length : Int) then (if 2 < (t113.length : Int) then (if (rd t113 1) = (rd t113 2) then (if (rd t113 0) = (wrap64 (t145 - t147)) then (if 5 < (t113.length : Int) then (if (rd t113 5) = t147 then (if 4 < (t113.length : Int) then (if (rd t113 4) = (wrap64 ((t102.length : Int) + t147)) then (if (rd t113 1) = (wrap64 ((wrap64 (Int.tdiv (wrap64 ((t102.length : Int) * (wrap64 ((t102.length : Int) - 1)))) 2)) - t145)) then ((laws_uSum.f kj56 t113).bind fun t158 => (some (t158 == (wrap64 ((t102.length : Int) * (t102.length : Int)))))) else (some false)) else (some false)) else (none)) else (some false)) else (none)) else (some false)) else (some false)) else (none)) else (none)) else (some false)) else (none)) else (none)) else (some false)) = some r := H
              have A78 := am_ A780
              clear A780
              by_cases c79 : t149 = true
              ·subst c79
               have H1 : (if 0 < (t113.length : Int) then (if 3 < (t113.length : Int) then (if (rd t113 0) = (rd t113 3) then (if 1 < (t113.length : Int) then (if 2 < (t113.length : Int) then (if (rd t113 1) = (rd t113 2) then (if (rd t113 0) = (wrap64 (t145 - t147)) then (if 5 < (t113.length : Int) then (if (rd t113 5) = t147 then (if 4 < (t113.length : Int) then (if (rd t113 4) = (wrap64 ((t102.length : Int) + t147)) then (if (rd t113 1) = (wrap64 ((wrap64 (Int.tdiv (wrap64 ((t102.length : Int) * (wrap64 ((t102.length : Int) - 1)))) 2)) - t145)) then ((laws_uSum.f kj56 t113).bind fun t158 => (some (t158 == (wrap64 ((t102.length : Int) * (t102.length : Int)))))) else (some false)) else (some false)) else (none)) else (some false)) else (none)) else (some false)) else (some false)) else (none)) else (none)) else (some false)) else (none)) else (none)) = some r := by rw [if_pos rfl] at H; exact H
               clear H
               have H := H1
               clear H1
               by_cases c80 : 0 < (t113.length : Int)
               ·rw [if_pos c80] at H
                have c80b0 : decide (0 < (t113.length : Int)) = true := decide_eq_true c80
                have c80b1 : decide (0 < t113.length) = true := decide_eq_true (by omega)
                clear c80
                by_cases c81 : 3 < (t113.length : Int)
                ·rw [if_pos c81] at H
                 have c81b0 : decide (3 < (t113.length : Int)) = true := decide_eq_true c81
                 have c81b1 : decide (3 < t113.length) = true := decide_eq_true (by omega)
                 clear c81
                 by_cases c82 : (rd t113 0) = (rd t113 3)
                 ·rw [if_pos c82] at H
                  have c82b0 : ((rd t113 0) == (rd t113 3)) = true := beq_iff_eq.mpr c82
                  have c82b1 : ((rd t113 0) != (rd t113 3)) = false := bne_eq_false_iff_eq.mpr c82
                  clear c82
                  by_cases c83 : 1 < (t113.length : Int)
                  ·rw [if_pos c83] at H
                   have c83b0 : decide (1 < (t113.length : Int)) = true := decide_eq_true c83
                   have c83b1 : decide (1 < t113.length) = true := decide_eq_true (by omega)
                   clear c83
                   by_cases c84 : 2 < (t113.length : Int)
                   ·rw [if_pos c84] at H
                    have c84b0 : decide (2 < (t113.length : Int)) = true := decide_eq_true c84
                    have c84b1 : decide (2 < t113.length) = true := decide_eq_true (by omega)
                    clear c84
                    by_cases c85 : (rd t113 1) = (rd t113 2)
                    ·rw [if_pos c85] at H
                     have c85b0 : ((rd t113 1) == (rd t113 2)) = true := beq_iff_eq.mpr c85
                     have c85b1 : ((rd t113 1) != (rd t113 2)) = false := bne_eq_false_iff_eq.mpr c85
                     clear c85
                     by_cases c86 : (rd t113 0) = (wrap64 (t145 - t147))
                     ·rw [if_pos c86] at H
                      have c86b0 : ((rd t113 0) == (wrap64 (t145 - t147))) = true := beq_iff_eq.mpr c86
                      have c86b1 : ((rd t113 0) != (wrap64 (t145 - t147))) = false := bne_eq_false_iff_eq.mpr c86
                      clear c86
                      by_cases c87 : 5 < (t113.length : Int)
                      ·rw [if_pos c87] at H
                       have c87b0 : decide (5 < (t113.length : Int)) = true := decide_eq_true c87
                       have c87b1 : decide (5 < t113.length) = true := decide_eq_true (by omega)
                       clear c87
                       by_cases c88 : (rd t113 5) = t147
                       ·rw [if_pos c88] at H
                        have c88b0 : ((rd t113 5) == t147) = true := beq_iff_eq.mpr c88
                        have c88b1 : ((rd t113 5) != t147) = false := bne_eq_false_iff_eq.mpr c88
                        clear c88
                        by_cases c89 : 4 < (t113.length : Int)
                        ·rw [if_pos c89] at H
                         have c89b0 : decide (4 < (t113.length : Int)) = true := decide_eq_true c89
                         have c89b1 : decide (4 < t113.length) = true := decide_eq_true (by omega)
                         clear c89
                         by_cases c90 : (rd t113 4) = (wrap64 ((t102.length : Int) + t147))
                         ·rw [if_pos c90] at H
                          have c90b0 : ((rd t113 4) == (wrap64 ((t102.length : Int) + t147))) = true := beq_iff_eq.mpr c90
                          have c90b1 : ((rd t113 4) != (wrap64 ((t102.length : Int) + t147))) = false := bne_eq_false_iff_eq.mpr c90
                          clear c90
                          by_cases c91 : (rd t113 1) = (wrap64 ((wrap64 (Int.tdiv (wrap64 ((t102.length : Int) * (wrap64 ((t102.length : Int) - 1)))) 2)) - t145))
                          ·rw [if_pos c91] at H
                           have c91b0 : ((rd t113 1) == (wrap64 ((wrap64 (Int.tdiv (wrap64 ((t102.length : Int) * (wrap64 ((t102.length : Int) - 1)))) 2)) - t145))) = true := beq_iff_eq.mpr c91
                           have c91b1 : ((rd t113 1) != (wrap64 ((wrap64 (Int.tdiv (wrap64 ((t102.length : Int) * (wrap64 ((t102.length : Int) - 1)))) 2)) - t145))) = false := bne_eq_false_iff_eq.mpr c91
                           clear c91
                           replace H := Option.bind_eq_some_iff.mp H
                           obtain ⟨t158, A920, H⟩ := H
                           replace H : (some (t158 == (wrap64 ((t102.length : Int) * (t102.length : Int))))) = some r := H
                           have A92 := am_ A920
                           clear A920
                           obtain rfl := Option.some.inj H
                           obtain ⟨Ao93, co93, eo93⟩ := Kd.S_slice HO_6.out
                           subst eo93
                           try go_wp2_with (first | ((with_reducible refine gate_callee (f := 15) rfl ?_); refine goesL_ (some 123) rfl rfl Try.func15 (by kernel_rfl) rfl #[.slice Ao93 t105.length co93] rfl tc0_ ?_; (with_reducible refine (impl_FromKinds.calls kj56 _ _ t105 t141 true _ ?side1 ?side2 A72.out).mono ?_); (case side1 => repeat (first | exact (Kd.S_reads' HO_6.out).2.2 | (with_reducible refine Kd.C_alloc ?_ _) | (with_reducible refine Kd.C_drewN ?_ _) | (with_reducible refine Kd.C_drew ?_))); (case side2 => exact (Kd.S_reads' HO_6.out).2.1); rintro e w94 ⟨v143, rfl, ho0, hb⟩; refine ⟨_, rfl, ?_⟩; have n0_ := am_ (Kd.S_below tc11_ hb); have n1_ := am_ (Kd.S_below tc20_ hb); have n2_ := am_ (Kd.R_below tc19_ hb); have n3_ := am_ (Kd.S_lower (Kd.S_new' (Kd.S_new' (Kd.S_new' ho0 (Kd.S_lt tc11_)) (Kd.S_lt tc20_)) (Kd.R_lt tc19_)) (below_size tc1_)); have n4_ := am_ (below_step tc1_ hb); clear HO_5 HO_6; clear HO_10 HB; have HO_5 := n0_; have HO_6 := n1_; have HO_10 := n2_; have HO144 := n3_; have HB := n4_; clear n0_ n1_ n2_ n3_ n4_; (try clear hb ho0)) | ((with_reducible refine gate_callee (f := 17) rfl ?_); refine goesL_ (some 128) rfl rfl Try.func17 (by kernel_rfl) rfl #[.slice Ao12 t102.length co12] rfl tc0_ ?_; (with_reducible refine (impl_InversionsOf.calls kj56 _ _ t102 t145 true _ ?side1 ?side2 A73.out).mono ?_); (case side1 => exact tc25_); (case side2 => exact (Kd.S_reads' HO_5.out).2.1); rintro e w95 ⟨rfl, hb⟩; refine ⟨_, rfl, ?_⟩; have n0_ := am_ (Kd.S_below tc11_ hb); have n1_ := am_ (Kd.S_below tc20_ hb); have n2_ := am_ (Kd.R_below tc19_ hb); have n3_ := am_ (Kd.S_below (by (with_reducible repeat (first | apply Kd.S_alloc | apply Kd.S_drewN | apply Kd.S_drew)); exact HO144.out) hb); have n4_ := am_ (below_step tc1_ hb); clear HO_5 HO_6; clear HO_10 HO144 HB; have HO_5 := n0_; have HO_6 := n1_; have HO_10 := n2_; have HO144 := n3_; have HB := n4_; clear n0_ n1_ n2_ n3_ n4_; (try clear hb)) | ((with_reducible refine gate_callee (f := 18) rfl ?_); refine goesL_ (some 133) rfl rfl Try.func18 (by kernel_rfl) rfl #[.slice Ao12 t102.length co12] rfl tc0_ ?_; (with_reducible refine (impl_MinusOnes.calls kj56 _ _ t102 t147 true _ ?side1 ?side2 A74.out).mono ?_); (case side1 => exact tc25_); (case side2 => exact (Kd.S_reads' HO_5.out).2.1); rintro e w96 ⟨rfl, hb⟩; refine ⟨_, rfl, ?_⟩; have n0_ := am_ (Kd.S_below tc11_ hb); have n1_ := am_ (Kd.S_below tc20_ hb); have n2_ := am_ (Kd.R_below tc19_ hb); have n3_ := am_ (Kd.S_below (by (with_reducible repeat (first | apply Kd.S_alloc | apply Kd.S_drewN | apply Kd.S_drew)); exact HO144.out) hb); have n4_ := am_ (below_step tc1_ hb); clear HO_5 HO_6; clear HO_10 HO144 HB; have HO_5 := n0_; have HO_6 := n1_; have HO_10 := n2_; have HO144 := n3_; have HB := n4_; clear n0_ n1_ n2_ n3_ n4_; (try clear hb)))
                           have n0_ := am_ (Kd.S_drew HO_5.out)
                           have n1_ := am_ (Kd.S_drew HO_6.out)
                           have n2_ := am_ (Kd.R_drew HO_10.out)
                           have n3_ := am_ (Kd.S_drew HO144.out)
                           have n4_ := am_ (below_drew1 HB.out)
                           clear HO_5
                           clear HO_6
                           clear HO_10
                           clear HO144
                           clear HB
                           have HO_5 := n0_
                           have HO_6 := n1_
                           have HO_10 := n2_
                           have HO144 := n3_
                           have HB := n4_
                           clear n0_ n1_ n2_ n3_ n4_
                           obtain ⟨Ao98, co98, eo98⟩ := Kd.S_slice HO144.out
                           (first | subst eo98 | (injection eo98 with f1_ f2_ f3_; have f4_ := f1_.symm; have f5_ := f3_.symm; clear f1_ f2_ f3_; subst f4_; subst f5_))
                           obtain ⟨Aoz_, coz_, eoz_⟩ := Kd.R_slice HO_10.out
                           subst eoz_
                           have p150 : 0 ≤ (0 : Int) := (by omega)
                           have q150 : 0 < (t113.length : Int) := of_decide_eq_true tc2_
                           obtain ⟨ad150, e150, hx150_0⟩ := Kd.at_int (Kd.R_reads' HO_10.out).2.2 0 p150 q150
                           cases e150
                           have qi150 : (0 < t113.length) = True := eq_true (by omega)
                           (try rw [show ((0 : Int)).toNat = 0 from rfl] at hx150_0)
                           (try rw [Addr.add_zero'] at hx150_0)
                           replace p150 := eq_true p150
                           replace q150 := eq_true q150
                           have p151 : 0 ≤ (3 : Int) := (by omega)
                           have q151 : 3 < (t113.length : Int) := of_decide_eq_true tc2_
                           obtain ⟨ad151, e151, hx151_0⟩ := Kd.at_int (Kd.R_reads' HO_10.out).2.2 3 p151 q151
                           obtain rfl : ad150 = ad151 := (by injection e151)
                           (try simp only [show (3 : Int).toNat = 3 from rfl, Nat.reduceMul, Nat.reduceEqDiff, Go.Addr.add, ↓reduceIte] at hx151_0)
                           have qi151 : (3 < t113.length) = True := eq_true (by omega)
                           (try rw [show ((3 : Int)).toNat = 3 from rfl] at hx151_0)
                           replace p151 := eq_true p151
                           replace q151 := eq_true q151
                           have p152 : 0 ≤ (1 : Int) := (by omega)
                           have q152 : 1 < (t113.length : Int) := of_decide_eq_true tc2_
                           obtain ⟨ad152, e152, hx152_0⟩ := Kd.at_int (Kd.R_reads' HO_10.out).2.2 1 p152 q152
                           obtain rfl : ad150 = ad152 := (by injection e152)
                           (try simp only [show (1 : Int).toNat = 1 from rfl, Nat.reduceMul, Nat.reduceEqDiff, Go.Addr.add, ↓reduceIte] at hx152_0)
                           have qi152 : (1 < t113.length) = True := eq_true (by omega)
                           (try rw [show ((1 : Int)).toNat = 1 from rfl] at hx152_0)
                           replace p152 := eq_true p152
                           replace q152 := eq_true q152
                           have p153 : 0 ≤ (2 : Int) := (by omega)
                           have q153 : 2 < (t113.length : Int) := of_decide_eq_true tc2_
                           obtain ⟨ad153, e153, hx153_0⟩ := Kd.at_int (Kd.R_reads' HO_10.out).2.2 2 p153 q153
                           obtain rfl : ad150 = ad153 := (by injection e153)
                           (try simp only [show (2 : Int).toNat = 2 from rfl, Nat.reduceMul, Nat.reduceEqDiff, Go.Addr.add, ↓reduceIte] at hx153_0)
                           have qi153 : (2 < t113.length) = True := eq_true (by omega)
                           (try rw [show ((2 : Int)).toNat = 2 from rfl] at hx153_0)
                           replace p153 := eq_true p153
                           replace q153 := eq_true q153
                           have p154 : 0 ≤ (0 : Int) := (by omega)
                           have q154 : 0 < (t113.length : Int) := of_decide_eq_true tc2_
                           obtain ⟨ad154, e154, hx154_0⟩ := Kd.at_int (Kd.R_reads' HO_10.out).2.2 0 p154 q154
                           obtain rfl : ad150 = ad154 := (by injection e154)
                           have qi154 : (0 < t113.length) = True := eq_true (by omega)
                           (try rw [show ((0 : Int)).toNat = 0 from rfl] at hx154_0)
                           (try rw [Addr.add_zero'] at hx154_0)
                           replace p154 := eq_true p154
                           replace q154 := eq_true q154
                           have p155 : 0 ≤ (5 : Int) := (by omega)
                           have q155 : 5 < (t113.length : Int) := of_decide_eq_true tc2_
                           obtain ⟨ad155, e155, hx155_0⟩ := Kd.at_int (Kd.R_reads' HO_10.out).2.2 5 p155 q155
                           obtain rfl : ad150 = ad155 := (by injection e155)
                           (try simp only [show (5 : Int).toNat = 5 from rfl, Nat.reduceMul, Nat.reduceEqDiff, Go.Addr.add, ↓reduceIte] at hx155_0)
                           have qi155 : (5 < t113.length) = True := eq_true (by omega)
                           (try rw [show ((5 : Int)).toNat = 5 from rfl] at hx155_0)
                           replace p155 := eq_true p155
                           replace q155 := eq_true q155
                           have p156 : 0 ≤ (4 : Int) := (by omega)
                           have q156 : 4 < (t113.length : Int) := of_decide_eq_true tc2_
                           obtain ⟨ad156, e156, hx156_0⟩ := Kd.at_int (Kd.R_reads' HO_10.out).2.2 4 p156 q156
                           obtain rfl : ad150 = ad156 := (by injection e156)
                           (try simp only [show (4 : Int).toNat = 4 from rfl, Nat.reduceMul, Nat.reduceEqDiff, Go.Addr.add, ↓reduceIte] at hx156_0)
                           have qi156 : (4 < t113.length) = True := eq_true (by omega)
                           (try rw [show ((4 : Int)).toNat = 4 from rfl] at hx156_0)
                           replace p156 := eq_true p156
                           replace q156 := eq_true q156
                           have p157 : 0 ≤ (1 : Int) := (by omega)
                           have q157 : 1 < (t113.length : Int) := of_decide_eq_true tc2_
                           obtain ⟨ad157, e157, hx157_0⟩ := Kd.at_int (Kd.R_reads' HO_10.out).2.2 1 p157 q157
                           obtain rfl : ad150 = ad157 := (by injection e157)
                           (try simp only [show (1 : Int).toNat = 1 from rfl, Nat.reduceMul, Nat.reduceEqDiff, Go.Addr.add, ↓reduceIte] at hx157_0)
                           have qi157 : (1 < t113.length) = True := eq_true (by omega)
                           (try rw [show ((1 : Int)).toNat = 1 from rfl] at hx157_0)
                           replace p157 := eq_true p157
                           replace q157 := eq_true q157
                           refine start_ (n := 77) (S := fun w' => w'.cell? ad150 = some (.int .i64 (rd t113 0)) ∧ w'.cell? ⟨ad150.block, ad150.off + 3, none⟩ = some (.int .i64 (rd t113 3)) ∧ w'.cell? ⟨ad150.block, ad150.off + 1, none⟩ = some (.int .i64 (rd t113 1)) ∧ w'.cell? ⟨ad150.block, ad150.off + 2, none⟩ = some (.int .i64 (rd t113 2)) ∧ w'.cell? ad150 = some (.int .i64 (rd t113 0)) ∧ w'.cell? ⟨ad150.block, ad150.off + 5, none⟩ = some (.int .i64 (rd t113 5)) ∧ w'.cell? ⟨ad150.block, ad150.off + 4, none⟩ = some (.int .i64 (rd t113 4)) ∧ w'.cell? ⟨ad150.block, ad150.off + 1, none⟩ = some (.int .i64 (rd t113 1))) (ds := []) #[false, false, false, false, false, false, false, false, false, false, false, false, false, false, false, false, false, false, false, false, false, false, false, false, false, false, false, false, false, false, false, false, false, false, false, false, false, false, false, false, false, false, false, false, false, false, false, false, false, false, false, false, false, false, false, false, false, false, false, false, false, false, false, false, false, false, false, false, false, false, false, false, false, false, false, false, false] (by kernel_rfl) rfl rfl ⟨hx150_0, hx151_0, hx152_0, hx153_0, hx154_0, hx155_0, hx156_0, hx157_0⟩ (fun hHeld => ?_); refine with_tabW laws_FnKindsOfPlaces.tab25 laws_FnKindsOfPlaces.bits25 (fun HT_ HW_ => ?_)
                           generalize w96.drew = w97 at HO_5 HO_6 HO_10 HO144 HB hx150_0 hx151_0 hx152_0 hx153_0 hx154_0 hx155_0 hx156_0 hx157_0 hHeld ⊢
                           refine pure_ (i := 0) (N := some 138) (v := ?_) (a' := ?_) #[true, false, false, false, false, false, false, false, false, false, false, false, false, false, false, false, false, false, false, false, false, false, false, false, false, false, false, false, false, false, false, false, false, false, false, false, false, false, false, false, false, false, false, false, false, false, false, false, false, false, false, false, false, false, false, false, false, false, false, false, false, false, false, false, false, false, false, false, false, false, false, false, false, false, false, false, false] rfl rfl (any_of HT_.out (by kernel_rfl)) (fun _ _ _ h => h) (Or.inl ⟨by rfl, ?_⟩) ?_ ?_
                           rotate_left
                           ·intro w'
                            go_simp
                            with_reducible rfl
                           rotate_left
                           ·simp only [Act.put, List.setIfInBounds_toArray, List.set_cons_zero, List.set_cons_succ, i64_w, i32_w]
                            rfl
                           refine pure_ (i := 1) (N := some 139) (v := ?_) (a' := ?_) #[true, true, false, false, false, false, false, false, false, false, false, false, false, false, false, false, false, false, false, false, false, false, false, false, false, false, false, false, false, false, false, false, false, false, false, false, false, false, false, false, false, false, false, false, false, false, false, false, false, false, false, false, false, false, false, false, false, false, false, false, false, false, false, false, false, false, false, false, false, false, false, false, false, false, false, false, false] rfl rfl (any_of HT_.out (by kernel_rfl)) (fun _ _ _ h => h) (Or.inl ⟨by rfl, ?_⟩) ?_ ?_
                           rotate_left
                           ·intro w'
                            go_simp
                            with_reducible rfl
                           rotate_left
                           ·simp only [Act.put, List.setIfInBounds_toArray, List.set_cons_zero, List.set_cons_succ, i64_w, i32_w]
                            rfl
                           refine pure_ (i := 2) (N := some 140) (v := ?_) (a' := ?_) #[true, true, true, false, false, false, false, false, false, false, false, false, false, false, false, false, false, false, false, false, false, false, false, false, false, false, false, false, false, false, false, false, false, false, false, false, false, false, false, false, false, false, false, false, false, false, false, false, false, false, false, false, false, false, false, false, false, false, false, false, false, false, false, false, false, false, false, false, false, false, false, false, false, false, false, false, false] rfl rfl (any_of HT_.out (by kernel_rfl)) (fun _ _ _ h => h) (Or.inl ⟨by rfl, ?_⟩) ?_ ?_
                           rotate_left
                           ·intro w'
                            go_simp
                            with_reducible rfl
                           rotate_left
                           ·simp only [Act.put, List.setIfInBounds_toArray, List.set_cons_zero, List.set_cons_succ, i64_w, i32_w]
                            rfl
                           refine pure_ (i := 3) (N := some 141) (v := ?_) (a' := ?_) #[true, true, true, true, false, false, false, false, false, false, false, false, false, false, false, false, false, false, false, false, false, false, false, false, false, false, false, false, false, false, false, false, false, false, false, false, false, false, false, false, false, false, false, false, false, false, false, false, false, false, false, false, false, false, false, false, false, false, false, false, false, false, false, false, false, false, false, false, false, false, false, false, false, false, false, false, false] rfl rfl (any_of HT_.out (by kernel_rfl)) (fun _ _ _ h => h) (Or.inl ⟨by rfl, ?_⟩) ?_ ?_
                           rotate_left
                           ·intro w'
                            go_simp
                            with_reducible rfl
                           rotate_left
                           ·simp only [Act.put, List.setIfInBounds_toArray, List.set_cons_zero, List.set_cons_succ, i64_w, i32_w]
                            rfl
                           refine pure_ (i := 4) (N := some 142) (v := ?_) (a' := ?_) #[true, true, true, true, true, false, false, false, false, false, false, false, false, false, false, false, false, false, false, false, false, false, false, false, false, false, false, false, false, false, false, false, false, false, false, false, false, false, false, false, false, false, false, false, false, false, false, false, false, false, false, false, false, false, false, false, false, false, false, false, false, false, false, false, false, false, false, false, false, false, false, false, false, false, false, false, false] rfl rfl (any_of HT_.out (by kernel_rfl)) (fun _ _ _ h => h) (Or.inl ⟨by rfl, ?_⟩) ?_ ?_
                           rotate_left
                           ·intro w'
                            go_simp
                            with_reducible rfl
                           rotate_left
                           ·simp only [Act.put, List.setIfInBounds_toArray, List.set_cons_zero, List.set_cons_succ, i64_w, i32_w]
                            rfl
                           refine pure_ (i := 5) (N := some 143) (v := ?_) (a' := ?_) #[true, true, true, true, true, true, false, false, false, false, false, false, false, false, false, false, false, false, false, false, false, false, false, false, false, false, false, false, false, false, false, false, false, false, false, false, false, false, false, false, false, false, false, false, false, false, false, false, false, false, false, false, false, false, false, false, false, false, false, false, false, false, false, false, false, false, false, false, false, false, false, false, false, false, false, false, false] rfl rfl (any_of HT_.out (by kernel_rfl)) (fun _ _ _ h => h) (Or.inl ⟨by rfl, ?_⟩) ?_ ?_
                           rotate_left
                           ·intro w'
                            go_simp
                            with_reducible rfl
                           rotate_left
                           ·simp only [Act.put, List.setIfInBounds_toArray, List.set_cons_zero, List.set_cons_succ, i64_w, i32_w]
                            rfl
                           refine pure_ (i := 6) (N := some 144) (v := ?_) (a' := ?_) #[true, true, true, true, true, true, true, false, false, false, false, false, false, false, false, false, false, false, false, false, false, false, false, false, false, false, false, false, false, false, false, false, false, false, false, false, false, false, false, false, false, false, false, false, false, false, false, false, false, false, false, false, false, false, false, false, false, false, false, false, false, false, false, false, false, false, false, false, false, false, false, false, false, false, false, false, false] rfl rfl (any_of HT_.out (by kernel_rfl)) (fun _ _ _ h => h) (Or.inl ⟨by rfl, ?_⟩) ?_ ?_
                           rotate_left
                           ·intro w'
                            go_simp
                            with_reducible rfl
                           rotate_left
                           ·simp only [Act.put, List.setIfInBounds_toArray, List.set_cons_zero, List.set_cons_succ, i64_w, i32_w]
                            rfl
                           refine pure_ (i := 7) (N := some 145) (v := ?_) (a' := ?_) #[true, true, true, true, true, true, true, true, false, false, false, false, false, false, false, false, false, false, false, false, false, false, false, false, false, false, false, false, false, false, false, false, false, false, false, false, false, false, false, false, false, false, false, false, false, false, false, false, false, false, false, false, false, false, false, false, false, false, false, false, false, false, false, false, false, false, false, false, false, false, false, false, false, false, false, false, false] rfl rfl (any_of HT_.out (by kernel_rfl)) (fun _ _ _ h => h) (Or.inl ⟨by rfl, ?_⟩) ?_ ?_
                           rotate_left
                           ·intro w'
                            go_simp
                            with_reducible rfl
                           rotate_left
                           ·simp only [Act.put, List.setIfInBounds_toArray, List.set_cons_zero, List.set_cons_succ, i64_w, i32_w]
                            rfl
                           refine pure_ (i := 8) (N := some 146) (v := ?_) (a' := ?_) #[true, true, true, true, true, true, true, true, true, false, false, false, false, false, false, false, false, false, false, false, false, false, false, false, false, false, false, false, false, false, false, false, false, false, false, false, false, false, false, false, false, false, false, false, false, false, false, false, false, false, false, false, false, false, false, false, false, false, false, false, false, false, false, false, false, false, false, false, false, false, false, false, false, false, false, false, false] rfl rfl (any_of HT_.out (by kernel_rfl)) (fun _ _ _ h => h) (Or.inl ⟨by rfl, ?_⟩) ?_ ?_
                           rotate_left
                           ·intro w'
                            go_simp
                            with_reducible rfl
                           rotate_left
                           ·simp only [Act.put, List.setIfInBounds_toArray, List.set_cons_zero, List.set_cons_succ, i64_w, i32_w]
                            rfl
                           refine pure_ (i := 9) (N := some 147) (v := ?_) (a' := ?_) #[true, true, true, true, true, true, true, true, true, true, false, false, false, false, false, false, false, false, false, false, false, false, false, false, false, false, false, false, false, false, false, false, false, false, false, false, false, false, false, false, false, false, false, false, false, false, false, false, false, false, false, false, false, false, false, false, false, false, false, false, false, false, false, false, false, false, false, false, false, false, false, false, false, false, false, false, false] rfl rfl (any_of HT_.out (by kernel_rfl)) (fun _ _ _ h => h) (Or.inl ⟨by rfl, ?_⟩) ?_ ?_
                           rotate_left
                           ·intro w'
                            go_simp
                            with_reducible rfl
                           rotate_left
                           ·simp only [Act.put, List.setIfInBounds_toArray, List.set_cons_zero, List.set_cons_succ, i64_w, i32_w]
                            rfl
                           refine one_ (i := 10) (N := some 148) #[true, true, true, true, true, true, true, true, true, true, true, false, false, false, false, false, false, false, false, false, false, false, false, false, false, false, false, false, false, false, false, false, false, false, false, false, false, false, false, false, false, false, false, false, false, false, false, false, false, false, false, false, false, false, false, false, false, false, false, false, false, false, false, false, false, false, false, false, false, false, false, false, false, false, false, false, false] rfl rfl (one_of HT_.out (by kernel_rfl)) (by decide) (fun K hK => ?_)
                           refine goes_ Try.func11 (by kernel_rfl) rfl #[.slice Ao98 t141.length co98, .slice Ao12 t102.length co12] (by rfl) rfl rfl tc0_ ?_
                           with_reducible refine (laws_uSameRows.calls kj56 _ _ t141 _ _ t102 true _ ?side1 ?side2 ?side3 ?side4 A78.out).mono ?_
                           (case side1 => repeat (first | exact (Kd.S_reads' HO144.out).2.2 | (with_reducible refine Kd.C_alloc ?_ _) | (with_reducible refine Kd.C_drewN ?_ _) | (with_reducible refine Kd.C_drew ?_)))
                           (case side2 => exact (Kd.S_reads' HO144.out).2.1)
                           (case side3 => exact tc25_)
                           (case side4 => exact (Kd.S_reads' HO_5.out).2.1)
                           rintro e w' ⟨rfl, ⟨nd, rfl⟩⟩
                           refine ⟨_, rfl, ?_⟩
                           obtain ⟨Ao99, co99, eo99⟩ := Kd.R_slice HO_10.out
                           (first | subst eo99 | (injection eo99 with f1_ f2_ f3_; have f4_ := f1_.symm; have f5_ := f3_.symm; clear f1_ f2_ f3_; subst f4_; subst f5_))
                           refine hK.out _ _ ⟨hHeld.1, hHeld.2.1, hHeld.2.2.1, hHeld.2.2.2.1, hHeld.2.2.2.2.1, hHeld.2.2.2.2.2.1, hHeld.2.2.2.2.2.2.1, hHeld.2.2.2.2.2.2.2⟩ (fun hHeld => ?_)
                           clear hK K
                           refine norm_ (a' := ?_) ?_ ?_
                           rotate_left
                           ·show Act.put _ (some 148) _ = _
                            simp only [Act.put, List.setIfInBounds_toArray, List.set_cons_zero, List.set_cons_succ, i64_w, i32_w]
                            rfl
                           refine pure_ (i := 11) (N := some 149) (v := ?_) (a' := ?_) #[true, true, true, true, true, true, true, true, true, true, true, true, false, false, false, false, false, false, false, false, false, false, false, false, false, false, false, false, false, false, false, false, false, false, false, false, false, false, false, false, false, false, false, false, false, false, false, false, false, false, false, false, false, false, false, false, false, false, false, false, false, false, false, false, false, false, false, false, false, false, false, false, false, false, false, false, false] rfl rfl (any_of HT_.out (by kernel_rfl)) (fun _ _ _ h => h) (Or.inl ⟨by rfl, ?_⟩) ?_ ?_
                           rotate_left
                           ·intro w'
                            go_simp
                            with_reducible rfl
                           rotate_left
                           ·simp only [Act.put, List.setIfInBounds_toArray, List.set_cons_zero, List.set_cons_succ, i64_w, i32_w]
                            rfl
                           refine pure_ (i := 12) (N := some 150) (v := ?_) (a' := ?_) #[true, true, true, true, true, true, true, true, true, true, true, true, true, false, false, false, false, false, false, false, false, false, false, false, false, false, false, false, false, false, false, false, false, false, false, false, false, false, false, false, false, false, false, false, false, false, false, false, false, false, false, false, false, false, false, false, false, false, false, false, false, false, false, false, false, false, false, false, false, false, false, false, false, false, false, false, false] rfl rfl (any_of HT_.out (by kernel_rfl)) (fun _ _ _ h => h) (Or.inl ⟨by rfl, ?_⟩) ?_ ?_
                           rotate_left
                           ·intro w'
                            go_simp
                            with_reducible rfl
                           rotate_left
                           ·simp only [Act.put, List.setIfInBounds_toArray, List.set_cons_zero, List.set_cons_succ, i64_w, i32_w]
                            rfl
                           refine pure_ (i := 13) (N := some 151) (v := ?_) (a' := ?_) #[true, true, true, true, true, true, true, true, true, true, true, true, true, true, false, false, false, false, false, false, false, false, false, false, false, false, false, false, false, false, false, false, false, false, false, false, false, false, false, false, false, false, false, false, false, false, false, false, false, false, false, false, false, false, false, false, false, false, false, false, false, false, false, false, false, false, false, false, false, false, false, false, false, false, false, false, false] rfl rfl (any_of HT_.out (by kernel_rfl)) (fun _ _ _ h => h) (Or.inl ⟨by rfl, ?_⟩) ?_ ?_
                           rotate_left
                           ·intro w'
                            go_simp
                            with_reducible rfl
                           rotate_left
                           ·simp only [Act.put, List.setIfInBounds_toArray, List.set_cons_zero, List.set_cons_succ, i64_w, i32_w]
                            rfl
                           refine pure_ (i := 14) (N := some 152) (v := ?_) (a' := ?_) #[true, true, true, true, true, true, true, true, true, true, true, true, true, true, true, false, false, false, false, false, false, false, false, false, false, false, false, false, false, false, false, false, false, false, false, false, false, false, false, false, false, false, false, false, false, false, false, false, false, false, false, false, false, false, false, false, false, false, false, false, false, false, false, false, false, false, false, false, false, false, false, false, false, false, false, false, false] rfl rfl (any_of HT_.out (by kernel_rfl)) (fun _ _ _ h => h) (Or.inl ⟨by rfl, ?_⟩) ?_ ?_
                           rotate_left
                           ·intro w'
                            go_simp
                            with_reducible rfl
                           rotate_left
                           ·simp only [Act.put, List.setIfInBounds_toArray, List.set_cons_zero, List.set_cons_succ, i64_w, i32_w]
                            rfl
                           refine pure_ (i := 16) (N := some 154) (v := ?_) (a' := ?_) #[true, true, true, true, true, true, true, true, true, true, true, true, true, true, true, false, true, false, false, false, false, false, false, false, false, false, false, false, false, false, false, false, false, false, false, false, false, false, false, false, false, false, false, false, false, false, false, false, false, false, false, false, false, false, false, false, false, false, false, false, false, false, false, false, false, false, false, false, false, false, false, false, false, false, false, false, false] rfl rfl (any_of HT_.out (by kernel_rfl)) (fun _ _ _ h => h) (Or.inl ⟨by rfl, ?_⟩) ?_ ?_
                           rotate_left
                           ·intro w'
                            go_simp
                            with_reducible rfl
                           rotate_left
                           ·simp only [Act.put, List.setIfInBounds_toArray, List.set_cons_zero, List.set_cons_succ, i64_w, i32_w]
                            rfl
                           refine pure_ (i := 17) (N := some 155) (v := ?_) (a' := ?_) #[true, true, true, true, true, true, true, true, true, true, true, true, true, true, true, false, true, true, false, false, false, false, false, false, false, false, false, false, false, false, false, false, false, false, false, false, false, false, false, false, false, false, false, false, false, false, false, false, false, false, false, false, false, false, false, false, false, false, false, false, false, false, false, false, false, false, false, false, false, false, false, false, false, false, false, false, false] rfl rfl (any_of HT_.out (by kernel_rfl)) (fun _ _ _ h => h) (Or.inl ⟨by rfl, ?_⟩) ?_ ?_
                           rotate_left
                           ·intro w'
                            go_simp
                            with_reducible rfl
                           rotate_left
                           ·simp only [Act.put, List.setIfInBounds_toArray, List.set_cons_zero, List.set_cons_succ, i64_w, i32_w]
                            rfl
                           refine take_ (i := 15) (N := some 153) (v := ?_) (a' := ?_) #[true, true, true, true, true, true, true, true, true, true, true, true, true, true, true, true, true, true, false, false, false, false, false, false, false, false, false, false, false, false, false, false, false, false, false, false, false, false, false, false, false, false, false, false, false, false, false, false, false, false, false, false, false, false, false, false, false, false, false, false, false, false, false, false, false, false, false, false, false, false, false, false, false, false, false, false, false] rfl rfl (take_ofW HT_.out HW_.out (by kernel_rfl)) (fun _ _ _ h => h) (Or.inl ⟨by rfl, ?_⟩) hHeld ?_ ?_
                           rotate_left
                           ·rintro w' ⟨s0, s1, s2, s3, s4, s5, s6, s7⟩
                            go_simp
                            with_reducible rfl
                           rotate_left
                           ·simp only [Act.put, List.setIfInBounds_toArray, List.set_cons_zero, List.set_cons_succ, i64_w, i32_w]
                            rfl
                           refine take_ (i := 18) (N := some 156) (v := ?_) (a' := ?_) #[true, true, true, true, true, true, true, true, true, true, true, true, true, true, true, true, true, true, true, false, false, false, false, false, false, false, false, false, false, false, false, false, false, false, false, false, false, false, false, false, false, false, false, false, false, false, false, false, false, false, false, false, false, false, false, false, false, false, false, false, false, false, false, false, false, false, false, false, false, false, false, false, false, false, false, false, false] rfl rfl (take_ofW HT_.out HW_.out (by kernel_rfl)) (fun _ _ _ h => h) (Or.inl ⟨by rfl, ?_⟩) hHeld ?_ ?_
                           rotate_left
                           ·rintro w' ⟨s0, s1, s2, s3, s4, s5, s6, s7⟩
                            go_simp
                            with_reducible rfl
                           rotate_left
                           ·simp only [Act.put, List.setIfInBounds_toArray, List.set_cons_zero, List.set_cons_succ, i64_w, i32_w]
                            rfl
                           refine pure_ (i := 19) (N := some 157) (v := ?_) (a' := ?_) #[true, true, true, true, true, true, true, true, true, true, true, true, true, true, true, true, true, true, true, true, false, false, false, false, false, false, false, false, false, false, false, false, false, false, false, false, false, false, false, false, false, false, false, false, false, false, false, false, false, false, false, false, false, false, false, false, false, false, false, false, false, false, false, false, false, false, false, false, false, false, false, false, false, false, false, false, false] rfl rfl (any_of HT_.out (by kernel_rfl)) (fun _ _ _ h => h) (Or.inl ⟨by rfl, ?_⟩) ?_ ?_
                           rotate_left
                           ·intro w'
                            go_simp
                            with_reducible rfl
                           rotate_left
                           ·simp only [Act.put, List.setIfInBounds_toArray, List.set_cons_zero, List.set_cons_succ, i64_w, i32_w]
                            rfl
                           refine pure_ (i := 20) (N := some 158) (v := ?_) (a' := ?_) #[true, true, true, true, true, true, true, true, true, true, true, true, true, true, true, true, true, true, true, true, true, false, false, false, false, false, false, false, false, false, false, false, false, false, false, false, false, false, false, false, false, false, false, false, false, false, false, false, false, false, false, false, false, false, false, false, false, false, false, false, false, false, false, false, false, false, false, false, false, false, false, false, false, false, false, false, false] rfl rfl (any_of HT_.out (by kernel_rfl)) (fun _ _ _ h => h) (Or.inl ⟨by rfl, ?_⟩) ?_ ?_
                           rotate_left
                           ·intro w'
                            go_simp
                            with_reducible rfl
                           rotate_left
                           ·simp only [Act.put, List.setIfInBounds_toArray, List.set_cons_zero, List.set_cons_succ, i64_w, i32_w]
                            rfl
                           refine pure_ (i := 21) (N := some 159) (v := ?_) (a' := ?_) #[true, true, true, true, true, true, true, true, true, true, true, true, true, true, true, true, true, true, true, true, true, true, false, false, false, false, false, false, false, false, false, false, false, false, false, false, false, false, false, false, false, false, false, false, false, false, false, false, false, false, false, false, false, false, false, false, false, false, false, false, false, false, false, false, false, false, false, false, false, false, false, false, false, false, false, false, false] rfl rfl (any_of HT_.out (by kernel_rfl)) (fun _ _ _ h => h) (Or.inl ⟨by rfl, ?_⟩) ?_ ?_
                           rotate_left
                           ·intro w'
                            go_simp
                            with_reducible rfl
                           rotate_left
                           ·simp only [Act.put, List.setIfInBounds_toArray, List.set_cons_zero, List.set_cons_succ, i64_w, i32_w]
                            rfl
                           refine pure_ (i := 22) (N := some 160) (v := ?_) (a' := ?_) #[true, true, true, true, true, true, true, true, true, true, true, true, true, true, true, true, true, true, true, true, true, true, true, false, false, false, false, false, false, false, false, false, false, false, false, false, false, false, false, false, false, false, false, false, false, false, false, false, false, false, false, false, false, false, false, false, false, false, false, false, false, false, false, false, false, false, false, false, false, false, false, false, false, false, false, false, false] rfl rfl (any_of HT_.out (by kernel_rfl)) (fun _ _ _ h => h) (Or.inl ⟨by rfl, ?_⟩) ?_ ?_
                           rotate_left
                           ·intro w'
                            go_simp
                            with_reducible rfl
                           rotate_left
                           ·simp only [Act.put, List.setIfInBounds_toArray, List.set_cons_zero, List.set_cons_succ, i64_w, i32_w]
                            rfl
                           refine pure_ (i := 23) (N := some 161) (v := ?_) (a' := ?_) #[true, true, true, true, true, true, true, true, true, true, true, true, true, true, true, true, true, true, true, true, true, true, true, true, false, false, false, false, false, false, false, false, false, false, false, false, false, false, false, false, false, false, false, false, false, false, false, false, false, false, false, false, false, false, false, false, false, false, false, false, false, false, false, false, false, false, false, false, false, false, false, false, false, false, false, false, false] rfl rfl (any_of HT_.out (by kernel_rfl)) (fun _ _ _ h => h) (Or.inl ⟨by rfl, ?_⟩) ?_ ?_
                           rotate_left
                           ·intro w'
                            go_simp
                            with_reducible rfl
                           rotate_left
                           ·simp only [Act.put, List.setIfInBounds_toArray, List.set_cons_zero, List.set_cons_succ, i64_w, i32_w]
                            rfl
                           refine pure_ (i := 25) (N := some 163) (v := ?_) (a' := ?_) #[true, true, true, true, true, true, true, true, true, true, true, true, true, true, true, true, true, true, true, true, true, true, true, true, false, true, false, false, false, false, false, false, false, false, false, false, false, false, false, false, false, false, false, false, false, false, false, false, false, false, false, false, false, false, false, false, false, false, false, false, false, false, false, false, false, false, false, false, false, false, false, false, false, false, false, false, false] rfl rfl (any_of HT_.out (by kernel_rfl)) (fun _ _ _ h => h) (Or.inl ⟨by rfl, ?_⟩) ?_ ?_
                           rotate_left
                           ·intro w'
                            go_simp
                            with_reducible rfl
                           rotate_left
                           ·simp only [Act.put, List.setIfInBounds_toArray, List.set_cons_zero, List.set_cons_succ, i64_w, i32_w]
                            rfl
                           refine pure_ (i := 26) (N := some 164) (v := ?_) (a' := ?_) #[true, true, true, true, true, true, true, true, true, true, true, true, true, true, true, true, true, true, true, true, true, true, true, true, false, true, true, false, false, false, false, false, false, false, false, false, false, false, false, false, false, false, false, false, false, false, false, false, false, false, false, false, false, false, false, false, false, false, false, false, false, false, false, false, false, false, false, false, false, false, false, false, false, false, false, false, false] rfl rfl (any_of HT_.out (by kernel_rfl)) (fun _ _ _ h => h) (Or.inl ⟨by rfl, ?_⟩) ?_ ?_
                           rotate_left
                           ·intro w'
                            go_simp
                            with_reducible rfl
                           rotate_left
                           ·simp only [Act.put, List.setIfInBounds_toArray, List.set_cons_zero, List.set_cons_succ, i64_w, i32_w]
                            rfl
                           refine take_ (i := 24) (N := some 162) (v := ?_) (a' := ?_) #[true, true, true, true, true, true, true, true, true, true, true, true, true, true, true, true, true, true, true, true, true, true, true, true, true, true, true, false, false, false, false, false, false, false, false, false, false, false, false, false, false, false, false, false, false, false, false, false, false, false, false, false, false, false, false, false, false, false, false, false, false, false, false, false, false, false, false, false, false, false, false, false, false, false, false, false, false] rfl rfl (take_ofW HT_.out HW_.out (by kernel_rfl)) (fun _ _ _ h => h) (Or.inl ⟨by rfl, ?_⟩) hHeld ?_ ?_
                           rotate_left
                           ·rintro w' ⟨s0, s1, s2, s3, s4, s5, s6, s7⟩
                            go_simp
                            with_reducible rfl
                           rotate_left
                           ·simp only [Act.put, List.setIfInBounds_toArray, List.set_cons_zero, List.set_cons_succ, i64_w, i32_w]
                            rfl
                           refine take_ (i := 27) (N := some 165) (v := ?_) (a' := ?_) #[true, true, true, true, true, true, true, true, true, true, true, true, true, true, true, true, true, true, true, true, true, true, true, true, true, true, true, true, false, false, false, false, false, false, false, false, false, false, false, false, false, false, false, false, false, false, false, false, false, false, false, false, false, false, false, false, false, false, false, false, false, false, false, false, false, false, false, false, false, false, false, false, false, false, false, false, false] rfl rfl (take_ofW HT_.out HW_.out (by kernel_rfl)) (fun _ _ _ h => h) (Or.inl ⟨by rfl, ?_⟩) hHeld ?_ ?_
                           rotate_left
                           ·rintro w' ⟨s0, s1, s2, s3, s4, s5, s6, s7⟩
                            go_simp
                            with_reducible rfl
                           rotate_left
                           ·simp only [Act.put, List.setIfInBounds_toArray, List.set_cons_zero, List.set_cons_succ, i64_w, i32_w]
                            rfl
                           refine pure_ (i := 28) (N := some 166) (v := ?_) (a' := ?_) #[true, true, true, true, true, true, true, true, true, true, true, true, true, true, true, true, true, true, true, true, true, true, true, true, true, true, true, true, true, false, false, false, false, false, false, false, false, false, false, false, false, false, false, false, false, false, false, false, false, false, false, false, false, false, false, false, false, false, false, false, false, false, false, false, false, false, false, false, false, false, false, false, false, false, false, false, false] rfl rfl (any_of HT_.out (by kernel_rfl)) (fun _ _ _ h => h) (Or.inl ⟨by rfl, ?_⟩) ?_ ?_
                           rotate_left
                           ·intro w'
                            go_simp
                            with_reducible rfl
                           rotate_left
                           ·simp only [Act.put, List.setIfInBounds_toArray, List.set_cons_zero, List.set_cons_succ, i64_w, i32_w]
                            rfl
                           refine pure_ (i := 29) (N := some 167) (v := ?_) (a' := ?_) #[true, true, true, true, true, true, true, true, true, true, true, true, true, true, true, true, true, true, true, true, true, true, true, true, true, true, true, true, true, true, false, false, false, false, false, false, false, false, false, false, false, false, false, false, false, false, false, false, false, false, false, false, false, false, false, false, false, false, false, false, false, false, false, false, false, false, false, false, false, false, false, false, false, false, false, false, false] rfl rfl (any_of HT_.out (by kernel_rfl)) (fun _ _ _ h => h) (Or.inl ⟨by rfl, ?_⟩) ?_ ?_
                           rotate_left
                           ·intro w'
                            go_simp
                            with_reducible rfl
                           rotate_left
                           ·simp only [Act.put, List.setIfInBounds_toArray, List.set_cons_zero, List.set_cons_succ, i64_w, i32_w]
                            rfl
                           refine pure_ (i := 30) (N := some 168) (v := ?_) (a' := ?_) #[true, true, true, true, true, true, true, true, true, true, true, true, true, true, true, true, true, true, true, true, true, true, true, true, true, true, true, true, true, true, true, false, false, false, false, false, false, false, false, false, false, false, false, false, false, false, false, false, false, false, false, false, false, false, false, false, false, false, false, false, false, false, false, false, false, false, false, false, false, false, false, false, false, false, false, false, false] rfl rfl (any_of HT_.out (by kernel_rfl)) (fun _ _ _ h => h) (Or.inl ⟨by rfl, ?_⟩) ?_ ?_
                           rotate_left
                           ·intro w'
                            go_simp
                            with_reducible rfl
                           rotate_left
                           ·simp only [Act.put, List.setIfInBounds_toArray, List.set_cons_zero, List.set_cons_succ, i64_w, i32_w]
                            rfl
                           refine pure_ (i := 31) (N := some 169) (v := ?_) (a' := ?_) #[true, true, true, true, true, true, true, true, true, true, true, true, true, true, true, true, true, true, true, true, true, true, true, true, true, true, true, true, true, true, true, true, false, false, false, false, false, false, false, false, false, false, false, false, false, false, false, false, false, false, false, false, false, false, false, false, false, false, false, false, false, false, false, false, false, false, false, false, false, false, false, false, false, false, false, false, false] rfl rfl (any_of HT_.out (by kernel_rfl)) (fun _ _ _ h => h) (Or.inl ⟨by rfl, ?_⟩) ?_ ?_
                           rotate_left
                           ·intro w'
                            go_simp
                            with_reducible rfl
                           rotate_left
                           ·simp only [Act.put, List.setIfInBounds_toArray, List.set_cons_zero, List.set_cons_succ, i64_w, i32_w]
                            rfl
                           refine pure_ (i := 32) (N := some 170) (v := ?_) (a' := ?_) #[true, true, true, true, true, true, true, true, true, true, true, true, true, true, true, true, true, true, true, true, true, true, true, true, true, true, true, true, true, true, true, true, true, false, false, false, false, false, false, false, false, false, false, false, false, false, false, false, false, false, false, false, false, false, false, false, false, false, false, false, false, false, false, false, false, false, false, false, false, false, false, false, false, false, false, false, false] rfl rfl (any_of HT_.out (by kernel_rfl)) (fun _ _ _ h => h) (Or.inl ⟨by rfl, ?_⟩) ?_ ?_
                           rotate_left
                           ·intro w'
                            go_simp
                            with_reducible rfl
                           rotate_left
                           ·simp only [Act.put, List.setIfInBounds_toArray, List.set_cons_zero, List.set_cons_succ, i64_w, i32_w]
                            rfl
                           refine pure_ (i := 34) (N := some 172) (v := ?_) (a' := ?_) #[true, true, true, true, true, true, true, true, true, true, true, true, true, true, true, true, true, true, true, true, true, true, true, true, true, true, true, true, true, true, true, true, true, false, true, false, false, false, false, false, false, false, false, false, false, false, false, false, false, false, false, false, false, false, false, false, false, false, false, false, false, false, false, false, false, false, false, false, false, false, false, false, false, false, false, false, false] rfl rfl (any_of HT_.out (by kernel_rfl)) (fun _ _ _ h => h) (Or.inl ⟨by rfl, ?_⟩) ?_ ?_
                           rotate_left
                           ·intro w'
                            go_simp
                            with_reducible rfl
                           rotate_left
                           ·simp only [Act.put, List.setIfInBounds_toArray, List.set_cons_zero, List.set_cons_succ, i64_w, i32_w]
                            rfl
                           refine pure_ (i := 35) (N := some 173) (v := ?_) (a' := ?_) #[true, true, true, true, true, true, true, true, true, true, true, true, true, true, true, true, true, true, true, true, true, true, true, true, true, true, true, true, true, true, true, true, true, false, true, true, false, false, false, false, false, false, false, false, false, false, false, false, false, false, false, false, false, false, false, false, false, false, false, false, false, false, false, false, false, false, false, false, false, false, false, false, false, false, false, false, false] rfl rfl (any_of HT_.out (by kernel_rfl)) (fun _ _ _ h => h) (Or.inl ⟨by rfl, ?_⟩) ?_ ?_
                           rotate_left
                           ·intro w'
                            go_simp
                            with_reducible rfl
                           rotate_left
                           ·simp only [Act.put, List.setIfInBounds_toArray, List.set_cons_zero, List.set_cons_succ, i64_w, i32_w]
                            rfl
                           refine pure_ (i := 36) (N := some 174) (v := ?_) (a' := ?_) #[true, true, true, true, true, true, true, true, true, true, true, true, true, true, true, true, true, true, true, true, true, true, true, true, true, true, true, true, true, true, true, true, true, false, true, true, true, false, false, false, false, false, false, false, false, false, false, false, false, false, false, false, false, false, false, false, false, false, false, false, false, false, false, false, false, false, false, false, false, false, false, false, false, false, false, false, false] rfl rfl (any_of HT_.out (by kernel_rfl)) (fun _ _ _ h => h) (Or.inl ⟨by rfl, ?_⟩) ?_ ?_
                           rotate_left
                           ·intro w'
                            go_simp
                            with_reducible rfl
                           rotate_left
                           ·simp only [Act.put, List.setIfInBounds_toArray, List.set_cons_zero, List.set_cons_succ, i64_w, i32_w]
                            rfl
                           refine take_ (i := 33) (N := some 171) (v := ?_) (a' := ?_) #[true, true, true, true, true, true, true, true, true, true, true, true, true, true, true, true, true, true, true, true, true, true, true, true, true, true, true, true, true, true, true, true, true, true, true, true, true, false, false, false, false, false, false, false, false, false, false, false, false, false, false, false, false, false, false, false, false, false, false, false, false, false, false, false, false, false, false, false, false, false, false, false, false, false, false, false, false] rfl rfl (take_ofW HT_.out HW_.out (by kernel_rfl)) (fun _ _ _ h => h) (Or.inl ⟨by rfl, ?_⟩) hHeld ?_ ?_
                           rotate_left
                           ·rintro w' ⟨s0, s1, s2, s3, s4, s5, s6, s7⟩
                            go_simp
                            with_reducible rfl
                           rotate_left
                           ·simp only [Act.put, List.setIfInBounds_toArray, List.set_cons_zero, List.set_cons_succ, i64_w, i32_w]
                            rfl
                           refine pure_ (i := 37) (N := some 175) (v := ?_) (a' := ?_) #[true, true, true, true, true, true, true, true, true, true, true, true, true, true, true, true, true, true, true, true, true, true, true, true, true, true, true, true, true, true, true, true, true, true, true, true, true, true, false, false, false, false, false, false, false, false, false, false, false, false, false, false, false, false, false, false, false, false, false, false, false, false, false, false, false, false, false, false, false, false, false, false, false, false, false, false, false] rfl rfl (any_of HT_.out (by kernel_rfl)) (fun _ _ _ h => h) (Or.inl ⟨by rfl, ?_⟩) ?_ ?_
                           rotate_left
                           ·intro w'
                            go_simp
                            with_reducible rfl
                           rotate_left
                           ·simp only [Act.put, List.setIfInBounds_toArray, List.set_cons_zero, List.set_cons_succ, i64_w, i32_w]
                            rfl
                           refine pure_ (i := 38) (N := some 176) (v := ?_) (a' := ?_) #[true, true, true, true, true, true, true, true, true, true, true, true, true, true, true, true, true, true, true, true, true, true, true, true, true, true, true, true, true, true, true, true, true, true, true, true, true, true, true, false, false, false, false, false, false, false, false, false, false, false, false, false, false, false, false, false, false, false, false, false, false, false, false, false, false, false, false, false, false, false, false, false, false, false, false, false, false] rfl rfl (any_of HT_.out (by kernel_rfl)) (fun _ _ _ h => h) (Or.inl ⟨by rfl, ?_⟩) ?_ ?_
                           rotate_left
                           ·intro w'
                            go_simp
                            with_reducible rfl
                           rotate_left
                           ·simp only [Act.put, List.setIfInBounds_toArray, List.set_cons_zero, List.set_cons_succ, i64_w, i32_w]
                            rfl
                           refine pure_ (i := 39) (N := some 177) (v := ?_) (a' := ?_) #[true, true, true, true, true, true, true, true, true, true, true, true, true, true, true, true, true, true, true, true, true, true, true, true, true, true, true, true, true, true, true, true, true, true, true, true, true, true, true, true, false, false, false, false, false, false, false, false, false, false, false, false, false, false, false, false, false, false, false, false, false, false, false, false, false, false, false, false, false, false, false, false, false, false, false, false, false] rfl rfl (any_of HT_.out (by kernel_rfl)) (fun _ _ _ h => h) (Or.inl ⟨by rfl, ?_⟩) ?_ ?_
                           rotate_left
                           ·intro w'
                            go_simp
                            with_reducible rfl
                           rotate_left
                           ·simp only [Act.put, List.setIfInBounds_toArray, List.set_cons_zero, List.set_cons_succ, i64_w, i32_w]
                            rfl
                           refine pure_ (i := 40) (N := some 178) (v := ?_) (a' := ?_) #[true, true, true, true, true, true, true, true, true, true, true, true, true, true, true, true, true, true, true, true, true, true, true, true, true, true, true, true, true, true, true, true, true, true, true, true, true, true, true, true, true, false, false, false, false, false, false, false, false, false, false, false, false, false, false, false, false, false, false, false, false, false, false, false, false, false, false, false, false, false, false, false, false, false, false, false, false] rfl rfl (any_of HT_.out (by kernel_rfl)) (fun _ _ _ h => h) (Or.inl ⟨by rfl, ?_⟩) ?_ ?_
                           rotate_left
                           ·intro w'
                            go_simp
                            with_reducible rfl
                           rotate_left
                           ·simp only [Act.put, List.setIfInBounds_toArray, List.set_cons_zero, List.set_cons_succ, i64_w, i32_w]
                            rfl
                           refine pure_ (i := 41) (N := some 179) (v := ?_) (a' := ?_) #[true, true, true, true, true, true, true, true, true, true, true, true, true, true, true, true, true, true, true, true, true, true, true, true, true, true, true, true, true, true, true, true, true, true, true, true, true, true, true, true, true, true, false, false, false, false, false, false, false, false, false, false, false, false, false, false, false, false, false, false, false, false, false, false, false, false, false, false, false, false, false, false, false, false, false, false, false] rfl rfl (any_of HT_.out (by kernel_rfl)) (fun _ _ _ h => h) (Or.inl ⟨by rfl, ?_⟩) ?_ ?_
                           rotate_left
                           ·intro w'
                            go_simp
                            with_reducible rfl
                           rotate_left
                           ·simp only [Act.put, List.setIfInBounds_toArray, List.set_cons_zero, List.set_cons_succ, i64_w, i32_w]
                            rfl
                           refine pure_ (i := 43) (N := some 181) (v := ?_) (a' := ?_) #[true, true, true, true, true, true, true, true, true, true, true, true, true, true, true, true, true, true, true, true, true, true, true, true, true, true, true, true, true, true, true, true, true, true, true, true, true, true, true, true, true, true, false, true, false, false, false, false, false, false, false, false, false, false, false, false, false, false, false, false, false, false, false, false, false, false, false, false, false, false, false, false, false, false, false, false, false] rfl rfl (any_of HT_.out (by kernel_rfl)) (fun _ _ _ h => h) (Or.inl ⟨by rfl, ?_⟩) ?_ ?_
                           rotate_left
                           ·intro w'
                            go_simp
                            with_reducible rfl
                           rotate_left
                           ·simp only [Act.put, List.setIfInBounds_toArray, List.set_cons_zero, List.set_cons_succ, i64_w, i32_w]
                            rfl
                           refine take_ (i := 42) (N := some 180) (v := ?_) (a' := ?_) #[true, true, true, true, true, true, true, true, true, true, true, true, true, true, true, true, true, true, true, true, true, true, true, true, true, true, true, true, true, true, true, true, true, true, true, true, true, true, true, true, true, true, true, true, false, false, false, false, false, false, false, false, false, false, false, false, false, false, false, false, false, false, false, false, false, false, false, false, false, false, false, false, false, false, false, false, false] rfl rfl (take_ofW HT_.out HW_.out (by kernel_rfl)) (fun _ _ _ h => h) (Or.inl ⟨by rfl, ?_⟩) hHeld ?_ ?_
                           rotate_left
                           ·rintro w' ⟨s0, s1, s2, s3, s4, s5, s6, s7⟩
                            go_simp
                            with_reducible rfl
                           rotate_left
                           ·simp only [Act.put, List.setIfInBounds_toArray, List.set_cons_zero, List.set_cons_succ, i64_w, i32_w]
                            rfl
                           refine pure_ (i := 44) (N := some 182) (v := ?_) (a' := ?_) #[true, true, true, true, true, true, true, true, true, true, true, true, true, true, true, true, true, true, true, true, true, true, true, true, true, true, true, true, true, true, true, true, true, true, true, true, true, true, true, true, true, true, true, true, true, false, false, false, false, false, false, false, false, false, false, false, false, false, false, false, false, false, false, false, false, false, false, false, false, false, false, false, false, false, false, false, false] rfl rfl (any_of HT_.out (by kernel_rfl)) (fun _ _ _ h => h) (Or.inl ⟨by rfl, ?_⟩) ?_ ?_
                           rotate_left
                           ·intro w'
                            go_simp
                            with_reducible rfl
                           rotate_left
                           ·simp only [Act.put, List.setIfInBounds_toArray, List.set_cons_zero, List.set_cons_succ, i64_w, i32_w]
                            rfl
                           refine pure_ (i := 45) (N := some 183) (v := ?_) (a' := ?_) #[true, true, true, true, true, true, true, true, true, true, true, true, true, true, true, true, true, true, true, true, true, true, true, true, true, true, true, true, true, true, true, true, true, true, true, true, true, true, true, true, true, true, true, true, true, true, false, false, false, false, false, false, false, false, false, false, false, false, false, false, false, false, false, false, false, false, false, false, false, false, false, false, false, false, false, false, false] rfl rfl (any_of HT_.out (by kernel_rfl)) (fun _ _ _ h => h) (Or.inl ⟨by rfl, ?_⟩) ?_ ?_
                           rotate_left
                           ·intro w'
                            go_simp
                            with_reducible rfl
                           rotate_left
                           ·simp only [Act.put, List.setIfInBounds_toArray, List.set_cons_zero, List.set_cons_succ, i64_w, i32_w]
                            rfl
                           refine pure_ (i := 46) (N := some 184) (v := ?_) (a' := ?_) #[true, true, true, true, true, true, true, true, true, true, true, true, true, true, true, true, true, true, true, true, true, true, true, true, true, true, true, true, true, true, true, true, true, true, true, true, true, true, true, true, true, true, true, true, true, true, true, false, false, false, false, false, false, false, false, false, false, false, false, false, false, false, false, false, false, false, false, false, false, false, false, false, false, false, false, false, false] rfl rfl (any_of HT_.out (by kernel_rfl)) (fun _ _ _ h => h) (Or.inl ⟨by rfl, ?_⟩) ?_ ?_
                           rotate_left
                           ·intro w'
                            go_simp
                            with_reducible rfl
                           rotate_left
                           ·simp only [Act.put, List.setIfInBounds_toArray, List.set_cons_zero, List.set_cons_succ, i64_w, i32_w]
                            rfl
                           refine pure_ (i := 47) (N := some 185) (v := ?_) (a' := ?_) #[true, true, true, true, true, true, true, true, true, true, true, true, true, true, true, true, true, true, true, true, true, true, true, true, true, true, true, true, true, true, true, true, true, true, true, true, true, true, true, true, true, true, true, true, true, true, true, true, false, false, false, false, false, false, false, false, false, false, false, false, false, false, false, false, false, false, false, false, false, false, false, false, false, false, false, false, false] rfl rfl (any_of HT_.out (by kernel_rfl)) (fun _ _ _ h => h) (Or.inl ⟨by rfl, ?_⟩) ?_ ?_
                           rotate_left
                           ·intro w'
                            go_simp
                            with_reducible rfl
                           rotate_left
                           ·simp only [Act.put, List.setIfInBounds_toArray, List.set_cons_zero, List.set_cons_succ, i64_w, i32_w]
                            rfl
                           refine pure_ (i := 48) (N := some 186) (v := ?_) (a' := ?_) #[true, true, true, true, true, true, true, true, true, true, true, true, true, true, true, true, true, true, true, true, true, true, true, true, true, true, true, true, true, true, true, true, true, true, true, true, true, true, true, true, true, true, true, true, true, true, true, true, true, false, false, false, false, false, false, false, false, false, false, false, false, false, false, false, false, false, false, false, false, false, false, false, false, false, false, false, false] rfl rfl (any_of HT_.out (by kernel_rfl)) (fun _ _ _ h => h) (Or.inl ⟨by rfl, ?_⟩) ?_ ?_
                           rotate_left
                           ·intro w'
                            go_simp
                            with_reducible rfl
                           rotate_left
                           ·simp only [Act.put, List.setIfInBounds_toArray, List.set_cons_zero, List.set_cons_succ, i64_w, i32_w]
                            rfl
                           refine pure_ (i := 50) (N := some 188) (v := ?_) (a' := ?_) #[true, true, true, true, true, true, true, true, true, true, true, true, true, true, true, true, true, true, true, true, true, true, true, true, true, true, true, true, true, true, true, true, true, true, true, true, true, true, true, true, true, true, true, true, true, true, true, true, true, false, true, false, false, false, false, false, false, false, false, false, false, false, false, false, false, false, false, false, false, false, false, false, false, false, false, false, false] rfl rfl (any_of HT_.out (by kernel_rfl)) (fun _ _ _ h => h) (Or.inl ⟨by rfl, ?_⟩) ?_ ?_
                           rotate_left
                           ·intro w'
                            go_simp
                            with_reducible rfl
                           rotate_left
                           ·simp only [Act.put, List.setIfInBounds_toArray, List.set_cons_zero, List.set_cons_succ, i64_w, i32_w]
                            rfl
                           refine pure_ (i := 51) (N := some 189) (v := ?_) (a' := ?_) #[true, true, true, true, true, true, true, true, true, true, true, true, true, true, true, true, true, true, true, true, true, true, true, true, true, true, true, true, true, true, true, true, true, true, true, true, true, true, true, true, true, true, true, true, true, true, true, true, true, false, true, true, false, false, false, false, false, false, false, false, false, false, false, false, false, false, false, false, false, false, false, false, false, false, false, false, false] rfl rfl (any_of HT_.out (by kernel_rfl)) (fun _ _ _ h => h) (Or.inl ⟨by rfl, ?_⟩) ?_ ?_
                           rotate_left
                           ·intro w'
                            go_simp
                            with_reducible rfl
                           rotate_left
                           ·simp only [Act.put, List.setIfInBounds_toArray, List.set_cons_zero, List.set_cons_succ, i64_w, i32_w]
                            rfl
                           refine pure_ (i := 52) (N := some 190) (v := ?_) (a' := ?_) #[true, true, true, true, true, true, true, true, true, true, true, true, true, true, true, true, true, true, true, true, true, true, true, true, true, true, true, true, true, true, true, true, true, true, true, true, true, true, true, true, true, true, true, true, true, true, true, true, true, false, true, true, true, false, false, false, false, false, false, false, false, false, false, false, false, false, false, false, false, false, false, false, false, false, false, false, false] rfl rfl (any_of HT_.out (by kernel_rfl)) (fun _ _ _ h => h) (Or.inl ⟨by rfl, ?_⟩) ?_ ?_
                           rotate_left
                           ·intro w'
                            go_simp
                            with_reducible rfl
                           rotate_left
                           ·simp only [Act.put, List.setIfInBounds_toArray, List.set_cons_zero, List.set_cons_succ, i64_w, i32_w]
                            rfl
                           refine take_ (i := 49) (N := some 187) (v := ?_) (a' := ?_) #[true, true, true, true, true, true, true, true, true, true, true, true, true, true, true, true, true, true, true, true, true, true, true, true, true, true, true, true, true, true, true, true, true, true, true, true, true, true, true, true, true, true, true, true, true, true, true, true, true, true, true, true, true, false, false, false, false, false, false, false, false, false, false, false, false, false, false, false, false, false, false, false, false, false, false, false, false] rfl rfl (take_ofW HT_.out HW_.out (by kernel_rfl)) (fun _ _ _ h => h) (Or.inl ⟨by rfl, ?_⟩) hHeld ?_ ?_
                           rotate_left
                           ·rintro w' ⟨s0, s1, s2, s3, s4, s5, s6, s7⟩
                            go_simp
                            with_reducible rfl
                           rotate_left
                           ·simp only [Act.put, List.setIfInBounds_toArray, List.set_cons_zero, List.set_cons_succ, i64_w, i32_w]
                            rfl
                           refine pure_ (i := 53) (N := some 191) (v := ?_) (a' := ?_) #[true, true, true, true, true, true, true, true, true, true, true, true, true, true, true, true, true, true, true, true, true, true, true, true, true, true, true, true, true, true, true, true, true, true, true, true, true, true, true, true, true, true, true, true, true, true, true, true, true, true, true, true, true, true, false, false, false, false, false, false, false, false, false, false, false, false, false, false, false, false, false, false, false, false, false, false, false] rfl rfl (any_of HT_.out (by kernel_rfl)) (fun _ _ _ h => h) (Or.inl ⟨by rfl, ?_⟩) ?_ ?_
                           rotate_left
                           ·intro w'
                            go_simp
                            with_reducible rfl
                           rotate_left
                           ·simp only [Act.put, List.setIfInBounds_toArray, List.set_cons_zero, List.set_cons_succ, i64_w, i32_w]
                            rfl
                           refine pure_ (i := 54) (N := some 192) (v := ?_) (a' := ?_) #[true, true, true, true, true, true, true, true, true, true, true, true, true, true, true, true, true, true, true, true, true, true, true, true, true, true, true, true, true, true, true, true, true, true, true, true, true, true, true, true, true, true, true, true, true, true, true, true, true, true, true, true, true, true, true, false, false, false, false, false, false, false, false, false, false, false, false, false, false, false, false, false, false, false, false, false, false] rfl rfl (any_of HT_.out (by kernel_rfl)) (fun _ _ _ h => h) (Or.inl ⟨by rfl, ?_⟩) ?_ ?_
                           rotate_left
                           ·intro w'
                            go_simp
                            with_reducible rfl
                           rotate_left
                           ·simp only [Act.put, List.setIfInBounds_toArray, List.set_cons_zero, List.set_cons_succ, i64_w, i32_w]
                            rfl
                           refine pure_ (i := 55) (N := some 193) (v := ?_) (a' := ?_) #[true, true, true, true, true, true, true, true, true, true, true, true, true, true, true, true, true, true, true, true, true, true, true, true, true, true, true, true, true, true, true, true, true, true, true, true, true, true, true, true, true, true, true, true, true, true, true, true, true, true, true, true, true, true, true, true, false, false, false, false, false, false, false, false, false, false, false, false, false, false, false, false, false, false, false, false, false] rfl rfl (any_of HT_.out (by kernel_rfl)) (fun _ _ _ h => h) (Or.inl ⟨by rfl, ?_⟩) ?_ ?_
                           rotate_left
                           ·intro w'
                            go_simp
                            with_reducible rfl
                           rotate_left
                           ·simp only [Act.put, List.setIfInBounds_toArray, List.set_cons_zero, List.set_cons_succ, i64_w, i32_w]
                            rfl
                           refine pure_ (i := 56) (N := some 194) (v := ?_) (a' := ?_) #[true, true, true, true, true, true, true, true, true, true, true, true, true, true, true, true, true, true, true, true, true, true, true, true, true, true, true, true, true, true, true, true, true, true, true, true, true, true, true, true, true, true, true, true, true, true, true, true, true, true, true, true, true, true, true, true, true, false, false, false, false, false, false, false, false, false, false, false, false, false, false, false, false, false, false, false, false] rfl rfl (any_of HT_.out (by kernel_rfl)) (fun _ _ _ h => h) (Or.inl ⟨by rfl, ?_⟩) ?_ ?_
                           rotate_left
                           ·intro w'
                            go_simp
                            with_reducible rfl
                           rotate_left
                           ·simp only [Act.put, List.setIfInBounds_toArray, List.set_cons_zero, List.set_cons_succ, i64_w, i32_w]
                            rfl
                           refine pure_ (i := 57) (N := some 195) (v := ?_) (a' := ?_) #[true, true, true, true, true, true, true, true, true, true, true, true, true, true, true, true, true, true, true, true, true, true, true, true, true, true, true, true, true, true, true, true, true, true, true, true, true, true, true, true, true, true, true, true, true, true, true, true, true, true, true, true, true, true, true, true, true, true, false, false, false, false, false, false, false, false, false, false, false, false, false, false, false, false, false, false, false] rfl rfl (any_of HT_.out (by kernel_rfl)) (fun _ _ _ h => h) (Or.inl ⟨by rfl, ?_⟩) ?_ ?_
                           rotate_left
                           ·intro w'
                            go_simp
                            with_reducible rfl
                           rotate_left
                           ·simp only [Act.put, List.setIfInBounds_toArray, List.set_cons_zero, List.set_cons_succ, i64_w, i32_w]
                            rfl
                           refine pure_ (i := 59) (N := some 197) (v := ?_) (a' := ?_) #[true, true, true, true, true, true, true, true, true, true, true, true, true, true, true, true, true, true, true, true, true, true, true, true, true, true, true, true, true, true, true, true, true, true, true, true, true, true, true, true, true, true, true, true, true, true, true, true, true, true, true, true, true, true, true, true, true, true, false, true, false, false, false, false, false, false, false, false, false, false, false, false, false, false, false, false, false] rfl rfl (any_of HT_.out (by kernel_rfl)) (fun _ _ _ h => h) (Or.inl ⟨by rfl, ?_⟩) ?_ ?_
                           rotate_left
                           ·intro w'
                            go_simp
                            with_reducible rfl
                           rotate_left
                           ·simp only [Act.put, List.setIfInBounds_toArray, List.set_cons_zero, List.set_cons_succ, i64_w, i32_w]
                            rfl
                           refine pure_ (i := 60) (N := some 198) (v := ?_) (a' := ?_) #[true, true, true, true, true, true, true, true, true, true, true, true, true, true, true, true, true, true, true, true, true, true, true, true, true, true, true, true, true, true, true, true, true, true, true, true, true, true, true, true, true, true, true, true, true, true, true, true, true, true, true, true, true, true, true, true, true, true, false, true, true, false, false, false, false, false, false, false, false, false, false, false, false, false, false, false, false] rfl rfl (any_of HT_.out (by kernel_rfl)) (fun _ _ _ h => h) (Or.inl ⟨by rfl, ?_⟩) ?_ ?_
                           rotate_left
                           ·intro w'
                            go_simp
                            with_reducible rfl
                           rotate_left
                           ·simp only [Act.put, List.setIfInBounds_toArray, List.set_cons_zero, List.set_cons_succ, i64_w, i32_w]
                            rfl
                           refine pure_ (i := 61) (N := some 199) (v := ?_) (a' := ?_) #[true, true, true, true, true, true, true, true, true, true, true, true, true, true, true, true, true, true, true, true, true, true, true, true, true, true, true, true, true, true, true, true, true, true, true, true, true, true, true, true, true, true, true, true, true, true, true, true, true, true, true, true, true, true, true, true, true, true, false, true, true, true, false, false, false, false, false, false, false, false, false, false, false, false, false, false, false] rfl rfl (any_of HT_.out (by kernel_rfl)) (fun _ _ _ h => h) (Or.inl ⟨by rfl, ?_⟩) ?_ ?_
                           rotate_left
                           ·intro w'
                            go_simp
                            with_reducible rfl
                           rotate_left
                           ·simp only [Act.put, List.setIfInBounds_toArray, List.set_cons_zero, List.set_cons_succ, i64_w, i32_w]
                            rfl
                           refine pure_ (i := 62) (N := some 200) (v := ?_) (a' := ?_) #[true, true, true, true, true, true, true, true, true, true, true, true, true, true, true, true, true, true, true, true, true, true, true, true, true, true, true, true, true, true, true, true, true, true, true, true, true, true, true, true, true, true, true, true, true, true, true, true, true, true, true, true, true, true, true, true, true, true, false, true, true, true, true, false, false, false, false, false, false, false, false, false, false, false, false, false, false] rfl rfl (any_of HT_.out (by kernel_rfl)) (fun _ _ _ h => h) (Or.inl ⟨by rfl, ?_⟩) ?_ ?_
                           rotate_left
                           ·intro w'
                            go_simp
                            with_reducible rfl
                           rotate_left
                           ·simp only [Act.put, List.setIfInBounds_toArray, List.set_cons_zero, List.set_cons_succ, i64_w, i32_w]
                            rfl
                           refine pure_ (i := 63) (N := some 201) (v := ?_) (a' := ?_) #[true, true, true, true, true, true, true, true, true, true, true, true, true, true, true, true, true, true, true, true, true, true, true, true, true, true, true, true, true, true, true, true, true, true, true, true, true, true, true, true, true, true, true, true, true, true, true, true, true, true, true, true, true, true, true, true, true, true, false, true, true, true, true, true, false, false, false, false, false, false, false, false, false, false, false, false, false] rfl rfl (any_of HT_.out (by kernel_rfl)) (fun _ _ _ h => h) (Or.inl ⟨by rfl, ?_⟩) ?_ ?_
                           rotate_left
                           ·intro w'
                            go_simp
                            with_reducible rfl
                           rotate_left
                           ·simp only [Act.put, List.setIfInBounds_toArray, List.set_cons_zero, List.set_cons_succ, i64_w, i32_w]
                            rfl
                           refine pure_ (i := 64) (N := some 202) (v := ?_) (a' := ?_) #[true, true, true, true, true, true, true, true, true, true, true, true, true, true, true, true, true, true, true, true, true, true, true, true, true, true, true, true, true, true, true, true, true, true, true, true, true, true, true, true, true, true, true, true, true, true, true, true, true, true, true, true, true, true, true, true, true, true, false, true, true, true, true, true, true, false, false, false, false, false, false, false, false, false, false, false, false] rfl rfl (any_of HT_.out (by kernel_rfl)) (fun _ _ _ h => h) (Or.inl ⟨by rfl, ?_⟩) ?_ ?_
                           rotate_left
                           ·intro w'
                            go_simp
                            with_reducible rfl
                           rotate_left
                           ·simp only [Act.put, List.setIfInBounds_toArray, List.set_cons_zero, List.set_cons_succ, i64_w, i32_w]
                            rfl
                           refine pure_ (i := 65) (N := some 203) (v := ?_) (a' := ?_) #[true, true, true, true, true, true, true, true, true, true, true, true, true, true, true, true, true, true, true, true, true, true, true, true, true, true, true, true, true, true, true, true, true, true, true, true, true, true, true, true, true, true, true, true, true, true, true, true, true, true, true, true, true, true, true, true, true, true, false, true, true, true, true, true, true, true, false, false, false, false, false, false, false, false, false, false, false] rfl rfl (any_of HT_.out (by kernel_rfl)) (fun _ _ _ h => h) (Or.inl ⟨by rfl, ?_⟩) ?_ ?_
                           rotate_left
                           ·intro w'
                            go_simp
                            with_reducible rfl
                           rotate_left
                           ·simp only [Act.put, List.setIfInBounds_toArray, List.set_cons_zero, List.set_cons_succ, i64_w, i32_w]
                            rfl
                           refine take_ (i := 58) (N := some 196) (v := ?_) (a' := ?_) #[true, true, true, true, true, true, true, true, true, true, true, true, true, true, true, true, true, true, true, true, true, true, true, true, true, true, true, true, true, true, true, true, true, true, true, true, true, true, true, true, true, true, true, true, true, true, true, true, true, true, true, true, true, true, true, true, true, true, true, true, true, true, true, true, true, true, false, false, false, false, false, false, false, false, false, false, false] rfl rfl (take_ofW HT_.out HW_.out (by kernel_rfl)) (fun _ _ _ h => h) (Or.inl ⟨by rfl, ?_⟩) hHeld ?_ ?_
                           rotate_left
                           ·rintro w' ⟨s0, s1, s2, s3, s4, s5, s6, s7⟩
                            go_simp
                            with_reducible rfl
                           rotate_left
                           ·simp only [Act.put, List.setIfInBounds_toArray, List.set_cons_zero, List.set_cons_succ, i64_w, i32_w]
                            rfl
                           refine pure_ (i := 66) (N := some 204) (v := ?_) (a' := ?_) #[true, true, true, true, true, true, true, true, true, true, true, true, true, true, true, true, true, true, true, true, true, true, true, true, true, true, true, true, true, true, true, true, true, true, true, true, true, true, true, true, true, true, true, true, true, true, true, true, true, true, true, true, true, true, true, true, true, true, true, true, true, true, true, true, true, true, true, false, false, false, false, false, false, false, false, false, false] rfl rfl (any_of HT_.out (by kernel_rfl)) (fun _ _ _ h => h) (Or.inl ⟨by rfl, ?_⟩) ?_ ?_
                           rotate_left
                           ·intro w'
                            go_simp
                            with_reducible rfl
                           rotate_left
                           ·simp only [Act.put, List.setIfInBounds_toArray, List.set_cons_zero, List.set_cons_succ, i64_w, i32_w]
                            rfl
                           refine pure_ (i := 67) (N := some 205) (v := ?_) (a' := ?_) #[true, true, true, true, true, true, true, true, true, true, true, true, true, true, true, true, true, true, true, true, true, true, true, true, true, true, true, true, true, true, true, true, true, true, true, true, true, true, true, true, true, true, true, true, true, true, true, true, true, true, true, true, true, true, true, true, true, true, true, true, true, true, true, true, true, true, true, true, false, false, false, false, false, false, false, false, false] rfl rfl (any_of HT_.out (by kernel_rfl)) (fun _ _ _ h => h) (Or.inl ⟨by rfl, ?_⟩) ?_ ?_
                           rotate_left
                           ·intro w'
                            go_simp
                            with_reducible rfl
                           rotate_left
                           ·simp only [Act.put, List.setIfInBounds_toArray, List.set_cons_zero, List.set_cons_succ, i64_w, i32_w]
                            rfl
                           refine pure_ (i := 68) (N := some 206) (v := ?_) (a' := ?_) #[true, true, true, true, true, true, true, true, true, true, true, true, true, true, true, true, true, true, true, true, true, true, true, true, true, true, true, true, true, true, true, true, true, true, true, true, true, true, true, true, true, true, true, true, true, true, true, true, true, true, true, true, true, true, true, true, true, true, true, true, true, true, true, true, true, true, true, true, true, false, false, false, false, false, false, false, false] rfl rfl (any_of HT_.out (by kernel_rfl)) (fun _ _ _ h => h) (Or.inl ⟨by rfl, ?_⟩) ?_ ?_
                           rotate_left
                           ·intro w'
                            go_simp
                            with_reducible rfl
                           rotate_left
                           ·simp only [Act.put, List.setIfInBounds_toArray, List.set_cons_zero, List.set_cons_succ, i64_w, i32_w]
                            rfl
                           refine pure_ (i := 69) (N := some 207) (v := ?_) (a' := ?_) #[true, true, true, true, true, true, true, true, true, true, true, true, true, true, true, true, true, true, true, true, true, true, true, true, true, true, true, true, true, true, true, true, true, true, true, true, true, true, true, true, true, true, true, true, true, true, true, true, true, true, true, true, true, true, true, true, true, true, true, true, true, true, true, true, true, true, true, true, true, true, false, false, false, false, false, false, false] rfl rfl (any_of HT_.out (by kernel_rfl)) (fun _ _ _ h => h) (Or.inl ⟨by rfl, ?_⟩) ?_ ?_
                           rotate_left
                           ·intro w'
                            go_simp
                            with_reducible rfl
                           rotate_left
                           ·simp only [Act.put, List.setIfInBounds_toArray, List.set_cons_zero, List.set_cons_succ, i64_w, i32_w]
                            rfl
                           refine pure_ (i := 71) (N := some 209) (v := ?_) (a' := ?_) #[true, true, true, true, true, true, true, true, true, true, true, true, true, true, true, true, true, true, true, true, true, true, true, true, true, true, true, true, true, true, true, true, true, true, true, true, true, true, true, true, true, true, true, true, true, true, true, true, true, true, true, true, true, true, true, true, true, true, true, true, true, true, true, true, true, true, true, true, true, true, false, true, false, false, false, false, false] rfl rfl (any_of HT_.out (by kernel_rfl)) (fun _ _ _ h => h) (Or.inl ⟨by rfl, ?_⟩) ?_ ?_
                           rotate_left
                           ·intro w'
                            go_simp
                            with_reducible rfl
                           rotate_left
                           ·simp only [Act.put, List.setIfInBounds_toArray, List.set_cons_zero, List.set_cons_succ, i64_w, i32_w]
                            rfl
                           refine pure_ (i := 72) (N := some 210) (v := ?_) (a' := ?_) #[true, true, true, true, true, true, true, true, true, true, true, true, true, true, true, true, true, true, true, true, true, true, true, true, true, true, true, true, true, true, true, true, true, true, true, true, true, true, true, true, true, true, true, true, true, true, true, true, true, true, true, true, true, true, true, true, true, true, true, true, true, true, true, true, true, true, true, true, true, true, false, true, true, false, false, false, false] rfl rfl (any_of HT_.out (by kernel_rfl)) (fun _ _ _ h => h) (Or.inl ⟨by rfl, ?_⟩) ?_ ?_
                           rotate_left
                           ·intro w'
                            go_simp
                            with_reducible rfl
                           rotate_left
                           ·simp only [Act.put, List.setIfInBounds_toArray, List.set_cons_zero, List.set_cons_succ, i64_w, i32_w]
                            rfl
                           refine pure_ (i := 73) (N := some 211) (v := ?_) (a' := ?_) #[true, true, true, true, true, true, true, true, true, true, true, true, true, true, true, true, true, true, true, true, true, true, true, true, true, true, true, true, true, true, true, true, true, true, true, true, true, true, true, true, true, true, true, true, true, true, true, true, true, true, true, true, true, true, true, true, true, true, true, true, true, true, true, true, true, true, true, true, true, true, false, true, true, true, false, false, false] rfl rfl (any_of HT_.out (by kernel_rfl)) (fun _ _ _ h => h) (Or.inl ⟨by rfl, ?_⟩) ?_ ?_
                           rotate_left
                           ·intro w'
                            go_simp
                            with_reducible rfl
                           rotate_left
                           ·simp only [Act.put, List.setIfInBounds_toArray, List.set_cons_zero, List.set_cons_succ, i64_w, i32_w]
                            rfl
                           refine one_ (i := 70) (N := some 208) #[true, true, true, true, true, true, true, true, true, true, true, true, true, true, true, true, true, true, true, true, true, true, true, true, true, true, true, true, true, true, true, true, true, true, true, true, true, true, true, true, true, true, true, true, true, true, true, true, true, true, true, true, true, true, true, true, true, true, true, true, true, true, true, true, true, true, true, true, true, true, true, true, true, true, false, false, false] rfl rfl (one_of HT_.out (by kernel_rfl)) (by decide) (fun K hK => ?_)
                           refine goes_ Try.func19 (by kernel_rfl) rfl #[.slice (some ad150) t113.length co99] (by rfl) rfl rfl tc0_ ?_
                           with_reducible refine (laws_uSum.calls kj56 _ _ t113 t158 _ ?side1 ?side2 A92.out).mono ?_
                           (case side1 => repeat (first | exact (Kd.R_reads' HO_10.out).2.2 | (with_reducible refine Kd.C_alloc ?_ _) | (with_reducible refine Kd.C_drewN ?_ _) | (with_reducible refine Kd.C_drew ?_)))
                           (case side2 => exact (Kd.R_reads' HO_10.out).2.1)
                           rintro e w' ⟨rfl, ⟨nd, rfl⟩⟩
                           refine ⟨_, rfl, ?_⟩
                           refine hK.out _ _ ⟨hHeld.1, hHeld.2.1, hHeld.2.2.1, hHeld.2.2.2.1, hHeld.2.2.2.2.1, hHeld.2.2.2.2.2.1, hHeld.2.2.2.2.2.2.1, hHeld.2.2.2.2.2.2.2⟩ (fun hHeld => ?_)
                           clear hK K
                           refine norm_ (a' := ?_) ?_ ?_
                           rotate_left
                           ·show Act.put _ (some 208) _ = _
                            simp only [Act.put, List.setIfInBounds_toArray, List.set_cons_zero, List.set_cons_succ, i64_w, i32_w]
                            rfl
                           refine pure_ (i := 74) (N := some 212) (v := ?_) (a' := ?_) #[true, true, true, true, true, true, true, true, true, true, true, true, true, true, true, true, true, true, true, true, true, true, true, true, true, true, true, true, true, true, true, true, true, true, true, true, true, true, true, true, true, true, true, true, true, true, true, true, true, true, true, true, true, true, true, true, true, true, true, true, true, true, true, true, true, true, true, true, true, true, true, true, true, true, true, false, false] rfl rfl (any_of HT_.out (by kernel_rfl)) (fun _ _ _ h => h) (Or.inl ⟨by rfl, ?_⟩) ?_ ?_
                           rotate_left
                           ·intro w'
                            go_simp
                            with_reducible rfl
                           rotate_left
                           ·simp only [Act.put, List.setIfInBounds_toArray, List.set_cons_zero, List.set_cons_succ, i64_w, i32_w]
                            rfl
                           refine pure_ (i := 75) (N := some 213) (v := ?_) (a' := ?_) #[true, true, true, true, true, true, true, true, true, true, true, true, true, true, true, true, true, true, true, true, true, true, true, true, true, true, true, true, true, true, true, true, true, true, true, true, true, true, true, true, true, true, true, true, true, true, true, true, true, true, true, true, true, true, true, true, true, true, true, true, true, true, true, true, true, true, true, true, true, true, true, true, true, true, true, true, false] rfl rfl (any_of HT_.out (by kernel_rfl)) (fun _ _ _ h => h) (Or.inl ⟨by rfl, ?_⟩) ?_ ?_
                           rotate_left
                           ·intro w'
                            go_simp
                            with_reducible rfl
                           rotate_left
                           ·simp only [Act.put, List.setIfInBounds_toArray, List.set_cons_zero, List.set_cons_succ, i64_w, i32_w]
                            rfl
                           refine pure_ (i := 76) (N := some 4) (v := ?_) (a' := ?_) #[true, true, true, true, true, true, true, true, true, true, true, true, true, true, true, true, true, true, true, true, true, true, true, true, true, true, true, true, true, true, true, true, true, true, true, true, true, true, true, true, true, true, true, true, true, true, true, true, true, true, true, true, true, true, true, true, true, true, true, true, true, true, true, true, true, true, true, true, true, true, true, true, true, true, true, true, true] rfl rfl (any_of HT_.out (by kernel_rfl)) (fun _ _ _ h => h) (Or.inl ⟨by rfl, ?_⟩) ?_ ?_
                           rotate_left
                           ·intro w'
                            go_simp
                            with_reducible rfl
                           rotate_left
                           ·simp only [Act.put, List.setIfInBounds_toArray, List.set_cons_zero, List.set_cons_succ, i64_w, i32_w]
                            rfl
                           refine done_ (done_of HT_.out (by kernel_rfl)) ?_
                           try go_wp2
                           go_ret
                           exact ⟨by first | rfl | (simp [errW_none, errW_some] <;> rfl) | (simp [*, errW_none, errW_some] <;> rfl), by repeat (first | (with_reducible first | exact HB.out | apply below_alloc | apply pw_below_drewN | apply below_drew1) | exact HB.out)⟩
                          ·rw [if_neg c91] at H
                           exact absurd (H.trans (congrArg some HR_.out)) (by simp)
                         ·rw [if_neg c90] at H
                          exact absurd (H.trans (congrArg some HR_.out)) (by simp)
                        ·rw [if_neg c89] at H
                         exact absurd H (by simp)
                       ·rw [if_neg c88] at H
                        exact absurd (H.trans (congrArg some HR_.out)) (by simp)
                      ·rw [if_neg c87] at H
                       exact absurd H (by simp)
                     ·rw [if_neg c86] at H
                      exact absurd (H.trans (congrArg some HR_.out)) (by simp)
                    ·rw [if_neg c85] at H
                     exact absurd (H.trans (congrArg some HR_.out)) (by simp)
                   ·rw [if_neg c84] at H
                    exact absurd H (by simp)
                  ·rw [if_neg c83] at H
                   exact absurd H (by simp)
                 ·rw [if_neg c82] at H
                  exact absurd (H.trans (congrArg some HR_.out)) (by simp)
                ·rw [if_neg c81] at H
                 exact absurd H (by simp)
               ·rw [if_neg c80] at H
                exact absurd H (by simp)
              ·replace c79 := Bool.eq_false_iff.mpr c79
               subst c79
               exact absurd ((show (some false : Option Bool) = some r from tc42_).trans (congrArg some HR_.out)) (by simp)
             ·replace c77 := Bool.eq_false_iff.mpr c77
              subst c77
              exact absurd ((show (some false : Option Bool) = some r from tc42_).trans (congrArg some HR_.out)) (by simp)
            ·replace c76 := Bool.eq_false_iff.mpr c76
             subst c76
             exact absurd ((show (some false : Option Bool) = some r from tc42_).trans (congrArg some HR_.out)) (by simp)
           ·replace c75 := Bool.eq_false_iff.mpr c75
            subst c75
            exact absurd ((show (some false : Option Bool) = some r from tc42_).trans (congrArg some HR_.out)) (by simp)
          ·replace c71 := Bool.eq_false_iff.mpr c71
           subst c71
           have H1 : (some true) = some r := by rw [if_neg (show ¬ (false = true) by decide)] at H; exact H
           clear H
           have H := H1
           clear H1
           obtain rfl := Option.some.inj H
           go_wp2
           go_ret
           exact ⟨by first | rfl | (simp [errW_none, errW_some] <;> rfl) | (simp [*, errW_none, errW_some] <;> rfl), by repeat (first | (with_reducible first | exact HB.out | apply below_alloc | apply pw_below_drewN | apply below_drew1) | exact HB.out)⟩

/-- THE ONE PURE STATEMENT of laws_FnKindsOfPlaces: yours. -/

def laws_FnKindsOfPlaces.Pure : Prop := ∀ (l0 : List Int) (l1 : List Int), l0.length ≤ maxLen → l0.length * 1 ≤ 140737488351232 → (∀ x ∈ l0, (Lit.int .u8 x).wf = true) → l1.length ≤ maxLen → l1.length * 1 ≤ 140737488351232 → (∀ x ∈ l1, (Lit.int .u8 x).wf = true) → ∃ k, laws_FnKindsOfPlaces.f k l0 l1 = some true
theorem laws_FnKindsOfPlaces.walk (P : laws_FnKindsOfPlaces.Pure) (a0 : Option Addr) (len0 cap0 : Nat) (z0 : List Int) (a1 : Option Addr) (len1 cap1 : Nat) (z1 : List Int) (w : World) (w0 : (a0 = none ∧ len0 = 0 ∧ cap0 = 0 ∧ z0 = []) ∨ ∃ x, a0 = some x ∧ len0 ≤ cap0 ∧ cap0 ≤ maxLen ∧ z0.length = cap0 ∧ (∀ i, i < z0.length → w.cell? (x.add i) = some (.int .u8 (z0.getD i 0))) ∧ ∀ n ∈ z0, (Lit.int .u8 n).wf = true) (y0 : len0 * 1 ≤ 140737488351232) (w1 : (a1 = none ∧ len1 = 0 ∧ cap1 = 0 ∧ z1 = []) ∨ ∃ x, a1 = some x ∧ len1 ≤ cap1 ∧ cap1 ≤ maxLen ∧ z1.length = cap1 ∧ (∀ i, i < z1.length → w.cell? (x.add i) = some (.int .u8 (z1.getD i 0))) ∧ ∀ n ∈ z1, (Lit.int .u8 n).wf = true) (y1 : len1 * 1 ≤ 140737488351232) :
  Calls Try.prog 3 #[.slice a0 len0 cap0, .slice a1 len1 cap1] w fun e w' => e = .returned (.bool true) ∧ Below w.heap.size w w' := by
 obtain ⟨l0, rfl, hr0, hm0, hw0, hc0⟩ := ReadsInt.ofRowC w0
 obtain ⟨l1, rfl, hr1, hm1, hw1, hc1⟩ := ReadsInt.ofRowC w1
 obtain ⟨k, h⟩ := P l0 l1 hm0 y0 hw0 hm1 y1 hw1
 refine (laws_FnKindsOfPlaces.calls k _ _ l0 _ _ l1 true w rfl (Kd.C_of_reads (d := (0 : Int)) (h1 := fun _ => rfl) hr0) hc0 (Kd.C_of_reads (d := (0 : Int)) (h1 := fun _ => rfl) hr1) hc1 h).mono ?_
 rintro e w' ⟨rfl, hd⟩
 exact ⟨rfl, hd⟩

end Go.Proofs.Ytkfoockclldieaa.X
