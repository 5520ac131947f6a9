-- Written by a program of this session (wip/xprint.py) that drives the kit's print; the contracts of what it does not take are this session's own.
import Derived.Test.YtkbehdgneojdbaaCFnSymmetricCountedx0
import Derived.Test.YtkbehdgneojdbaaCFnSymmetricCountedx1
import Derived.Test.YtkbehdgneojdbaaCFnSymmetricCountedx2
import Derived.Test.YtkbehdgneojdbaaCFnSymmetricCountedx3
import Derived.Test.YtkbehdgneojdbaaCFnSymmetricCountedx4
import Derived.Test.YtkbehdgneojdbaaCFnSymmetricCountedx5
namespace Go.Proofs.Ytkbehdgneojdbaa.X
open Go.RowKit Go.Proofs.YtkbehdgneojdbaaW.PrintWords Go.Proofs.YtkbehdgneojdbaaW.PrintLast Go.Proofs.YtkbehdgneojdbaaW.PrintMore
attribute [local go_sem] max2_int min2_int max_two min_two max_three min_three max_four min_four   -- for this text's walks alone
set_option linter.unusedVariables false
set_option linter.unusedSimpArgs false

/-! ### laws_FnSymmetricCounted: function 6 -/
mutual
def laws_FnSymmetricCounted.j0 : Nat → List Int → Int → Int → List (List (List Int)) → Bool → List (List (List Int)) → Bool → Option (Bool)
 | 0, _, _, _, _, _, _, _ => none
 | k + 1, x1, x5, x6, x7, x8, x9, x73 => if x73 = true then (some false) else (laws_FnSymmetricCounted.l0 k x1 x5 x6 x7 x8 x9 x7 (x7.length : Int) 0)
def laws_FnSymmetricCounted.l0 : Nat → List Int → Int → Int → List (List (List Int)) → Bool → List (List (List Int)) → List (List (List Int)) → Int → Int → Option (Bool)
 | 0, _, _, _, _, _, _, _, _, _ => none
 | k + 1, x1, x5, x6, x7, x8, x9, x74, x75, x76 => if x76 < x75 then (if 0 ≤ x76 then (if x76 < (x74.length : Int) then ((impl_HasSymmetry.f k (rd_L4 x74 x76) x6).bind fun bt113 => (if x76 < (x9.length : Int) then ((laws_uSameRows.f k (rd_L4 x74 x76) (rd_L4 x9 x76)).bind fun t116 => (if t116 = true then (if bt113.2 = true then (if bt113.1 = true then (if x76 > 0 then (if 0 ≤ (wrap64 (x76 - 1)) then (if (wrap64 (x76 - 1)) < (x7.length : Int) then ((laws_uBefore.f k (rd_L4 x7 (wrap64 (x76 - 1))) (rd_L4 x74 x76)).bind fun t118 => (if t118 = true then (laws_FnSymmetricCounted.l0 k x1 x5 x6 x7 x8 x9 x74 x75 (wrap64 (x76 + 1))) else (some false))) else (none)) else (none)) else (laws_FnSymmetricCounted.l0 k x1 x5 x6 x7 x8 x9 x74 x75 (wrap64 (x76 + 1)))) else (some false)) else (some false)) else (some false))) else (none))) else (none)) else (none)) else (if x8 = true then ((impl_CountSymmetric.f k x5 x6).bind fun bt119 => (if bt119.2 = true then (if bt119.1 = (x7.length : Int) then (laws_FnSymmetricCounted.j2 k x1) else (some false)) else (some false))) else (laws_FnSymmetricCounted.j2 k x1))
def laws_FnSymmetricCounted.j2 : Nat → List Int → Option (Bool)
 | 0, _ => none
 | k + 1, x1 => (spec_DrawHalfTurnFormula.f x1).bind fun t121 => ((impl_HalfTurnFormula.f k t121).bind fun bt122 => ((spec_HalfTurnFormula.f k t121).bind fun bt124 => ((spec_DrawMirrorFormula.f x1).bind fun t126 => ((impl_MirrorFormula.f k t126).bind fun bt127 => ((spec_MirrorFormula.f k t126).bind fun bt129 => (if (bt122.2 != bt124.2) = true then (laws_FnSymmetricCounted.j3 k x1 t121 bt122.1 bt122.2 t126 bt127.1 bt127.2 true) else (if bt122.1 = bt124.1 then (if (bt127.2 != bt129.2) = true then (laws_FnSymmetricCounted.j3 k x1 t121 bt122.1 bt122.2 t126 bt127.1 bt127.2 true) else (laws_FnSymmetricCounted.j3 k x1 t121 bt122.1 bt122.2 t126 bt127.1 bt127.2 (bt127.1 != bt129.1))) else (laws_FnSymmetricCounted.j3 k x1 t121 bt122.1 bt122.2 t126 bt127.1 bt127.2 true))))))))
def laws_FnSymmetricCounted.j3 : Nat → List Int → Int → Int → Bool → Int → Int → Bool → Bool → Option (Bool)
 | 0, _, _, _, _, _, _, _, _ => none
 | k + 1, x1, x17, x18, x19, x22, x23, x24, x173 => if x173 = true then (some false) else (if x19 = true then (laws_FnSymmetricCounted.j4 k x1 x17 x18 x22 x23 x24 (decide (x17 ≤ 2))) else (laws_FnSymmetricCounted.j4 k x1 x17 x18 x22 x23 x24 false))
def laws_FnSymmetricCounted.j4 : Nat → List Int → Int → Int → Int → Int → Bool → Bool → Option (Bool)
 | 0, _, _, _, _, _, _, _ => none
 | k + 1, x1, x17, x18, x22, x23, x24, x178 => if x178 = true then ((impl_CountSymmetric.f k (wrap64 (2 * x17)) 0).bind fun bt131 => (if bt131.2 = true then (if bt131.1 = x18 then (laws_FnSymmetricCounted.j5 k x1 x22 x23 x24) else (some false)) else (some false))) else (laws_FnSymmetricCounted.j5 k x1 x22 x23 x24)
def laws_FnSymmetricCounted.j5 : Nat → List Int → Int → Int → Bool → Option (Bool)
 | 0, _, _, _, _ => none
 | k + 1, x1, x22, x23, x24 => if x24 = true then (laws_FnSymmetricCounted.j6 k x1 x22 x23 (decide (x22 ≤ 2))) else (laws_FnSymmetricCounted.j6 k x1 x22 x23 false)
def laws_FnSymmetricCounted.j6 : Nat → List Int → Int → Int → Bool → Option (Bool)
 | 0, _, _, _, _ => none
 | k + 1, x1, x22, x23, x196 => if x196 = true then ((impl_CountSymmetric.f k (wrap64 ((wrap64 (2 * x22)) + 1)) 2).bind fun bt133 => (if bt133.2 = true then (if bt133.1 = x23 then (laws_FnSymmetricCounted.j7 k x1) else (some false)) else (some false))) else (laws_FnSymmetricCounted.j7 k x1)
def laws_FnSymmetricCounted.j7 : Nat → List Int → Option (Bool)
 | 0, _ => none
 | k + 1, x1 => (spec_DrawCountUpToAll.f x1).bind fun t135 => ((impl_CountUpToAll.f k t135).bind fun bt136 => ((spec_CountUpToAll.f k t135).bind fun bt138 => ((spec_DrawCountSymmetric.f x1).bind fun bt140 => ((impl_CountSymmetric.f k bt140.1 bt140.2).bind fun bt142 => ((spec_CountSymmetric.f k bt140.1 bt140.2).bind fun bt144 => (if (bt136.2 != bt138.2) = true then (laws_FnSymmetricCounted.j8 k t135 bt136.1 bt136.2 true) else (if bt136.1 = bt138.1 then (if (bt142.2 != bt144.2) = true then (laws_FnSymmetricCounted.j8 k t135 bt136.1 bt136.2 true) else (laws_FnSymmetricCounted.j8 k t135 bt136.1 bt136.2 (bt142.1 != bt144.1))) else (laws_FnSymmetricCounted.j8 k t135 bt136.1 bt136.2 true))))))))
def laws_FnSymmetricCounted.j8 : Nat → Int → Int → Bool → Bool → Option (Bool)
 | 0, _, _, _, _ => none
 | k + 1, x31, x32, x33, x257 => if x257 = true then (some false) else (if x33 = true then ((impl_CountSigns.f k x31).bind fun bt146 => (if bt146.2 = true then (if (wrap64 (8 * x32)) ≥ bt146.1 then (some (decide (x32 ≤ bt146.1))) else (some false)) else (some false))) else (some true))
end
def laws_FnSymmetricCounted.f (k : Nat) (l0 : List Int) (l1 : List Int) : Option (Bool) := (laws_big.f l0 l1).bind fun t101 => (if t101 = true then (some true) else ((spec_DrawListSymmetric.f l0).bind fun bt102 => ((impl_ListSymmetric.f k bt102.1 bt102.2).bind fun bt104 => ((spec_ListSymmetric.f k bt102.1 bt102.2).bind fun bt108 => (if (bt104.2 != bt108.2) = true then (laws_FnSymmetricCounted.j0 k l1 bt102.1 bt102.2 bt104.1 bt104.2 bt108.1 true) else (laws_FnSymmetricCounted.j0 k l1 bt102.1 bt102.2 bt104.1 bt104.2 bt108.1 ((bt104.1.length : Int) != (bt108.1.length : Int))))))))
theorem laws_FnSymmetricCounted.j0_dead (k : Nat) (a0 : List Int) (a1 : Int) (a2 : Int) (a3 : List (List (List Int))) (a4 : Bool) (a5 : List (List (List Int))) (h : laws_FnSymmetricCounted.j0 k a0 a1 a2 a3 a4 a5 true = some true) : False := by cases k <;> simp [laws_FnSymmetricCounted.j0] at h
theorem laws_FnSymmetricCounted.j3_dead (k : Nat) (a0 : List Int) (a1 : Int) (a2 : Int) (a3 : Bool) (a4 : Int) (a5 : Int) (a6 : Bool) (h : laws_FnSymmetricCounted.j3 k a0 a1 a2 a3 a4 a5 a6 true = some true) : False := by cases k <;> simp [laws_FnSymmetricCounted.j3] at h
theorem laws_FnSymmetricCounted.j8_dead (k : Nat) (a0 : Int) (a1 : Int) (a2 : Bool) (h : laws_FnSymmetricCounted.j8 k a0 a1 a2 true = some true) : False := by cases k <;> simp [laws_FnSymmetricCounted.j8] at h
set_option maxHeartbeats 8000000 in
set_option maxRecDepth 100000 in
theorem laws_FnSymmetricCounted.calls (k : Nat) (A0 : Option Addr) (c0 : Nat) (l0 : List Int) (A1 : Option Addr) (c1 : Nat) (l1 : List Int) (r : Bool) (w : World) (hr_ : r = true) (hr0 : Kd.C (Kd.int .u8) w A0 l0.length l0) (hc0 : l0.length ≤ c0) (hr1 : Kd.C (Kd.int .u8) w A1 l1.length l1) (hc1 : l1.length ≤ c1) (h : laws_FnSymmetricCounted.f k l0 l1 = some r) :
  Calls Try.prog 6 #[.slice A0 l0.length c0, .slice A1 l1.length c1] w fun e w' => e = .returned (.bool r) ∧ Below w.heap.size w w' := by
 have HR_ := am_ hr_
 clear hr_
 have HR0 := am_ hr0
 have HC0 := am_ hc0
 clear hr0 hc0
 have HR1 := am_ hr1
 have HC1 := am_ hc1
 clear hr1 hc1
 have HB := am_ (Below.refl w.heap.size w)
 have H : ((laws_big.f l0 l1).bind fun t101 => (if t101 = true then (some true) else ((spec_DrawListSymmetric.f l0).bind fun bt102 => ((impl_ListSymmetric.f k bt102.1 bt102.2).bind fun bt104 => ((spec_ListSymmetric.f k bt102.1 bt102.2).bind fun bt108 => (if (bt104.2 != bt108.2) = true then (laws_FnSymmetricCounted.j0 k l1 bt102.1 bt102.2 bt104.1 bt104.2 bt108.1 true) else (laws_FnSymmetricCounted.j0 k l1 bt102.1 bt102.2 bt104.1 bt104.2 bt108.1 ((bt104.1.length : Int) != (bt108.1.length : Int))))))))) = some r := h
 clear h
 replace H := Option.bind_eq_some_iff.mp H
 obtain ⟨t101, A30, H⟩ := H
 replace H : (if t101 = true then (some true) else ((spec_DrawListSymmetric.f l0).bind fun bt102 => ((impl_ListSymmetric.f k bt102.1 bt102.2).bind fun bt104 => ((spec_ListSymmetric.f k bt102.1 bt102.2).bind fun bt108 => (if (bt104.2 != bt108.2) = true then (laws_FnSymmetricCounted.j0 k l1 bt102.1 bt102.2 bt104.1 bt104.2 bt108.1 true) else (laws_FnSymmetricCounted.j0 k l1 bt102.1 bt102.2 bt104.1 bt104.2 bt108.1 ((bt104.1.length : Int) != (bt108.1.length : Int)))))))) = some r := H
 have A3 := am_ A30
 clear A30
 by_cases c4 : t101 = true
 ·subst c4
  have H1 : (some true) = some r := by rw [if_pos rfl] at H; exact H
  clear H
  have H := H1
  clear H1
  obtain rfl := Option.some.inj H
  go_enter Try.func6, Try.ntmps6
  go_wp2_with (first | ((with_reducible refine gate_callee (f := 7) rfl ?_); refine goesL_ (some 46) rfl rfl Try.func7 (by kernel_rfl) rfl #[.slice A0 l0.length c0, .slice A1 l1.length c1] rfl tc1_ ?_; (with_reducible refine (laws_big.calls _ _ l0 _ _ l1 true _ ?side1 ?side2 ?side3 ?side4 A3.out).mono ?_); (case side1 => exact tc23_); (case side2 => exact HC0.out); (case side3 => exact tc53_); (case side4 => exact HC1.out); rintro e w' ⟨rfl, ⟨nd, rfl⟩⟩; refine ⟨_, rfl, ?_⟩))
  go_ret
  exact ⟨by first | rfl | (simp [errW_none, errW_some] <;> rfl) | (simp [*, errW_none, errW_some] <;> rfl), by repeat (first | (with_reducible first | exact HB.out | apply below_alloc | apply pw_below_drewN | apply below_drew1) | exact HB.out)⟩
 ·replace c4 := Bool.eq_false_iff.mpr c4
  subst c4
  have H1 : ((spec_DrawListSymmetric.f l0).bind fun bt102 => ((impl_ListSymmetric.f k bt102.1 bt102.2).bind fun bt104 => ((spec_ListSymmetric.f k bt102.1 bt102.2).bind fun bt108 => (if (bt104.2 != bt108.2) = true then (laws_FnSymmetricCounted.j0 k l1 bt102.1 bt102.2 bt104.1 bt104.2 bt108.1 true) else (laws_FnSymmetricCounted.j0 k l1 bt102.1 bt102.2 bt104.1 bt104.2 bt108.1 ((bt104.1.length : Int) != (bt108.1.length : Int))))))) = some r := by rw [if_neg (show ¬ (false = true) by decide)] at H; exact H
  clear H
  have H := H1
  clear H1
  replace H := Option.bind_eq_some_iff.mp H
  obtain ⟨⟨t102, t103⟩, A50, H⟩ := H
  replace H : ((impl_ListSymmetric.f k t102 t103).bind fun bt104 => ((spec_ListSymmetric.f k t102 t103).bind fun bt108 => (if (bt104.2 != bt108.2) = true then (laws_FnSymmetricCounted.j0 k l1 t102 t103 bt104.1 bt104.2 bt108.1 true) else (laws_FnSymmetricCounted.j0 k l1 t102 t103 bt104.1 bt104.2 bt108.1 ((bt104.1.length : Int) != (bt108.1.length : Int)))))) = some r := H
  have A5 := am_ A50
  clear A50
  replace H := Option.bind_eq_some_iff.mp H
  obtain ⟨⟨t104, t105⟩, A60, H⟩ := H
  replace H : ((spec_ListSymmetric.f k t102 t103).bind fun bt108 => (if (t105 != bt108.2) = true then (laws_FnSymmetricCounted.j0 k l1 t102 t103 t104 t105 bt108.1 true) else (laws_FnSymmetricCounted.j0 k l1 t102 t103 t104 t105 bt108.1 ((t104.length : Int) != (bt108.1.length : Int))))) = some r := H
  have A6 := am_ A60
  clear A60
  replace H := Option.bind_eq_some_iff.mp H
  obtain ⟨⟨t108, t111⟩, A70, H⟩ := H
  replace H : (if (t105 != t111) = true then (laws_FnSymmetricCounted.j0 k l1 t102 t103 t104 t105 t108 true) else (laws_FnSymmetricCounted.j0 k l1 t102 t103 t104 t105 t108 ((t104.length : Int) != (t108.length : Int)))) = some r := H
  have A7 := am_ A70
  clear A70
  have HC8 := am_ H
  clear H
  go_enter Try.func6, Try.ntmps6
  go_upto_region 6 with (first | ((with_reducible refine gate_callee (f := 7) rfl ?_); refine goesL_ (some 46) rfl rfl Try.func7 (by kernel_rfl) rfl #[.slice A0 l0.length c0, .slice A1 l1.length c1] rfl tc1_ ?_; (with_reducible refine (laws_big.calls _ _ l0 _ _ l1 false _ ?side1 ?side2 ?side3 ?side4 A3.out).mono ?_); (case side1 => exact tc23_); (case side2 => exact HC0.out); (case side3 => exact tc53_); (case side4 => exact HC1.out); rintro e w' ⟨rfl, ⟨nd, rfl⟩⟩; refine ⟨_, rfl, ?_⟩) | ((with_reducible refine gate_callee (f := 45) rfl ?_); refine goesL_ (some 49) rfl rfl Try.func45 (by kernel_rfl) rfl #[.slice A0 l0.length c0] rfl tc1_ ?_; (with_reducible refine (spec_DrawListSymmetric.calls _ _ l0 t102 t103 _ ?side1 ?side2 A5.out).mono ?_); (case side1 => exact tc23_); (case side2 => exact HC0.out); rintro e w9 ⟨rfl, hb⟩; refine ⟨_, rfl, ?_⟩; have n0_ := am_ (below_step tc0_ hb); clear HB; have HB := n0_; clear n0_; (try clear hb)) | ((with_reducible refine gate_callee (f := 46) rfl ?_); refine goesL_ (some 55) rfl rfl Try.func46 (by kernel_rfl) rfl #[.int .i64 t102, .int .i64 t103] rfl tc1_ ?_; (with_reducible refine (impl_ListSymmetric.calls k t102 t103 t104 t105 _ A6.out).mono ?_); rintro e w10 ⟨v106, rfl, ho0, hb⟩; refine ⟨_, rfl, ?_⟩; have n0_ := am_ (Kd.N_lower (Kd.N_mono (ok' := fun _ => True) (Kd.R_N (Kd.R_bound ho0)) (fun _ _ => trivial)) (below_size tc0_)); have n1_ := am_ (below_step tc0_ hb); clear HB; have HO107 := n0_; have HB := n1_; clear n0_ n1_; (try clear hb ho0)) | ((with_reducible refine gate_callee (f := 47) rfl ?_); refine goesL_ (some 61) rfl rfl Try.func47 (by kernel_rfl) rfl #[.int .i64 t102, .int .i64 t103] rfl tc1_ ?_; (with_reducible refine (spec_ListSymmetric.calls k t102 t103 t108 t111 _ A7.out).mono ?_); rintro e w11 ⟨v109, rfl, ho0, hb⟩; refine ⟨_, rfl, ?_⟩; have n0_ := am_ (Kd.N_below (by (with_reducible repeat (first | apply Kd.N_alloc | apply Kd.N_drewN | apply Kd.N_drew)); exact HO107.out) hb); have n1_ := am_ (Kd.N_lower (Kd.N_mono (ok' := fun _ => True) ho0 (fun _ _ => trivial)) (below_size tc0_)); have n2_ := am_ (below_step tc0_ hb); clear HO107 HB; have HO107 := n0_; have HO110 := n1_; have HB := n2_; clear n0_ n1_ n2_; (try clear hb ho0)))
  (try simp only [Act.put, List.setIfInBounds_toArray, List.set_cons_zero, List.set_cons_succ])
  go_cut [73] (fun v73 wc => ∃ (kq : Nat) (x73_7 : Bool), v73 = .bool x73_7 ∧ Aside0 (laws_FnSymmetricCounted.j0 kq l1 t102 t103 t104 t105 t108 x73_7 = some r) ∧ Aside0 (kq ≤ k) ∧ Aside0 (Kd.N (Kd.slice 35 (Kd.slice 3 (Kd.int .i64))) 24 wc w.heap.size (fun _ => True) v106 t104) ∧ Aside0 (Kd.N (Kd.slice 35 (Kd.slice 3 (Kd.int .i64))) 24 wc w.heap.size (fun _ => True) v109 t108) ∧ Aside0 (Below w.heap.size w wc))
  case first => as_aux_lemma =>
   have H := HC8.out
   clear HC8
   by_cases c12 : (t105 != t111) = true
   ·rw [if_pos c12] at H
    exact (laws_FnSymmetricCounted.j0_dead _ _ _ _ _ _ _ (H.trans (congrArg some HR_.out))).elim
   ·rw [if_neg c12] at H
    have c12b0 : (t105 != t111) = false := by simpa using c12
    (try (have c12b1 : decide (t105 = t111) = true := by simpa using c12))
    (try (have c12b2 : (t105 == t111) = true := by simpa using c12))
    clear c12
    (first | rw [c12b0] | (simp only [i64_w, i32_w]; rw [c12b0]) | skip)
    have H' := am_ H
    clear H
    obtain ⟨Ao13, co13, eo13⟩ := Kd.N_slice HO107.out
    subst eo13
    obtain ⟨Ao14, co14, eo14⟩ := Kd.N_slice HO110.out
    subst eo14
    go_wp2
    go_meet
    case rel => exact ⟨_, (((t104.length : Int) != (t108.length : Int))), tc7_, H', ⟨by first | omega | exact Nat.le_refl _⟩, ⟨by (with_reducible repeat (first | apply Kd.N_alloc | apply Kd.N_drewN | apply Kd.N_drew)); exact Kd.N_mono HO107.out (fun _ _ => trivial)⟩, ⟨by (with_reducible repeat (first | apply Kd.N_alloc | apply Kd.N_drewN | apply Kd.N_drew)); exact Kd.N_mono HO110.out (fun _ _ => trivial)⟩, ⟨by repeat (first | (with_reducible first | exact HB.out | apply below_alloc | apply pw_below_drewN | apply below_drew1) | exact HB.out)⟩⟩
  case rest => as_aux_lemma =>
   clear HC8
   try clear c1
   try clear p2
   try clear c4
   try clear c6
   try clear c7
   try clear c12
   try clear c12b0
   try clear c12b1
   try clear c12b2
   obtain ⟨kq, x73_7, rfl, HA, HJ7, HO_7, HO_9, HB⟩ := hcut
   cases kq with
   | zero => exact absurd HA.out (by simp [laws_FnSymmetricCounted.j0])
   | succ kj7 =>
    have H := HA.out
    clear HA
    simp only [laws_FnSymmetricCounted.j0] at H
    by_cases c15 : x73_7 = true
    ·subst c15
     exact absurd ((show (some false : Option Bool) = some r from (by rw [if_pos rfl] at H; exact H)).trans (congrArg some HR_.out)) (by simp)
    ·replace c15 := Bool.eq_false_iff.mpr c15
     subst c15
     have H1 : (laws_FnSymmetricCounted.l0 kj7 l1 t102 t103 t104 t105 t108 t104 (t104.length : Int) 0) = some r := by rw [if_neg (show ¬ (false = true) by decide)] at H; exact H
     clear H
     have H := H1
     clear H1
     have H' := am_ H
     clear H
     obtain ⟨Ao16, co16, eo16⟩ := Kd.N_slice HO_7.out
     subst eo16
     go_wp2
     go_loopg [76] kj7 (fun kq v76 w' => ∃ (x76_2 : Int), v76 = .int .i64 x76_2 ∧ Aside0 (laws_FnSymmetricCounted.l0 kq l1 t102 t103 t104 t105 t108 t104 (t104.length : Int) x76_2 = some r) ∧ Aside0 (kq ≤ kj7) ∧ Aside0 (Kd.N (Kd.slice 35 (Kd.slice 3 (Kd.int .i64))) 24 w' w.heap.size (fun _ => True) (.slice Ao16 t104.length co16) t104) ∧ Aside0 (Kd.N (Kd.slice 35 (Kd.slice 3 (Kd.int .i64))) 24 w' w.heap.size (fun _ => True) v109 t108) ∧ Aside0 (Kd.N (Kd.slice 35 (Kd.slice 3 (Kd.int .i64))) 24 w' w.heap.size (fun _ => True) (.slice Ao16 t104.length co16) t104) ∧ Aside0 (Below w.heap.size w w'))
     case atStart => exact ⟨(0), tc7_, H', ⟨Nat.le_refl _⟩, ⟨by (with_reducible repeat (first | apply Kd.N_alloc | apply Kd.N_drewN | apply Kd.N_drew)); exact HO_7.out⟩, ⟨by (with_reducible repeat (first | apply Kd.N_alloc | apply Kd.N_drewN | apply Kd.N_drew)); exact HO_9.out⟩, ⟨by (with_reducible repeat (first | apply Kd.N_alloc | apply Kd.N_drewN | apply Kd.N_drew)); exact HO_7.out⟩, ⟨by repeat (first | (with_reducible first | exact HB.out | apply below_alloc | apply pw_below_drewN | apply below_drew1) | exact HB.out)⟩⟩
     case round => as_aux_lemma =>
      clear H'
      try clear c1
      try clear p2
      try clear c4
      try clear c6
      try clear c7
      try clear c12
      try clear c12b0
      try clear c12b1
      try clear c12b2
      try clear c15
      try clear p2
      obtain ⟨x76_2, rfl, HA, HK2, HO_7, HO_9, HO_74, HB⟩ := hrel
      cases gk with
      | zero => exact absurd HA.out (by simp [laws_FnSymmetricCounted.l0])
      | succ k2 =>
       have H := HA.out
       clear HA
       simp only [laws_FnSymmetricCounted.l0] at H
       by_cases c17 : x76_2 < (t104.length : Int)
       ·rw [if_pos c17] at H
        have c17b0 : decide (x76_2 < (t104.length : Int)) = true := decide_eq_true c17
        clear c17
        by_cases c18 : 0 ≤ x76_2
        ·rw [if_pos c18] at H
         have c18b0 : decide (0 ≤ x76_2) = true := decide_eq_true c18
         clear c18
         by_cases c19 : x76_2 < (t104.length : Int)
         ·rw [if_pos c19] at H
          have c19b0 : decide (x76_2 < (t104.length : Int)) = true := decide_eq_true c19
          clear c19
          replace H := Option.bind_eq_some_iff.mp H
          obtain ⟨⟨t113, t114⟩, A200, H⟩ := H
          replace H : (if x76_2 < (t108.length : Int) then ((laws_uSameRows.f k2 (rd_L4 t104 x76_2) (rd_L4 t108 x76_2)).bind fun t116 => (if t116 = true then (if t114 = true then (if t113 = true then (if x76_2 > 0 then (if 0 ≤ (wrap64 (x76_2 - 1)) then (if (wrap64 (x76_2 - 1)) < (t104.length : Int) then ((laws_uBefore.f k2 (rd_L4 t104 (wrap64 (x76_2 - 1))) (rd_L4 t104 x76_2)).bind fun t118 => (if t118 = true then (laws_FnSymmetricCounted.l0 k2 l1 t102 t103 t104 t105 t108 t104 (t104.length : Int) (wrap64 (x76_2 + 1))) else (some false))) else (none)) else (none)) else (laws_FnSymmetricCounted.l0 k2 l1 t102 t103 t104 t105 t108 t104 (t104.length : Int) (wrap64 (x76_2 + 1)))) else (some false)) else (some false)) else (some false))) else (none)) = some r := H
          have A20 := am_ A200
          clear A200
          by_cases c21 : x76_2 < (t108.length : Int)
          ·rw [if_pos c21] at H
           have c21b0 : decide (x76_2 < (t108.length : Int)) = true := decide_eq_true c21
           clear c21
           replace H := Option.bind_eq_some_iff.mp H
           obtain ⟨t116, A220, H⟩ := H
           replace H : (if t116 = true then (if t114 = true then (if t113 = true then (if x76_2 > 0 then (if 0 ≤ (wrap64 (x76_2 - 1)) then (if (wrap64 (x76_2 - 1)) < (t104.length : Int) then ((laws_uBefore.f k2 (rd_L4 t104 (wrap64 (x76_2 - 1))) (rd_L4 t104 x76_2)).bind fun t118 => (if t118 = true then (laws_FnSymmetricCounted.l0 k2 l1 t102 t103 t104 t105 t108 t104 (t104.length : Int) (wrap64 (x76_2 + 1))) else (some false))) else (none)) else (none)) else (laws_FnSymmetricCounted.l0 k2 l1 t102 t103 t104 t105 t108 t104 (t104.length : Int) (wrap64 (x76_2 + 1)))) else (some false)) else (some false)) else (some false)) = some r := H
           have A22 := am_ A220
           clear A220
           by_cases c23 : t116 = true
           ·subst c23
            have H1 : (if t114 = true then (if t113 = true then (if x76_2 > 0 then (if 0 ≤ (wrap64 (x76_2 - 1)) then (if (wrap64 (x76_2 - 1)) < (t104.length : Int) then ((laws_uBefore.f k2 (rd_L4 t104 (wrap64 (x76_2 - 1))) (rd_L4 t104 x76_2)).bind fun t118 => (if t118 = true then (laws_FnSymmetricCounted.l0 k2 l1 t102 t103 t104 t105 t108 t104 (t104.length : Int) (wrap64 (x76_2 + 1))) else (some false))) else (none)) else (none)) else (laws_FnSymmetricCounted.l0 k2 l1 t102 t103 t104 t105 t108 t104 (t104.length : Int) (wrap64 (x76_2 + 1)))) else (some false)) else (some false)) = some r := by rw [if_pos rfl] at H; exact H
            clear H
            have H := H1
            clear H1
            by_cases c24 : t114 = true
            ·subst c24
             have H1 : (if t113 = true then (if x76_2 > 0 then (if 0 ≤ (wrap64 (x76_2 - 1)) then (if (wrap64 (x76_2 - 1)) < (t104.length : Int) then ((laws_uBefore.f k2 (rd_L4 t104 (wrap64 (x76_2 - 1))) (rd_L4 t104 x76_2)).bind fun t118 => (if t118 = true then (laws_FnSymmetricCounted.l0 k2 l1 t102 t103 t104 t105 t108 t104 (t104.length : Int) (wrap64 (x76_2 + 1))) else (some false))) else (none)) else (none)) else (laws_FnSymmetricCounted.l0 k2 l1 t102 t103 t104 t105 t108 t104 (t104.length : Int) (wrap64 (x76_2 + 1)))) else (some false)) = some r := by rw [if_pos rfl] at H; exact H
             clear H
             have H := H1
             clear H1
             by_cases c25 : t113 = true
             ·subst c25
              have H1 : (if x76_2 > 0 then (if 0 ≤ (wrap64 (x76_2 - 1)) then (if (wrap64 (x76_2 - 1)) < (t104.length : Int) then ((laws_uBefore.f k2 (rd_L4 t104 (wrap64 (x76_2 - 1))) (rd_L4 t104 x76_2)).bind fun t118 => (if t118 = true then (laws_FnSymmetricCounted.l0 k2 l1 t102 t103 t104 t105 t108 t104 (t104.length : Int) (wrap64 (x76_2 + 1))) else (some false))) else (none)) else (none)) else (laws_FnSymmetricCounted.l0 k2 l1 t102 t103 t104 t105 t108 t104 (t104.length : Int) (wrap64 (x76_2 + 1)))) = some r := by rw [if_pos rfl] at H; exact H
              clear H
              have H := H1
              clear H1
              by_cases c26 : x76_2 > 0
              ·rw [if_pos c26] at H
               have c26b0 : decide (0 < x76_2) = true := decide_eq_true c26
               clear c26
               obtain ⟨ji27, hji27⟩ : ∃ j_ : Int, (wrap64 (x76_2 - 1)) = j_ := ⟨_, rfl⟩
               replace H : (if 0 ≤ (ji27) then (if (ji27) < (t104.length : Int) then ((laws_uBefore.f k2 (rd_L4 t104 (ji27)) (rd_L4 t104 x76_2)).bind fun t118 => (if t118 = true then (laws_FnSymmetricCounted.l0 k2 l1 t102 t103 t104 t105 t108 t104 (t104.length : Int) (wrap64 (x76_2 + 1))) else (some false))) else (none)) else (none)) = some r := by first | (rw [hji27] at H; exact H) | (simp only [hji27] at H ⊢; exact H)
               (try rw [hji27] at A20)
               (try rw [hji27] at A22)
               have hji27w : (IntKind.i64.wrap (x76_2 - 1)) = ji27 := (i64_w _).trans hji27
               by_cases c28 : 0 ≤ (ji27)
               ·rw [if_pos c28] at H
                have c28b0 : decide (0 ≤ (ji27)) = true := decide_eq_true c28
                clear c28
                by_cases c29 : (ji27) < (t104.length : Int)
                ·rw [if_pos c29] at H
                 have c29b0 : decide ((ji27) < (t104.length : Int)) = true := decide_eq_true c29
                 clear c29
                 replace H := Option.bind_eq_some_iff.mp H
                 obtain ⟨t118, A300, H⟩ := H
                 replace H : (if t118 = true then (laws_FnSymmetricCounted.l0 k2 l1 t102 t103 t104 t105 t108 t104 (t104.length : Int) (wrap64 (x76_2 + 1))) else (some false)) = some r := H
                 have A30 := am_ A300
                 clear A300
                 by_cases c31 : t118 = true
                 ·subst c31
                  have H1 : (laws_FnSymmetricCounted.l0 k2 l1 t102 t103 t104 t105 t108 t104 (t104.length : Int) (wrap64 (x76_2 + 1))) = some r := by rw [if_pos rfl] at H; exact H
                  clear H
                  have H := H1
                  clear H1
                  have H' := am_ H
                  clear H
                  have p112 : 0 ≤ (x76_2 : Int) := of_decide_eq_true tc3_
                  have q112 : x76_2 < (t104.length : Int) := of_decide_eq_true tc3_
                  obtain ⟨ad112, A112_0, c112_0, e112, hx112_0, hl112_0, hi112_0⟩ := at_L4 (Kd.N_reads' HO_74.out).2.2 x76_2 p112 q112
                  cases e112
                  obtain ⟨ce112, hce112, hMe112, hcc112⟩ := Kd.N_get HO_74.out [] x76_2 p112 (by first | exact q112 | exact of_decide_eq_true tc3_ | (have e_ := (Kd.N_reads' HO_74.out).1; omega))
                  obtain ⟨ua112_0, uc112_0, rfl, ul112_0, ge112_0⟩ := Kd.FK_slice_open hMe112
                  have hv112_0 := hcc112 0 _ rfl
                  rw [Nat.add_zero, show ((Kd.slice 35 (Kd.slice 3 (Kd.int .i64)))).sz = 1 from rfl, Nat.mul_one] at hv112_0
                  replace hv112_0 := Option.some.inj (hv112_0.symm.trans hx112_0)
                  injection hv112_0 with hva_ hvn_ hvc_
                  rw [hva_] at ge112_0
                  rw [hvc_] at ul112_0
                  have HL112_0 := am_ (show Kd.V (Kd.slice 3 (Kd.int .i64)) 35 _ w.heap.size _ _ (rd_L4 t104 x76_2) from Kd.V_mk ul112_0 ge112_0)
                  clear hva_ hvn_ hvc_ ge112_0 ul112_0
                  clear hcc112 hce112
                  have HR112_0 := am_ hi112_0
                  have HC112_0 := am_ hl112_0
                  clear hi112_0 hl112_0
                  replace p112 := eq_true p112
                  replace q112 := eq_true q112
                  go_wp2_with (first | ((with_reducible refine gate_callee (f := 48) rfl ?_); refine goesL_ (some 84) rfl rfl Try.func48 (by kernel_rfl) rfl #[.slice A112_0 (rd_L4 t104 x76_2).length c112_0, .int .i64 t103] rfl tc1_ ?_; (with_reducible refine (impl_HasSymmetry.calls k2 _ _ (rd_L4 t104 x76_2) t103 true true _ ?side1 ?side2 A20.out).mono ?_); (case side1 => exact tc29_); (case side2 => exact HC112_0.out); rintro e w32 ⟨rfl, hb⟩; refine ⟨_, rfl, ?_⟩; have n0_ := am_ (Kd.N_below tc47_ hb); have n1_ := am_ (Kd.N_below tc50_ hb); have n2_ := am_ (Kd.N_below tc67_ hb); have n3_ := am_ (Kd.V_below (by (with_reducible repeat (first | apply Kd.V_alloc | apply Kd.V_drewN | apply Kd.V_drew)); exact HL112_0.out) hb); have n4_ := am_ (Kd.C_below tc37_ hb); have n5_ := am_ (below_step tc0_ hb); clear HO_7 HO_9; clear HO_74 HL112_0; clear HR112_0 HB; have HO_7 := n0_; have HO_9 := n1_; have HO_74 := n2_; have HL112_0 := n3_; have HR112_0 := n4_; have HB := n5_; clear n0_ n1_ n2_ n3_ n4_ n5_; (try clear hb); obtain ⟨Ao33, co33, eo33⟩ := Kd.N_slice HO_9.out; subst eo33; have p115 : 0 ≤ (x76_2 : Int) := of_decide_eq_true tc3_; have q115 : x76_2 < (t108.length : Int) := of_decide_eq_true tc3_; obtain ⟨ad115, A115_0, c115_0, e115, hx115_0, hl115_0, hi115_0⟩ := at_L4 (Kd.N_reads' HO_9.out).2.2 x76_2 p115 q115; cases e115; obtain ⟨ce115, hce115, hMe115, hcc115⟩ := Kd.N_get HO_9.out [] x76_2 p115 (by first | exact q115 | exact of_decide_eq_true tc3_ | (have e_ := (Kd.N_reads' HO_9.out).1; omega)); obtain ⟨ua115_0, uc115_0, rfl, ul115_0, ge115_0⟩ := Kd.FK_slice_open hMe115; have hv115_0 := hcc115 0 _ rfl; rw [Nat.add_zero, show ((Kd.slice 35 (Kd.slice 3 (Kd.int .i64)))).sz = 1 from rfl, Nat.mul_one] at hv115_0; replace hv115_0 := Option.some.inj (hv115_0.symm.trans hx115_0); injection hv115_0 with hva_ hvn_ hvc_; rw [hva_] at ge115_0; rw [hvc_] at ul115_0; have HL115_0 := am_ (show Kd.V (Kd.slice 3 (Kd.int .i64)) 35 _ w.heap.size _ _ (rd_L4 t108 x76_2) from Kd.V_mk ul115_0 ge115_0); clear hva_ hvn_ hvc_ ge115_0 ul115_0; clear hcc115 hce115; have HR115_0 := am_ hi115_0; have HC115_0 := am_ hl115_0; clear hi115_0 hl115_0; replace p115 := eq_true p115; replace q115 := eq_true q115) | ((with_reducible refine gate_callee (f := 49) rfl ?_); refine goesL_ (some 92) rfl rfl Try.func49 (by kernel_rfl) rfl #[.slice A112_0 (rd_L4 t104 x76_2).length c112_0, .slice A115_0 (rd_L4 t108 x76_2).length c115_0] rfl tc1_ ?_; (with_reducible refine (laws_uSameRows.calls k2 _ _ (rd_L4 t104 x76_2) _ _ (rd_L4 t108 x76_2) true _ ?side1 ?side2 ?side3 ?side4 A22.out).mono ?_); (case side1 => exact tc29_); (case side2 => exact HC112_0.out); (case side3 => exact tc34_); (case side4 => exact HC115_0.out); rintro e w' ⟨rfl, ⟨nd, rfl⟩⟩; refine ⟨_, rfl, ?_⟩; have p117 : 0 ≤ ((ji27) : Int) := of_decide_eq_true tc3_; have q117 : (ji27) < (t104.length : Int) := of_decide_eq_true tc3_; obtain ⟨ad117, A117_0, c117_0, e117, hx117_0, hl117_0, hi117_0⟩ := at_L4 (Kd.N_reads' HO_7.out).2.2 (ji27) p117 q117; obtain rfl : ad112 = ad117 := (by injection e117); obtain ⟨ce117, hce117, hMe117, hcc117⟩ := Kd.N_get HO_7.out [] (ji27) p117 (by first | exact q117 | exact of_decide_eq_true tc3_ | (have e_ := (Kd.N_reads' HO_7.out).1; omega)); obtain ⟨ua117_0, uc117_0, rfl, ul117_0, ge117_0⟩ := Kd.FK_slice_open hMe117; have hv117_0 := hcc117 0 _ rfl; rw [Nat.add_zero, show ((Kd.slice 35 (Kd.slice 3 (Kd.int .i64)))).sz = 1 from rfl, Nat.mul_one] at hv117_0; replace hv117_0 := Option.some.inj (hv117_0.symm.trans hx117_0); injection hv117_0 with hva_ hvn_ hvc_; rw [hva_] at ge117_0; rw [hvc_] at ul117_0; have HL117_0 := am_ (show Kd.V (Kd.slice 3 (Kd.int .i64)) 35 _ w.heap.size _ _ (rd_L4 t104 (ji27)) from Kd.V_mk ul117_0 ge117_0); clear hva_ hvn_ hvc_ ge117_0 ul117_0; clear hcc117 hce117; have HR117_0 := am_ hi117_0; have HC117_0 := am_ hl117_0; clear hi117_0 hl117_0; replace p117 := eq_true p117; replace q117 := eq_true q117) | (go_at_call 50; (with_reducible refine (laws_uBefore.calls k2 _ _ (rd_L4 t104 (ji27)) _ _ (rd_L4 t104 x76_2) true _ ?side1 ?side2 ?side3 ?side4 A30.out).mono ?_); (case side1 => repeat (first | exact tc56_ | (with_reducible refine Kd.C_alloc ?_ _) | (with_reducible refine Kd.C_drewN ?_ _) | (with_reducible refine Kd.C_drew ?_))); (case side2 => exact HC117_0.out); (case side3 => exact tc29_); (case side4 => exact HC112_0.out); rintro e w' ⟨rfl, ⟨nd, rfl⟩⟩))
                  go_roundg k2
                  case measure => have := HJ7.out; have := HK2.out; omega
                  case rel => exact ⟨(wrap64 (x76_2 + 1)), tc7_, H', ⟨by have := HJ7.out; have := HK2.out; omega⟩, ⟨by (with_reducible repeat (first | apply Kd.N_alloc | apply Kd.N_drewN | apply Kd.N_drew)); exact HO_7.out⟩, ⟨by (with_reducible repeat (first | apply Kd.N_alloc | apply Kd.N_drewN | apply Kd.N_drew)); exact HO_9.out⟩, ⟨by (with_reducible repeat (first | apply Kd.N_alloc | apply Kd.N_drewN | apply Kd.N_drew)); exact HO_74.out⟩, ⟨by repeat (first | (with_reducible first | exact HB.out | apply below_alloc | apply pw_below_drewN | apply below_drew1) | exact HB.out)⟩⟩
                 ·replace c31 := Bool.eq_false_iff.mpr c31
                  subst c31
                  exact absurd ((show (some false : Option Bool) = some r from tc60_).trans (congrArg some HR_.out)) (by simp)
                ·rw [if_neg c29] at H
                 exact absurd H (by simp)
               ·rw [if_neg c28] at H
                exact absurd H (by simp)
              ·rw [if_neg c26] at H
               have c26b0 : decide (0 < x76_2) = false := decide_eq_false c26
               clear c26
               have H' := am_ H
               clear H
               have p112 : 0 ≤ (x76_2 : Int) := of_decide_eq_true tc3_
               have q112 : x76_2 < (t104.length : Int) := of_decide_eq_true tc3_
               obtain ⟨ad112, A112_0, c112_0, e112, hx112_0, hl112_0, hi112_0⟩ := at_L4 (Kd.N_reads' HO_74.out).2.2 x76_2 p112 q112
               cases e112
               obtain ⟨ce112, hce112, hMe112, hcc112⟩ := Kd.N_get HO_74.out [] x76_2 p112 (by first | exact q112 | exact of_decide_eq_true tc3_ | (have e_ := (Kd.N_reads' HO_74.out).1; omega))
               obtain ⟨ua112_0, uc112_0, rfl, ul112_0, ge112_0⟩ := Kd.FK_slice_open hMe112
               have hv112_0 := hcc112 0 _ rfl
               rw [Nat.add_zero, show ((Kd.slice 35 (Kd.slice 3 (Kd.int .i64)))).sz = 1 from rfl, Nat.mul_one] at hv112_0
               replace hv112_0 := Option.some.inj (hv112_0.symm.trans hx112_0)
               injection hv112_0 with hva_ hvn_ hvc_
               rw [hva_] at ge112_0
               rw [hvc_] at ul112_0
               have HL112_0 := am_ (show Kd.V (Kd.slice 3 (Kd.int .i64)) 35 _ w.heap.size _ _ (rd_L4 t104 x76_2) from Kd.V_mk ul112_0 ge112_0)
               clear hva_ hvn_ hvc_ ge112_0 ul112_0
               clear hcc112 hce112
               have HR112_0 := am_ hi112_0
               have HC112_0 := am_ hl112_0
               clear hi112_0 hl112_0
               replace p112 := eq_true p112
               replace q112 := eq_true q112
               go_wp2_with (first | ((with_reducible refine gate_callee (f := 48) rfl ?_); refine goesL_ (some 84) rfl rfl Try.func48 (by kernel_rfl) rfl #[.slice A112_0 (rd_L4 t104 x76_2).length c112_0, .int .i64 t103] rfl tc1_ ?_; (with_reducible refine (impl_HasSymmetry.calls k2 _ _ (rd_L4 t104 x76_2) t103 true true _ ?side1 ?side2 A20.out).mono ?_); (case side1 => exact tc29_); (case side2 => exact HC112_0.out); rintro e w36 ⟨rfl, hb⟩; refine ⟨_, rfl, ?_⟩; have n0_ := am_ (Kd.N_below tc47_ hb); have n1_ := am_ (Kd.N_below tc50_ hb); have n2_ := am_ (Kd.N_below tc67_ hb); have n3_ := am_ (Kd.V_below (by (with_reducible repeat (first | apply Kd.V_alloc | apply Kd.V_drewN | apply Kd.V_drew)); exact HL112_0.out) hb); have n4_ := am_ (Kd.C_below tc37_ hb); have n5_ := am_ (below_step tc0_ hb); clear HO_7 HO_9; clear HO_74 HL112_0; clear HR112_0 HB; have HO_7 := n0_; have HO_9 := n1_; have HO_74 := n2_; have HL112_0 := n3_; have HR112_0 := n4_; have HB := n5_; clear n0_ n1_ n2_ n3_ n4_ n5_; (try clear hb); obtain ⟨Ao37, co37, eo37⟩ := Kd.N_slice HO_9.out; subst eo37; have p115 : 0 ≤ (x76_2 : Int) := of_decide_eq_true tc3_; have q115 : x76_2 < (t108.length : Int) := of_decide_eq_true tc3_; obtain ⟨ad115, A115_0, c115_0, e115, hx115_0, hl115_0, hi115_0⟩ := at_L4 (Kd.N_reads' HO_9.out).2.2 x76_2 p115 q115; cases e115; obtain ⟨ce115, hce115, hMe115, hcc115⟩ := Kd.N_get HO_9.out [] x76_2 p115 (by first | exact q115 | exact of_decide_eq_true tc3_ | (have e_ := (Kd.N_reads' HO_9.out).1; omega)); obtain ⟨ua115_0, uc115_0, rfl, ul115_0, ge115_0⟩ := Kd.FK_slice_open hMe115; have hv115_0 := hcc115 0 _ rfl; rw [Nat.add_zero, show ((Kd.slice 35 (Kd.slice 3 (Kd.int .i64)))).sz = 1 from rfl, Nat.mul_one] at hv115_0; replace hv115_0 := Option.some.inj (hv115_0.symm.trans hx115_0); injection hv115_0 with hva_ hvn_ hvc_; rw [hva_] at ge115_0; rw [hvc_] at ul115_0; have HL115_0 := am_ (show Kd.V (Kd.slice 3 (Kd.int .i64)) 35 _ w.heap.size _ _ (rd_L4 t108 x76_2) from Kd.V_mk ul115_0 ge115_0); clear hva_ hvn_ hvc_ ge115_0 ul115_0; clear hcc115 hce115; have HR115_0 := am_ hi115_0; have HC115_0 := am_ hl115_0; clear hi115_0 hl115_0; replace p115 := eq_true p115; replace q115 := eq_true q115) | ((with_reducible refine gate_callee (f := 49) rfl ?_); refine goesL_ (some 92) rfl rfl Try.func49 (by kernel_rfl) rfl #[.slice A112_0 (rd_L4 t104 x76_2).length c112_0, .slice A115_0 (rd_L4 t108 x76_2).length c115_0] rfl tc1_ ?_; (with_reducible refine (laws_uSameRows.calls k2 _ _ (rd_L4 t104 x76_2) _ _ (rd_L4 t108 x76_2) true _ ?side1 ?side2 ?side3 ?side4 A22.out).mono ?_); (case side1 => exact tc29_); (case side2 => exact HC112_0.out); (case side3 => exact tc34_); (case side4 => exact HC115_0.out); rintro e w' ⟨rfl, ⟨nd, rfl⟩⟩; refine ⟨_, rfl, ?_⟩))
               go_roundg k2
               case measure => have := HJ7.out; have := HK2.out; omega
               case rel => exact ⟨(wrap64 (x76_2 + 1)), tc7_, H', ⟨by have := HJ7.out; have := HK2.out; omega⟩, ⟨by (with_reducible repeat (first | apply Kd.N_alloc | apply Kd.N_drewN | apply Kd.N_drew)); exact HO_7.out⟩, ⟨by (with_reducible repeat (first | apply Kd.N_alloc | apply Kd.N_drewN | apply Kd.N_drew)); exact HO_9.out⟩, ⟨by (with_reducible repeat (first | apply Kd.N_alloc | apply Kd.N_drewN | apply Kd.N_drew)); exact HO_74.out⟩, ⟨by repeat (first | (with_reducible first | exact HB.out | apply below_alloc | apply pw_below_drewN | apply below_drew1) | exact HB.out)⟩⟩
             ·replace c25 := Bool.eq_false_iff.mpr c25
              subst c25
              exact absurd ((show (some false : Option Bool) = some r from tc60_).trans (congrArg some HR_.out)) (by simp)
            ·replace c24 := Bool.eq_false_iff.mpr c24
             subst c24
             exact absurd ((show (some false : Option Bool) = some r from tc60_).trans (congrArg some HR_.out)) (by simp)
           ·replace c23 := Bool.eq_false_iff.mpr c23
            subst c23
            exact absurd ((show (some false : Option Bool) = some r from tc60_).trans (congrArg some HR_.out)) (by simp)
          ·rw [if_neg c21] at H
           exact absurd H (by simp)
         ·rw [if_neg c19] at H
          exact absurd H (by simp)
        ·rw [if_neg c18] at H
         exact absurd H (by simp)
       ·rw [if_neg c17] at H
        have c17b0 : decide (x76_2 < (t104.length : Int)) = false := decide_eq_false c17
        clear c17
        have HC44 := am_ H
        clear H
        go_upto_if 117 with (fail)
        go_cut [] (fun wc => ∃ (kq : Nat), Aside0 (laws_FnSymmetricCounted.j2 kq l1 = some r) ∧ Aside0 (kq ≤ k2) ∧ Aside0 (Below w.heap.size w wc))
        case first => as_aux_lemma =>
         have H := HC44.out
         clear HC44
         by_cases c45 : t105 = true
         ·subst c45
          have H1 : ((impl_CountSymmetric.f k2 t102 t103).bind fun bt119 => (if bt119.2 = true then (if bt119.1 = (t104.length : Int) then (laws_FnSymmetricCounted.j2 k2 l1) else (some false)) else (some false))) = some r := by rw [if_pos rfl] at H; exact H
          clear H
          have H := H1
          clear H1
          replace H := Option.bind_eq_some_iff.mp H
          obtain ⟨⟨t119, t120⟩, A460, H⟩ := H
          replace H : (if t120 = true then (if t119 = (t104.length : Int) then (laws_FnSymmetricCounted.j2 k2 l1) else (some false)) else (some false)) = some r := H
          have A46 := am_ A460
          clear A460
          by_cases c47 : t120 = true
          ·subst c47
           have H1 : (if t119 = (t104.length : Int) then (laws_FnSymmetricCounted.j2 k2 l1) else (some false)) = some r := by rw [if_pos rfl] at H; exact H
           clear H
           have H := H1
           clear H1
           by_cases c48 : t119 = (t104.length : Int)
           ·rw [if_pos c48] at H
            have c48b0 : (t119 == (t104.length : Int)) = true := beq_iff_eq.mpr c48
            have c48b1 : (t119 != (t104.length : Int)) = false := bne_eq_false_iff_eq.mpr c48
            clear c48
            (first | rw [c48b0] | (simp only [i64_w, i32_w]; rw [c48b0]) | skip)
            have H' := am_ H
            clear H
            go_wp2_with (first | ((with_reducible refine gate_callee (f := 51) rfl ?_); refine goesL_ (some 121) rfl rfl Try.func51 (by kernel_rfl) rfl #[.int .i64 t102, .int .i64 t103] rfl tc1_ ?_; (with_reducible refine (impl_CountSymmetric.calls k2 t102 t103 t119 true _ A46.out).mono ?_); rintro e w49 ⟨rfl, hb⟩; refine ⟨_, rfl, ?_⟩; have n0_ := am_ (Kd.N_below tc47_ hb); have n1_ := am_ (Kd.N_below tc50_ hb); have n2_ := am_ (Kd.N_below tc67_ hb); have n3_ := am_ (below_step tc0_ hb); clear HO_7 HO_9; clear HO_74 HB; have HO_7 := n0_; have HO_9 := n1_; have HO_74 := n2_; have HB := n3_; clear n0_ n1_ n2_ n3_; (try clear hb)))
            go_meet
            case rel => exact ⟨_, H', ⟨by have := HJ7.out; have := HK2.out; first | omega | exact Nat.le_refl _⟩, ⟨by repeat (first | (with_reducible first | exact HB.out | apply below_alloc | apply pw_below_drewN | apply below_drew1) | exact HB.out)⟩⟩
           ·rw [if_neg c48] at H
            exact absurd (H.trans (congrArg some HR_.out)) (by simp)
          ·replace c47 := Bool.eq_false_iff.mpr c47
           subst c47
           exact absurd ((show (some false : Option Bool) = some r from tc60_).trans (congrArg some HR_.out)) (by simp)
         ·replace c45 := Bool.eq_false_iff.mpr c45
          subst c45
          have H1 : (laws_FnSymmetricCounted.j2 k2 l1) = some r := by rw [if_neg (show ¬ (false = true) by decide)] at H; exact H
          clear H
          have H := H1
          clear H1
          have H' := am_ H
          clear H
          go_wp2
          go_meet
          case rel => exact ⟨_, H', ⟨by have := HJ7.out; have := HK2.out; first | omega | exact Nat.le_refl _⟩, ⟨by repeat (first | (with_reducible first | exact HB.out | apply below_alloc | apply pw_below_drewN | apply below_drew1) | exact HB.out)⟩⟩
        case rest => as_aux_lemma =>
         clear HC44
         try clear c1
         try clear p1
         try clear q1
         try clear hx1
         try clear c2
         try clear p2
         try clear c3
         try clear c4
         try clear c5
         try clear c6
         try clear p6
         try clear c7
         try clear c11
         try clear p11
         try clear q11
         try clear hx11
         try clear c12
         try clear c12b0
         try clear c12b1
         try clear c12b2
         try clear c15
         try clear c17
         try clear c17b0
         try clear c18
         try clear c18b0
         try clear c19
         try clear c19b0
         try clear c21
         try clear c21b0
         try clear c23
         try clear c24
         try clear c25
         try clear c26
         try clear c26b0
         try clear c28
         try clear c28b0
         try clear c29
         try clear c29b0
         try clear c31
         try clear c45
         try clear c46
         try clear c47
         try clear c48
         try clear c48b0
         try clear c48b1
         try clear c49
         try clear c51
         try clear hx112_0
         try clear hx115_0
         try clear hx117_0
         try clear p112
         try clear p115
         try clear p117
         try clear p2
         try clear q112
         try clear q115
         try clear q117
         obtain ⟨kq, HA, HJ43, HB⟩ := hcut
         cases kq with
         | zero => exact absurd HA.out (by simp [laws_FnSymmetricCounted.j2])
         | succ kj43 =>
          have H := HA.out
          clear HA
          simp only [laws_FnSymmetricCounted.j2] at H
          replace H := Option.bind_eq_some_iff.mp H
          obtain ⟨t121, A520, H⟩ := H
          replace H : ((impl_HalfTurnFormula.f kj43 t121).bind fun bt122 => ((spec_HalfTurnFormula.f kj43 t121).bind fun bt124 => ((spec_DrawMirrorFormula.f l1).bind fun t126 => ((impl_MirrorFormula.f kj43 t126).bind fun bt127 => ((spec_MirrorFormula.f kj43 t126).bind fun bt129 => (if (bt122.2 != bt124.2) = true then (laws_FnSymmetricCounted.j3 kj43 l1 t121 bt122.1 bt122.2 t126 bt127.1 bt127.2 true) else (if bt122.1 = bt124.1 then (if (bt127.2 != bt129.2) = true then (laws_FnSymmetricCounted.j3 kj43 l1 t121 bt122.1 bt122.2 t126 bt127.1 bt127.2 true) else (laws_FnSymmetricCounted.j3 kj43 l1 t121 bt122.1 bt122.2 t126 bt127.1 bt127.2 (bt127.1 != bt129.1))) else (laws_FnSymmetricCounted.j3 kj43 l1 t121 bt122.1 bt122.2 t126 bt127.1 bt127.2 true)))))))) = some r := H
          have A52 := am_ A520
          clear A520
          replace H := Option.bind_eq_some_iff.mp H
          obtain ⟨⟨t122, t123⟩, A530, H⟩ := H
          replace H : ((spec_HalfTurnFormula.f kj43 t121).bind fun bt124 => ((spec_DrawMirrorFormula.f l1).bind fun t126 => ((impl_MirrorFormula.f kj43 t126).bind fun bt127 => ((spec_MirrorFormula.f kj43 t126).bind fun bt129 => (if (t123 != bt124.2) = true then (laws_FnSymmetricCounted.j3 kj43 l1 t121 t122 t123 t126 bt127.1 bt127.2 true) else (if t122 = bt124.1 then (if (bt127.2 != bt129.2) = true then (laws_FnSymmetricCounted.j3 kj43 l1 t121 t122 t123 t126 bt127.1 bt127.2 true) else (laws_FnSymmetricCounted.j3 kj43 l1 t121 t122 t123 t126 bt127.1 bt127.2 (bt127.1 != bt129.1))) else (laws_FnSymmetricCounted.j3 kj43 l1 t121 t122 t123 t126 bt127.1 bt127.2 true))))))) = some r := H
          have A53 := am_ A530
          clear A530
          replace H := Option.bind_eq_some_iff.mp H
          obtain ⟨⟨t124, t125⟩, A540, H⟩ := H
          replace H : ((spec_DrawMirrorFormula.f l1).bind fun t126 => ((impl_MirrorFormula.f kj43 t126).bind fun bt127 => ((spec_MirrorFormula.f kj43 t126).bind fun bt129 => (if (t123 != t125) = true then (laws_FnSymmetricCounted.j3 kj43 l1 t121 t122 t123 t126 bt127.1 bt127.2 true) else (if t122 = t124 then (if (bt127.2 != bt129.2) = true then (laws_FnSymmetricCounted.j3 kj43 l1 t121 t122 t123 t126 bt127.1 bt127.2 true) else (laws_FnSymmetricCounted.j3 kj43 l1 t121 t122 t123 t126 bt127.1 bt127.2 (bt127.1 != bt129.1))) else (laws_FnSymmetricCounted.j3 kj43 l1 t121 t122 t123 t126 bt127.1 bt127.2 true)))))) = some r := H
          have A54 := am_ A540
          clear A540
          replace H := Option.bind_eq_some_iff.mp H
          obtain ⟨t126, A550, H⟩ := H
          replace H : ((impl_MirrorFormula.f kj43 t126).bind fun bt127 => ((spec_MirrorFormula.f kj43 t126).bind fun bt129 => (if (t123 != t125) = true then (laws_FnSymmetricCounted.j3 kj43 l1 t121 t122 t123 t126 bt127.1 bt127.2 true) else (if t122 = t124 then (if (bt127.2 != bt129.2) = true then (laws_FnSymmetricCounted.j3 kj43 l1 t121 t122 t123 t126 bt127.1 bt127.2 true) else (laws_FnSymmetricCounted.j3 kj43 l1 t121 t122 t123 t126 bt127.1 bt127.2 (bt127.1 != bt129.1))) else (laws_FnSymmetricCounted.j3 kj43 l1 t121 t122 t123 t126 bt127.1 bt127.2 true))))) = some r := H
          have A55 := am_ A550
          clear A550
          replace H := Option.bind_eq_some_iff.mp H
          obtain ⟨⟨t127, t128⟩, A560, H⟩ := H
          replace H : ((spec_MirrorFormula.f kj43 t126).bind fun bt129 => (if (t123 != t125) = true then (laws_FnSymmetricCounted.j3 kj43 l1 t121 t122 t123 t126 t127 t128 true) else (if t122 = t124 then (if (t128 != bt129.2) = true then (laws_FnSymmetricCounted.j3 kj43 l1 t121 t122 t123 t126 t127 t128 true) else (laws_FnSymmetricCounted.j3 kj43 l1 t121 t122 t123 t126 t127 t128 (t127 != bt129.1))) else (laws_FnSymmetricCounted.j3 kj43 l1 t121 t122 t123 t126 t127 t128 true)))) = some r := H
          have A56 := am_ A560
          clear A560
          replace H := Option.bind_eq_some_iff.mp H
          obtain ⟨⟨t129, t130⟩, A570, H⟩ := H
          replace H : (if (t123 != t125) = true then (laws_FnSymmetricCounted.j3 kj43 l1 t121 t122 t123 t126 t127 t128 true) else (if t122 = t124 then (if (t128 != t130) = true then (laws_FnSymmetricCounted.j3 kj43 l1 t121 t122 t123 t126 t127 t128 true) else (laws_FnSymmetricCounted.j3 kj43 l1 t121 t122 t123 t126 t127 t128 (t127 != t129))) else (laws_FnSymmetricCounted.j3 kj43 l1 t121 t122 t123 t126 t127 t128 true))) = some r := H
          have A57 := am_ A570
          clear A570
          have HC58 := am_ H
          clear H
          go_upto_region 25 with (first | ((with_reducible refine gate_callee (f := 52) rfl ?_); refine goesL_ (some 133) rfl rfl Try.func52 (by kernel_rfl) rfl #[.slice A1 l1.length c1] rfl tc1_ ?_; (with_reducible refine (spec_DrawHalfTurnFormula.calls _ _ l1 t121 _ ?side1 ?side2 A52.out).mono ?_); (case side1 => exact tc51_); (case side2 => exact HC1.out); rintro e w59 ⟨rfl, hb⟩; refine ⟨_, rfl, ?_⟩; have n0_ := am_ (below_step tc0_ hb); clear HB; have HB := n0_; clear n0_; (try clear hb)) | ((with_reducible refine gate_callee (f := 53) rfl ?_); refine goesL_ (some 136) rfl rfl Try.func53 (by kernel_rfl) rfl #[.int .i64 t121] rfl tc1_ ?_; (with_reducible refine (impl_HalfTurnFormula.calls kj43 t121 t122 t123 _ A53.out).mono ?_); rintro e w60 ⟨rfl, hb⟩; refine ⟨_, rfl, ?_⟩; have n0_ := am_ (below_step tc0_ hb); clear HB; have HB := n0_; clear n0_; (try clear hb)) | ((with_reducible refine gate_callee (f := 54) rfl ?_); refine goesL_ (some 141) rfl rfl Try.func54 (by kernel_rfl) rfl #[.int .i64 t121] rfl tc1_ ?_; (with_reducible refine (spec_HalfTurnFormula.calls kj43 t121 t124 t125 _ A54.out).mono ?_); rintro e w61 ⟨rfl, hb⟩; refine ⟨_, rfl, ?_⟩; have n0_ := am_ (below_step tc0_ hb); clear HB; have HB := n0_; clear n0_; (try clear hb)) | ((with_reducible refine gate_callee (f := 55) rfl ?_); refine goesL_ (some 145) rfl rfl Try.func55 (by kernel_rfl) rfl #[.slice A1 l1.length c1] rfl tc1_ ?_; (with_reducible refine (spec_DrawMirrorFormula.calls _ _ l1 t126 _ ?side1 ?side2 A55.out).mono ?_); (case side1 => exact tc51_); (case side2 => exact HC1.out); rintro e w62 ⟨rfl, hb⟩; refine ⟨_, rfl, ?_⟩; have n0_ := am_ (below_step tc0_ hb); clear HB; have HB := n0_; clear n0_; (try clear hb)) | ((with_reducible refine gate_callee (f := 56) rfl ?_); refine goesL_ (some 148) rfl rfl Try.func56 (by kernel_rfl) rfl #[.int .i64 t126] rfl tc1_ ?_; (with_reducible refine (impl_MirrorFormula.calls kj43 t126 t127 t128 _ A56.out).mono ?_); rintro e w63 ⟨rfl, hb⟩; refine ⟨_, rfl, ?_⟩; have n0_ := am_ (below_step tc0_ hb); clear HB; have HB := n0_; clear n0_; (try clear hb)) | ((with_reducible refine gate_callee (f := 57) rfl ?_); refine goesL_ (some 153) rfl rfl Try.func57 (by kernel_rfl) rfl #[.int .i64 t126] rfl tc1_ ?_; (with_reducible refine (spec_MirrorFormula.calls kj43 t126 t129 t130 _ A57.out).mono ?_); rintro e w64 ⟨rfl, hb⟩; refine ⟨_, rfl, ?_⟩; have n0_ := am_ (below_step tc0_ hb); clear HB; have HB := n0_; clear n0_; (try clear hb)))
          (try simp only [Act.put, List.setIfInBounds_toArray, List.set_cons_zero, List.set_cons_succ])
          go_cut [173] (fun v173 wc => ∃ (kq : Nat) (x173_57 : Bool), v173 = .bool x173_57 ∧ Aside0 (laws_FnSymmetricCounted.j3 kq l1 t121 t122 t123 t126 t127 t128 x173_57 = some r) ∧ Aside0 (kq ≤ kj43) ∧ Aside0 (Below w.heap.size w wc))
          case first => as_aux_lemma =>
           have H := HC58.out
           clear HC58
           by_cases c65 : (t123 != t125) = true
           ·rw [if_pos c65] at H
            exact (laws_FnSymmetricCounted.j3_dead _ _ _ _ _ _ _ _ (H.trans (congrArg some HR_.out))).elim
           ·rw [if_neg c65] at H
            have c65b0 : (t123 != t125) = false := by simpa using c65
            (try (have c65b1 : decide (t123 = t125) = true := by simpa using c65))
            (try (have c65b2 : (t123 == t125) = true := by simpa using c65))
            clear c65
            (first | rw [c65b0] | (simp only [i64_w, i32_w]; rw [c65b0]) | skip)
            by_cases c66 : t122 = t124
            ·rw [if_pos c66] at H
             have c66b0 : (t122 == t124) = true := beq_iff_eq.mpr c66
             have c66b1 : (t122 != t124) = false := bne_eq_false_iff_eq.mpr c66
             clear c66
             by_cases c67 : (t128 != t130) = true
             ·rw [if_pos c67] at H
              exact (laws_FnSymmetricCounted.j3_dead _ _ _ _ _ _ _ _ (H.trans (congrArg some HR_.out))).elim
             ·rw [if_neg c67] at H
              have c67b0 : (t128 != t130) = false := by simpa using c67
              (try (have c67b1 : decide (t128 = t130) = true := by simpa using c67))
              (try (have c67b2 : (t128 == t130) = true := by simpa using c67))
              clear c67
              have H' := am_ H
              clear H
              go_wp2
              go_meet
              case rel => exact ⟨_, ((t127 != t129)), tc7_, H', ⟨by have := HJ7.out; have := HK2.out; have := HJ43.out; first | omega | exact Nat.le_refl _⟩, ⟨by repeat (first | (with_reducible first | exact HB.out | apply below_alloc | apply pw_below_drewN | apply below_drew1) | exact HB.out)⟩⟩
            ·rw [if_neg c66] at H
             exact (laws_FnSymmetricCounted.j3_dead _ _ _ _ _ _ _ _ (H.trans (congrArg some HR_.out))).elim
          case rest => as_aux_lemma =>
           clear HC58
           try clear c1
           try clear p1
           try clear q1
           try clear hx1
           try clear c2
           try clear p2
           try clear c3
           try clear c4
           try clear c5
           try clear c6
           try clear p6
           try clear c7
           try clear c11
           try clear p11
           try clear q11
           try clear hx11
           try clear c12
           try clear c12b0
           try clear c12b1
           try clear c12b2
           try clear c15
           try clear c17
           try clear c17b0
           try clear c18
           try clear c18b0
           try clear c19
           try clear c19b0
           try clear c21
           try clear c21b0
           try clear c23
           try clear c24
           try clear c25
           try clear c26
           try clear c26b0
           try clear c28
           try clear c28b0
           try clear c29
           try clear c29b0
           try clear c31
           try clear c45
           try clear c46
           try clear c47
           try clear c48
           try clear c48b0
           try clear c48b1
           try clear c49
           try clear c51
           try clear c52
           try clear c53
           try clear c54
           try clear c55
           try clear c56
           try clear c57
           try clear p64
           try clear c65
           try clear c65b0
           try clear c65b1
           try clear c65b2
           try clear c66
           try clear c66b0
           try clear c66b1
           try clear c67
           try clear c67b0
           try clear c67b1
           try clear c67b2
           try clear hx112_0
           try clear hx115_0
           try clear hx117_0
           try clear p1
           try clear p11
           try clear p112
           try clear p115
           try clear p117
           try clear p2
           try clear p6
           try clear q1
           try clear q11
           try clear q112
           try clear q115
           try clear q117
           obtain ⟨kq, x173_57, rfl, HA, HJ57, HB⟩ := hcut
           cases kq with
           | zero => exact absurd HA.out (by simp [laws_FnSymmetricCounted.j3])
           | succ kj57 =>
            have H := HA.out
            clear HA
            simp only [laws_FnSymmetricCounted.j3] at H
            by_cases c68 : x173_57 = true
            ·subst c68
             exact absurd ((show (some false : Option Bool) = some r from (by rw [if_pos rfl] at H; exact H)).trans (congrArg some HR_.out)) (by simp)
            ·replace c68 := Bool.eq_false_iff.mpr c68
             subst c68
             have H1 : (if t123 = true then (laws_FnSymmetricCounted.j4 kj57 l1 t121 t122 t126 t127 t128 (decide (t121 ≤ 2))) else (laws_FnSymmetricCounted.j4 kj57 l1 t121 t122 t126 t127 t128 false)) = some r := by rw [if_neg (show ¬ (false = true) by decide)] at H; exact H
             clear H
             have H := H1
             clear H1
             have HC69 := am_ H
             clear H
             go_upto_region 27 with (fail)
             go_cut [178] (fun v178 wc => ∃ (kq : Nat) (x178_68 : Bool), v178 = .bool x178_68 ∧ Aside0 (laws_FnSymmetricCounted.j4 kq l1 t121 t122 t126 t127 t128 x178_68 = some r) ∧ Aside0 (kq ≤ kj57) ∧ Aside0 (Below w.heap.size w wc))
             case first => as_aux_lemma =>
              have H := HC69.out
              clear HC69
              by_cases c70 : t123 = true
              ·subst c70
               have H1 : (laws_FnSymmetricCounted.j4 kj57 l1 t121 t122 t126 t127 t128 (decide (t121 ≤ 2))) = some r := by rw [if_pos rfl] at H; exact H
               clear H
               have H := H1
               clear H1
               have H' := am_ H
               clear H
               go_wp2
               go_meet
               case rel => exact ⟨_, (decide (t121 ≤ 2)), tc7_, H', ⟨by have := HJ7.out; have := HK2.out; have := HJ43.out; have := HJ57.out; first | omega | exact Nat.le_refl _⟩, ⟨by repeat (first | (with_reducible first | exact HB.out | apply below_alloc | apply pw_below_drewN | apply below_drew1) | exact HB.out)⟩⟩
              ·replace c70 := Bool.eq_false_iff.mpr c70
               subst c70
               have H1 : (laws_FnSymmetricCounted.j4 kj57 l1 t121 t122 t126 t127 t128 false) = some r := by rw [if_neg (show ¬ (false = true) by decide)] at H; exact H
               clear H
               have H := H1
               clear H1
               have H' := am_ H
               clear H
               go_wp2
               go_meet
               case rel => exact ⟨_, (false), tc7_, H', ⟨by have := HJ7.out; have := HK2.out; have := HJ43.out; have := HJ57.out; first | omega | exact Nat.le_refl _⟩, ⟨by repeat (first | (with_reducible first | exact HB.out | apply below_alloc | apply pw_below_drewN | apply below_drew1) | exact HB.out)⟩⟩
             case rest => as_aux_lemma =>
              clear HC69
              try clear c1
              try clear p1
              try clear q1
              try clear hx1
              try clear c2
              try clear p2
              try clear c3
              try clear c4
              try clear c5
              try clear c6
              try clear p6
              try clear c7
              try clear c11
              try clear p11
              try clear q11
              try clear hx11
              try clear c12
              try clear c12b0
              try clear c12b1
              try clear c12b2
              try clear c15
              try clear c17
              try clear c17b0
              try clear c18
              try clear c18b0
              try clear c19
              try clear c19b0
              try clear c21
              try clear c21b0
              try clear c23
              try clear c24
              try clear c25
              try clear c26
              try clear c26b0
              try clear c28
              try clear c28b0
              try clear c29
              try clear c29b0
              try clear c31
              try clear c45
              try clear c46
              try clear c47
              try clear c48
              try clear c48b0
              try clear c48b1
              try clear c49
              try clear c51
              try clear c52
              try clear c53
              try clear c54
              try clear c55
              try clear c56
              try clear c57
              try clear p64
              try clear c65
              try clear c65b0
              try clear c65b1
              try clear c65b2
              try clear c66
              try clear c66b0
              try clear c66b1
              try clear c67
              try clear c67b0
              try clear c67b1
              try clear c67b2
              try clear c68
              try clear c70
              try clear hx112_0
              try clear hx115_0
              try clear hx117_0
              try clear p1
              try clear p11
              try clear p112
              try clear p115
              try clear p117
              try clear p2
              try clear p6
              try clear p64
              try clear q1
              try clear q11
              try clear q112
              try clear q115
              try clear q117
              obtain ⟨kq, x178_68, rfl, HA, HJ68, HB⟩ := hcut
              cases kq with
              | zero => exact absurd HA.out (by simp [laws_FnSymmetricCounted.j4])
              | succ kj68 =>
               have H := HA.out
               clear HA
               simp only [laws_FnSymmetricCounted.j4] at H
               have HC71 := am_ H
               clear H
               go_upto_if 178 with (fail)
               go_cut [] (fun wc => ∃ (kq : Nat), Aside0 (laws_FnSymmetricCounted.j5 kq l1 t126 t127 t128 = some r) ∧ Aside0 (kq ≤ kj68) ∧ Aside0 (Below w.heap.size w wc))
               case first => as_aux_lemma =>
                have H := HC71.out
                clear HC71
                by_cases c72 : x178_68 = true
                ·subst c72
                 have H1 : ((impl_CountSymmetric.f kj68 (wrap64 (2 * t121)) 0).bind fun bt131 => (if bt131.2 = true then (if bt131.1 = t122 then (laws_FnSymmetricCounted.j5 kj68 l1 t126 t127 t128) else (some false)) else (some false))) = some r := by rw [if_pos rfl] at H; exact H
                 clear H
                 have H := H1
                 clear H1
                 replace H := Option.bind_eq_some_iff.mp H
                 obtain ⟨⟨t131, t132⟩, A730, H⟩ := H
                 replace H : (if t132 = true then (if t131 = t122 then (laws_FnSymmetricCounted.j5 kj68 l1 t126 t127 t128) else (some false)) else (some false)) = some r := H
                 have A73 := am_ A730
                 clear A730
                 by_cases c74 : t132 = true
                 ·subst c74
                  have H1 : (if t131 = t122 then (laws_FnSymmetricCounted.j5 kj68 l1 t126 t127 t128) else (some false)) = some r := by rw [if_pos rfl] at H; exact H
                  clear H
                  have H := H1
                  clear H1
                  by_cases c75 : t131 = t122
                  ·rw [if_pos c75] at H
                   have c75b0 : (t131 == t122) = true := beq_iff_eq.mpr c75
                   have c75b1 : (t131 != t122) = false := bne_eq_false_iff_eq.mpr c75
                   clear c75
                   (first | rw [c75b0] | (simp only [i64_w, i32_w]; rw [c75b0]) | skip)
                   have H' := am_ H
                   clear H
                   go_wp2_with (first | ((with_reducible refine gate_callee (f := 51) rfl ?_); refine goesL_ (some 182) rfl rfl Try.func51 (by kernel_rfl) rfl #[.int .i64 (wrap64 (2 * t121)), .int .i64 0] rfl tc1_ ?_; (with_reducible refine (impl_CountSymmetric.calls kj68 (wrap64 (2 * t121)) 0 t131 true _ A73.out).mono ?_); rintro e w76 ⟨rfl, hb⟩; refine ⟨_, rfl, ?_⟩; have n0_ := am_ (below_step tc0_ hb); clear HB; have HB := n0_; clear n0_; (try clear hb)))
                   go_meet
                   case rel => exact ⟨_, H', ⟨by have := HJ7.out; have := HK2.out; have := HJ43.out; have := HJ57.out; have := HJ68.out; first | omega | exact Nat.le_refl _⟩, ⟨by repeat (first | (with_reducible first | exact HB.out | apply below_alloc | apply pw_below_drewN | apply below_drew1) | exact HB.out)⟩⟩
                  ·rw [if_neg c75] at H
                   exact absurd (H.trans (congrArg some HR_.out)) (by simp)
                 ·replace c74 := Bool.eq_false_iff.mpr c74
                  subst c74
                  exact absurd ((show (some false : Option Bool) = some r from tc60_).trans (congrArg some HR_.out)) (by simp)
                ·replace c72 := Bool.eq_false_iff.mpr c72
                 subst c72
                 have H1 : (laws_FnSymmetricCounted.j5 kj68 l1 t126 t127 t128) = some r := by rw [if_neg (show ¬ (false = true) by decide)] at H; exact H
                 clear H
                 have H := H1
                 clear H1
                 have H' := am_ H
                 clear H
                 go_wp2
                 go_meet
                 case rel => exact ⟨_, H', ⟨by have := HJ7.out; have := HK2.out; have := HJ43.out; have := HJ57.out; have := HJ68.out; first | omega | exact Nat.le_refl _⟩, ⟨by repeat (first | (with_reducible first | exact HB.out | apply below_alloc | apply pw_below_drewN | apply below_drew1) | exact HB.out)⟩⟩
               case rest => as_aux_lemma =>
                clear HC71
                try clear c1
                try clear p1
                try clear q1
                try clear hx1
                try clear c2
                try clear p2
                try clear c3
                try clear c4
                try clear c5
                try clear c6
                try clear p6
                try clear c7
                try clear c11
                try clear p11
                try clear q11
                try clear hx11
                try clear c12
                try clear c12b0
                try clear c12b1
                try clear c12b2
                try clear c15
                try clear c17
                try clear c17b0
                try clear c18
                try clear c18b0
                try clear c19
                try clear c19b0
                try clear c21
                try clear c21b0
                try clear c23
                try clear c24
                try clear c25
                try clear c26
                try clear c26b0
                try clear c28
                try clear c28b0
                try clear c29
                try clear c29b0
                try clear c31
                try clear c45
                try clear c46
                try clear c47
                try clear c48
                try clear c48b0
                try clear c48b1
                try clear c49
                try clear c51
                try clear c52
                try clear c53
                try clear c54
                try clear c55
                try clear c56
                try clear c57
                try clear p64
                try clear c65
                try clear c65b0
                try clear c65b1
                try clear c65b2
                try clear c66
                try clear c66b0
                try clear c66b1
                try clear c67
                try clear c67b0
                try clear c67b1
                try clear c67b2
                try clear c68
                try clear c70
                try clear c72
                try clear c74
                try clear c75
                try clear c75b0
                try clear c75b1
                try clear hx112_0
                try clear hx115_0
                try clear hx117_0
                try clear p1
                try clear p11
                try clear p112
                try clear p115
                try clear p117
                try clear p2
                try clear p6
                try clear p64
                try clear q1
                try clear q11
                try clear q112
                try clear q115
                try clear q117
                obtain ⟨kq, HA, HJ70, HB⟩ := hcut
                cases kq with
                | zero => exact absurd HA.out (by simp [laws_FnSymmetricCounted.j5])
                | succ kj70 =>
                 have H := HA.out
                 clear HA
                 simp only [laws_FnSymmetricCounted.j5] at H
                 have HC79 := am_ H
                 clear H
                 go_upto_region 31 with (fail)
                 go_cut [196] (fun v196 wc => ∃ (kq : Nat) (x196_78 : Bool), v196 = .bool x196_78 ∧ Aside0 (laws_FnSymmetricCounted.j6 kq l1 t126 t127 x196_78 = some r) ∧ Aside0 (kq ≤ kj70) ∧ Aside0 (Below w.heap.size w wc))
                 case first => as_aux_lemma =>
                  have H := HC79.out
                  clear HC79
                  by_cases c80 : t128 = true
                  ·subst c80
                   have H1 : (laws_FnSymmetricCounted.j6 kj70 l1 t126 t127 (decide (t126 ≤ 2))) = some r := by rw [if_pos rfl] at H; exact H
                   clear H
                   have H := H1
                   clear H1
                   have H' := am_ H
                   clear H
                   go_wp2
                   go_meet
                   case rel => exact ⟨_, (decide (t126 ≤ 2)), tc7_, H', ⟨by have := HJ7.out; have := HK2.out; have := HJ43.out; have := HJ57.out; have := HJ68.out; have := HJ70.out; first | omega | exact Nat.le_refl _⟩, ⟨by repeat (first | (with_reducible first | exact HB.out | apply below_alloc | apply pw_below_drewN | apply below_drew1) | exact HB.out)⟩⟩
                  ·replace c80 := Bool.eq_false_iff.mpr c80
                   subst c80
                   have H1 : (laws_FnSymmetricCounted.j6 kj70 l1 t126 t127 false) = some r := by rw [if_neg (show ¬ (false = true) by decide)] at H; exact H
                   clear H
                   have H := H1
                   clear H1
                   have H' := am_ H
                   clear H
                   go_wp2
                   go_meet
                   case rel => exact ⟨_, (false), tc7_, H', ⟨by have := HJ7.out; have := HK2.out; have := HJ43.out; have := HJ57.out; have := HJ68.out; have := HJ70.out; first | omega | exact Nat.le_refl _⟩, ⟨by repeat (first | (with_reducible first | exact HB.out | apply below_alloc | apply pw_below_drewN | apply below_drew1) | exact HB.out)⟩⟩
                 case rest => as_aux_lemma =>
                  clear HC79
                  try clear c1
                  try clear p1
                  try clear q1
                  try clear hx1
                  try clear c2
                  try clear p2
                  try clear c3
                  try clear c4
                  try clear c5
                  try clear c6
                  try clear p6
                  try clear c7
                  try clear c8
                  try clear c11
                  try clear p11
                  try clear q11
                  try clear hx11
                  try clear c12
                  try clear c12b0
                  try clear c12b1
                  try clear c12b2
                  try clear c15
                  try clear c17
                  try clear c17b0
                  try clear c18
                  try clear c18b0
                  try clear c19
                  try clear c19b0
                  try clear c21
                  try clear c21b0
                  try clear c23
                  try clear c24
                  try clear c25
                  try clear c26
                  try clear c26b0
                  try clear c28
                  try clear c28b0
                  try clear c29
                  try clear c29b0
                  try clear c31
                  try clear c45
                  try clear c46
                  try clear c47
                  try clear c48
                  try clear c48b0
                  try clear c48b1
                  try clear c49
                  try clear c51
                  try clear c52
                  try clear c53
                  try clear c54
                  try clear c55
                  try clear c56
                  try clear c57
                  try clear p64
                  try clear c65
                  try clear c65b0
                  try clear c65b1
                  try clear c65b2
                  try clear c66
                  try clear c66b0
                  try clear c66b1
                  try clear c67
                  try clear c67b0
                  try clear c67b1
                  try clear c67b2
                  try clear c68
                  try clear c70
                  try clear c72
                  try clear c74
                  try clear c75
                  try clear c75b0
                  try clear c75b1
                  try clear c80
                  try clear hx112_0
                  try clear hx115_0
                  try clear hx117_0
                  try clear p1
                  try clear p11
                  try clear p112
                  try clear p115
                  try clear p117
                  try clear p2
                  try clear p6
                  try clear p64
                  try clear q1
                  try clear q11
                  try clear q112
                  try clear q115
                  try clear q117
                  obtain ⟨kq, x196_78, rfl, HA, HJ78, HB⟩ := hcut
                  cases kq with
                  | zero => exact absurd HA.out (by simp [laws_FnSymmetricCounted.j6])
                  | succ kj78 =>
                   have H := HA.out
                   clear HA
                   simp only [laws_FnSymmetricCounted.j6] at H
                   have HC81 := am_ H
                   clear H
                   go_upto_if 196 with (fail)
                   go_cut [] (fun wc => ∃ (kq : Nat), Aside0 (laws_FnSymmetricCounted.j7 kq l1 = some r) ∧ Aside0 (kq ≤ kj78) ∧ Aside0 (Below w.heap.size w wc))
                   case first => as_aux_lemma =>
                    have H := HC81.out
                    clear HC81
                    by_cases c82 : x196_78 = true
                    ·subst c82
                     have H1 : ((impl_CountSymmetric.f kj78 (wrap64 ((wrap64 (2 * t126)) + 1)) 2).bind fun bt133 => (if bt133.2 = true then (if bt133.1 = t127 then (laws_FnSymmetricCounted.j7 kj78 l1) else (some false)) else (some false))) = some r := by rw [if_pos rfl] at H; exact H
                     clear H
                     have H := H1
                     clear H1
                     replace H := Option.bind_eq_some_iff.mp H
                     obtain ⟨⟨t133, t134⟩, A830, H⟩ := H
                     replace H : (if t134 = true then (if t133 = t127 then (laws_FnSymmetricCounted.j7 kj78 l1) else (some false)) else (some false)) = some r := H
                     have A83 := am_ A830
                     clear A830
                     by_cases c84 : t134 = true
                     ·subst c84
                      have H1 : (if t133 = t127 then (laws_FnSymmetricCounted.j7 kj78 l1) else (some false)) = some r := by rw [if_pos rfl] at H; exact H
                      clear H
                      have H := H1
                      clear H1
                      by_cases c85 : t133 = t127
                      ·rw [if_pos c85] at H
                       have c85b0 : (t133 == t127) = true := beq_iff_eq.mpr c85
                       have c85b1 : (t133 != t127) = false := bne_eq_false_iff_eq.mpr c85
                       clear c85
                       (first | rw [c85b0] | (simp only [i64_w, i32_w]; rw [c85b0]) | skip)
                       have H' := am_ H
                       clear H
                       go_wp2_with (first | ((with_reducible refine gate_callee (f := 51) rfl ?_); refine goesL_ (some 201) rfl rfl Try.func51 (by kernel_rfl) rfl #[.int .i64 (wrap64 ((wrap64 (2 * t126)) + 1)), .int .i64 2] rfl tc1_ ?_; (with_reducible refine (impl_CountSymmetric.calls kj78 (wrap64 ((wrap64 (2 * t126)) + 1)) 2 t133 true _ A83.out).mono ?_); rintro e w86 ⟨rfl, hb⟩; refine ⟨_, rfl, ?_⟩; have n0_ := am_ (below_step tc0_ hb); clear HB; have HB := n0_; clear n0_; (try clear hb)))
                       go_meet
                       case rel => exact ⟨_, H', ⟨by have := HJ7.out; have := HK2.out; have := HJ43.out; have := HJ57.out; have := HJ68.out; have := HJ70.out; have := HJ78.out; first | omega | exact Nat.le_refl _⟩, ⟨by repeat (first | (with_reducible first | exact HB.out | apply below_alloc | apply pw_below_drewN | apply below_drew1) | exact HB.out)⟩⟩
                      ·rw [if_neg c85] at H
                       exact absurd (H.trans (congrArg some HR_.out)) (by simp)
                     ·replace c84 := Bool.eq_false_iff.mpr c84
                      subst c84
                      exact absurd ((show (some false : Option Bool) = some r from tc60_).trans (congrArg some HR_.out)) (by simp)
                    ·replace c82 := Bool.eq_false_iff.mpr c82
                     subst c82
                     have H1 : (laws_FnSymmetricCounted.j7 kj78 l1) = some r := by rw [if_neg (show ¬ (false = true) by decide)] at H; exact H
                     clear H
                     have H := H1
                     clear H1
                     have H' := am_ H
                     clear H
                     go_wp2
                     go_meet
                     case rel => exact ⟨_, H', ⟨by have := HJ7.out; have := HK2.out; have := HJ43.out; have := HJ57.out; have := HJ68.out; have := HJ70.out; have := HJ78.out; first | omega | exact Nat.le_refl _⟩, ⟨by repeat (first | (with_reducible first | exact HB.out | apply below_alloc | apply pw_below_drewN | apply below_drew1) | exact HB.out)⟩⟩
                   case rest => as_aux_lemma =>
                    clear HC81
                    try clear c1
                    try clear p1
                    try clear q1
                    try clear hx1
                    try clear c2
                    try clear p2
                    try clear c3
                    try clear c4
                    try clear c5
                    try clear c6
                    try clear p6
                    try clear c7
                    try clear c8
                    try clear c11
                    try clear p11
                    try clear q11
                    try clear hx11
                    try clear c12
                    try clear c12b0
                    try clear c12b1
                    try clear c12b2
                    try clear c15
                    try clear c17
                    try clear c17b0
                    try clear c18
                    try clear c18b0
                    try clear c19
                    try clear c19b0
                    try clear c21
                    try clear c21b0
                    try clear c23
                    try clear c24
                    try clear c25
                    try clear c26
                    try clear c26b0
                    try clear c28
                    try clear c28b0
                    try clear c29
                    try clear c29b0
                    try clear c31
                    try clear c45
                    try clear c46
                    try clear c47
                    try clear c48
                    try clear c48b0
                    try clear c48b1
                    try clear c49
                    try clear c51
                    try clear c52
                    try clear c53
                    try clear c54
                    try clear c55
                    try clear c56
                    try clear c57
                    try clear p64
                    try clear c65
                    try clear c65b0
                    try clear c65b1
                    try clear c65b2
                    try clear c66
                    try clear c66b0
                    try clear c66b1
                    try clear c67
                    try clear c67b0
                    try clear c67b1
                    try clear c67b2
                    try clear c68
                    try clear c70
                    try clear c72
                    try clear c74
                    try clear c75
                    try clear c75b0
                    try clear c75b1
                    try clear c80
                    try clear c82
                    try clear c84
                    try clear c85
                    try clear c85b0
                    try clear c85b1
                    try clear hx112_0
                    try clear hx115_0
                    try clear hx117_0
                    try clear p1
                    try clear p11
                    try clear p112
                    try clear p115
                    try clear p117
                    try clear p2
                    try clear p6
                    try clear p64
                    try clear q1
                    try clear q11
                    try clear q112
                    try clear q115
                    try clear q117
                    obtain ⟨kq, HA, HJ80, HB⟩ := hcut
                    cases kq with
                    | zero => exact absurd HA.out (by simp [laws_FnSymmetricCounted.j7])
                    | succ kj80 =>
                     have H := HA.out
                     clear HA
                     simp only [laws_FnSymmetricCounted.j7] at H
                     replace H := Option.bind_eq_some_iff.mp H
                     obtain ⟨t135, A890, H⟩ := H
                     replace H : ((impl_CountUpToAll.f kj80 t135).bind fun bt136 => ((spec_CountUpToAll.f kj80 t135).bind fun bt138 => ((spec_DrawCountSymmetric.f l1).bind fun bt140 => ((impl_CountSymmetric.f kj80 bt140.1 bt140.2).bind fun bt142 => ((spec_CountSymmetric.f kj80 bt140.1 bt140.2).bind fun bt144 => (if (bt136.2 != bt138.2) = true then (laws_FnSymmetricCounted.j8 kj80 t135 bt136.1 bt136.2 true) else (if bt136.1 = bt138.1 then (if (bt142.2 != bt144.2) = true then (laws_FnSymmetricCounted.j8 kj80 t135 bt136.1 bt136.2 true) else (laws_FnSymmetricCounted.j8 kj80 t135 bt136.1 bt136.2 (bt142.1 != bt144.1))) else (laws_FnSymmetricCounted.j8 kj80 t135 bt136.1 bt136.2 true)))))))) = some r := H
                     have A89 := am_ A890
                     clear A890
                     replace H := Option.bind_eq_some_iff.mp H
                     obtain ⟨⟨t136, t137⟩, A900, H⟩ := H
                     replace H : ((spec_CountUpToAll.f kj80 t135).bind fun bt138 => ((spec_DrawCountSymmetric.f l1).bind fun bt140 => ((impl_CountSymmetric.f kj80 bt140.1 bt140.2).bind fun bt142 => ((spec_CountSymmetric.f kj80 bt140.1 bt140.2).bind fun bt144 => (if (t137 != bt138.2) = true then (laws_FnSymmetricCounted.j8 kj80 t135 t136 t137 true) else (if t136 = bt138.1 then (if (bt142.2 != bt144.2) = true then (laws_FnSymmetricCounted.j8 kj80 t135 t136 t137 true) else (laws_FnSymmetricCounted.j8 kj80 t135 t136 t137 (bt142.1 != bt144.1))) else (laws_FnSymmetricCounted.j8 kj80 t135 t136 t137 true))))))) = some r := H
                     have A90 := am_ A900
                     clear A900
                     replace H := Option.bind_eq_some_iff.mp H
                     obtain ⟨⟨t138, t139⟩, A910, H⟩ := H
                     replace H : ((spec_DrawCountSymmetric.f l1).bind fun bt140 => ((impl_CountSymmetric.f kj80 bt140.1 bt140.2).bind fun bt142 => ((spec_CountSymmetric.f kj80 bt140.1 bt140.2).bind fun bt144 => (if (t137 != t139) = true then (laws_FnSymmetricCounted.j8 kj80 t135 t136 t137 true) else (if t136 = t138 then (if (bt142.2 != bt144.2) = true then (laws_FnSymmetricCounted.j8 kj80 t135 t136 t137 true) else (laws_FnSymmetricCounted.j8 kj80 t135 t136 t137 (bt142.1 != bt144.1))) else (laws_FnSymmetricCounted.j8 kj80 t135 t136 t137 true)))))) = some r := H
                     have A91 := am_ A910
                     clear A910
                     replace H := Option.bind_eq_some_iff.mp H
                     obtain ⟨⟨t140, t141⟩, A920, H⟩ := H
                     replace H : ((impl_CountSymmetric.f kj80 t140 t141).bind fun bt142 => ((spec_CountSymmetric.f kj80 t140 t141).bind fun bt144 => (if (t137 != t139) = true then (laws_FnSymmetricCounted.j8 kj80 t135 t136 t137 true) else (if t136 = t138 then (if (bt142.2 != bt144.2) = true then (laws_FnSymmetricCounted.j8 kj80 t135 t136 t137 true) else (laws_FnSymmetricCounted.j8 kj80 t135 t136 t137 (bt142.1 != bt144.1))) else (laws_FnSymmetricCounted.j8 kj80 t135 t136 t137 true))))) = some r := H
                     have A92 := am_ A920
                     clear A920
                     replace H := Option.bind_eq_some_iff.mp H
                     obtain ⟨⟨t142, t143⟩, A930, H⟩ := H
                     replace H : ((spec_CountSymmetric.f kj80 t140 t141).bind fun bt144 => (if (t137 != t139) = true then (laws_FnSymmetricCounted.j8 kj80 t135 t136 t137 true) else (if t136 = t138 then (if (t143 != bt144.2) = true then (laws_FnSymmetricCounted.j8 kj80 t135 t136 t137 true) else (laws_FnSymmetricCounted.j8 kj80 t135 t136 t137 (t142 != bt144.1))) else (laws_FnSymmetricCounted.j8 kj80 t135 t136 t137 true)))) = some r := H
                     have A93 := am_ A930
                     clear A930
                     replace H := Option.bind_eq_some_iff.mp H
                     obtain ⟨⟨t144, t145⟩, A940, H⟩ := H
                     replace H : (if (t137 != t139) = true then (laws_FnSymmetricCounted.j8 kj80 t135 t136 t137 true) else (if t136 = t138 then (if (t143 != t145) = true then (laws_FnSymmetricCounted.j8 kj80 t135 t136 t137 true) else (laws_FnSymmetricCounted.j8 kj80 t135 t136 t137 (t142 != t144))) else (laws_FnSymmetricCounted.j8 kj80 t135 t136 t137 true))) = some r := H
                     have A94 := am_ A940
                     clear A940
                     have HC95 := am_ H
                     clear H
                     go_upto_region 41 with (first | ((with_reducible refine gate_callee (f := 58) rfl ?_); refine goesL_ (some 212) rfl rfl Try.func58 (by kernel_rfl) rfl #[.slice A1 l1.length c1] rfl tc1_ ?_; (with_reducible refine (spec_DrawCountUpToAll.calls _ _ l1 t135 _ ?side1 ?side2 A89.out).mono ?_); (case side1 => exact tc51_); (case side2 => exact HC1.out); rintro e w96 ⟨rfl, hb⟩; refine ⟨_, rfl, ?_⟩; have n0_ := am_ (below_step tc0_ hb); clear HB; have HB := n0_; clear n0_; (try clear hb)) | ((with_reducible refine gate_callee (f := 59) rfl ?_); refine goesL_ (some 215) rfl rfl Try.func59 (by kernel_rfl) rfl #[.int .i64 t135] rfl tc1_ ?_; (with_reducible refine (impl_CountUpToAll.calls kj80 t135 t136 t137 _ A90.out).mono ?_); rintro e w97 ⟨rfl, hb⟩; refine ⟨_, rfl, ?_⟩; have n0_ := am_ (below_step tc0_ hb); clear HB; have HB := n0_; clear n0_; (try clear hb)) | ((with_reducible refine gate_callee (f := 60) rfl ?_); refine goesL_ (some 220) rfl rfl Try.func60 (by kernel_rfl) rfl #[.int .i64 t135] rfl tc1_ ?_; (with_reducible refine (spec_CountUpToAll.calls kj80 t135 t138 t139 _ A91.out).mono ?_); rintro e w98 ⟨rfl, hb⟩; refine ⟨_, rfl, ?_⟩; have n0_ := am_ (below_step tc0_ hb); clear HB; have HB := n0_; clear n0_; (try clear hb)) | ((with_reducible refine gate_callee (f := 61) rfl ?_); refine goesL_ (some 225) rfl rfl Try.func61 (by kernel_rfl) rfl #[.slice A1 l1.length c1] rfl tc1_ ?_; (with_reducible refine (spec_DrawCountSymmetric.calls _ _ l1 t140 t141 _ ?side1 ?side2 A92.out).mono ?_); (case side1 => exact tc51_); (case side2 => exact HC1.out); rintro e w99 ⟨rfl, hb⟩; refine ⟨_, rfl, ?_⟩; have n0_ := am_ (below_step tc0_ hb); clear HB; have HB := n0_; clear n0_; (try clear hb)) | ((with_reducible refine gate_callee (f := 51) rfl ?_); refine goesL_ (some 231) rfl rfl Try.func51 (by kernel_rfl) rfl #[.int .i64 t140, .int .i64 t141] rfl tc1_ ?_; (with_reducible refine (impl_CountSymmetric.calls kj80 t140 t141 t142 t143 _ A93.out).mono ?_); rintro e w100 ⟨rfl, hb⟩; refine ⟨_, rfl, ?_⟩; have n0_ := am_ (below_step tc0_ hb); clear HB; have HB := n0_; clear n0_; (try clear hb)) | ((with_reducible refine gate_callee (f := 62) rfl ?_); refine goesL_ (some 237) rfl rfl Try.func62 (by kernel_rfl) rfl #[.int .i64 t140, .int .i64 t141] rfl tc1_ ?_; (with_reducible refine (spec_CountSymmetric.calls kj80 t140 t141 t144 t145 _ A94.out).mono ?_); rintro e w101 ⟨rfl, hb⟩; refine ⟨_, rfl, ?_⟩; have n0_ := am_ (below_step tc0_ hb); clear HB; have HB := n0_; clear n0_; (try clear hb)))
                     (try simp only [Act.put, List.setIfInBounds_toArray, List.set_cons_zero, List.set_cons_succ])
                     go_cut [257] (fun v257 wc => ∃ (kq : Nat) (x257_94 : Bool), v257 = .bool x257_94 ∧ Aside0 (laws_FnSymmetricCounted.j8 kq t135 t136 t137 x257_94 = some r) ∧ Aside0 (kq ≤ kj80) ∧ Aside0 (Below w.heap.size w wc))
                     case first => as_aux_lemma =>
                      have H := HC95.out
                      clear HC95
                      by_cases c102 : (t137 != t139) = true
                      ·rw [if_pos c102] at H
                       exact (laws_FnSymmetricCounted.j8_dead _ _ _ _ (H.trans (congrArg some HR_.out))).elim
                      ·rw [if_neg c102] at H
                       have c102b0 : (t137 != t139) = false := by simpa using c102
                       (try (have c102b1 : decide (t137 = t139) = true := by simpa using c102))
                       (try (have c102b2 : (t137 == t139) = true := by simpa using c102))
                       clear c102
                       (first | rw [c102b0] | (simp only [i64_w, i32_w]; rw [c102b0]) | skip)
                       by_cases c103 : t136 = t138
                       ·rw [if_pos c103] at H
                        have c103b0 : (t136 == t138) = true := beq_iff_eq.mpr c103
                        have c103b1 : (t136 != t138) = false := bne_eq_false_iff_eq.mpr c103
                        clear c103
                        by_cases c104 : (t143 != t145) = true
                        ·rw [if_pos c104] at H
                         exact (laws_FnSymmetricCounted.j8_dead _ _ _ _ (H.trans (congrArg some HR_.out))).elim
                        ·rw [if_neg c104] at H
                         have c104b0 : (t143 != t145) = false := by simpa using c104
                         (try (have c104b1 : decide (t143 = t145) = true := by simpa using c104))
                         (try (have c104b2 : (t143 == t145) = true := by simpa using c104))
                         clear c104
                         have H' := am_ H
                         clear H
                         go_wp2
                         go_meet
                         case rel => exact ⟨_, ((t142 != t144)), tc7_, H', ⟨by have := HJ7.out; have := HK2.out; have := HJ43.out; have := HJ57.out; have := HJ68.out; have := HJ70.out; have := HJ78.out; have := HJ80.out; first | omega | exact Nat.le_refl _⟩, ⟨by repeat (first | (with_reducible first | exact HB.out | apply below_alloc | apply pw_below_drewN | apply below_drew1) | exact HB.out)⟩⟩
                       ·rw [if_neg c103] at H
                        exact (laws_FnSymmetricCounted.j8_dead _ _ _ _ (H.trans (congrArg some HR_.out))).elim
                     case rest => as_aux_lemma =>
                      clear HC95
                      try clear c1
                      try clear p1
                      try clear q1
                      try clear hx1
                      try clear c2
                      try clear p2
                      try clear c3
                      try clear c4
                      try clear c5
                      try clear c6
                      try clear p6
                      try clear c7
                      try clear c8
                      try clear c10
                      try clear c11
                      try clear p11
                      try clear q11
                      try clear hx11
                      try clear c12
                      try clear c12b0
                      try clear c12b1
                      try clear c12b2
                      try clear c15
                      try clear c17
                      try clear c17b0
                      try clear c18
                      try clear c18b0
                      try clear c19
                      try clear c19b0
                      try clear c21
                      try clear c21b0
                      try clear c23
                      try clear c24
                      try clear c25
                      try clear c26
                      try clear c26b0
                      try clear c28
                      try clear c28b0
                      try clear c29
                      try clear c29b0
                      try clear c31
                      try clear c45
                      try clear c46
                      try clear c47
                      try clear c48
                      try clear c48b0
                      try clear c48b1
                      try clear c49
                      try clear c51
                      try clear c52
                      try clear c53
                      try clear c54
                      try clear c55
                      try clear c56
                      try clear c57
                      try clear c58
                      try clear c59
                      try clear c60
                      try clear c61
                      try clear c62
                      try clear p64
                      try clear c65
                      try clear c65b0
                      try clear c65b1
                      try clear c65b2
                      try clear c66
                      try clear c66b0
                      try clear c66b1
                      try clear c67
                      try clear c67b0
                      try clear c67b1
                      try clear c67b2
                      try clear c68
                      try clear c70
                      try clear c72
                      try clear c74
                      try clear c75
                      try clear c75b0
                      try clear c75b1
                      try clear c80
                      try clear c82
                      try clear c84
                      try clear c85
                      try clear c85b0
                      try clear c85b1
                      try clear c102
                      try clear c102b0
                      try clear c102b1
                      try clear c102b2
                      try clear c103
                      try clear c103b0
                      try clear c103b1
                      try clear c104
                      try clear c104b0
                      try clear c104b1
                      try clear c104b2
                      try clear hx112_0
                      try clear hx115_0
                      try clear hx117_0
                      try clear p1
                      try clear p11
                      try clear p112
                      try clear p115
                      try clear p117
                      try clear p2
                      try clear p6
                      try clear p64
                      try clear q1
                      try clear q11
                      try clear q112
                      try clear q115
                      try clear q117
                      obtain ⟨kq, x257_94, rfl, HA, HJ94, HB⟩ := hcut
                      cases kq with
                      | zero => exact absurd HA.out (by simp [laws_FnSymmetricCounted.j8])
                      | succ kj94 =>
                       have H := HA.out
                       clear HA
                       simp only [laws_FnSymmetricCounted.j8] at H
                       by_cases c105 : x257_94 = true
                       ·subst c105
                        exact absurd ((show (some false : Option Bool) = some r from (by rw [if_pos rfl] at H; exact H)).trans (congrArg some HR_.out)) (by simp)
                       ·replace c105 := Bool.eq_false_iff.mpr c105
                        subst c105
                        have H1 : (if t137 = true then ((impl_CountSigns.f kj94 t135).bind fun bt146 => (if bt146.2 = true then (if (wrap64 (8 * t136)) ≥ bt146.1 then (some (decide (t136 ≤ bt146.1))) else (some false)) else (some false))) else (some true)) = some r := by rw [if_neg (show ¬ (false = true) by decide)] at H; exact H
                        clear H
                        have H := H1
                        clear H1
                        by_cases c106 : t137 = true
                        ·subst c106
                         have H1 : ((impl_CountSigns.f kj94 t135).bind fun bt146 => (if bt146.2 = true then (if (wrap64 (8 * t136)) ≥ bt146.1 then (some (decide (t136 ≤ bt146.1))) else (some false)) else (some false))) = some r := by rw [if_pos rfl] at H; exact H
                         clear H
                         have H := H1
                         clear H1
                         replace H := Option.bind_eq_some_iff.mp H
                         obtain ⟨⟨t146, t147⟩, A1070, H⟩ := H
                         replace H : (if t147 = true then (if (wrap64 (8 * t136)) ≥ t146 then (some (decide (t136 ≤ t146))) else (some false)) else (some false)) = some r := H
                         have A107 := am_ A1070
                         clear A1070
                         by_cases c108 : t147 = true
                         ·subst c108
                          have H1 : (if (wrap64 (8 * t136)) ≥ t146 then (some (decide (t136 ≤ t146))) else (some false)) = some r := by rw [if_pos rfl] at H; exact H
                          clear H
                          have H := H1
                          clear H1
                          by_cases c109 : (wrap64 (8 * t136)) ≥ t146
                          ·rw [if_pos c109] at H
                           have c109b0 : decide (t146 ≤ (wrap64 (8 * t136))) = true := decide_eq_true c109
                           clear c109
                           obtain rfl := Option.some.inj H
                           go_wp2_with (first | ((with_reducible refine gate_callee (f := 63) rfl ?_); refine goesL_ (some 262) rfl rfl Try.func63 (by kernel_rfl) rfl #[.int .i64 t135] rfl tc1_ ?_; (with_reducible refine (impl_CountSigns.calls kj94 t135 t146 true _ A107.out).mono ?_); rintro e w' ⟨rfl, ⟨nd, rfl⟩⟩; refine ⟨_, rfl, ?_⟩))
                           go_ret
                           exact ⟨by first | rfl | (simp [errW_none, errW_some] <;> rfl) | (simp [*, errW_none, errW_some] <;> rfl), by repeat (first | (with_reducible first | exact HB.out | apply below_alloc | apply pw_below_drewN | apply below_drew1) | exact HB.out)⟩
                          ·rw [if_neg c109] at H
                           exact absurd (H.trans (congrArg some HR_.out)) (by simp)
                         ·replace c108 := Bool.eq_false_iff.mpr c108
                          subst c108
                          exact absurd ((show (some false : Option Bool) = some r from tc60_).trans (congrArg some HR_.out)) (by simp)
                        ·replace c106 := Bool.eq_false_iff.mpr c106
                         subst c106
                         have H1 : (some true) = some r := by rw [if_neg (show ¬ (false = true) by decide)] at H; exact H
                         clear H
                         have H := H1
                         clear H1
                         obtain rfl := Option.some.inj H
                         go_wp2
                         go_ret
                         exact ⟨by first | rfl | (simp [errW_none, errW_some] <;> rfl) | (simp [*, errW_none, errW_some] <;> rfl), by repeat (first | (with_reducible first | exact HB.out | apply below_alloc | apply pw_below_drewN | apply below_drew1) | exact HB.out)⟩

/-- THE ONE PURE STATEMENT of laws_FnSymmetricCounted: yours. -/

def laws_FnSymmetricCounted.Pure : Prop := ∀ (l0 : List Int) (l1 : List Int), l0.length ≤ maxLen → l0.length * 1 ≤ 140737488351232 → (∀ x ∈ l0, (Lit.int .u8 x).wf = true) → l1.length ≤ maxLen → l1.length * 1 ≤ 140737488351232 → (∀ x ∈ l1, (Lit.int .u8 x).wf = true) → ∃ k, laws_FnSymmetricCounted.f k l0 l1 = some true
theorem laws_FnSymmetricCounted.walk (P : laws_FnSymmetricCounted.Pure) (a0 : Option Addr) (len0 cap0 : Nat) (z0 : List Int) (a1 : Option Addr) (len1 cap1 : Nat) (z1 : List Int) (w : World) (w0 : (a0 = none ∧ len0 = 0 ∧ cap0 = 0 ∧ z0 = []) ∨ ∃ x, a0 = some x ∧ len0 ≤ cap0 ∧ cap0 ≤ maxLen ∧ z0.length = cap0 ∧ (∀ i, i < z0.length → w.cell? (x.add i) = some (.int .u8 (z0.getD i 0))) ∧ ∀ n ∈ z0, (Lit.int .u8 n).wf = true) (y0 : len0 * 1 ≤ 140737488351232) (w1 : (a1 = none ∧ len1 = 0 ∧ cap1 = 0 ∧ z1 = []) ∨ ∃ x, a1 = some x ∧ len1 ≤ cap1 ∧ cap1 ≤ maxLen ∧ z1.length = cap1 ∧ (∀ i, i < z1.length → w.cell? (x.add i) = some (.int .u8 (z1.getD i 0))) ∧ ∀ n ∈ z1, (Lit.int .u8 n).wf = true) (y1 : len1 * 1 ≤ 140737488351232) :
  Calls Try.prog 6 #[.slice a0 len0 cap0, .slice a1 len1 cap1] w fun e w' => e = .returned (.bool true) ∧ Below w.heap.size w w' := by
 obtain ⟨l0, rfl, hr0, hm0, hw0, hc0⟩ := ReadsInt.ofRowC w0
 obtain ⟨l1, rfl, hr1, hm1, hw1, hc1⟩ := ReadsInt.ofRowC w1
 obtain ⟨k, h⟩ := P l0 l1 hm0 y0 hw0 hm1 y1 hw1
 refine (laws_FnSymmetricCounted.calls k _ _ l0 _ _ l1 true w rfl (Kd.C_of_reads (d := (0 : Int)) (h1 := fun _ => rfl) hr0) hc0 (Kd.C_of_reads (d := (0 : Int)) (h1 := fun _ => rfl) hr1) hc1 h).mono ?_
 rintro e w' ⟨rfl, hd⟩
 exact ⟨rfl, hd⟩

end Go.Proofs.Ytkbehdgneojdbaa.X
