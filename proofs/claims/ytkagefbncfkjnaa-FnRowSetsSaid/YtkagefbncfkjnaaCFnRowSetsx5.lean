-- Written by a program of this session (wip/xprint.py) that drives the kit's print; the contracts of what it does not take are this session's own.
import Derived.Test.YtkagefbncfkjnaaCFnRowSetsx0
import Derived.Test.YtkagefbncfkjnaaCFnRowSetsx1
import Derived.Test.YtkagefbncfkjnaaCFnRowSetsx2
import Derived.Test.YtkagefbncfkjnaaCFnRowSetsx3
import Derived.Test.YtkagefbncfkjnaaCFnRowSetsx4
namespace Go.Proofs.Ytkagefbncfkjnaa.X
open Go.RowKit Go.Proofs.YtkagefbncfkjnaaW.PrintWords Go.Proofs.YtkagefbncfkjnaaW.PrintLast Go.Proofs.YtkagefbncfkjnaaW.PrintMore
attribute [local go_sem] max2_int min2_int max_two min_two max_three min_three max_four min_four   -- for this text's walks alone
set_option linter.unusedVariables false
set_option linter.unusedSimpArgs false

/-! ### spec_SetSum: function 28 -/
def spec_SetSum.l0 : Nat → List Int → Int → Int → List (List (List Int)) → Int → Int → Option (Int × Bool)
 | 0, _, _, _, _, _, _ => none
 | k + 1, x0, x1, x6, x15, x16, x17 => if x17 < x16 then (if 0 ≤ x17 then (if x17 < (x15.length : Int) then ((spec_weSetWeight.f k (rd_L4 x15 x17) x0 x1).bind fun t106 => (spec_SetSum.l0 k x0 x1 (wrap64 (x6 + t106)) x15 x16 (wrap64 (x17 + 1)))) else (none)) else (none)) else (some (x6, true))
def spec_SetSum.f (k : Nat) (l0 : List Int) (a1 : Int) : Option (Int × Bool) := (spec_weGiven.f k l0 a1).bind fun t101 => (if t101 = true then ((spec_weAll.f k (l0.length : Int)).bind fun t102 => (spec_SetSum.l0 k l0 a1 0 t102 (t102.length : Int) 0)) else (some (0, false)))
set_option maxHeartbeats 8000000 in
set_option maxRecDepth 100000 in
theorem spec_SetSum.calls (k : Nat) (A0 : Option Addr) (c0 : Nat) (l0 : List Int) (a1 : Int) (r1 : Int) (r2 : Bool) (w : World) (hr0 : Kd.C (Kd.int .i64) w A0 l0.length l0) (hc0 : l0.length ≤ c0) (h : spec_SetSum.f k l0 a1 = some (r1, r2)) :
  Calls Try.prog 28 #[.slice A0 l0.length c0, .int .i64 a1] w fun e w' => e = .returned (.tuple #[.int .i64 r1, .bool r2]) ∧ Below w.heap.size w w' := by
 have HR0 := am_ hr0
 have HC0 := am_ hc0
 clear hr0 hc0
 have HB := am_ (Below.refl w.heap.size w)
 have H : ((spec_weGiven.f k l0 a1).bind fun t101 => (if t101 = true then ((spec_weAll.f k (l0.length : Int)).bind fun t102 => (spec_SetSum.l0 k l0 a1 0 t102 (t102.length : Int) 0)) else (some (0, false)))) = some (r1, r2) := h
 clear h
 replace H := Option.bind_eq_some_iff.mp H
 obtain ⟨t101, A30, H⟩ := H
 replace H : (if t101 = true then ((spec_weAll.f k (l0.length : Int)).bind fun t102 => (spec_SetSum.l0 k l0 a1 0 t102 (t102.length : Int) 0)) else (some (0, false))) = some (r1, r2) := H
 have A3 := am_ A30
 clear A30
 by_cases c4 : t101 = true
 ·subst c4
  have H1 : ((spec_weAll.f k (l0.length : Int)).bind fun t102 => (spec_SetSum.l0 k l0 a1 0 t102 (t102.length : Int) 0)) = some (r1, r2) := by rw [if_pos rfl] at H; exact H
  clear H
  have H := H1
  clear H1
  replace H := Option.bind_eq_some_iff.mp H
  obtain ⟨t102, A50, H⟩ := H
  replace H : (spec_SetSum.l0 k l0 a1 0 t102 (t102.length : Int) 0) = some (r1, r2) := H
  have A5 := am_ A50
  clear A50
  have H' := am_ H
  clear H
  go_enter Try.func28, Try.ntmps28
  go_wp2_with (first | ((with_reducible refine gate_callee (f := 66) rfl ?_); refine goesL_ (some 11) rfl rfl Try.func66 (by kernel_rfl) rfl #[.slice A0 l0.length c0, .int .i64 a1] rfl tc2_ ?_; (with_reducible refine (spec_weGiven.calls k _ _ l0 a1 true _ ?side1 ?side2 A3.out).mono ?_); (case side1 => exact tc7_); (case side2 => exact HC0.out); rintro e w' ⟨rfl, ⟨nd, rfl⟩⟩; refine ⟨_, rfl, ?_⟩) | ((with_reducible refine gate_callee (f := 47) rfl ?_); refine goesL_ (some 15) rfl rfl Try.func47 (by kernel_rfl) rfl #[.int .i64 (l0.length : Int)] rfl tc2_ ?_; (with_reducible refine (spec_weAll.calls k (l0.length : Int) t102 _ A5.out).mono ?_); rintro e w6 ⟨v103, rfl, ho0, hb⟩; refine ⟨_, rfl, ?_⟩; have n0_ := am_ (Kd.N_lower (Kd.N_mono (ok' := fun k_ => True) ho0 (fun k_ hk_ => trivial)) (below_size tc0_)); have n1_ := am_ (below_step tc0_ hb); clear HB; have HO104 := n0_; have HB := n1_; clear n0_ n1_; (try clear hb ho0); obtain ⟨Ao7, co7, eo7⟩ := Kd.N_slice HO104.out; subst eo7))
  go_loopg [6, 17] k (fun kq v6 v17 w' => ∃ (x6_1 : Int) (x17_1 : Int), v6 = .int .i64 x6_1 ∧ v17 = .int .i64 x17_1 ∧ Aside0 (spec_SetSum.l0 kq l0 a1 x6_1 t102 (t102.length : Int) x17_1 = some (r1, r2)) ∧ Aside0 (kq ≤ k) ∧ Aside0 (Kd.N (Kd.slice 28 (Kd.slice 3 (Kd.int .i64))) 25 w' w.heap.size (fun _ => True) (.slice Ao7 t102.length co7) t102) ∧ Aside0 (Below w.heap.size w w'))
  case atStart => exact ⟨(0), (0), tc6_, tc6_, H', ⟨Nat.le_refl _⟩, ⟨by (with_reducible repeat (first | apply Kd.N_alloc | apply Kd.N_drewN | apply Kd.N_drew)); exact HO104.out⟩, ⟨by repeat (first | (with_reducible first | exact HB.out | apply below_alloc | apply pw_below_drewN | apply below_drew1) | exact HB.out)⟩⟩
  case round =>
   clear H'
   try clear c2
   try clear p2
   try clear c4
   try clear c6
   obtain ⟨x6_1, x17_1, rfl, rfl, HA, HK1, HO_15, HB⟩ := hrel
   cases gk with
   | zero => exact absurd HA.out (by simp [spec_SetSum.l0])
   | succ k1 =>
    have H := HA.out
    clear HA
    simp only [spec_SetSum.l0] at H
    by_cases c8 : x17_1 < (t102.length : Int)
    ·rw [if_pos c8] at H
     have c8b0 : decide (x17_1 < (t102.length : Int)) = true := decide_eq_true c8
     clear c8
     by_cases c9 : 0 ≤ x17_1
     ·rw [if_pos c9] at H
      have c9b0 : decide (0 ≤ x17_1) = true := decide_eq_true c9
      clear c9
      by_cases c10 : x17_1 < (t102.length : Int)
      ·rw [if_pos c10] at H
       have c10b0 : decide (x17_1 < (t102.length : Int)) = true := decide_eq_true c10
       clear c10
       replace H := Option.bind_eq_some_iff.mp H
       obtain ⟨t106, A110, H⟩ := H
       replace H : (spec_SetSum.l0 k1 l0 a1 (wrap64 (x6_1 + t106)) t102 (t102.length : Int) (wrap64 (x17_1 + 1))) = some (r1, r2) := H
       have A11 := am_ A110
       clear A110
       have H' := am_ H
       clear H
       have p105 : 0 ≤ (x17_1 : Int) := of_decide_eq_true tc1_
       have q105 : x17_1 < (t102.length : Int) := of_decide_eq_true tc1_
       obtain ⟨ad105, A105_0, c105_0, e105, hx105_0, hl105_0, hi105_0⟩ := at_L4 (Kd.N_reads' HO_15.out).2.2 x17_1 p105 q105
       cases e105
       obtain ⟨ce105, hce105, hMe105, hcc105⟩ := Kd.N_get HO_15.out [] x17_1 p105 (by first | exact q105 | exact of_decide_eq_true tc1_ | (have e_ := (Kd.N_reads' HO_15.out).1; omega))
       obtain ⟨ua105_0, uc105_0, rfl, ul105_0, ge105_0⟩ := Kd.FK_slice_open hMe105
       have hv105_0 := hcc105 0 _ rfl
       rw [Nat.add_zero, show ((Kd.slice 28 (Kd.slice 3 (Kd.int .i64)))).sz = 1 from rfl, Nat.mul_one] at hv105_0
       replace hv105_0 := Option.some.inj (hv105_0.symm.trans hx105_0)
       injection hv105_0 with hva_ hvn_ hvc_
       rw [hva_] at ge105_0
       rw [hvc_] at ul105_0
       have HL105_0 := am_ (show Kd.V (Kd.slice 3 (Kd.int .i64)) 28 _ w.heap.size _ _ (rd_L4 t102 x17_1) from Kd.V_mk ul105_0 ge105_0)
       clear hva_ hvn_ hvc_ ge105_0 ul105_0
       clear hcc105 hce105
       have HR105_0 := am_ hi105_0
       have HC105_0 := am_ hl105_0
       clear hi105_0 hl105_0
       replace p105 := eq_true p105
       replace q105 := eq_true q105
       go_wp2_with (first | ((with_reducible refine gate_callee (f := 67) rfl ?_); refine goesL_ (some 25) rfl rfl Try.func67 (by kernel_rfl) rfl #[.slice A105_0 (rd_L4 t102 x17_1).length c105_0, .slice A0 l0.length c0, .int .i64 a1] rfl tc2_ ?_; (with_reducible refine (spec_weSetWeight.calls k1 _ _ (rd_L4 t102 x17_1) _ _ l0 a1 t106 _ ?side1 ?side2 ?side3 ?side4 A11.out).mono ?_); (case side1 => repeat (first | exact (by repeat (first | (with_reducible exact HR105_0.out) | (with_reducible refine Kd.C_alloc ?_ _) | (with_reducible refine Kd.C_drewN ?_ _) | (with_reducible refine Kd.C_drew ?_) | exact HR105_0.out)) | (with_reducible refine Kd.C_alloc ?_ _) | (with_reducible refine Kd.C_drewN ?_ _) | (with_reducible refine Kd.C_drew ?_))); (case side2 => exact HC105_0.out); (case side3 => exact tc11_); (case side4 => exact HC0.out); rintro e w12 ⟨rfl, hb⟩; refine ⟨_, rfl, ?_⟩; have n0_ := am_ (Kd.N_below (by (with_reducible repeat (first | apply Kd.N_alloc | apply Kd.N_drewN | apply Kd.N_drew)); exact HO_15.out) hb); have n1_ := am_ (Kd.V_below (by (with_reducible repeat (first | apply Kd.V_alloc | apply Kd.V_drewN | apply Kd.V_drew)); exact HL105_0.out) hb); have n2_ := am_ (Kd.C_below (by repeat (first | (with_reducible exact HR105_0.out) | (with_reducible refine Kd.C_alloc ?_ _) | (with_reducible refine Kd.C_drewN ?_ _) | (with_reducible refine Kd.C_drew ?_) | exact HR105_0.out)) hb); have n3_ := am_ (below_step tc0_ hb); clear HO_15 HL105_0; clear HR105_0 HB; have HO_15 := n0_; have HL105_0 := n1_; have HR105_0 := n2_; have HB := n3_; clear n0_ n1_ n2_ n3_; (try clear hb)))
       go_roundg k1
       case measure => have := HK1.out; omega
       case rel => exact ⟨(wrap64 (x6_1 + t106)), (wrap64 (x17_1 + 1)), tc6_, tc6_, H', ⟨by have := HK1.out; omega⟩, ⟨by (with_reducible repeat (first | apply Kd.N_alloc | apply Kd.N_drewN | apply Kd.N_drew)); exact HO_15.out⟩, ⟨by repeat (first | (with_reducible first | exact HB.out | apply below_alloc | apply pw_below_drewN | apply below_drew1) | exact HB.out)⟩⟩
      ·rw [if_neg c10] at H
       exact absurd H (by simp)
     ·rw [if_neg c9] at H
      exact absurd H (by simp)
    ·rw [if_neg c8] at H
     have c8b0 : decide (x17_1 < (t102.length : Int)) = false := decide_eq_false c8
     clear c8
     simp only [Option.some.injEq, Prod.mk.injEq] at H
     obtain ⟨rfl, rfl⟩ := H
     go_wp2
     go_ret2
     exact ⟨by first | rfl | (simp [errW_none, errW_some] <;> rfl) | (simp [*, errW_none, errW_some] <;> rfl), by repeat (first | (with_reducible first | exact HB.out | apply below_alloc | apply pw_below_drewN | apply below_drew1) | exact HB.out)⟩
 ·replace c4 := Bool.eq_false_iff.mpr c4
  subst c4
  have H1 : (some (0, false)) = some (r1, r2) := by rw [if_neg (show ¬ (false = true) by decide)] at H; exact H
  clear H
  have H := H1
  clear H1
  simp only [Option.some.injEq, Prod.mk.injEq] at H
  obtain ⟨rfl, rfl⟩ := H
  go_enter Try.func28, Try.ntmps28
  go_wp2_with (first | ((with_reducible refine gate_callee (f := 66) rfl ?_); refine goesL_ (some 11) rfl rfl Try.func66 (by kernel_rfl) rfl #[.slice A0 l0.length c0, .int .i64 a1] rfl tc2_ ?_; (with_reducible refine (spec_weGiven.calls k _ _ l0 a1 false _ ?side1 ?side2 A3.out).mono ?_); (case side1 => exact tc7_); (case side2 => exact HC0.out); rintro e w' ⟨rfl, ⟨nd, rfl⟩⟩; refine ⟨_, rfl, ?_⟩))
  go_ret2
  exact ⟨by first | rfl | (simp [errW_none, errW_some] <;> rfl) | (simp [*, errW_none, errW_some] <;> rfl), by repeat (first | (with_reducible first | exact HB.out | apply below_alloc | apply pw_below_drewN | apply below_drew1) | exact HB.out)⟩

/-! ### laws_FnRowSets: function 4 -/
mutual
def laws_FnRowSets.j0 : Nat → List Int → List (List Int) → List (List Int) → Bool → Bool → Option (Bool)
 | 0, _, _, _, _, _ => none
 | k + 1, x1, x5, x6, x7, x54 => if x54 = true then (some false) else (if x7 = true then (laws_FnRowSets.l0 k x1 x5 x6 x6 (x6.length : Int) 0) else (laws_FnRowSets.j4 k x1))
def laws_FnRowSets.j4 : Nat → List Int → Option (Bool)
 | 0, _ => none
 | k + 1, x1 => (spec_DrawSetWeight.f k x1).bind fun bt135 => ((impl_SetWeight.f k bt135.1 bt135.2.1 bt135.2.2).bind fun bt142 => ((spec_SetWeight.f k bt135.1 bt135.2.1 bt135.2.2).bind fun bt144 => (if (bt142.2 != bt144.2) = true then (laws_FnRowSets.j5 k x1 true) else (laws_FnRowSets.j5 k x1 (bt142.1 != bt144.1)))))
def laws_FnRowSets.j5 : Nat → List Int → Bool → Option (Bool)
 | 0, _, _ => none
 | k + 1, x1, x183 => if x183 = true then (some false) else ((spec_DrawSetSum.f k x1).bind fun bt146 => ((impl_SetSum.f k bt146.1 bt146.2).bind fun bt150 => ((spec_SetSum.f k bt146.1 bt146.2).bind fun bt152 => (if (bt150.2 != bt152.2) = true then (laws_FnRowSets.j6 k bt146.1 bt146.2 bt150.1 bt150.2 true) else (laws_FnRowSets.j6 k bt146.1 bt146.2 bt150.1 bt150.2 (bt150.1 != bt152.1))))))
def laws_FnRowSets.j6 : Nat → List Int → Int → Int → Bool → Bool → Option (Bool)
 | 0, _, _, _, _, _ => none
 | k + 1, x22, x23, x24, x25, x208 => if x208 = true then (some false) else (if x25 = true then (laws_FnRowSets.l2 k x22 x23 x24 1 (x22.length : Int) 0) else (some true))
def laws_FnRowSets.l2 : Nat → List Int → Int → Int → Int → Int → Int → Option (Bool)
 | 0, _, _, _, _, _, _ => none
 | k + 1, x22, x23, x24, x28, x212, x213 => if x213 < x212 then (laws_FnRowSets.l3 k x22 x23 x24 x28 x213 (wrap64 (x213 + 1)) x212 x213) else (some (x24 == x28))
def laws_FnRowSets.l3 : Nat → List Int → Int → Int → Int → Int → Int → Int → Int → Option (Bool)
 | 0, _, _, _, _, _, _, _, _ => none
 | k + 1, x22, x23, x24, x28, x29, x30, x212, x213 => if x30 < (x22.length : Int) then (if 0 ≤ x29 then (if x29 < (x22.length : Int) then (if 0 ≤ x30 then (laws_FnRowSets.l3 k x22 x23 x24 (wrap64 (x28 * (wrap64 ((rd x22 x29) + (wrap64 (x23 * (rd x22 x30))))))) x29 (wrap64 (x30 + 1)) x212 x213) else (none)) else (none)) else (none)) else (laws_FnRowSets.l2 k x22 x23 x24 x28 x212 (wrap64 (x213 + 1)))
def laws_FnRowSets.l0 : Nat → List Int → List (List Int) → List (List Int) → List (List Int) → Int → Int → Option (Bool)
 | 0, _, _, _, _, _, _ => none
 | k + 1, x1, x5, x6, x56, x57, x58 => if x58 < x57 then (if 0 ≤ x58 then (if x58 < (x56.length : Int) then (if ((rd_L3 x56 x58).length : Int) = (wrap64 (x58 + 1)) then (laws_FnRowSets.l1 k x1 x5 x6 x58 (rd_L3 x56 x58) x56 x57 x58 (rd_L3 x56 x58) ((rd_L3 x56 x58).length : Int) 0) else (some false)) else (none)) else (none)) else (laws_FnRowSets.j4 k x1)
def laws_FnRowSets.l1 : Nat → List Int → List (List Int) → List (List Int) → Int → List Int → List (List Int) → Int → Int → List Int → Int → Int → Option (Bool)
 | 0, _, _, _, _, _, _, _, _, _, _, _ => none
 | k + 1, x1, x5, x6, x10, x11, x56, x57, x58, x68, x69, x70 => if x70 < x69 then (if 0 ≤ x70 then (if x70 < (x68.length : Int) then (if x70 > 0 then (if 0 ≤ (wrap64 (x70 - 1)) then (if (wrap64 (x70 - 1)) < (x11.length : Int) then (if (rd x11 (wrap64 (x70 - 1))) ≥ (rd x68 x70) then (laws_FnRowSets.j3 k x1 x5 x6 x10 x11 (rd x68 x70) x56 x57 x58 x68 x69 x70 true) else (if (wrap64 (x10 + 1)) < (x6.length : Int) then (if 0 ≤ (wrap64 (x10 + 1)) then (if x70 < ((rd_L3 x6 (wrap64 (x10 + 1))).length : Int) then (if (rd x68 x70) < (rd (rd_L3 x6 (wrap64 (x10 + 1))) x70) then (laws_FnRowSets.j3 k x1 x5 x6 x10 x11 (rd x68 x70) x56 x57 x58 x68 x69 x70 true) else (if 0 ≤ (wrap64 (x70 + 1)) then (if (wrap64 (x70 + 1)) < ((rd_L3 x6 (wrap64 (x10 + 1))).length : Int) then (laws_FnRowSets.j3 k x1 x5 x6 x10 x11 (rd x68 x70) x56 x57 x58 x68 x69 x70 (decide ((rd x68 x70) > (rd (rd_L3 x6 (wrap64 (x10 + 1))) (wrap64 (x70 + 1)))))) else (none)) else (none))) else (none)) else (none)) else (laws_FnRowSets.j3 k x1 x5 x6 x10 x11 (rd x68 x70) x56 x57 x58 x68 x69 x70 false))) else (none)) else (none)) else (if (wrap64 (x10 + 1)) < (x6.length : Int) then (if 0 ≤ (wrap64 (x10 + 1)) then (if x70 < ((rd_L3 x6 (wrap64 (x10 + 1))).length : Int) then (if (rd x68 x70) < (rd (rd_L3 x6 (wrap64 (x10 + 1))) x70) then (laws_FnRowSets.j3 k x1 x5 x6 x10 x11 (rd x68 x70) x56 x57 x58 x68 x69 x70 true) else (if 0 ≤ (wrap64 (x70 + 1)) then (if (wrap64 (x70 + 1)) < ((rd_L3 x6 (wrap64 (x10 + 1))).length : Int) then (laws_FnRowSets.j3 k x1 x5 x6 x10 x11 (rd x68 x70) x56 x57 x58 x68 x69 x70 (decide ((rd x68 x70) > (rd (rd_L3 x6 (wrap64 (x10 + 1))) (wrap64 (x70 + 1)))))) else (none)) else (none))) else (none)) else (none)) else (laws_FnRowSets.j3 k x1 x5 x6 x10 x11 (rd x68 x70) x56 x57 x58 x68 x69 x70 false))) else (none)) else (none)) else (laws_FnRowSets.l0 k x1 x5 x6 x56 x57 (wrap64 (x58 + 1)))
def laws_FnRowSets.j3 : Nat → List Int → List (List Int) → List (List Int) → Int → List Int → Int → List (List Int) → Int → Int → List Int → Int → Int → Bool → Option (Bool)
 | 0, _, _, _, _, _, _, _, _, _, _, _, _, _ => none
 | k + 1, x1, x5, x6, x10, x11, x13, x56, x57, x58, x68, x69, x70, x117 => if x117 = true then (some false) else (if x10 > 0 then (if 0 ≤ (wrap64 (x10 - 1)) then (if (wrap64 (x10 - 1)) < (x6.length : Int) then ((laws_uHas.f k (rd_L3 x6 (wrap64 (x10 - 1))) x13).bind fun t126 => (if 0 ≤ x10 then (if x10 < (x5.length : Int) then (if 0 ≤ x13 then (if x13 < ((rd_L3 x5 x10).length : Int) then (if (rd (rd_L3 x5 x10) x13) = 1 then (if t126 = true then (if (rd (rd_L3 x5 x10) x13) = 0 then (laws_FnRowSets.l1 k x1 x5 x6 x10 x11 x56 x57 x58 x68 x69 (wrap64 (x70 + 1))) else (some false)) else (laws_FnRowSets.l1 k x1 x5 x6 x10 x11 x56 x57 x58 x68 x69 (wrap64 (x70 + 1)))) else (if t126 = true then (if (rd (rd_L3 x5 x10) x13) = 0 then (laws_FnRowSets.l1 k x1 x5 x6 x10 x11 x56 x57 x58 x68 x69 (wrap64 (x70 + 1))) else (some false)) else (some false))) else (none)) else (none)) else (none)) else (none))) else (none)) else (none)) else (if 0 ≤ x10 then (if x10 < (x5.length : Int) then (if 0 ≤ x13 then (if x13 < ((rd_L3 x5 x10).length : Int) then (if (rd (rd_L3 x5 x10) x13) = 1 then (laws_FnRowSets.l1 k x1 x5 x6 x10 x11 x56 x57 x58 x68 x69 (wrap64 (x70 + 1))) else (some false)) else (none)) else (none)) else (none)) else (none)))
end
def laws_FnRowSets.f (k : Nat) (l0 : List Int) (l1 : List Int) : Option (Bool) := (laws_big.f l0 l1).bind fun t101 => (if t101 = true then (some true) else ((spec_DrawRowSets.f k l0).bind fun t102 => ((impl_RowSets.f k t102).bind fun bt105 => ((spec_RowSets.f k t102).bind fun bt109 => (if (bt105.2 != bt109.2) = true then (laws_FnRowSets.j0 k l1 t102 bt105.1 bt105.2 true) else ((laws_uSameRows.f k bt105.1 bt109.1).bind fun t113 => (laws_FnRowSets.j0 k l1 t102 bt105.1 bt105.2 (!t113))))))))
theorem laws_FnRowSets.j0_dead (k : Nat) (a0 : List Int) (a1 : List (List Int)) (a2 : List (List Int)) (a3 : Bool) (h : laws_FnRowSets.j0 k a0 a1 a2 a3 true = some true) : False := by cases k <;> simp [laws_FnRowSets.j0] at h
theorem laws_FnRowSets.j5_dead (k : Nat) (a0 : List Int) (h : laws_FnRowSets.j5 k a0 true = some true) : False := by cases k <;> simp [laws_FnRowSets.j5] at h
theorem laws_FnRowSets.j6_dead (k : Nat) (a0 : List Int) (a1 : Int) (a2 : Int) (a3 : Bool) (h : laws_FnRowSets.j6 k a0 a1 a2 a3 true = some true) : False := by cases k <;> simp [laws_FnRowSets.j6] at h
theorem laws_FnRowSets.j3_dead (k : Nat) (a0 : List Int) (a1 : List (List Int)) (a2 : List (List Int)) (a3 : Int) (a4 : List Int) (a5 : Int) (a6 : List (List Int)) (a7 : Int) (a8 : Int) (a9 : List Int) (a10 : Int) (a11 : Int) (h : laws_FnRowSets.j3 k a0 a1 a2 a3 a4 a5 a6 a7 a8 a9 a10 a11 true = some true) : False := by cases k <;> simp [laws_FnRowSets.j3] at h
set_option maxHeartbeats 8000000 in
set_option maxRecDepth 100000 in
theorem laws_FnRowSets.calls (k : Nat) (A0 : Option Addr) (c0 : Nat) (l0 : List Int) (A1 : Option Addr) (c1 : Nat) (l1 : List Int) (r : Bool) (w : World) (hr_ : r = true) (hr0 : Kd.C (Kd.int .u8) w A0 l0.length l0) (hc0 : l0.length ≤ c0) (hr1 : Kd.C (Kd.int .u8) w A1 l1.length l1) (hc1 : l1.length ≤ c1) (h : laws_FnRowSets.f k l0 l1 = some r) :
  Calls Try.prog 4 #[.slice A0 l0.length c0, .slice A1 l1.length c1] w fun e w' => e = .returned (.bool r) ∧ Below w.heap.size w w' := by
 have HR_ := am_ hr_
 clear hr_
 have HR0 := am_ hr0
 have HC0 := am_ hc0
 clear hr0 hc0
 have HR1 := am_ hr1
 have HC1 := am_ hc1
 clear hr1 hc1
 have HB := am_ (Below.refl w.heap.size w)
 have H : ((laws_big.f l0 l1).bind fun t101 => (if t101 = true then (some true) else ((spec_DrawRowSets.f k l0).bind fun t102 => ((impl_RowSets.f k t102).bind fun bt105 => ((spec_RowSets.f k t102).bind fun bt109 => (if (bt105.2 != bt109.2) = true then (laws_FnRowSets.j0 k l1 t102 bt105.1 bt105.2 true) else ((laws_uSameRows.f k bt105.1 bt109.1).bind fun t113 => (laws_FnRowSets.j0 k l1 t102 bt105.1 bt105.2 (!t113))))))))) = some r := h
 clear h
 replace H := Option.bind_eq_some_iff.mp H
 obtain ⟨t101, A30, H⟩ := H
 replace H : (if t101 = true then (some true) else ((spec_DrawRowSets.f k l0).bind fun t102 => ((impl_RowSets.f k t102).bind fun bt105 => ((spec_RowSets.f k t102).bind fun bt109 => (if (bt105.2 != bt109.2) = true then (laws_FnRowSets.j0 k l1 t102 bt105.1 bt105.2 true) else ((laws_uSameRows.f k bt105.1 bt109.1).bind fun t113 => (laws_FnRowSets.j0 k l1 t102 bt105.1 bt105.2 (!t113)))))))) = some r := H
 have A3 := am_ A30
 clear A30
 by_cases c4 : t101 = true
 ·subst c4
  have H1 : (some true) = some r := by rw [if_pos rfl] at H; exact H
  clear H
  have H := H1
  clear H1
  obtain rfl := Option.some.inj H
  go_enter Try.func4, Try.ntmps4
  go_wp2_with (first | (go_at_call 6; (with_reducible refine (laws_big.calls _ _ l0 _ _ l1 true _ ?side1 ?side2 ?side3 ?side4 A3.out).mono ?_); (case side1 => exact tc7_); (case side2 => exact HC0.out); (case side3 => exact tc34_); (case side4 => exact HC1.out); rintro e w' ⟨rfl, ⟨nd, rfl⟩⟩; (try first | exact ⟨rfl, _, World.drewN_drewN _ _ _⟩ | exact ⟨rfl, _, Eq.trans (World.drewN_drewN _ _ _) (congrArg (World.drewN _) (Nat.add_assoc _ _ _))⟩)))
  repeat (go_quiet (first | (go_at_call 6; (with_reducible refine (laws_big.calls _ _ l0 _ _ l1 true _ ?side1 ?side2 ?side3 ?side4 A3.out).mono ?_); (case side1 => exact tc7_); (case side2 => exact HC0.out); (case side3 => exact tc34_); (case side4 => exact HC1.out); rintro e w' ⟨rfl, ⟨nd, rfl⟩⟩; (try first | exact ⟨rfl, _, World.drewN_drewN _ _ _⟩ | exact ⟨rfl, _, Eq.trans (World.drewN_drewN _ _ _) (congrArg (World.drewN _) (Nat.add_assoc _ _ _))⟩))); try go_wp2_with (first | (go_at_call 6; (with_reducible refine (laws_big.calls _ _ l0 _ _ l1 true _ ?side1 ?side2 ?side3 ?side4 A3.out).mono ?_); (case side1 => exact tc7_); (case side2 => exact HC0.out); (case side3 => exact tc34_); (case side4 => exact HC1.out); rintro e w' ⟨rfl, ⟨nd, rfl⟩⟩; (try first | exact ⟨rfl, _, World.drewN_drewN _ _ _⟩ | exact ⟨rfl, _, Eq.trans (World.drewN_drewN _ _ _) (congrArg (World.drewN _) (Nat.add_assoc _ _ _))⟩))))
  go_ret
  exact ⟨by first | rfl | (simp [errW_none, errW_some] <;> rfl) | (simp [*, errW_none, errW_some] <;> rfl), by repeat (first | (with_reducible first | exact HB.out | apply below_alloc | apply pw_below_drewN | apply below_drew1) | exact HB.out)⟩
 ·replace c4 := Bool.eq_false_iff.mpr c4
  subst c4
  have H1 : ((spec_DrawRowSets.f k l0).bind fun t102 => ((impl_RowSets.f k t102).bind fun bt105 => ((spec_RowSets.f k t102).bind fun bt109 => (if (bt105.2 != bt109.2) = true then (laws_FnRowSets.j0 k l1 t102 bt105.1 bt105.2 true) else ((laws_uSameRows.f k bt105.1 bt109.1).bind fun t113 => (laws_FnRowSets.j0 k l1 t102 bt105.1 bt105.2 (!t113))))))) = some r := by rw [if_neg (show ¬ (false = true) by decide)] at H; exact H
  clear H
  have H := H1
  clear H1
  replace H := Option.bind_eq_some_iff.mp H
  obtain ⟨t102, A50, H⟩ := H
  replace H : ((impl_RowSets.f k t102).bind fun bt105 => ((spec_RowSets.f k t102).bind fun bt109 => (if (bt105.2 != bt109.2) = true then (laws_FnRowSets.j0 k l1 t102 bt105.1 bt105.2 true) else ((laws_uSameRows.f k bt105.1 bt109.1).bind fun t113 => (laws_FnRowSets.j0 k l1 t102 bt105.1 bt105.2 (!t113)))))) = some r := H
  have A5 := am_ A50
  clear A50
  replace H := Option.bind_eq_some_iff.mp H
  obtain ⟨⟨t105, t106⟩, A60, H⟩ := H
  replace H : ((spec_RowSets.f k t102).bind fun bt109 => (if (t106 != bt109.2) = true then (laws_FnRowSets.j0 k l1 t102 t105 t106 true) else ((laws_uSameRows.f k t105 bt109.1).bind fun t113 => (laws_FnRowSets.j0 k l1 t102 t105 t106 (!t113))))) = some r := H
  have A6 := am_ A60
  clear A60
  replace H := Option.bind_eq_some_iff.mp H
  obtain ⟨⟨t109, t110⟩, A70, H⟩ := H
  replace H : (if (t106 != t110) = true then (laws_FnRowSets.j0 k l1 t102 t105 t106 true) else ((laws_uSameRows.f k t105 t109).bind fun t113 => (laws_FnRowSets.j0 k l1 t102 t105 t106 (!t113)))) = some r := H
  have A7 := am_ A70
  clear A70
  have HC8 := am_ H
  clear H
  go_enter Try.func4, Try.ntmps4
  go_upto_region 6 with (first | (go_at_call 6; (with_reducible refine (laws_big.calls _ _ l0 _ _ l1 false _ ?side1 ?side2 ?side3 ?side4 A3.out).mono ?_); (case side1 => exact tc7_); (case side2 => exact HC0.out); (case side3 => exact tc34_); (case side4 => exact HC1.out); rintro e w' ⟨rfl, ⟨nd, rfl⟩⟩; (try first | exact ⟨rfl, _, World.drewN_drewN _ _ _⟩ | exact ⟨rfl, _, Eq.trans (World.drewN_drewN _ _ _) (congrArg (World.drewN _) (Nat.add_assoc _ _ _))⟩)) | (go_at_call 19; (with_reducible refine (spec_DrawRowSets.calls k _ _ l0 t102 _ ?side1 ?side2 A5.out).mono ?_); (case side1 => exact tc7_); (case side2 => exact HC0.out); rintro e w9 ⟨v103, rfl, ho0, hb⟩; have n0_ := am_ (Kd.S_lower ho0 (below_size tc0_)); have n1_ := am_ (below_step tc0_ hb); clear HB; have HO104 := n0_; have HB := n1_; clear n0_ n1_; (try clear hb ho0); obtain ⟨Ao10, co10, eo10⟩ := Kd.S_slice HO104.out; subst eo10) | (go_at_call 20; (with_reducible refine (impl_RowSets.calls k _ _ t102 t105 t106 _ ?side1 ?side2 A6.out).mono ?_); (case side1 => exact tc27_); (case side2 => exact (Kd.S_reads' HO104.out).2.1); rintro e w11 ⟨v107, rfl, ho0, hb⟩; have n0_ := am_ (Kd.S_below tc21_ hb); have n1_ := am_ (Kd.S_lower (Kd.S_new' ho0 (Kd.S_lt tc21_)) (below_size tc0_)); have n2_ := am_ (below_step tc0_ hb); clear HO104 HB; have HO104 := n0_; have HO108 := n1_; have HB := n2_; clear n0_ n1_ n2_; (try clear hb hb2 hk hi ho0)) | (go_at_call 21; (with_reducible refine (spec_RowSets.calls k _ _ t102 t109 t110 _ ?side1 ?side2 A7.out).mono ?_); (case side1 => exact tc27_); (case side2 => exact (Kd.S_reads' HO104.out).2.1); rintro e w12 ⟨v111, rfl, ho0, hb⟩; have n0_ := am_ (Kd.S_below tc21_ hb); have n1_ := am_ (Kd.S_below tc42_ hb); have n2_ := am_ (Kd.S_lower (Kd.S_new' (Kd.S_new' ho0 (Kd.S_lt tc21_)) (Kd.S_lt tc42_)) (below_size tc0_)); have n3_ := am_ (below_step tc0_ hb); clear HO104 HO108 HB; have HO104 := n0_; have HO108 := n1_; have HO112 := n2_; have HB := n3_; clear n0_ n1_ n2_ n3_; (try clear hb hb2 hk hi ho0)))
  repeat (go_quiet (first | (go_at_call 6; (with_reducible refine (laws_big.calls _ _ l0 _ _ l1 false _ ?side1 ?side2 ?side3 ?side4 A3.out).mono ?_); (case side1 => exact tc7_); (case side2 => exact HC0.out); (case side3 => exact tc34_); (case side4 => exact HC1.out); rintro e w' ⟨rfl, ⟨nd, rfl⟩⟩; (try first | exact ⟨rfl, _, World.drewN_drewN _ _ _⟩ | exact ⟨rfl, _, Eq.trans (World.drewN_drewN _ _ _) (congrArg (World.drewN _) (Nat.add_assoc _ _ _))⟩)) | (go_at_call 19; (with_reducible refine (spec_DrawRowSets.calls k _ _ l0 t102 _ ?side1 ?side2 A5.out).mono ?_); (case side1 => exact tc7_); (case side2 => exact HC0.out); rintro e w9 ⟨v103, rfl, ho0, hb⟩; have n0_ := am_ (Kd.S_lower ho0 (below_size tc0_)); have n1_ := am_ (below_step tc0_ hb); clear HB; have HO104 := n0_; have HB := n1_; clear n0_ n1_; (try clear hb ho0); obtain ⟨Ao10, co10, eo10⟩ := Kd.S_slice HO104.out; subst eo10) | (go_at_call 20; (with_reducible refine (impl_RowSets.calls k _ _ t102 t105 t106 _ ?side1 ?side2 A6.out).mono ?_); (case side1 => exact tc27_); (case side2 => exact (Kd.S_reads' HO104.out).2.1); rintro e w11 ⟨v107, rfl, ho0, hb⟩; have n0_ := am_ (Kd.S_below tc21_ hb); have n1_ := am_ (Kd.S_lower (Kd.S_new' ho0 (Kd.S_lt tc21_)) (below_size tc0_)); have n2_ := am_ (below_step tc0_ hb); clear HO104 HB; have HO104 := n0_; have HO108 := n1_; have HB := n2_; clear n0_ n1_ n2_; (try clear hb hb2 hk hi ho0)) | (go_at_call 21; (with_reducible refine (spec_RowSets.calls k _ _ t102 t109 t110 _ ?side1 ?side2 A7.out).mono ?_); (case side1 => exact tc27_); (case side2 => exact (Kd.S_reads' HO104.out).2.1); rintro e w12 ⟨v111, rfl, ho0, hb⟩; have n0_ := am_ (Kd.S_below tc21_ hb); have n1_ := am_ (Kd.S_below tc42_ hb); have n2_ := am_ (Kd.S_lower (Kd.S_new' (Kd.S_new' ho0 (Kd.S_lt tc21_)) (Kd.S_lt tc42_)) (below_size tc0_)); have n3_ := am_ (below_step tc0_ hb); clear HO104 HO108 HB; have HO104 := n0_; have HO108 := n1_; have HO112 := n2_; have HB := n3_; clear n0_ n1_ n2_ n3_; (try clear hb hb2 hk hi ho0))); go_upto_region 6 with (first | (go_at_call 6; (with_reducible refine (laws_big.calls _ _ l0 _ _ l1 false _ ?side1 ?side2 ?side3 ?side4 A3.out).mono ?_); (case side1 => exact tc7_); (case side2 => exact HC0.out); (case side3 => exact tc34_); (case side4 => exact HC1.out); rintro e w' ⟨rfl, ⟨nd, rfl⟩⟩; (try first | exact ⟨rfl, _, World.drewN_drewN _ _ _⟩ | exact ⟨rfl, _, Eq.trans (World.drewN_drewN _ _ _) (congrArg (World.drewN _) (Nat.add_assoc _ _ _))⟩)) | (go_at_call 19; (with_reducible refine (spec_DrawRowSets.calls k _ _ l0 t102 _ ?side1 ?side2 A5.out).mono ?_); (case side1 => exact tc7_); (case side2 => exact HC0.out); rintro e w9 ⟨v103, rfl, ho0, hb⟩; have n0_ := am_ (Kd.S_lower ho0 (below_size tc0_)); have n1_ := am_ (below_step tc0_ hb); clear HB; have HO104 := n0_; have HB := n1_; clear n0_ n1_; (try clear hb hb2 hk hi ho0); obtain ⟨Ao10, co10, eo10⟩ := Kd.S_slice HO104.out; subst eo10) | (go_at_call 20; (with_reducible refine (impl_RowSets.calls k _ _ t102 t105 t106 _ ?side1 ?side2 A6.out).mono ?_); (case side1 => exact tc27_); (case side2 => exact (Kd.S_reads' HO104.out).2.1); rintro e w11 ⟨v107, rfl, ho0, hb⟩; have n0_ := am_ (Kd.S_below tc21_ hb); have n1_ := am_ (Kd.S_lower (Kd.S_new' ho0 (Kd.S_lt tc21_)) (below_size tc0_)); have n2_ := am_ (below_step tc0_ hb); clear HO104 HB; have HO104 := n0_; have HO108 := n1_; have HB := n2_; clear n0_ n1_ n2_; (try clear hb hb2 hk hi ho0)) | (go_at_call 21; (with_reducible refine (spec_RowSets.calls k _ _ t102 t109 t110 _ ?side1 ?side2 A7.out).mono ?_); (case side1 => exact tc27_); (case side2 => exact (Kd.S_reads' HO104.out).2.1); rintro e w12 ⟨v111, rfl, ho0, hb⟩; have n0_ := am_ (Kd.S_below tc21_ hb); have n1_ := am_ (Kd.S_below tc42_ hb); have n2_ := am_ (Kd.S_lower (Kd.S_new' (Kd.S_new' ho0 (Kd.S_lt tc21_)) (Kd.S_lt tc42_)) (below_size tc0_)); have n3_ := am_ (below_step tc0_ hb); clear HO104 HO108 HB; have HO104 := n0_; have HO108 := n1_; have HO112 := n2_; have HB := n3_; clear n0_ n1_ n2_ n3_; (try clear hb hb2 hk hi ho0))))
  (try simp only [Act.put, List.setIfInBounds_toArray, List.set_cons_zero, List.set_cons_succ])
  go_cut [54] (fun v54 wc => ∃ (kq : Nat) (x54_7 : Bool), v54 = .bool x54_7 ∧ Aside0 (laws_FnRowSets.j0 kq l1 t102 t105 t106 x54_7 = some r) ∧ Aside0 (kq ≤ k) ∧ Aside0 (Kd.S (Kd.slice 3 (Kd.int .i64)) 28 wc w.heap.size (fun _ => True) (.slice Ao10 t102.length co10) t102) ∧ Aside0 (Kd.S (Kd.slice 3 (Kd.int .i64)) 28 wc w.heap.size (fun _ => True) v107 t105) ∧ Aside0 (Below w.heap.size w wc))
  case first => as_aux_lemma =>
   have H := HC8.out
   clear HC8
   by_cases c13 : (t106 != t110) = true
   ·rw [if_pos c13] at H
    exact (laws_FnRowSets.j0_dead _ _ _ _ _ (H.trans (congrArg some HR_.out))).elim
   ·rw [if_neg c13] at H
    have c13b0 : (t106 != t110) = false := by simpa using c13
    (try (have c13b1 : decide (t106 = t110) = true := by simpa using c13))
    (try (have c13b2 : (t106 == t110) = true := by simpa using c13))
    clear c13
    (first | rw [c13b0] | (simp only [i64_w, i32_w]; rw [c13b0]) | skip)
    replace H := Option.bind_eq_some_iff.mp H
    obtain ⟨t113, A140, H⟩ := H
    replace H : (laws_FnRowSets.j0 k l1 t102 t105 t106 (!t113)) = some r := H
    have A14 := am_ A140
    clear A140
    have H' := am_ H
    clear H
    obtain ⟨Ao15, co15, eo15⟩ := Kd.S_slice HO108.out
    subst eo15
    obtain ⟨Ao16, co16, eo16⟩ := Kd.S_slice HO112.out
    subst eo16
    go_wp2_with (first | (go_at_call 15; (with_reducible refine (laws_uSameRows.calls k _ _ t105 _ _ t109 t113 _ ?side1 ?side2 ?side3 ?side4 A14.out).mono ?_); (case side1 => exact tc54_); (case side2 => exact (Kd.S_reads' HO108.out).2.1); (case side3 => exact tc55_); (case side4 => exact (Kd.S_reads' HO112.out).2.1); rintro e w' ⟨rfl, ⟨nd, rfl⟩⟩; (try first | exact ⟨rfl, _, World.drewN_drewN _ _ _⟩ | exact ⟨rfl, _, Eq.trans (World.drewN_drewN _ _ _) (congrArg (World.drewN _) (Nat.add_assoc _ _ _))⟩)))
    repeat (go_quiet (first | (go_at_call 15; (with_reducible refine (laws_uSameRows.calls k _ _ t105 _ _ t109 t113 _ ?side1 ?side2 ?side3 ?side4 A14.out).mono ?_); (case side1 => exact tc54_); (case side2 => exact (Kd.S_reads' HO108.out).2.1); (case side3 => exact tc55_); (case side4 => exact (Kd.S_reads' HO112.out).2.1); rintro e w' ⟨rfl, ⟨nd, rfl⟩⟩; (try first | exact ⟨rfl, _, World.drewN_drewN _ _ _⟩ | exact ⟨rfl, _, Eq.trans (World.drewN_drewN _ _ _) (congrArg (World.drewN _) (Nat.add_assoc _ _ _))⟩))); try go_wp2_with (first | (go_at_call 15; (with_reducible refine (laws_uSameRows.calls k _ _ t105 _ _ t109 t113 _ ?side1 ?side2 ?side3 ?side4 A14.out).mono ?_); (case side1 => exact tc54_); (case side2 => exact (Kd.S_reads' HO108.out).2.1); (case side3 => exact tc55_); (case side4 => exact (Kd.S_reads' HO112.out).2.1); rintro e w' ⟨rfl, ⟨nd, rfl⟩⟩; (try first | exact ⟨rfl, _, World.drewN_drewN _ _ _⟩ | exact ⟨rfl, _, Eq.trans (World.drewN_drewN _ _ _) (congrArg (World.drewN _) (Nat.add_assoc _ _ _))⟩))))
    (try subst hji35)
    (try subst hji43)
    go_meet
    case rel => exact ⟨_, (!t113), tc6_, H', ⟨by first | omega | exact Nat.le_refl _⟩, ⟨by (with_reducible repeat (first | apply Kd.S_alloc | apply Kd.S_drewN | apply Kd.S_drew)); exact Kd.S_mono HO104.out (fun _ _ => trivial)⟩, ⟨by (with_reducible repeat (first | apply Kd.S_alloc | apply Kd.S_drewN | apply Kd.S_drew)); exact Kd.S_mono HO108.out (fun _ _ => trivial)⟩, ⟨by repeat (first | (with_reducible first | exact HB.out | apply below_alloc | apply pw_below_drewN | apply below_drew1) | exact HB.out)⟩⟩
  case rest => as_aux_lemma =>
   clear HC8
   try clear c1
   try clear p2
   try clear c4
   try clear c13
   try clear c13b0
   try clear c13b1
   try clear c13b2
   obtain ⟨kq, x54_7, rfl, HA, HJ7, HO_5, HO_6, HB⟩ := hcut
   cases kq with
   | zero => exact absurd HA.out (by simp [laws_FnRowSets.j0])
   | succ kj7 =>
    have H := HA.out
    clear HA
    simp only [laws_FnRowSets.j0] at H
    by_cases c17 : x54_7 = true
    ·subst c17
     exact absurd ((show (some false : Option Bool) = some r from (by rw [if_pos rfl] at H; exact H)).trans (congrArg some HR_.out)) (by simp)
    ·replace c17 := Bool.eq_false_iff.mpr c17
     subst c17
     have H1 : (if t106 = true then (laws_FnRowSets.l0 kj7 l1 t102 t105 t105 (t105.length : Int) 0) else (laws_FnRowSets.j4 kj7 l1)) = some r := by rw [if_neg (show ¬ (false = true) by decide)] at H; exact H
     clear H
     have H := H1
     clear H1
     have HC18 := am_ H
     clear H
     go_upto_if 55 with (fail)
     repeat (go_quiet (fail); go_upto_if 55 with (fail))
     go_cut [] (fun wc => ∃ (kq : Nat), Aside0 (laws_FnRowSets.j4 kq l1 = some r) ∧ Aside0 (kq ≤ kj7) ∧ Aside0 (Below w.heap.size w wc))
     case first => as_aux_lemma =>
      have H := HC18.out
      clear HC18
      by_cases c19 : t106 = true
      ·subst c19
       have H1 : (laws_FnRowSets.l0 kj7 l1 t102 t105 t105 (t105.length : Int) 0) = some r := by rw [if_pos rfl] at H; exact H
       clear H
       have H := H1
       clear H1
       have H' := am_ H
       clear H
       obtain ⟨Ao20, co20, eo20⟩ := Kd.S_slice HO_6.out
       subst eo20
       go_wp2
       repeat (go_quiet (fail); try go_wp2)
       go_loopg [58] kj7 (fun kq v58 w' => ∃ (x58_2 : Int), v58 = .int .i64 x58_2 ∧ Aside0 (laws_FnRowSets.l0 kq l1 t102 t105 t105 (t105.length : Int) x58_2 = some r) ∧ Aside0 (kq ≤ kj7) ∧ Aside0 (Kd.S (Kd.slice 3 (Kd.int .i64)) 28 w' w.heap.size (fun _ => True) (.slice Ao10 t102.length co10) t102) ∧ Aside0 (Kd.S (Kd.slice 3 (Kd.int .i64)) 28 w' w.heap.size (fun _ => True) (.slice Ao20 t105.length co20) t105) ∧ Aside0 (Kd.S (Kd.slice 3 (Kd.int .i64)) 28 w' w.heap.size (fun _ => True) (.slice Ao20 t105.length co20) t105) ∧ Aside0 (Below w.heap.size w w'))
       case atStart => exact ⟨(0), tc6_, H', ⟨Nat.le_refl _⟩, ⟨by (with_reducible repeat (first | apply Kd.S_alloc | apply Kd.S_drewN | apply Kd.S_drew)); exact HO_5.out⟩, ⟨by (with_reducible repeat (first | apply Kd.S_alloc | apply Kd.S_drewN | apply Kd.S_drew)); exact HO_6.out⟩, ⟨by (with_reducible repeat (first | apply Kd.S_alloc | apply Kd.S_drewN | apply Kd.S_drew)); exact HO_6.out⟩, ⟨by repeat (first | (with_reducible first | exact HB.out | apply below_alloc | apply pw_below_drewN | apply below_drew1) | exact HB.out)⟩⟩
       case round => as_aux_lemma =>
        clear H'
        try clear c1
        try clear p2
        try clear c4
        try clear c13
        try clear c13b0
        try clear c13b1
        try clear c13b2
        try clear c17
        try clear c19
        try clear p2
        obtain ⟨x58_2, rfl, HA, HK2, HO_5, HO_6, HO_56, HB⟩ := hrel
        cases gk with
        | zero => exact absurd HA.out (by simp [laws_FnRowSets.l0])
        | succ k2 =>
         have H := HA.out
         clear HA
         simp only [laws_FnRowSets.l0] at H
         by_cases c21 : x58_2 < (t105.length : Int)
         ·rw [if_pos c21] at H
          have c21b0 : decide (x58_2 < (t105.length : Int)) = true := decide_eq_true c21
          clear c21
          (first | rw [c21b0] | (simp only [i64_w, i32_w]; rw [c21b0]) | skip)
          by_cases c22 : 0 ≤ x58_2
          ·rw [if_pos c22] at H
           have c22b0 : decide (0 ≤ x58_2) = true := decide_eq_true c22
           clear c22
           by_cases c23 : x58_2 < (t105.length : Int)
           ·rw [if_pos c23] at H
            have c23b0 : decide (x58_2 < (t105.length : Int)) = true := decide_eq_true c23
            clear c23
            by_cases c24 : ((rd_L3 t105 x58_2).length : Int) = (wrap64 (x58_2 + 1))
            ·rw [if_pos c24] at H
             have c24b0 : (((rd_L3 t105 x58_2).length : Int) == (wrap64 (x58_2 + 1))) = true := beq_iff_eq.mpr c24
             have c24b1 : (((rd_L3 t105 x58_2).length : Int) != (wrap64 (x58_2 + 1))) = false := bne_eq_false_iff_eq.mpr c24
             clear c24
             have H' := am_ H
             clear H
             have p114 : 0 ≤ (x58_2 : Int) := of_decide_eq_true tc1_
             have q114 : x58_2 < (t105.length : Int) := of_decide_eq_true tc1_
             obtain ⟨ad114, A114_0, c114_0, e114, hx114_0, hl114_0, hi114_0⟩ := at_L3 (Kd.S_reads' HO_56.out).2.2 x58_2 p114 q114
             cases e114
             obtain ⟨ce114, hce114, hMe114, hcc114⟩ := Kd.S_get HO_56.out [] x58_2 p114 (by first | exact q114 | exact of_decide_eq_true tc1_ | (have e_ := (Kd.S_reads' HO_56.out).1; omega))
             obtain ⟨ve114_0, rfl, ge114_0⟩ := hMe114
             have hv114_0 := hcc114 0 _ rfl
             rw [Nat.add_zero, show ((Kd.slice 3 (Kd.int .i64))).sz = 1 from rfl, Nat.mul_one] at hv114_0
             replace hv114_0 := Option.some.inj (hv114_0.symm.trans hx114_0)
             rw [hv114_0] at ge114_0
             have HL114_0 := am_ (show Kd.R (Kd.int .i64) 3 _ _ _ _ (rd_L3 t105 x58_2) from ge114_0)
             clear hv114_0 ge114_0
             clear hcc114 hce114
             have HR114_0 := am_ hi114_0
             have HC114_0 := am_ hl114_0
             clear hi114_0 hl114_0
             replace p114 := eq_true p114
             replace q114 := eq_true q114
             go_wp2
             repeat (go_quiet (fail); try go_wp2)
             go_loopg [70] k2 (fun kq v70 w' => ∃ (x70_3 : Int), v70 = .int .i64 x70_3 ∧ Aside0 (laws_FnRowSets.l1 kq l1 t102 t105 x58_2 (rd_L3 t105 x58_2) t105 (t105.length : Int) x58_2 (rd_L3 t105 x58_2) ((rd_L3 t105 x58_2).length : Int) x70_3 = some r) ∧ Aside0 (kq ≤ k2) ∧ Aside0 (Kd.S (Kd.slice 3 (Kd.int .i64)) 28 w' w.heap.size (fun _ => True) (.slice Ao10 t102.length co10) t102) ∧ Aside0 (Kd.S (Kd.slice 3 (Kd.int .i64)) 28 w' w.heap.size (fun _ => True) (.slice (some ad114) t105.length co20) t105) ∧ Aside0 (Kd.S (Kd.slice 3 (Kd.int .i64)) 28 w' w.heap.size (fun _ => True) (.slice (some ad114) t105.length co20) t105) ∧ Aside0 (Kd.C (Kd.int .i64) w' A114_0 (rd_L3 t105 x58_2).length (rd_L3 t105 x58_2)) ∧ Aside0 (Below w.heap.size w w'))
             case atStart => exact ⟨(0), tc6_, H', ⟨Nat.le_refl _⟩, ⟨by (with_reducible repeat (first | apply Kd.S_alloc | apply Kd.S_drewN | apply Kd.S_drew)); exact HO_5.out⟩, ⟨by (with_reducible repeat (first | apply Kd.S_alloc | apply Kd.S_drewN | apply Kd.S_drew)); exact HO_6.out⟩, ⟨by (with_reducible repeat (first | apply Kd.S_alloc | apply Kd.S_drewN | apply Kd.S_drew)); exact HO_56.out⟩, ⟨by repeat (first | (with_reducible exact HR114_0.out) | (with_reducible refine Kd.C_alloc ?_ _) | (with_reducible refine Kd.C_drewN ?_ _) | (with_reducible refine Kd.C_drew ?_) | exact HR114_0.out)⟩, ⟨by repeat (first | (with_reducible first | exact HB.out | apply below_alloc | apply pw_below_drewN | apply below_drew1) | exact HB.out)⟩⟩
             case round => as_aux_lemma =>
              clear H'
              try clear c1
              try clear p1
              try clear q1
              try clear hx1
              try clear c2
              try clear p2
              try clear c4
              try clear p6
              try clear c11
              try clear p11
              try clear q11
              try clear hx11
              try clear c13
              try clear c13b0
              try clear c13b1
              try clear c13b2
              try clear c17
              try clear c19
              try clear c21
              try clear c21b0
              try clear c22
              try clear c22b0
              try clear c23
              try clear c23b0
              try clear c24
              try clear c24b0
              try clear c24b1
              try clear hx114_0
              try clear p114
              try clear p2
              try clear q114
              obtain ⟨x70_3, rfl, HA, HK3, HO_5, HO_6, HO_56, HR114_0, HB⟩ := hrel
              cases gk with
              | zero => exact absurd HA.out (by simp [laws_FnRowSets.l1])
              | succ k3 =>
               have H := HA.out
               clear HA
               simp only [laws_FnRowSets.l1] at H
               by_cases c25 : x70_3 < ((rd_L3 t105 x58_2).length : Int)
               ·rw [if_pos c25] at H
                have c25b0 : decide (x70_3 < ((rd_L3 t105 x58_2).length : Int)) = true := decide_eq_true c25
                clear c25
                by_cases c26 : 0 ≤ x70_3
                ·rw [if_pos c26] at H
                 have c26b0 : decide (0 ≤ x70_3) = true := decide_eq_true c26
                 clear c26
                 by_cases c27 : x70_3 < ((rd_L3 t105 x58_2).length : Int)
                 ·rw [if_pos c27] at H
                  have c27b0 : decide (x70_3 < ((rd_L3 t105 x58_2).length : Int)) = true := decide_eq_true c27
                  clear c27
                  have HC28 := am_ H
                  clear H
                  have p115 : 0 ≤ (x70_3 : Int) := of_decide_eq_true tc1_
                  have q115 : x70_3 < ((rd_L3 t105 x58_2).length : Int) := of_decide_eq_true tc1_
                  obtain ⟨ad115, e115, hx115_0⟩ := Kd.at_int HR114_0.out x70_3 p115 q115
                  cases e115
                  (first | replace hx115_0 := (HB.out.cell (World.block_lt_of_cell? w _ hx115_0)).trans hx115_0 | skip)
                  replace p115 := eq_true p115
                  replace q115 := eq_true q115
                  go_upto_region 17 with (fail)
                  repeat (go_quiet (fail); go_upto_region 17 with (fail))
                  go_cut [117] (fun v117 wc => ∃ (kq : Nat) (x117_27 : Bool), v117 = .bool x117_27 ∧ Aside0 (laws_FnRowSets.j3 kq l1 t102 t105 x58_2 (rd_L3 t105 x58_2) (rd (rd_L3 t105 x58_2) x70_3) t105 (t105.length : Int) x58_2 (rd_L3 t105 x58_2) ((rd_L3 t105 x58_2).length : Int) x70_3 x117_27 = some r) ∧ Aside0 (kq ≤ k3) ∧ Aside0 (Kd.S (Kd.slice 3 (Kd.int .i64)) 28 wc w.heap.size (fun _ => True) (.slice Ao10 t102.length co10) t102) ∧ Aside0 (Kd.S (Kd.slice 3 (Kd.int .i64)) 28 wc w.heap.size (fun _ => True) (.slice (some ad114) t105.length co20) t105) ∧ Aside0 (Kd.S (Kd.slice 3 (Kd.int .i64)) 28 wc w.heap.size (fun _ => True) (.slice (some ad114) t105.length co20) t105) ∧ Aside0 (Kd.C (Kd.int .i64) wc (some ad115) (rd_L3 t105 x58_2).length (rd_L3 t105 x58_2)) ∧ Aside0 (Below w.heap.size w wc))
                  case first => as_aux_lemma =>
                   have H := HC28.out
                   clear HC28
                   by_cases c29 : x70_3 > 0
                   ·rw [if_pos c29] at H
                    have c29b0 : decide (0 < x70_3) = true := decide_eq_true c29
                    clear c29
                    (first | rw [c29b0] | (simp only [i64_w, i32_w]; rw [c29b0]) | skip)
                    obtain ⟨ji30, hji30⟩ : ∃ j_ : Int, (wrap64 (x70_3 - 1)) = j_ := ⟨_, rfl⟩
                    replace H : (if 0 ≤ (ji30) then (if (ji30) < ((rd_L3 t105 x58_2).length : Int) then (if (rd (rd_L3 t105 x58_2) (ji30)) ≥ (rd (rd_L3 t105 x58_2) x70_3) then (laws_FnRowSets.j3 k3 l1 t102 t105 x58_2 (rd_L3 t105 x58_2) (rd (rd_L3 t105 x58_2) x70_3) t105 (t105.length : Int) x58_2 (rd_L3 t105 x58_2) ((rd_L3 t105 x58_2).length : Int) x70_3 true) else (if (wrap64 (x58_2 + 1)) < (t105.length : Int) then (if 0 ≤ (wrap64 (x58_2 + 1)) then (if x70_3 < ((rd_L3 t105 (wrap64 (x58_2 + 1))).length : Int) then (if (rd (rd_L3 t105 x58_2) x70_3) < (rd (rd_L3 t105 (wrap64 (x58_2 + 1))) x70_3) then (laws_FnRowSets.j3 k3 l1 t102 t105 x58_2 (rd_L3 t105 x58_2) (rd (rd_L3 t105 x58_2) x70_3) t105 (t105.length : Int) x58_2 (rd_L3 t105 x58_2) ((rd_L3 t105 x58_2).length : Int) x70_3 true) else (if 0 ≤ (wrap64 (x70_3 + 1)) then (if (wrap64 (x70_3 + 1)) < ((rd_L3 t105 (wrap64 (x58_2 + 1))).length : Int) then (laws_FnRowSets.j3 k3 l1 t102 t105 x58_2 (rd_L3 t105 x58_2) (rd (rd_L3 t105 x58_2) x70_3) t105 (t105.length : Int) x58_2 (rd_L3 t105 x58_2) ((rd_L3 t105 x58_2).length : Int) x70_3 (decide ((rd (rd_L3 t105 x58_2) x70_3) > (rd (rd_L3 t105 (wrap64 (x58_2 + 1))) (wrap64 (x70_3 + 1)))))) else (none)) else (none))) else (none)) else (none)) else (laws_FnRowSets.j3 k3 l1 t102 t105 x58_2 (rd_L3 t105 x58_2) (rd (rd_L3 t105 x58_2) x70_3) t105 (t105.length : Int) x58_2 (rd_L3 t105 x58_2) ((rd_L3 t105 x58_2).length : Int) x70_3 false))) else (none)) else (none)) = some r := by first | (rw [hji30] at H; exact H) | (simp only [hji30] at H ⊢; exact H)
                    have hji30w : (IntKind.i64.wrap (x70_3 - 1)) = ji30 := (i64_w _).trans hji30
                    by_cases c31 : 0 ≤ (ji30)
                    ·rw [if_pos c31] at H
                     have c31b0 : decide (0 ≤ (ji30)) = true := decide_eq_true c31
                     clear c31
                     by_cases c32 : (ji30) < ((rd_L3 t105 x58_2).length : Int)
                     ·rw [if_pos c32] at H
                      have c32b0 : decide ((ji30) < ((rd_L3 t105 x58_2).length : Int)) = true := decide_eq_true c32
                      clear c32
                      by_cases c33 : (rd (rd_L3 t105 x58_2) (ji30)) ≥ (rd (rd_L3 t105 x58_2) x70_3)
                      ·rw [if_pos c33] at H
                       exact (laws_FnRowSets.j3_dead _ _ _ _ _ _ _ _ _ _ _ _ _ (H.trans (congrArg some HR_.out))).elim
                      ·rw [if_neg c33] at H
                       have c33b0 : decide ((rd (rd_L3 t105 x58_2) x70_3) ≤ (rd (rd_L3 t105 x58_2) (ji30))) = false := decide_eq_false c33
                       clear c33
                       by_cases c34 : (wrap64 (x58_2 + 1)) < (t105.length : Int)
                       ·rw [if_pos c34] at H
                        have c34b0 : decide ((wrap64 (x58_2 + 1)) < (t105.length : Int)) = true := decide_eq_true c34
                        clear c34
                        obtain ⟨ji35, hji35⟩ : ∃ j_ : Int, (wrap64 (x58_2 + 1)) = j_ := ⟨_, rfl⟩
                        replace H : (if 0 ≤ (ji35) then (if x70_3 < ((rd_L3 t105 (ji35)).length : Int) then (if (rd (rd_L3 t105 x58_2) x70_3) < (rd (rd_L3 t105 (ji35)) x70_3) then (laws_FnRowSets.j3 k3 l1 t102 t105 x58_2 (rd_L3 t105 x58_2) (rd (rd_L3 t105 x58_2) x70_3) t105 (t105.length : Int) x58_2 (rd_L3 t105 x58_2) ((rd_L3 t105 x58_2).length : Int) x70_3 true) else (if 0 ≤ (wrap64 (x70_3 + 1)) then (if (wrap64 (x70_3 + 1)) < ((rd_L3 t105 (ji35)).length : Int) then (laws_FnRowSets.j3 k3 l1 t102 t105 x58_2 (rd_L3 t105 x58_2) (rd (rd_L3 t105 x58_2) x70_3) t105 (t105.length : Int) x58_2 (rd_L3 t105 x58_2) ((rd_L3 t105 x58_2).length : Int) x70_3 (decide ((rd (rd_L3 t105 x58_2) x70_3) > (rd (rd_L3 t105 (ji35)) (wrap64 (x70_3 + 1)))))) else (none)) else (none))) else (none)) else (none)) = some r := by first | (rw [hji35] at H; exact H) | (simp only [hji35] at H ⊢; exact H)
                        (try rw [hji35] at c24b0)
                        (try rw [hji35] at c24b1)
                        (try rw [hji35] at c34b0)
                        have hji35w : (IntKind.i64.wrap (x58_2 + 1)) = ji35 := (i64_w _).trans hji35
                        by_cases c36 : 0 ≤ (ji35)
                        ·rw [if_pos c36] at H
                         have c36b0 : decide (0 ≤ (ji35)) = true := decide_eq_true c36
                         clear c36
                         by_cases c37 : x70_3 < ((rd_L3 t105 (ji35)).length : Int)
                         ·rw [if_pos c37] at H
                          have c37b0 : decide (x70_3 < ((rd_L3 t105 (ji35)).length : Int)) = true := decide_eq_true c37
                          clear c37
                          by_cases c38 : (rd (rd_L3 t105 x58_2) x70_3) < (rd (rd_L3 t105 (ji35)) x70_3)
                          ·rw [if_pos c38] at H
                           exact (laws_FnRowSets.j3_dead _ _ _ _ _ _ _ _ _ _ _ _ _ (H.trans (congrArg some HR_.out))).elim
                          ·rw [if_neg c38] at H
                           have c38b0 : decide ((rd (rd_L3 t105 x58_2) x70_3) < (rd (rd_L3 t105 (ji35)) x70_3)) = false := decide_eq_false c38
                           clear c38
                           obtain ⟨ji39, hji39⟩ : ∃ j_ : Int, (wrap64 (x70_3 + 1)) = j_ := ⟨_, rfl⟩
                           replace H : (if 0 ≤ (ji39) then (if (ji39) < ((rd_L3 t105 (ji35)).length : Int) then (laws_FnRowSets.j3 k3 l1 t102 t105 x58_2 (rd_L3 t105 x58_2) (rd (rd_L3 t105 x58_2) x70_3) t105 (t105.length : Int) x58_2 (rd_L3 t105 x58_2) ((rd_L3 t105 x58_2).length : Int) x70_3 (decide ((rd (rd_L3 t105 x58_2) x70_3) > (rd (rd_L3 t105 (ji35)) (ji39))))) else (none)) else (none)) = some r := by first | (rw [hji39] at H; exact H) | (simp only [hji39] at H ⊢; exact H)
                           have hji39w : (IntKind.i64.wrap (x70_3 + 1)) = ji39 := (i64_w _).trans hji39
                           by_cases c40 : 0 ≤ (ji39)
                           ·rw [if_pos c40] at H
                            have c40b0 : decide (0 ≤ (ji39)) = true := decide_eq_true c40
                            clear c40
                            by_cases c41 : (ji39) < ((rd_L3 t105 (ji35)).length : Int)
                            ·rw [if_pos c41] at H
                             have c41b0 : decide ((ji39) < ((rd_L3 t105 (ji35)).length : Int)) = true := decide_eq_true c41
                             clear c41
                             have H' := am_ H
                             clear H
                             have p116 : 0 ≤ ((ji30) : Int) := of_decide_eq_true tc1_
                             have q116 : (ji30) < ((rd_L3 t105 x58_2).length : Int) := of_decide_eq_true tc1_
                             obtain ⟨ad116, e116, hx116_0⟩ := Kd.at_int HR114_0.out (ji30) p116 q116
                             obtain rfl : ad115 = ad116 := (by injection e116)
                             (first | replace hx116_0 := (HB.out.cell (World.block_lt_of_cell? w _ hx116_0)).trans hx116_0 | skip)
                             replace p116 := eq_true p116
                             replace q116 := eq_true q116
                             have p117 : 0 ≤ ((ji35) : Int) := of_decide_eq_true tc1_
                             have q117 : (ji35) < (t105.length : Int) := of_decide_eq_true tc1_
                             obtain ⟨ad117, A117_0, c117_0, e117, hx117_0, hl117_0, hi117_0⟩ := at_L3 (Kd.S_reads' HO_6.out).2.2 (ji35) p117 q117
                             obtain rfl : ad114 = ad117 := (by injection e117)
                             obtain ⟨ce117, hce117, hMe117, hcc117⟩ := Kd.S_get HO_6.out [] (ji35) p117 (by first | exact q117 | exact of_decide_eq_true tc1_ | (have e_ := (Kd.S_reads' HO_6.out).1; omega))
                             obtain ⟨ve117_0, rfl, ge117_0⟩ := hMe117
                             have hv117_0 := hcc117 0 _ rfl
                             rw [Nat.add_zero, show ((Kd.slice 3 (Kd.int .i64))).sz = 1 from rfl, Nat.mul_one] at hv117_0
                             replace hv117_0 := Option.some.inj (hv117_0.symm.trans hx117_0)
                             rw [hv117_0] at ge117_0
                             have HL117_0 := am_ (show Kd.R (Kd.int .i64) 3 _ _ _ _ (rd_L3 t105 (ji35)) from ge117_0)
                             clear hv117_0 ge117_0
                             clear hcc117 hce117
                             have HR117_0 := am_ hi117_0
                             have HC117_0 := am_ hl117_0
                             clear hi117_0 hl117_0
                             replace p117 := eq_true p117
                             replace q117 := eq_true q117
                             have p118 : 0 ≤ (x70_3 : Int) := of_decide_eq_true tc1_
                             have q118 : x70_3 < ((rd_L3 t105 (ji35)).length : Int) := of_decide_eq_true tc1_
                             obtain ⟨ad118, e118, hx118_0⟩ := Kd.at_int (by repeat (first | (with_reducible exact HR117_0.out) | (with_reducible refine Kd.C_alloc ?_ _) | (with_reducible refine Kd.C_drewN ?_ _) | (with_reducible refine Kd.C_drew ?_) | exact HR117_0.out)) x70_3 p118 q118
                             cases e118
                             replace p118 := eq_true p118
                             replace q118 := eq_true q118
                             have p119 : 0 ≤ ((ji35) : Int) := of_decide_eq_true tc1_
                             have q119 : (ji35) < (t105.length : Int) := of_decide_eq_true tc1_
                             obtain ⟨ad119, A119_0, c119_0, e119, hx119_0, hl119_0, hi119_0⟩ := at_L3 (Kd.S_reads' HO_6.out).2.2 (ji35) p119 q119
                             obtain rfl : ad114 = ad119 := (by injection e119)
                             obtain ⟨ce119, hce119, hMe119, hcc119⟩ := Kd.S_get HO_6.out [] (ji35) p119 (by first | exact q119 | exact of_decide_eq_true tc1_ | (have e_ := (Kd.S_reads' HO_6.out).1; omega))
                             obtain ⟨ve119_0, rfl, ge119_0⟩ := hMe119
                             have hv119_0 := hcc119 0 _ rfl
                             rw [Nat.add_zero, show ((Kd.slice 3 (Kd.int .i64))).sz = 1 from rfl, Nat.mul_one] at hv119_0
                             replace hv119_0 := Option.some.inj (hv119_0.symm.trans hx119_0)
                             rw [hv119_0] at ge119_0
                             have HL119_0 := am_ (show Kd.R (Kd.int .i64) 3 _ _ _ _ (rd_L3 t105 (ji35)) from ge119_0)
                             clear hv119_0 ge119_0
                             clear hcc119 hce119
                             have HR119_0 := am_ hi119_0
                             have HC119_0 := am_ hl119_0
                             clear hi119_0 hl119_0
                             replace p119 := eq_true p119
                             replace q119 := eq_true q119
                             have ea_ := Option.some.inj (hx117_0.symm.trans hx119_0)
                             injection ea_ with ea_ en_ ec_
                             subst ea_
                             subst ec_
                             clear en_
                             have p120 : 0 ≤ ((ji39) : Int) := of_decide_eq_true tc1_
                             have q120 : (ji39) < ((rd_L3 t105 (ji35)).length : Int) := of_decide_eq_true tc1_
                             obtain ⟨ad120, e120, hx120_0⟩ := Kd.at_int (by repeat (first | (with_reducible exact HR119_0.out) | (with_reducible refine Kd.C_alloc ?_ _) | (with_reducible refine Kd.C_drewN ?_ _) | (with_reducible refine Kd.C_drew ?_) | exact HR119_0.out)) (ji39) p120 q120
                             cases e120
                             replace p120 := eq_true p120
                             replace q120 := eq_true q120
                             go_wp2
                             repeat (go_quiet (fail); try go_wp2)
                             (try subst hji35)
                             (try subst hji43)
                             go_meet
                             case rel => exact ⟨_, (decide ((rd (rd_L3 t105 x58_2) x70_3) > (rd (rd_L3 t105 (wrap64 (x58_2 + 1))) (ji39)))), (by first | rfl | (simp; done) | (simp only [← hji35, ← hji39] <;> (first | rfl | simp)) | (simp [*]; done)), H', ⟨by have := HJ7.out; have := HK2.out; have := HK3.out; first | omega | exact Nat.le_refl _⟩, ⟨by (with_reducible repeat (first | apply Kd.S_alloc | apply Kd.S_drewN | apply Kd.S_drew)); exact HO_5.out⟩, ⟨by (with_reducible repeat (first | apply Kd.S_alloc | apply Kd.S_drewN | apply Kd.S_drew)); exact HO_6.out⟩, ⟨by (with_reducible repeat (first | apply Kd.S_alloc | apply Kd.S_drewN | apply Kd.S_drew)); exact HO_56.out⟩, ⟨by repeat (first | (with_reducible exact HR114_0.out) | (with_reducible refine Kd.C_alloc ?_ _) | (with_reducible refine Kd.C_drewN ?_ _) | (with_reducible refine Kd.C_drew ?_) | exact HR114_0.out)⟩, ⟨by repeat (first | (with_reducible first | exact HB.out | apply below_alloc | apply pw_below_drewN | apply below_drew1) | exact HB.out)⟩⟩
                            ·rw [if_neg c41] at H
                             exact absurd H (by simp)
                           ·rw [if_neg c40] at H
                            exact absurd H (by simp)
                         ·rw [if_neg c37] at H
                          exact absurd H (by simp)
                        ·rw [if_neg c36] at H
                         exact absurd H (by simp)
                       ·rw [if_neg c34] at H
                        have c34b0 : decide ((wrap64 (x58_2 + 1)) < (t105.length : Int)) = false := decide_eq_false c34
                        clear c34
                        have H' := am_ H
                        clear H
                        have p116 : 0 ≤ ((ji30) : Int) := of_decide_eq_true tc1_
                        have q116 : (ji30) < ((rd_L3 t105 x58_2).length : Int) := of_decide_eq_true tc1_
                        obtain ⟨ad116, e116, hx116_0⟩ := Kd.at_int HR114_0.out (ji30) p116 q116
                        obtain rfl : ad115 = ad116 := (by injection e116)
                        (first | replace hx116_0 := (HB.out.cell (World.block_lt_of_cell? w _ hx116_0)).trans hx116_0 | skip)
                        replace p116 := eq_true p116
                        replace q116 := eq_true q116
                        go_wp2
                        repeat (go_quiet (fail); try go_wp2)
                        (try subst hji35)
                        (try subst hji43)
                        go_meet
                        case rel => exact ⟨_, (false), tc6_, H', ⟨by have := HJ7.out; have := HK2.out; have := HK3.out; first | omega | exact Nat.le_refl _⟩, ⟨by (with_reducible repeat (first | apply Kd.S_alloc | apply Kd.S_drewN | apply Kd.S_drew)); exact HO_5.out⟩, ⟨by (with_reducible repeat (first | apply Kd.S_alloc | apply Kd.S_drewN | apply Kd.S_drew)); exact HO_6.out⟩, ⟨by (with_reducible repeat (first | apply Kd.S_alloc | apply Kd.S_drewN | apply Kd.S_drew)); exact HO_56.out⟩, ⟨by repeat (first | (with_reducible exact HR114_0.out) | (with_reducible refine Kd.C_alloc ?_ _) | (with_reducible refine Kd.C_drewN ?_ _) | (with_reducible refine Kd.C_drew ?_) | exact HR114_0.out)⟩, ⟨by repeat (first | (with_reducible first | exact HB.out | apply below_alloc | apply pw_below_drewN | apply below_drew1) | exact HB.out)⟩⟩
                     ·rw [if_neg c32] at H
                      exact absurd H (by simp)
                    ·rw [if_neg c31] at H
                     exact absurd H (by simp)
                   ·rw [if_neg c29] at H
                    have c29b0 : decide (0 < x70_3) = false := decide_eq_false c29
                    clear c29
                    (first | rw [c29b0] | (simp only [i64_w, i32_w]; rw [c29b0]) | skip)
                    by_cases c42 : (wrap64 (x58_2 + 1)) < (t105.length : Int)
                    ·rw [if_pos c42] at H
                     have c42b0 : decide ((wrap64 (x58_2 + 1)) < (t105.length : Int)) = true := decide_eq_true c42
                     clear c42
                     obtain ⟨ji43, hji43⟩ : ∃ j_ : Int, (wrap64 (x58_2 + 1)) = j_ := ⟨_, rfl⟩
                     replace H : (if 0 ≤ (ji43) then (if x70_3 < ((rd_L3 t105 (ji43)).length : Int) then (if (rd (rd_L3 t105 x58_2) x70_3) < (rd (rd_L3 t105 (ji43)) x70_3) then (laws_FnRowSets.j3 k3 l1 t102 t105 x58_2 (rd_L3 t105 x58_2) (rd (rd_L3 t105 x58_2) x70_3) t105 (t105.length : Int) x58_2 (rd_L3 t105 x58_2) ((rd_L3 t105 x58_2).length : Int) x70_3 true) else (if 0 ≤ (wrap64 (x70_3 + 1)) then (if (wrap64 (x70_3 + 1)) < ((rd_L3 t105 (ji43)).length : Int) then (laws_FnRowSets.j3 k3 l1 t102 t105 x58_2 (rd_L3 t105 x58_2) (rd (rd_L3 t105 x58_2) x70_3) t105 (t105.length : Int) x58_2 (rd_L3 t105 x58_2) ((rd_L3 t105 x58_2).length : Int) x70_3 (decide ((rd (rd_L3 t105 x58_2) x70_3) > (rd (rd_L3 t105 (ji43)) (wrap64 (x70_3 + 1)))))) else (none)) else (none))) else (none)) else (none)) = some r := by first | (rw [hji43] at H; exact H) | (simp only [hji43] at H ⊢; exact H)
                     (try rw [hji43] at c24b0)
                     (try rw [hji43] at c24b1)
                     (try rw [hji43] at c42b0)
                     have hji43w : (IntKind.i64.wrap (x58_2 + 1)) = ji43 := (i64_w _).trans hji43
                     by_cases c44 : 0 ≤ (ji43)
                     ·rw [if_pos c44] at H
                      have c44b0 : decide (0 ≤ (ji43)) = true := decide_eq_true c44
                      clear c44
                      by_cases c45 : x70_3 < ((rd_L3 t105 (ji43)).length : Int)
                      ·rw [if_pos c45] at H
                       have c45b0 : decide (x70_3 < ((rd_L3 t105 (ji43)).length : Int)) = true := decide_eq_true c45
                       clear c45
                       by_cases c46 : (rd (rd_L3 t105 x58_2) x70_3) < (rd (rd_L3 t105 (ji43)) x70_3)
                       ·rw [if_pos c46] at H
                        exact (laws_FnRowSets.j3_dead _ _ _ _ _ _ _ _ _ _ _ _ _ (H.trans (congrArg some HR_.out))).elim
                       ·rw [if_neg c46] at H
                        have c46b0 : decide ((rd (rd_L3 t105 x58_2) x70_3) < (rd (rd_L3 t105 (ji43)) x70_3)) = false := decide_eq_false c46
                        clear c46
                        obtain ⟨ji47, hji47⟩ : ∃ j_ : Int, (wrap64 (x70_3 + 1)) = j_ := ⟨_, rfl⟩
                        replace H : (if 0 ≤ (ji47) then (if (ji47) < ((rd_L3 t105 (ji43)).length : Int) then (laws_FnRowSets.j3 k3 l1 t102 t105 x58_2 (rd_L3 t105 x58_2) (rd (rd_L3 t105 x58_2) x70_3) t105 (t105.length : Int) x58_2 (rd_L3 t105 x58_2) ((rd_L3 t105 x58_2).length : Int) x70_3 (decide ((rd (rd_L3 t105 x58_2) x70_3) > (rd (rd_L3 t105 (ji43)) (ji47))))) else (none)) else (none)) = some r := by first | (rw [hji47] at H; exact H) | (simp only [hji47] at H ⊢; exact H)
                        have hji47w : (IntKind.i64.wrap (x70_3 + 1)) = ji47 := (i64_w _).trans hji47
                        by_cases c48 : 0 ≤ (ji47)
                        ·rw [if_pos c48] at H
                         have c48b0 : decide (0 ≤ (ji47)) = true := decide_eq_true c48
                         clear c48
                         by_cases c49 : (ji47) < ((rd_L3 t105 (ji43)).length : Int)
                         ·rw [if_pos c49] at H
                          have c49b0 : decide ((ji47) < ((rd_L3 t105 (ji43)).length : Int)) = true := decide_eq_true c49
                          clear c49
                          have H' := am_ H
                          clear H
                          have p121 : 0 ≤ ((ji43) : Int) := of_decide_eq_true tc1_
                          have q121 : (ji43) < (t105.length : Int) := of_decide_eq_true tc1_
                          obtain ⟨ad121, A121_0, c121_0, e121, hx121_0, hl121_0, hi121_0⟩ := at_L3 (Kd.S_reads' HO_6.out).2.2 (ji43) p121 q121
                          obtain rfl : ad114 = ad121 := (by injection e121)
                          obtain ⟨ce121, hce121, hMe121, hcc121⟩ := Kd.S_get HO_6.out [] (ji43) p121 (by first | exact q121 | exact of_decide_eq_true tc1_ | (have e_ := (Kd.S_reads' HO_6.out).1; omega))
                          obtain ⟨ve121_0, rfl, ge121_0⟩ := hMe121
                          have hv121_0 := hcc121 0 _ rfl
                          rw [Nat.add_zero, show ((Kd.slice 3 (Kd.int .i64))).sz = 1 from rfl, Nat.mul_one] at hv121_0
                          replace hv121_0 := Option.some.inj (hv121_0.symm.trans hx121_0)
                          rw [hv121_0] at ge121_0
                          have HL121_0 := am_ (show Kd.R (Kd.int .i64) 3 _ _ _ _ (rd_L3 t105 (ji43)) from ge121_0)
                          clear hv121_0 ge121_0
                          clear hcc121 hce121
                          have HR121_0 := am_ hi121_0
                          have HC121_0 := am_ hl121_0
                          clear hi121_0 hl121_0
                          replace p121 := eq_true p121
                          replace q121 := eq_true q121
                          have p122 : 0 ≤ (x70_3 : Int) := of_decide_eq_true tc1_
                          have q122 : x70_3 < ((rd_L3 t105 (ji43)).length : Int) := of_decide_eq_true tc1_
                          obtain ⟨ad122, e122, hx122_0⟩ := Kd.at_int (by repeat (first | (with_reducible exact HR121_0.out) | (with_reducible refine Kd.C_alloc ?_ _) | (with_reducible refine Kd.C_drewN ?_ _) | (with_reducible refine Kd.C_drew ?_) | exact HR121_0.out)) x70_3 p122 q122
                          cases e122
                          replace p122 := eq_true p122
                          replace q122 := eq_true q122
                          have p123 : 0 ≤ ((ji43) : Int) := of_decide_eq_true tc1_
                          have q123 : (ji43) < (t105.length : Int) := of_decide_eq_true tc1_
                          obtain ⟨ad123, A123_0, c123_0, e123, hx123_0, hl123_0, hi123_0⟩ := at_L3 (Kd.S_reads' HO_6.out).2.2 (ji43) p123 q123
                          obtain rfl : ad114 = ad123 := (by injection e123)
                          obtain ⟨ce123, hce123, hMe123, hcc123⟩ := Kd.S_get HO_6.out [] (ji43) p123 (by first | exact q123 | exact of_decide_eq_true tc1_ | (have e_ := (Kd.S_reads' HO_6.out).1; omega))
                          obtain ⟨ve123_0, rfl, ge123_0⟩ := hMe123
                          have hv123_0 := hcc123 0 _ rfl
                          rw [Nat.add_zero, show ((Kd.slice 3 (Kd.int .i64))).sz = 1 from rfl, Nat.mul_one] at hv123_0
                          replace hv123_0 := Option.some.inj (hv123_0.symm.trans hx123_0)
                          rw [hv123_0] at ge123_0
                          have HL123_0 := am_ (show Kd.R (Kd.int .i64) 3 _ _ _ _ (rd_L3 t105 (ji43)) from ge123_0)
                          clear hv123_0 ge123_0
                          clear hcc123 hce123
                          have HR123_0 := am_ hi123_0
                          have HC123_0 := am_ hl123_0
                          clear hi123_0 hl123_0
                          replace p123 := eq_true p123
                          replace q123 := eq_true q123
                          have ea_ := Option.some.inj (hx121_0.symm.trans hx123_0)
                          injection ea_ with ea_ en_ ec_
                          subst ea_
                          subst ec_
                          clear en_
                          have p124 : 0 ≤ ((ji47) : Int) := of_decide_eq_true tc1_
                          have q124 : (ji47) < ((rd_L3 t105 (ji43)).length : Int) := of_decide_eq_true tc1_
                          obtain ⟨ad124, e124, hx124_0⟩ := Kd.at_int (by repeat (first | (with_reducible exact HR123_0.out) | (with_reducible refine Kd.C_alloc ?_ _) | (with_reducible refine Kd.C_drewN ?_ _) | (with_reducible refine Kd.C_drew ?_) | exact HR123_0.out)) (ji47) p124 q124
                          cases e124
                          replace p124 := eq_true p124
                          replace q124 := eq_true q124
                          go_wp2
                          repeat (go_quiet (fail); try go_wp2)
                          (try subst hji35)
                          (try subst hji43)
                          go_meet
                          case rel => exact ⟨_, (decide ((rd (rd_L3 t105 x58_2) x70_3) > (rd (rd_L3 t105 (wrap64 (x58_2 + 1))) (ji47)))), (by first | rfl | (simp; done) | (simp only [← hji43, ← hji47] <;> (first | rfl | simp)) | (simp [*]; done)), H', ⟨by have := HJ7.out; have := HK2.out; have := HK3.out; first | omega | exact Nat.le_refl _⟩, ⟨by (with_reducible repeat (first | apply Kd.S_alloc | apply Kd.S_drewN | apply Kd.S_drew)); exact HO_5.out⟩, ⟨by (with_reducible repeat (first | apply Kd.S_alloc | apply Kd.S_drewN | apply Kd.S_drew)); exact HO_6.out⟩, ⟨by (with_reducible repeat (first | apply Kd.S_alloc | apply Kd.S_drewN | apply Kd.S_drew)); exact HO_56.out⟩, ⟨by repeat (first | (with_reducible exact HR114_0.out) | (with_reducible refine Kd.C_alloc ?_ _) | (with_reducible refine Kd.C_drewN ?_ _) | (with_reducible refine Kd.C_drew ?_) | exact HR114_0.out)⟩, ⟨by repeat (first | (with_reducible first | exact HB.out | apply below_alloc | apply pw_below_drewN | apply below_drew1) | exact HB.out)⟩⟩
                         ·rw [if_neg c49] at H
                          exact absurd H (by simp)
                        ·rw [if_neg c48] at H
                         exact absurd H (by simp)
                      ·rw [if_neg c45] at H
                       exact absurd H (by simp)
                     ·rw [if_neg c44] at H
                      exact absurd H (by simp)
                    ·rw [if_neg c42] at H
                     have c42b0 : decide ((wrap64 (x58_2 + 1)) < (t105.length : Int)) = false := decide_eq_false c42
                     clear c42
                     have H' := am_ H
                     clear H
                     go_wp2
                     repeat (go_quiet (fail); try go_wp2)
                     (try subst hji35)
                     (try subst hji43)
                     go_meet
                     case rel => exact ⟨_, (false), tc6_, H', ⟨by have := HJ7.out; have := HK2.out; have := HK3.out; first | omega | exact Nat.le_refl _⟩, ⟨by (with_reducible repeat (first | apply Kd.S_alloc | apply Kd.S_drewN | apply Kd.S_drew)); exact HO_5.out⟩, ⟨by (with_reducible repeat (first | apply Kd.S_alloc | apply Kd.S_drewN | apply Kd.S_drew)); exact HO_6.out⟩, ⟨by (with_reducible repeat (first | apply Kd.S_alloc | apply Kd.S_drewN | apply Kd.S_drew)); exact HO_56.out⟩, ⟨by repeat (first | (with_reducible exact HR114_0.out) | (with_reducible refine Kd.C_alloc ?_ _) | (with_reducible refine Kd.C_drewN ?_ _) | (with_reducible refine Kd.C_drew ?_) | exact HR114_0.out)⟩, ⟨by repeat (first | (with_reducible first | exact HB.out | apply below_alloc | apply pw_below_drewN | apply below_drew1) | exact HB.out)⟩⟩
                  case rest => as_aux_lemma =>
                   clear HC28
                   try clear c1
                   try clear p1
                   try clear q1
                   try clear hx1
                   try clear c2
                   try clear p2
                   try clear c3
                   try clear c4
                   try clear p6
                   try clear c11
                   try clear p11
                   try clear q11
                   try clear hx11
                   try clear c12
                   try clear p12
                   try clear q12
                   try clear hx12
                   try clear c13
                   try clear c13b0
                   try clear c13b1
                   try clear c13b2
                   try clear c17
                   try clear c19
                   try clear c21
                   try clear c21b0
                   try clear c22
                   try clear c22b0
                   try clear c23
                   try clear c23b0
                   try clear c24
                   try clear c24b0
                   try clear c24b1
                   try clear c25
                   try clear c25b0
                   try clear c26
                   try clear c26b0
                   try clear c27
                   try clear c27b0
                   try clear c29
                   try clear c29b0
                   try clear c31
                   try clear c31b0
                   try clear c32
                   try clear c32b0
                   try clear c33
                   try clear c33b0
                   try clear c34
                   try clear c34b0
                   try clear c36
                   try clear c36b0
                   try clear c37
                   try clear c37b0
                   try clear c38
                   try clear c38b0
                   try clear c40
                   try clear c40b0
                   try clear c41
                   try clear c41b0
                   try clear c42
                   try clear c42b0
                   try clear c44
                   try clear c44b0
                   try clear c45
                   try clear c45b0
                   try clear c46
                   try clear c46b0
                   try clear c48
                   try clear c48b0
                   try clear c49
                   try clear c49b0
                   try clear hx114_0
                   try clear hx115_0
                   try clear hx116_0
                   try clear hx117_0
                   try clear hx118_0
                   try clear hx119_0
                   try clear hx120_0
                   try clear hx121_0
                   try clear hx122_0
                   try clear hx123_0
                   try clear hx124_0
                   try clear p1
                   try clear p11
                   try clear p114
                   try clear p115
                   try clear p116
                   try clear p117
                   try clear p118
                   try clear p119
                   try clear p120
                   try clear p121
                   try clear p122
                   try clear p123
                   try clear p124
                   try clear p2
                   try clear p6
                   try clear q1
                   try clear q11
                   try clear q114
                   try clear q115
                   try clear q116
                   try clear q117
                   try clear q118
                   try clear q119
                   try clear q120
                   try clear q121
                   try clear q122
                   try clear q123
                   try clear q124
                   obtain ⟨kq, x117_27, rfl, HA, HJ27, HO_5, HO_6, HO_56, HR114_0, HB⟩ := hcut
                   cases kq with
                   | zero => exact absurd HA.out (by simp [laws_FnRowSets.j3])
                   | succ kj27 =>
                    have H := HA.out
                    clear HA
                    simp only [laws_FnRowSets.j3] at H
                    by_cases c50 : x117_27 = true
                    ·subst c50
                     exact absurd ((show (some false : Option Bool) = some r from (by rw [if_pos rfl] at H; exact H)).trans (congrArg some HR_.out)) (by simp)
                    ·replace c50 := Bool.eq_false_iff.mpr c50
                     subst c50
                     have H1 : (if x58_2 > 0 then (if 0 ≤ (wrap64 (x58_2 - 1)) then (if (wrap64 (x58_2 - 1)) < (t105.length : Int) then ((laws_uHas.f kj27 (rd_L3 t105 (wrap64 (x58_2 - 1))) (rd (rd_L3 t105 x58_2) x70_3)).bind fun t126 => (if 0 ≤ x58_2 then (if x58_2 < (t102.length : Int) then (if 0 ≤ (rd (rd_L3 t105 x58_2) x70_3) then (if (rd (rd_L3 t105 x58_2) x70_3) < ((rd_L3 t102 x58_2).length : Int) then (if (rd (rd_L3 t102 x58_2) (rd (rd_L3 t105 x58_2) x70_3)) = 1 then (if t126 = true then (if (rd (rd_L3 t102 x58_2) (rd (rd_L3 t105 x58_2) x70_3)) = 0 then (laws_FnRowSets.l1 kj27 l1 t102 t105 x58_2 (rd_L3 t105 x58_2) t105 (t105.length : Int) x58_2 (rd_L3 t105 x58_2) ((rd_L3 t105 x58_2).length : Int) (wrap64 (x70_3 + 1))) else (some false)) else (laws_FnRowSets.l1 kj27 l1 t102 t105 x58_2 (rd_L3 t105 x58_2) t105 (t105.length : Int) x58_2 (rd_L3 t105 x58_2) ((rd_L3 t105 x58_2).length : Int) (wrap64 (x70_3 + 1)))) else (if t126 = true then (if (rd (rd_L3 t102 x58_2) (rd (rd_L3 t105 x58_2) x70_3)) = 0 then (laws_FnRowSets.l1 kj27 l1 t102 t105 x58_2 (rd_L3 t105 x58_2) t105 (t105.length : Int) x58_2 (rd_L3 t105 x58_2) ((rd_L3 t105 x58_2).length : Int) (wrap64 (x70_3 + 1))) else (some false)) else (some false))) else (none)) else (none)) else (none)) else (none))) else (none)) else (none)) else (if 0 ≤ x58_2 then (if x58_2 < (t102.length : Int) then (if 0 ≤ (rd (rd_L3 t105 x58_2) x70_3) then (if (rd (rd_L3 t105 x58_2) x70_3) < ((rd_L3 t102 x58_2).length : Int) then (if (rd (rd_L3 t102 x58_2) (rd (rd_L3 t105 x58_2) x70_3)) = 1 then (laws_FnRowSets.l1 kj27 l1 t102 t105 x58_2 (rd_L3 t105 x58_2) t105 (t105.length : Int) x58_2 (rd_L3 t105 x58_2) ((rd_L3 t105 x58_2).length : Int) (wrap64 (x70_3 + 1))) else (some false)) else (none)) else (none)) else (none)) else (none))) = some r := by rw [if_neg (show ¬ (false = true) by decide)] at H; exact H
                     clear H
                     have H := H1
                     clear H1
                     by_cases c51 : x58_2 > 0
                     ·rw [if_pos c51] at H
                      have c51b0 : decide (0 < x58_2) = true := decide_eq_true c51
                      clear c51
                      obtain ⟨ji52, hji52⟩ : ∃ j_ : Int, (wrap64 (x58_2 - 1)) = j_ := ⟨_, rfl⟩
                      replace H : (if 0 ≤ (ji52) then (if (ji52) < (t105.length : Int) then ((laws_uHas.f kj27 (rd_L3 t105 (ji52)) (rd (rd_L3 t105 x58_2) x70_3)).bind fun t126 => (if 0 ≤ x58_2 then (if x58_2 < (t102.length : Int) then (if 0 ≤ (rd (rd_L3 t105 x58_2) x70_3) then (if (rd (rd_L3 t105 x58_2) x70_3) < ((rd_L3 t102 x58_2).length : Int) then (if (rd (rd_L3 t102 x58_2) (rd (rd_L3 t105 x58_2) x70_3)) = 1 then (if t126 = true then (if (rd (rd_L3 t102 x58_2) (rd (rd_L3 t105 x58_2) x70_3)) = 0 then (laws_FnRowSets.l1 kj27 l1 t102 t105 x58_2 (rd_L3 t105 x58_2) t105 (t105.length : Int) x58_2 (rd_L3 t105 x58_2) ((rd_L3 t105 x58_2).length : Int) (wrap64 (x70_3 + 1))) else (some false)) else (laws_FnRowSets.l1 kj27 l1 t102 t105 x58_2 (rd_L3 t105 x58_2) t105 (t105.length : Int) x58_2 (rd_L3 t105 x58_2) ((rd_L3 t105 x58_2).length : Int) (wrap64 (x70_3 + 1)))) else (if t126 = true then (if (rd (rd_L3 t102 x58_2) (rd (rd_L3 t105 x58_2) x70_3)) = 0 then (laws_FnRowSets.l1 kj27 l1 t102 t105 x58_2 (rd_L3 t105 x58_2) t105 (t105.length : Int) x58_2 (rd_L3 t105 x58_2) ((rd_L3 t105 x58_2).length : Int) (wrap64 (x70_3 + 1))) else (some false)) else (some false))) else (none)) else (none)) else (none)) else (none))) else (none)) else (none)) = some r := by first | (rw [hji52] at H; exact H) | (simp only [hji52] at H ⊢; exact H)
                      have hji52w : (IntKind.i64.wrap (x58_2 - 1)) = ji52 := (i64_w _).trans hji52
                      by_cases c53 : 0 ≤ (ji52)
                      ·rw [if_pos c53] at H
                       have c53b0 : decide (0 ≤ (ji52)) = true := decide_eq_true c53
                       clear c53
                       by_cases c54 : (ji52) < (t105.length : Int)
                       ·rw [if_pos c54] at H
                        have c54b0 : decide ((ji52) < (t105.length : Int)) = true := decide_eq_true c54
                        clear c54
                        replace H := Option.bind_eq_some_iff.mp H
                        obtain ⟨t126, A550, H⟩ := H
                        replace H : (if 0 ≤ x58_2 then (if x58_2 < (t102.length : Int) then (if 0 ≤ (rd (rd_L3 t105 x58_2) x70_3) then (if (rd (rd_L3 t105 x58_2) x70_3) < ((rd_L3 t102 x58_2).length : Int) then (if (rd (rd_L3 t102 x58_2) (rd (rd_L3 t105 x58_2) x70_3)) = 1 then (if t126 = true then (if (rd (rd_L3 t102 x58_2) (rd (rd_L3 t105 x58_2) x70_3)) = 0 then (laws_FnRowSets.l1 kj27 l1 t102 t105 x58_2 (rd_L3 t105 x58_2) t105 (t105.length : Int) x58_2 (rd_L3 t105 x58_2) ((rd_L3 t105 x58_2).length : Int) (wrap64 (x70_3 + 1))) else (some false)) else (laws_FnRowSets.l1 kj27 l1 t102 t105 x58_2 (rd_L3 t105 x58_2) t105 (t105.length : Int) x58_2 (rd_L3 t105 x58_2) ((rd_L3 t105 x58_2).length : Int) (wrap64 (x70_3 + 1)))) else (if t126 = true then (if (rd (rd_L3 t102 x58_2) (rd (rd_L3 t105 x58_2) x70_3)) = 0 then (laws_FnRowSets.l1 kj27 l1 t102 t105 x58_2 (rd_L3 t105 x58_2) t105 (t105.length : Int) x58_2 (rd_L3 t105 x58_2) ((rd_L3 t105 x58_2).length : Int) (wrap64 (x70_3 + 1))) else (some false)) else (some false))) else (none)) else (none)) else (none)) else (none)) = some r := H
                        have A55 := am_ A550
                        clear A550
                        by_cases c56 : 0 ≤ x58_2
                        ·rw [if_pos c56] at H
                         have c56b0 : decide (0 ≤ x58_2) = true := decide_eq_true c56
                         clear c56
                         by_cases c57 : x58_2 < (t102.length : Int)
                         ·rw [if_pos c57] at H
                          have c57b0 : decide (x58_2 < (t102.length : Int)) = true := decide_eq_true c57
                          clear c57
                          by_cases c58 : 0 ≤ (rd (rd_L3 t105 x58_2) x70_3)
                          ·rw [if_pos c58] at H
                           have c58b0 : decide (0 ≤ (rd (rd_L3 t105 x58_2) x70_3)) = true := decide_eq_true c58
                           clear c58
                           by_cases c59 : (rd (rd_L3 t105 x58_2) x70_3) < ((rd_L3 t102 x58_2).length : Int)
                           ·rw [if_pos c59] at H
                            have c59b0 : decide ((rd (rd_L3 t105 x58_2) x70_3) < ((rd_L3 t102 x58_2).length : Int)) = true := decide_eq_true c59
                            clear c59
                            by_cases c60 : (rd (rd_L3 t102 x58_2) (rd (rd_L3 t105 x58_2) x70_3)) = 1
                            ·rw [if_pos c60] at H
                             have c60b0 : ((rd (rd_L3 t102 x58_2) (rd (rd_L3 t105 x58_2) x70_3)) == 1) = true := beq_iff_eq.mpr c60
                             have c60b1 : ((rd (rd_L3 t102 x58_2) (rd (rd_L3 t105 x58_2) x70_3)) != 1) = false := bne_eq_false_iff_eq.mpr c60
                             clear c60
                             by_cases c61 : t126 = true
                             ·subst c61
                              have H1 : (if (rd (rd_L3 t102 x58_2) (rd (rd_L3 t105 x58_2) x70_3)) = 0 then (laws_FnRowSets.l1 kj27 l1 t102 t105 x58_2 (rd_L3 t105 x58_2) t105 (t105.length : Int) x58_2 (rd_L3 t105 x58_2) ((rd_L3 t105 x58_2).length : Int) (wrap64 (x70_3 + 1))) else (some false)) = some r := by rw [if_pos rfl] at H; exact H
                              clear H
                              have H := H1
                              clear H1
                              by_cases c62 : (rd (rd_L3 t102 x58_2) (rd (rd_L3 t105 x58_2) x70_3)) = 0
                              ·rw [if_pos c62] at H
                               have c62b0 : ((rd (rd_L3 t102 x58_2) (rd (rd_L3 t105 x58_2) x70_3)) == 0) = true := beq_iff_eq.mpr c62
                               have c62b1 : ((rd (rd_L3 t102 x58_2) (rd (rd_L3 t105 x58_2) x70_3)) != 0) = false := bne_eq_false_iff_eq.mpr c62
                               clear c62
                               have H' := am_ H
                               clear H
                               have p125 : 0 ≤ ((ji52) : Int) := of_decide_eq_true tc1_
                               have q125 : (ji52) < (t105.length : Int) := of_decide_eq_true tc1_
                               obtain ⟨ad125, A125_0, c125_0, e125, hx125_0, hl125_0, hi125_0⟩ := at_L3 (Kd.S_reads' HO_6.out).2.2 (ji52) p125 q125
                               obtain rfl : ad114 = ad125 := (by injection e125)
                               obtain ⟨ce125, hce125, hMe125, hcc125⟩ := Kd.S_get HO_6.out [] (ji52) p125 tc60_
                               obtain ⟨ve125_0, rfl, ge125_0⟩ := hMe125
                               have hv125_0 := hcc125 0 _ rfl
                               rw [Nat.add_zero, show ((Kd.slice 3 (Kd.int .i64))).sz = 1 from rfl, Nat.mul_one] at hv125_0
                               replace hv125_0 := Option.some.inj (hv125_0.symm.trans hx125_0)
                               rw [hv125_0] at ge125_0
                               have HL125_0 := am_ (show Kd.R (Kd.int .i64) 3 _ _ _ _ (rd_L3 t105 (ji52)) from ge125_0)
                               clear hv125_0 ge125_0
                               clear hcc125 hce125
                               have HR125_0 := am_ hi125_0
                               have HC125_0 := am_ hl125_0
                               clear hi125_0 hl125_0
                               replace p125 := eq_true p125
                               replace q125 := eq_true q125
                               go_wp2_with (first | (go_at_call 22; (with_reducible refine (laws_uHas.calls kj27 _ _ (rd_L3 t105 (ji52)) (rd (rd_L3 t105 x58_2) x70_3) true _ ?side1 ?side2 A55.out).mono ?_); (case side1 => exact tc8_); (case side2 => exact HC125_0.out); rintro e w' ⟨rfl, ⟨nd, rfl⟩⟩; (try first | exact ⟨rfl, _, World.drewN_drewN _ _ _⟩ | exact ⟨rfl, _, Eq.trans (World.drewN_drewN _ _ _) (congrArg (World.drewN _) (Nat.add_assoc _ _ _))⟩); have p127 : 0 ≤ (x58_2 : Int) := of_decide_eq_true tc1_; have q127 : x58_2 < (t102.length : Int) := of_decide_eq_true tc1_; obtain ⟨ad127, A127_0, c127_0, e127, hx127_0, hl127_0, hi127_0⟩ := at_L3 (Kd.S_reads' HO_5.out).2.2 x58_2 p127 q127; cases e127; obtain ⟨ce127, hce127, hMe127, hcc127⟩ := Kd.S_get HO_5.out [] x58_2 p127 tc25_; obtain ⟨ve127_0, rfl, ge127_0⟩ := hMe127; have hv127_0 := hcc127 0 _ rfl; rw [Nat.add_zero, show ((Kd.slice 3 (Kd.int .i64))).sz = 1 from rfl, Nat.mul_one] at hv127_0; replace hv127_0 := Option.some.inj (hv127_0.symm.trans hx127_0); rw [hv127_0] at ge127_0; have HL127_0 := am_ (show Kd.R (Kd.int .i64) 3 _ _ _ _ (rd_L3 t102 x58_2) from ge127_0); clear hv127_0 ge127_0; clear hcc127 hce127; have HR127_0 := am_ hi127_0; have HC127_0 := am_ hl127_0; clear hi127_0 hl127_0; replace p127 := eq_true p127; replace q127 := eq_true q127; have p128 : 0 ≤ ((rd (rd_L3 t105 x58_2) x70_3) : Int) := of_decide_eq_true tc1_; have q128 : (rd (rd_L3 t105 x58_2) x70_3) < ((rd_L3 t102 x58_2).length : Int) := of_decide_eq_true tc1_; obtain ⟨ad128, e128, hx128_0⟩ := Kd.at_int tc19_ (rd (rd_L3 t105 x58_2) x70_3) p128 q128; cases e128; replace p128 := eq_true p128; replace q128 := eq_true q128; have p129 : 0 ≤ (x58_2 : Int) := of_decide_eq_true tc1_; have q129 : x58_2 < (t102.length : Int) := of_decide_eq_true tc1_; obtain ⟨ad129, A129_0, c129_0, e129, hx129_0, hl129_0, hi129_0⟩ := at_L3 (Kd.S_reads' HO_5.out).2.2 x58_2 p129 q129; obtain rfl : ad127 = ad129 := (by injection e129); obtain ⟨ce129, hce129, hMe129, hcc129⟩ := Kd.S_get HO_5.out [] x58_2 p129 tc61_; obtain ⟨ve129_0, rfl, ge129_0⟩ := hMe129; have hv129_0 := hcc129 0 _ rfl; rw [Nat.add_zero, show ((Kd.slice 3 (Kd.int .i64))).sz = 1 from rfl, Nat.mul_one] at hv129_0; replace hv129_0 := Option.some.inj (hv129_0.symm.trans hx129_0); rw [hv129_0] at ge129_0; have HL129_0 := am_ (show Kd.R (Kd.int .i64) 3 _ _ _ _ (rd_L3 t102 x58_2) from ge129_0); clear hv129_0 ge129_0; clear hcc129 hce129; have HR129_0 := am_ hi129_0; have HC129_0 := am_ hl129_0; clear hi129_0 hl129_0; replace p129 := eq_true p129; replace q129 := eq_true q129; have ea_ := Option.some.inj (hx127_0.symm.trans hx129_0); injection ea_ with ea_ en_ ec_; subst ea_; subst ec_; clear en_; have p130 : 0 ≤ ((rd (rd_L3 t105 x58_2) x70_3) : Int) := of_decide_eq_true tc1_; have q130 : (rd (rd_L3 t105 x58_2) x70_3) < ((rd_L3 t102 x58_2).length : Int) := of_decide_eq_true tc1_; obtain ⟨ad130, e130, hx130_0⟩ := Kd.at_int tc48_ (rd (rd_L3 t105 x58_2) x70_3) p130 q130; cases e130; replace p130 := eq_true p130; replace q130 := eq_true q130))
                               repeat (go_quiet (first | (go_at_call 22; (with_reducible refine (laws_uHas.calls kj27 _ _ (rd_L3 t105 (ji52)) (rd (rd_L3 t105 x58_2) x70_3) true _ ?side1 ?side2 A55.out).mono ?_); (case side1 => exact tc8_); (case side2 => exact HC125_0.out); rintro e w' ⟨rfl, ⟨nd, rfl⟩⟩; (try first | exact ⟨rfl, _, World.drewN_drewN _ _ _⟩ | exact ⟨rfl, _, Eq.trans (World.drewN_drewN _ _ _) (congrArg (World.drewN _) (Nat.add_assoc _ _ _))⟩); have p127 : 0 ≤ (x58_2 : Int) := of_decide_eq_true tc1_; have q127 : x58_2 < (t102.length : Int) := of_decide_eq_true tc1_; obtain ⟨ad127, A127_0, c127_0, e127, hx127_0, hl127_0, hi127_0⟩ := at_L3 (Kd.S_reads' HO_5.out).2.2 x58_2 p127 q127; cases e127; obtain ⟨ce127, hce127, hMe127, hcc127⟩ := Kd.S_get HO_5.out [] x58_2 p127 tc25_; obtain ⟨ve127_0, rfl, ge127_0⟩ := hMe127; have hv127_0 := hcc127 0 _ rfl; rw [Nat.add_zero, show ((Kd.slice 3 (Kd.int .i64))).sz = 1 from rfl, Nat.mul_one] at hv127_0; replace hv127_0 := Option.some.inj (hv127_0.symm.trans hx127_0); rw [hv127_0] at ge127_0; have HL127_0 := am_ (show Kd.R (Kd.int .i64) 3 _ _ _ _ (rd_L3 t102 x58_2) from ge127_0); clear hv127_0 ge127_0; clear hcc127 hce127; have HR127_0 := am_ hi127_0; have HC127_0 := am_ hl127_0; clear hi127_0 hl127_0; replace p127 := eq_true p127; replace q127 := eq_true q127; have p128 : 0 ≤ ((rd (rd_L3 t105 x58_2) x70_3) : Int) := of_decide_eq_true tc1_; have q128 : (rd (rd_L3 t105 x58_2) x70_3) < ((rd_L3 t102 x58_2).length : Int) := of_decide_eq_true tc1_; obtain ⟨ad128, e128, hx128_0⟩ := Kd.at_int tc19_ (rd (rd_L3 t105 x58_2) x70_3) p128 q128; cases e128; replace p128 := eq_true p128; replace q128 := eq_true q128; have p129 : 0 ≤ (x58_2 : Int) := of_decide_eq_true tc1_; have q129 : x58_2 < (t102.length : Int) := of_decide_eq_true tc1_; obtain ⟨ad129, A129_0, c129_0, e129, hx129_0, hl129_0, hi129_0⟩ := at_L3 (Kd.S_reads' HO_5.out).2.2 x58_2 p129 q129; obtain rfl : ad127 = ad129 := (by injection e129); obtain ⟨ce129, hce129, hMe129, hcc129⟩ := Kd.S_get HO_5.out [] x58_2 p129 tc61_; obtain ⟨ve129_0, rfl, ge129_0⟩ := hMe129; have hv129_0 := hcc129 0 _ rfl; rw [Nat.add_zero, show ((Kd.slice 3 (Kd.int .i64))).sz = 1 from rfl, Nat.mul_one] at hv129_0; replace hv129_0 := Option.some.inj (hv129_0.symm.trans hx129_0); rw [hv129_0] at ge129_0; have HL129_0 := am_ (show Kd.R (Kd.int .i64) 3 _ _ _ _ (rd_L3 t102 x58_2) from ge129_0); clear hv129_0 ge129_0; clear hcc129 hce129; have HR129_0 := am_ hi129_0; have HC129_0 := am_ hl129_0; clear hi129_0 hl129_0; replace p129 := eq_true p129; replace q129 := eq_true q129; have ea_ := Option.some.inj (hx127_0.symm.trans hx129_0); injection ea_ with ea_ en_ ec_; subst ea_; subst ec_; clear en_; have p130 : 0 ≤ ((rd (rd_L3 t105 x58_2) x70_3) : Int) := of_decide_eq_true tc1_; have q130 : (rd (rd_L3 t105 x58_2) x70_3) < ((rd_L3 t102 x58_2).length : Int) := of_decide_eq_true tc1_; obtain ⟨ad130, e130, hx130_0⟩ := Kd.at_int tc48_ (rd (rd_L3 t105 x58_2) x70_3) p130 q130; cases e130; replace p130 := eq_true p130; replace q130 := eq_true q130)); try go_wp2_with (first | (go_at_call 22; (with_reducible refine (laws_uHas.calls kj27 _ _ (rd_L3 t105 (ji52)) (rd (rd_L3 t105 x58_2) x70_3) true _ ?side1 ?side2 A55.out).mono ?_); (case side1 => exact tc8_); (case side2 => exact HC125_0.out); rintro e w' ⟨rfl, ⟨nd, rfl⟩⟩; (try first | exact ⟨rfl, _, World.drewN_drewN _ _ _⟩ | exact ⟨rfl, _, Eq.trans (World.drewN_drewN _ _ _) (congrArg (World.drewN _) (Nat.add_assoc _ _ _))⟩); have p127 : 0 ≤ (x58_2 : Int) := of_decide_eq_true tc1_; have q127 : x58_2 < (t102.length : Int) := of_decide_eq_true tc1_; obtain ⟨ad127, A127_0, c127_0, e127, hx127_0, hl127_0, hi127_0⟩ := at_L3 (Kd.S_reads' HO_5.out).2.2 x58_2 p127 q127; cases e127; obtain ⟨ce127, hce127, hMe127, hcc127⟩ := Kd.S_get HO_5.out [] x58_2 p127 tc25_; obtain ⟨ve127_0, rfl, ge127_0⟩ := hMe127; have hv127_0 := hcc127 0 _ rfl; rw [Nat.add_zero, show ((Kd.slice 3 (Kd.int .i64))).sz = 1 from rfl, Nat.mul_one] at hv127_0; replace hv127_0 := Option.some.inj (hv127_0.symm.trans hx127_0); rw [hv127_0] at ge127_0; have HL127_0 := am_ (show Kd.R (Kd.int .i64) 3 _ _ _ _ (rd_L3 t102 x58_2) from ge127_0); clear hv127_0 ge127_0; clear hcc127 hce127; have HR127_0 := am_ hi127_0; have HC127_0 := am_ hl127_0; clear hi127_0 hl127_0; replace p127 := eq_true p127; replace q127 := eq_true q127; have p128 : 0 ≤ ((rd (rd_L3 t105 x58_2) x70_3) : Int) := of_decide_eq_true tc1_; have q128 : (rd (rd_L3 t105 x58_2) x70_3) < ((rd_L3 t102 x58_2).length : Int) := of_decide_eq_true tc1_; obtain ⟨ad128, e128, hx128_0⟩ := Kd.at_int tc19_ (rd (rd_L3 t105 x58_2) x70_3) p128 q128; cases e128; replace p128 := eq_true p128; replace q128 := eq_true q128; have p129 : 0 ≤ (x58_2 : Int) := of_decide_eq_true tc1_; have q129 : x58_2 < (t102.length : Int) := of_decide_eq_true tc1_; obtain ⟨ad129, A129_0, c129_0, e129, hx129_0, hl129_0, hi129_0⟩ := at_L3 (Kd.S_reads' HO_5.out).2.2 x58_2 p129 q129; obtain rfl : ad127 = ad129 := (by injection e129); obtain ⟨ce129, hce129, hMe129, hcc129⟩ := Kd.S_get HO_5.out [] x58_2 p129 tc61_; obtain ⟨ve129_0, rfl, ge129_0⟩ := hMe129; have hv129_0 := hcc129 0 _ rfl; rw [Nat.add_zero, show ((Kd.slice 3 (Kd.int .i64))).sz = 1 from rfl, Nat.mul_one] at hv129_0; replace hv129_0 := Option.some.inj (hv129_0.symm.trans hx129_0); rw [hv129_0] at ge129_0; have HL129_0 := am_ (show Kd.R (Kd.int .i64) 3 _ _ _ _ (rd_L3 t102 x58_2) from ge129_0); clear hv129_0 ge129_0; clear hcc129 hce129; have HR129_0 := am_ hi129_0; have HC129_0 := am_ hl129_0; clear hi129_0 hl129_0; replace p129 := eq_true p129; replace q129 := eq_true q129; have ea_ := Option.some.inj (hx127_0.symm.trans hx129_0); injection ea_ with ea_ en_ ec_; subst ea_; subst ec_; clear en_; have p130 : 0 ≤ ((rd (rd_L3 t105 x58_2) x70_3) : Int) := of_decide_eq_true tc1_; have q130 : (rd (rd_L3 t105 x58_2) x70_3) < ((rd_L3 t102 x58_2).length : Int) := of_decide_eq_true tc1_; obtain ⟨ad130, e130, hx130_0⟩ := Kd.at_int tc48_ (rd (rd_L3 t105 x58_2) x70_3) p130 q130; cases e130; replace p130 := eq_true p130; replace q130 := eq_true q130)))
                               (try subst hji35)
                               (try subst hji43)
                               go_roundg kj27
                               case measure => have := HJ7.out; have := HK2.out; have := HK3.out; have := HJ27.out; omega
                               case rel => exact ⟨(wrap64 (x70_3 + 1)), tc6_, H', ⟨by have := HJ7.out; have := HK2.out; have := HK3.out; have := HJ27.out; omega⟩, ⟨by (with_reducible repeat (first | apply Kd.S_alloc | apply Kd.S_drewN | apply Kd.S_drew)); exact HO_5.out⟩, ⟨by (with_reducible repeat (first | apply Kd.S_alloc | apply Kd.S_drewN | apply Kd.S_drew)); exact HO_6.out⟩, ⟨by (with_reducible repeat (first | apply Kd.S_alloc | apply Kd.S_drewN | apply Kd.S_drew)); exact HO_56.out⟩, ⟨by repeat (first | (with_reducible exact HR114_0.out) | (with_reducible refine Kd.C_alloc ?_ _) | (with_reducible refine Kd.C_drewN ?_ _) | (with_reducible refine Kd.C_drew ?_) | exact HR114_0.out)⟩, ⟨by repeat (first | (with_reducible first | exact HB.out | apply below_alloc | apply pw_below_drewN | apply below_drew1) | exact HB.out)⟩⟩
                              ·rw [if_neg c62] at H
                               exact absurd (H.trans (congrArg some HR_.out)) (by simp)
                             ·replace c61 := Bool.eq_false_iff.mpr c61
                              subst c61
                              have H1 : (laws_FnRowSets.l1 kj27 l1 t102 t105 x58_2 (rd_L3 t105 x58_2) t105 (t105.length : Int) x58_2 (rd_L3 t105 x58_2) ((rd_L3 t105 x58_2).length : Int) (wrap64 (x70_3 + 1))) = some r := by rw [if_neg (show ¬ (false = true) by decide)] at H; exact H
                              clear H
                              have H := H1
                              clear H1
                              have H' := am_ H
                              clear H
                              have p125 : 0 ≤ ((ji52) : Int) := of_decide_eq_true tc1_
                              have q125 : (ji52) < (t105.length : Int) := of_decide_eq_true tc1_
                              obtain ⟨ad125, A125_0, c125_0, e125, hx125_0, hl125_0, hi125_0⟩ := at_L3 (Kd.S_reads' HO_6.out).2.2 (ji52) p125 q125
                              obtain rfl : ad114 = ad125 := (by injection e125)
                              obtain ⟨ce125, hce125, hMe125, hcc125⟩ := Kd.S_get HO_6.out [] (ji52) p125 tc60_
                              obtain ⟨ve125_0, rfl, ge125_0⟩ := hMe125
                              have hv125_0 := hcc125 0 _ rfl
                              rw [Nat.add_zero, show ((Kd.slice 3 (Kd.int .i64))).sz = 1 from rfl, Nat.mul_one] at hv125_0
                              replace hv125_0 := Option.some.inj (hv125_0.symm.trans hx125_0)
                              rw [hv125_0] at ge125_0
                              have HL125_0 := am_ (show Kd.R (Kd.int .i64) 3 _ _ _ _ (rd_L3 t105 (ji52)) from ge125_0)
                              clear hv125_0 ge125_0
                              clear hcc125 hce125
                              have HR125_0 := am_ hi125_0
                              have HC125_0 := am_ hl125_0
                              clear hi125_0 hl125_0
                              replace p125 := eq_true p125
                              replace q125 := eq_true q125
                              go_wp2_with (first | (go_at_call 22; (with_reducible refine (laws_uHas.calls kj27 _ _ (rd_L3 t105 (ji52)) (rd (rd_L3 t105 x58_2) x70_3) false _ ?side1 ?side2 A55.out).mono ?_); (case side1 => exact tc8_); (case side2 => exact HC125_0.out); rintro e w' ⟨rfl, ⟨nd, rfl⟩⟩; (try first | exact ⟨rfl, _, World.drewN_drewN _ _ _⟩ | exact ⟨rfl, _, Eq.trans (World.drewN_drewN _ _ _) (congrArg (World.drewN _) (Nat.add_assoc _ _ _))⟩); have p127 : 0 ≤ (x58_2 : Int) := of_decide_eq_true tc1_; have q127 : x58_2 < (t102.length : Int) := of_decide_eq_true tc1_; obtain ⟨ad127, A127_0, c127_0, e127, hx127_0, hl127_0, hi127_0⟩ := at_L3 (Kd.S_reads' HO_5.out).2.2 x58_2 p127 q127; cases e127; obtain ⟨ce127, hce127, hMe127, hcc127⟩ := Kd.S_get HO_5.out [] x58_2 p127 tc25_; obtain ⟨ve127_0, rfl, ge127_0⟩ := hMe127; have hv127_0 := hcc127 0 _ rfl; rw [Nat.add_zero, show ((Kd.slice 3 (Kd.int .i64))).sz = 1 from rfl, Nat.mul_one] at hv127_0; replace hv127_0 := Option.some.inj (hv127_0.symm.trans hx127_0); rw [hv127_0] at ge127_0; have HL127_0 := am_ (show Kd.R (Kd.int .i64) 3 _ _ _ _ (rd_L3 t102 x58_2) from ge127_0); clear hv127_0 ge127_0; clear hcc127 hce127; have HR127_0 := am_ hi127_0; have HC127_0 := am_ hl127_0; clear hi127_0 hl127_0; replace p127 := eq_true p127; replace q127 := eq_true q127; have p128 : 0 ≤ ((rd (rd_L3 t105 x58_2) x70_3) : Int) := of_decide_eq_true tc1_; have q128 : (rd (rd_L3 t105 x58_2) x70_3) < ((rd_L3 t102 x58_2).length : Int) := of_decide_eq_true tc1_; obtain ⟨ad128, e128, hx128_0⟩ := Kd.at_int tc19_ (rd (rd_L3 t105 x58_2) x70_3) p128 q128; cases e128; replace p128 := eq_true p128; replace q128 := eq_true q128))
                              repeat (go_quiet (first | (go_at_call 22; (with_reducible refine (laws_uHas.calls kj27 _ _ (rd_L3 t105 (ji52)) (rd (rd_L3 t105 x58_2) x70_3) false _ ?side1 ?side2 A55.out).mono ?_); (case side1 => exact tc8_); (case side2 => exact HC125_0.out); rintro e w' ⟨rfl, ⟨nd, rfl⟩⟩; (try first | exact ⟨rfl, _, World.drewN_drewN _ _ _⟩ | exact ⟨rfl, _, Eq.trans (World.drewN_drewN _ _ _) (congrArg (World.drewN _) (Nat.add_assoc _ _ _))⟩); have p127 : 0 ≤ (x58_2 : Int) := of_decide_eq_true tc1_; have q127 : x58_2 < (t102.length : Int) := of_decide_eq_true tc1_; obtain ⟨ad127, A127_0, c127_0, e127, hx127_0, hl127_0, hi127_0⟩ := at_L3 (Kd.S_reads' HO_5.out).2.2 x58_2 p127 q127; cases e127; obtain ⟨ce127, hce127, hMe127, hcc127⟩ := Kd.S_get HO_5.out [] x58_2 p127 tc25_; obtain ⟨ve127_0, rfl, ge127_0⟩ := hMe127; have hv127_0 := hcc127 0 _ rfl; rw [Nat.add_zero, show ((Kd.slice 3 (Kd.int .i64))).sz = 1 from rfl, Nat.mul_one] at hv127_0; replace hv127_0 := Option.some.inj (hv127_0.symm.trans hx127_0); rw [hv127_0] at ge127_0; have HL127_0 := am_ (show Kd.R (Kd.int .i64) 3 _ _ _ _ (rd_L3 t102 x58_2) from ge127_0); clear hv127_0 ge127_0; clear hcc127 hce127; have HR127_0 := am_ hi127_0; have HC127_0 := am_ hl127_0; clear hi127_0 hl127_0; replace p127 := eq_true p127; replace q127 := eq_true q127; have p128 : 0 ≤ ((rd (rd_L3 t105 x58_2) x70_3) : Int) := of_decide_eq_true tc1_; have q128 : (rd (rd_L3 t105 x58_2) x70_3) < ((rd_L3 t102 x58_2).length : Int) := of_decide_eq_true tc1_; obtain ⟨ad128, e128, hx128_0⟩ := Kd.at_int tc19_ (rd (rd_L3 t105 x58_2) x70_3) p128 q128; cases e128; replace p128 := eq_true p128; replace q128 := eq_true q128)); try go_wp2_with (first | (go_at_call 22; (with_reducible refine (laws_uHas.calls kj27 _ _ (rd_L3 t105 (ji52)) (rd (rd_L3 t105 x58_2) x70_3) false _ ?side1 ?side2 A55.out).mono ?_); (case side1 => exact tc8_); (case side2 => exact HC125_0.out); rintro e w' ⟨rfl, ⟨nd, rfl⟩⟩; (try first | exact ⟨rfl, _, World.drewN_drewN _ _ _⟩ | exact ⟨rfl, _, Eq.trans (World.drewN_drewN _ _ _) (congrArg (World.drewN _) (Nat.add_assoc _ _ _))⟩); have p127 : 0 ≤ (x58_2 : Int) := of_decide_eq_true tc1_; have q127 : x58_2 < (t102.length : Int) := of_decide_eq_true tc1_; obtain ⟨ad127, A127_0, c127_0, e127, hx127_0, hl127_0, hi127_0⟩ := at_L3 (Kd.S_reads' HO_5.out).2.2 x58_2 p127 q127; cases e127; obtain ⟨ce127, hce127, hMe127, hcc127⟩ := Kd.S_get HO_5.out [] x58_2 p127 tc25_; obtain ⟨ve127_0, rfl, ge127_0⟩ := hMe127; have hv127_0 := hcc127 0 _ rfl; rw [Nat.add_zero, show ((Kd.slice 3 (Kd.int .i64))).sz = 1 from rfl, Nat.mul_one] at hv127_0; replace hv127_0 := Option.some.inj (hv127_0.symm.trans hx127_0); rw [hv127_0] at ge127_0; have HL127_0 := am_ (show Kd.R (Kd.int .i64) 3 _ _ _ _ (rd_L3 t102 x58_2) from ge127_0); clear hv127_0 ge127_0; clear hcc127 hce127; have HR127_0 := am_ hi127_0; have HC127_0 := am_ hl127_0; clear hi127_0 hl127_0; replace p127 := eq_true p127; replace q127 := eq_true q127; have p128 : 0 ≤ ((rd (rd_L3 t105 x58_2) x70_3) : Int) := of_decide_eq_true tc1_; have q128 : (rd (rd_L3 t105 x58_2) x70_3) < ((rd_L3 t102 x58_2).length : Int) := of_decide_eq_true tc1_; obtain ⟨ad128, e128, hx128_0⟩ := Kd.at_int tc19_ (rd (rd_L3 t105 x58_2) x70_3) p128 q128; cases e128; replace p128 := eq_true p128; replace q128 := eq_true q128)))
                              (try subst hji35)
                              (try subst hji43)
                              go_roundg kj27
                              case measure => have := HJ7.out; have := HK2.out; have := HK3.out; have := HJ27.out; omega
                              case rel => exact ⟨(wrap64 (x70_3 + 1)), tc6_, H', ⟨by have := HJ7.out; have := HK2.out; have := HK3.out; have := HJ27.out; omega⟩, ⟨by (with_reducible repeat (first | apply Kd.S_alloc | apply Kd.S_drewN | apply Kd.S_drew)); exact HO_5.out⟩, ⟨by (with_reducible repeat (first | apply Kd.S_alloc | apply Kd.S_drewN | apply Kd.S_drew)); exact HO_6.out⟩, ⟨by (with_reducible repeat (first | apply Kd.S_alloc | apply Kd.S_drewN | apply Kd.S_drew)); exact HO_56.out⟩, ⟨by repeat (first | (with_reducible exact HR114_0.out) | (with_reducible refine Kd.C_alloc ?_ _) | (with_reducible refine Kd.C_drewN ?_ _) | (with_reducible refine Kd.C_drew ?_) | exact HR114_0.out)⟩, ⟨by repeat (first | (with_reducible first | exact HB.out | apply below_alloc | apply pw_below_drewN | apply below_drew1) | exact HB.out)⟩⟩
                            ·rw [if_neg c60] at H
                             have c60b0 : ((rd (rd_L3 t102 x58_2) (rd (rd_L3 t105 x58_2) x70_3)) == 1) = false := beq_eq_false_iff_ne.mpr c60
                             have c60b1 : ((rd (rd_L3 t102 x58_2) (rd (rd_L3 t105 x58_2) x70_3)) != 1) = true := bne_iff_ne.mpr c60
                             by_cases c63 : t126 = true
                             ·subst c63
                              have H1 : (if (rd (rd_L3 t102 x58_2) (rd (rd_L3 t105 x58_2) x70_3)) = 0 then (laws_FnRowSets.l1 kj27 l1 t102 t105 x58_2 (rd_L3 t105 x58_2) t105 (t105.length : Int) x58_2 (rd_L3 t105 x58_2) ((rd_L3 t105 x58_2).length : Int) (wrap64 (x70_3 + 1))) else (some false)) = some r := by rw [if_pos rfl] at H; exact H
                              clear H
                              have H := H1
                              clear H1
                              by_cases c64 : (rd (rd_L3 t102 x58_2) (rd (rd_L3 t105 x58_2) x70_3)) = 0
                              ·rw [if_pos c64] at H
                               have c64b0 : ((rd (rd_L3 t102 x58_2) (rd (rd_L3 t105 x58_2) x70_3)) == 0) = true := beq_iff_eq.mpr c64
                               have c64b1 : ((rd (rd_L3 t102 x58_2) (rd (rd_L3 t105 x58_2) x70_3)) != 0) = false := bne_eq_false_iff_eq.mpr c64
                               clear c64
                               have H' := am_ H
                               clear H
                               have p125 : 0 ≤ ((ji52) : Int) := of_decide_eq_true tc1_
                               have q125 : (ji52) < (t105.length : Int) := of_decide_eq_true tc1_
                               obtain ⟨ad125, A125_0, c125_0, e125, hx125_0, hl125_0, hi125_0⟩ := at_L3 (Kd.S_reads' HO_6.out).2.2 (ji52) p125 q125
                               obtain rfl : ad114 = ad125 := (by injection e125)
                               obtain ⟨ce125, hce125, hMe125, hcc125⟩ := Kd.S_get HO_6.out [] (ji52) p125 tc60_
                               obtain ⟨ve125_0, rfl, ge125_0⟩ := hMe125
                               have hv125_0 := hcc125 0 _ rfl
                               rw [Nat.add_zero, show ((Kd.slice 3 (Kd.int .i64))).sz = 1 from rfl, Nat.mul_one] at hv125_0
                               replace hv125_0 := Option.some.inj (hv125_0.symm.trans hx125_0)
                               rw [hv125_0] at ge125_0
                               have HL125_0 := am_ (show Kd.R (Kd.int .i64) 3 _ _ _ _ (rd_L3 t105 (ji52)) from ge125_0)
                               clear hv125_0 ge125_0
                               clear hcc125 hce125
                               have HR125_0 := am_ hi125_0
                               have HC125_0 := am_ hl125_0
                               clear hi125_0 hl125_0
                               replace p125 := eq_true p125
                               replace q125 := eq_true q125
                               go_wp2_with (first | (go_at_call 22; (with_reducible refine (laws_uHas.calls kj27 _ _ (rd_L3 t105 (ji52)) (rd (rd_L3 t105 x58_2) x70_3) true _ ?side1 ?side2 A55.out).mono ?_); (case side1 => exact tc8_); (case side2 => exact HC125_0.out); rintro e w' ⟨rfl, ⟨nd, rfl⟩⟩; (try first | exact ⟨rfl, _, World.drewN_drewN _ _ _⟩ | exact ⟨rfl, _, Eq.trans (World.drewN_drewN _ _ _) (congrArg (World.drewN _) (Nat.add_assoc _ _ _))⟩); have p127 : 0 ≤ (x58_2 : Int) := of_decide_eq_true tc1_; have q127 : x58_2 < (t102.length : Int) := of_decide_eq_true tc1_; obtain ⟨ad127, A127_0, c127_0, e127, hx127_0, hl127_0, hi127_0⟩ := at_L3 (Kd.S_reads' HO_5.out).2.2 x58_2 p127 q127; cases e127; obtain ⟨ce127, hce127, hMe127, hcc127⟩ := Kd.S_get HO_5.out [] x58_2 p127 tc25_; obtain ⟨ve127_0, rfl, ge127_0⟩ := hMe127; have hv127_0 := hcc127 0 _ rfl; rw [Nat.add_zero, show ((Kd.slice 3 (Kd.int .i64))).sz = 1 from rfl, Nat.mul_one] at hv127_0; replace hv127_0 := Option.some.inj (hv127_0.symm.trans hx127_0); rw [hv127_0] at ge127_0; have HL127_0 := am_ (show Kd.R (Kd.int .i64) 3 _ _ _ _ (rd_L3 t102 x58_2) from ge127_0); clear hv127_0 ge127_0; clear hcc127 hce127; have HR127_0 := am_ hi127_0; have HC127_0 := am_ hl127_0; clear hi127_0 hl127_0; replace p127 := eq_true p127; replace q127 := eq_true q127; have p128 : 0 ≤ ((rd (rd_L3 t105 x58_2) x70_3) : Int) := of_decide_eq_true tc1_; have q128 : (rd (rd_L3 t105 x58_2) x70_3) < ((rd_L3 t102 x58_2).length : Int) := of_decide_eq_true tc1_; obtain ⟨ad128, e128, hx128_0⟩ := Kd.at_int tc19_ (rd (rd_L3 t105 x58_2) x70_3) p128 q128; cases e128; replace p128 := eq_true p128; replace q128 := eq_true q128; have p131 : 0 ≤ (x58_2 : Int) := of_decide_eq_true tc1_; have q131 : x58_2 < (t102.length : Int) := of_decide_eq_true tc1_; obtain ⟨ad131, A131_0, c131_0, e131, hx131_0, hl131_0, hi131_0⟩ := at_L3 (Kd.S_reads' HO_5.out).2.2 x58_2 p131 q131; obtain rfl : ad127 = ad131 := (by injection e131); obtain ⟨ce131, hce131, hMe131, hcc131⟩ := Kd.S_get HO_5.out [] x58_2 p131 tc62_; obtain ⟨ve131_0, rfl, ge131_0⟩ := hMe131; have hv131_0 := hcc131 0 _ rfl; rw [Nat.add_zero, show ((Kd.slice 3 (Kd.int .i64))).sz = 1 from rfl, Nat.mul_one] at hv131_0; replace hv131_0 := Option.some.inj (hv131_0.symm.trans hx131_0); rw [hv131_0] at ge131_0; have HL131_0 := am_ (show Kd.R (Kd.int .i64) 3 _ _ _ _ (rd_L3 t102 x58_2) from ge131_0); clear hv131_0 ge131_0; clear hcc131 hce131; have HR131_0 := am_ hi131_0; have HC131_0 := am_ hl131_0; clear hi131_0 hl131_0; replace p131 := eq_true p131; replace q131 := eq_true q131; have ea_ := Option.some.inj (hx127_0.symm.trans hx131_0); injection ea_ with ea_ en_ ec_; subst ea_; subst ec_; clear en_; have p132 : 0 ≤ ((rd (rd_L3 t105 x58_2) x70_3) : Int) := of_decide_eq_true tc1_; have q132 : (rd (rd_L3 t105 x58_2) x70_3) < ((rd_L3 t102 x58_2).length : Int) := of_decide_eq_true tc1_; obtain ⟨ad132, e132, hx132_0⟩ := Kd.at_int tc49_ (rd (rd_L3 t105 x58_2) x70_3) p132 q132; cases e132; replace p132 := eq_true p132; replace q132 := eq_true q132))
                               repeat (go_quiet (first | (go_at_call 22; (with_reducible refine (laws_uHas.calls kj27 _ _ (rd_L3 t105 (ji52)) (rd (rd_L3 t105 x58_2) x70_3) true _ ?side1 ?side2 A55.out).mono ?_); (case side1 => exact tc8_); (case side2 => exact HC125_0.out); rintro e w' ⟨rfl, ⟨nd, rfl⟩⟩; (try first | exact ⟨rfl, _, World.drewN_drewN _ _ _⟩ | exact ⟨rfl, _, Eq.trans (World.drewN_drewN _ _ _) (congrArg (World.drewN _) (Nat.add_assoc _ _ _))⟩); have p127 : 0 ≤ (x58_2 : Int) := of_decide_eq_true tc1_; have q127 : x58_2 < (t102.length : Int) := of_decide_eq_true tc1_; obtain ⟨ad127, A127_0, c127_0, e127, hx127_0, hl127_0, hi127_0⟩ := at_L3 (Kd.S_reads' HO_5.out).2.2 x58_2 p127 q127; cases e127; obtain ⟨ce127, hce127, hMe127, hcc127⟩ := Kd.S_get HO_5.out [] x58_2 p127 tc25_; obtain ⟨ve127_0, rfl, ge127_0⟩ := hMe127; have hv127_0 := hcc127 0 _ rfl; rw [Nat.add_zero, show ((Kd.slice 3 (Kd.int .i64))).sz = 1 from rfl, Nat.mul_one] at hv127_0; replace hv127_0 := Option.some.inj (hv127_0.symm.trans hx127_0); rw [hv127_0] at ge127_0; have HL127_0 := am_ (show Kd.R (Kd.int .i64) 3 _ _ _ _ (rd_L3 t102 x58_2) from ge127_0); clear hv127_0 ge127_0; clear hcc127 hce127; have HR127_0 := am_ hi127_0; have HC127_0 := am_ hl127_0; clear hi127_0 hl127_0; replace p127 := eq_true p127; replace q127 := eq_true q127; have p128 : 0 ≤ ((rd (rd_L3 t105 x58_2) x70_3) : Int) := of_decide_eq_true tc1_; have q128 : (rd (rd_L3 t105 x58_2) x70_3) < ((rd_L3 t102 x58_2).length : Int) := of_decide_eq_true tc1_; obtain ⟨ad128, e128, hx128_0⟩ := Kd.at_int tc19_ (rd (rd_L3 t105 x58_2) x70_3) p128 q128; cases e128; replace p128 := eq_true p128; replace q128 := eq_true q128; have p131 : 0 ≤ (x58_2 : Int) := of_decide_eq_true tc1_; have q131 : x58_2 < (t102.length : Int) := of_decide_eq_true tc1_; obtain ⟨ad131, A131_0, c131_0, e131, hx131_0, hl131_0, hi131_0⟩ := at_L3 (Kd.S_reads' HO_5.out).2.2 x58_2 p131 q131; obtain rfl : ad127 = ad131 := (by injection e131); obtain ⟨ce131, hce131, hMe131, hcc131⟩ := Kd.S_get HO_5.out [] x58_2 p131 tc62_; obtain ⟨ve131_0, rfl, ge131_0⟩ := hMe131; have hv131_0 := hcc131 0 _ rfl; rw [Nat.add_zero, show ((Kd.slice 3 (Kd.int .i64))).sz = 1 from rfl, Nat.mul_one] at hv131_0; replace hv131_0 := Option.some.inj (hv131_0.symm.trans hx131_0); rw [hv131_0] at ge131_0; have HL131_0 := am_ (show Kd.R (Kd.int .i64) 3 _ _ _ _ (rd_L3 t102 x58_2) from ge131_0); clear hv131_0 ge131_0; clear hcc131 hce131; have HR131_0 := am_ hi131_0; have HC131_0 := am_ hl131_0; clear hi131_0 hl131_0; replace p131 := eq_true p131; replace q131 := eq_true q131; have ea_ := Option.some.inj (hx127_0.symm.trans hx131_0); injection ea_ with ea_ en_ ec_; subst ea_; subst ec_; clear en_; have p132 : 0 ≤ ((rd (rd_L3 t105 x58_2) x70_3) : Int) := of_decide_eq_true tc1_; have q132 : (rd (rd_L3 t105 x58_2) x70_3) < ((rd_L3 t102 x58_2).length : Int) := of_decide_eq_true tc1_; obtain ⟨ad132, e132, hx132_0⟩ := Kd.at_int tc49_ (rd (rd_L3 t105 x58_2) x70_3) p132 q132; cases e132; replace p132 := eq_true p132; replace q132 := eq_true q132)); try go_wp2_with (first | (go_at_call 22; (with_reducible refine (laws_uHas.calls kj27 _ _ (rd_L3 t105 (ji52)) (rd (rd_L3 t105 x58_2) x70_3) true _ ?side1 ?side2 A55.out).mono ?_); (case side1 => exact tc8_); (case side2 => exact HC125_0.out); rintro e w' ⟨rfl, ⟨nd, rfl⟩⟩; (try first | exact ⟨rfl, _, World.drewN_drewN _ _ _⟩ | exact ⟨rfl, _, Eq.trans (World.drewN_drewN _ _ _) (congrArg (World.drewN _) (Nat.add_assoc _ _ _))⟩); have p127 : 0 ≤ (x58_2 : Int) := of_decide_eq_true tc1_; have q127 : x58_2 < (t102.length : Int) := of_decide_eq_true tc1_; obtain ⟨ad127, A127_0, c127_0, e127, hx127_0, hl127_0, hi127_0⟩ := at_L3 (Kd.S_reads' HO_5.out).2.2 x58_2 p127 q127; cases e127; obtain ⟨ce127, hce127, hMe127, hcc127⟩ := Kd.S_get HO_5.out [] x58_2 p127 tc25_; obtain ⟨ve127_0, rfl, ge127_0⟩ := hMe127; have hv127_0 := hcc127 0 _ rfl; rw [Nat.add_zero, show ((Kd.slice 3 (Kd.int .i64))).sz = 1 from rfl, Nat.mul_one] at hv127_0; replace hv127_0 := Option.some.inj (hv127_0.symm.trans hx127_0); rw [hv127_0] at ge127_0; have HL127_0 := am_ (show Kd.R (Kd.int .i64) 3 _ _ _ _ (rd_L3 t102 x58_2) from ge127_0); clear hv127_0 ge127_0; clear hcc127 hce127; have HR127_0 := am_ hi127_0; have HC127_0 := am_ hl127_0; clear hi127_0 hl127_0; replace p127 := eq_true p127; replace q127 := eq_true q127; have p128 : 0 ≤ ((rd (rd_L3 t105 x58_2) x70_3) : Int) := of_decide_eq_true tc1_; have q128 : (rd (rd_L3 t105 x58_2) x70_3) < ((rd_L3 t102 x58_2).length : Int) := of_decide_eq_true tc1_; obtain ⟨ad128, e128, hx128_0⟩ := Kd.at_int tc19_ (rd (rd_L3 t105 x58_2) x70_3) p128 q128; cases e128; replace p128 := eq_true p128; replace q128 := eq_true q128; have p131 : 0 ≤ (x58_2 : Int) := of_decide_eq_true tc1_; have q131 : x58_2 < (t102.length : Int) := of_decide_eq_true tc1_; obtain ⟨ad131, A131_0, c131_0, e131, hx131_0, hl131_0, hi131_0⟩ := at_L3 (Kd.S_reads' HO_5.out).2.2 x58_2 p131 q131; obtain rfl : ad127 = ad131 := (by injection e131); obtain ⟨ce131, hce131, hMe131, hcc131⟩ := Kd.S_get HO_5.out [] x58_2 p131 tc62_; obtain ⟨ve131_0, rfl, ge131_0⟩ := hMe131; have hv131_0 := hcc131 0 _ rfl; rw [Nat.add_zero, show ((Kd.slice 3 (Kd.int .i64))).sz = 1 from rfl, Nat.mul_one] at hv131_0; replace hv131_0 := Option.some.inj (hv131_0.symm.trans hx131_0); rw [hv131_0] at ge131_0; have HL131_0 := am_ (show Kd.R (Kd.int .i64) 3 _ _ _ _ (rd_L3 t102 x58_2) from ge131_0); clear hv131_0 ge131_0; clear hcc131 hce131; have HR131_0 := am_ hi131_0; have HC131_0 := am_ hl131_0; clear hi131_0 hl131_0; replace p131 := eq_true p131; replace q131 := eq_true q131; have ea_ := Option.some.inj (hx127_0.symm.trans hx131_0); injection ea_ with ea_ en_ ec_; subst ea_; subst ec_; clear en_; have p132 : 0 ≤ ((rd (rd_L3 t105 x58_2) x70_3) : Int) := of_decide_eq_true tc1_; have q132 : (rd (rd_L3 t105 x58_2) x70_3) < ((rd_L3 t102 x58_2).length : Int) := of_decide_eq_true tc1_; obtain ⟨ad132, e132, hx132_0⟩ := Kd.at_int tc49_ (rd (rd_L3 t105 x58_2) x70_3) p132 q132; cases e132; replace p132 := eq_true p132; replace q132 := eq_true q132)))
                               (try subst hji35)
                               (try subst hji43)
                               go_roundg kj27
                               case measure => have := HJ7.out; have := HK2.out; have := HK3.out; have := HJ27.out; omega
                               case rel => exact ⟨(wrap64 (x70_3 + 1)), tc6_, H', ⟨by have := HJ7.out; have := HK2.out; have := HK3.out; have := HJ27.out; omega⟩, ⟨by (with_reducible repeat (first | apply Kd.S_alloc | apply Kd.S_drewN | apply Kd.S_drew)); exact HO_5.out⟩, ⟨by (with_reducible repeat (first | apply Kd.S_alloc | apply Kd.S_drewN | apply Kd.S_drew)); exact HO_6.out⟩, ⟨by (with_reducible repeat (first | apply Kd.S_alloc | apply Kd.S_drewN | apply Kd.S_drew)); exact HO_56.out⟩, ⟨by repeat (first | (with_reducible exact HR114_0.out) | (with_reducible refine Kd.C_alloc ?_ _) | (with_reducible refine Kd.C_drewN ?_ _) | (with_reducible refine Kd.C_drew ?_) | exact HR114_0.out)⟩, ⟨by repeat (first | (with_reducible first | exact HB.out | apply below_alloc | apply pw_below_drewN | apply below_drew1) | exact HB.out)⟩⟩
                              ·rw [if_neg c64] at H
                               exact absurd (H.trans (congrArg some HR_.out)) (by simp)
                             ·replace c63 := Bool.eq_false_iff.mpr c63
                              subst c63
                              exact absurd ((show (some false : Option Bool) = some r from (by rw [if_neg (show ¬ (false = true) by decide)] at H; exact H)).trans (congrArg some HR_.out)) (by simp)
                           ·rw [if_neg c59] at H
                            exact absurd H (by simp)
                          ·rw [if_neg c58] at H
                           exact absurd H (by simp)
                         ·rw [if_neg c57] at H
                          exact absurd H (by simp)
                        ·rw [if_neg c56] at H
                         exact absurd H (by simp)
                       ·rw [if_neg c54] at H
                        exact absurd H (by simp)
                      ·rw [if_neg c53] at H
                       exact absurd H (by simp)
                     ·rw [if_neg c51] at H
                      have c51b0 : decide (0 < x58_2) = false := decide_eq_false c51
                      clear c51
                      by_cases c65 : 0 ≤ x58_2
                      ·rw [if_pos c65] at H
                       have c65b0 : decide (0 ≤ x58_2) = true := decide_eq_true c65
                       clear c65
                       by_cases c66 : x58_2 < (t102.length : Int)
                       ·rw [if_pos c66] at H
                        have c66b0 : decide (x58_2 < (t102.length : Int)) = true := decide_eq_true c66
                        clear c66
                        by_cases c67 : 0 ≤ (rd (rd_L3 t105 x58_2) x70_3)
                        ·rw [if_pos c67] at H
                         have c67b0 : decide (0 ≤ (rd (rd_L3 t105 x58_2) x70_3)) = true := decide_eq_true c67
                         clear c67
                         by_cases c68 : (rd (rd_L3 t105 x58_2) x70_3) < ((rd_L3 t102 x58_2).length : Int)
                         ·rw [if_pos c68] at H
                          have c68b0 : decide ((rd (rd_L3 t105 x58_2) x70_3) < ((rd_L3 t102 x58_2).length : Int)) = true := decide_eq_true c68
                          clear c68
                          by_cases c69 : (rd (rd_L3 t102 x58_2) (rd (rd_L3 t105 x58_2) x70_3)) = 1
                          ·rw [if_pos c69] at H
                           have c69b0 : ((rd (rd_L3 t102 x58_2) (rd (rd_L3 t105 x58_2) x70_3)) == 1) = true := beq_iff_eq.mpr c69
                           have c69b1 : ((rd (rd_L3 t102 x58_2) (rd (rd_L3 t105 x58_2) x70_3)) != 1) = false := bne_eq_false_iff_eq.mpr c69
                           clear c69
                           have H' := am_ H
                           clear H
                           have p133 : 0 ≤ (x58_2 : Int) := of_decide_eq_true tc1_
                           have q133 : x58_2 < (t102.length : Int) := of_decide_eq_true tc1_
                           obtain ⟨ad133, A133_0, c133_0, e133, hx133_0, hl133_0, hi133_0⟩ := at_L3 (Kd.S_reads' HO_5.out).2.2 x58_2 p133 q133
                           cases e133
                           obtain ⟨ce133, hce133, hMe133, hcc133⟩ := Kd.S_get HO_5.out [] x58_2 p133 (by first | exact q133 | exact of_decide_eq_true tc1_ | (have e_ := (Kd.S_reads' HO_5.out).1; omega))
                           obtain ⟨ve133_0, rfl, ge133_0⟩ := hMe133
                           have hv133_0 := hcc133 0 _ rfl
                           rw [Nat.add_zero, show ((Kd.slice 3 (Kd.int .i64))).sz = 1 from rfl, Nat.mul_one] at hv133_0
                           replace hv133_0 := Option.some.inj (hv133_0.symm.trans hx133_0)
                           rw [hv133_0] at ge133_0
                           have HL133_0 := am_ (show Kd.R (Kd.int .i64) 3 _ _ _ _ (rd_L3 t102 x58_2) from ge133_0)
                           clear hv133_0 ge133_0
                           clear hcc133 hce133
                           have HR133_0 := am_ hi133_0
                           have HC133_0 := am_ hl133_0
                           clear hi133_0 hl133_0
                           replace p133 := eq_true p133
                           replace q133 := eq_true q133
                           have p134 : 0 ≤ ((rd (rd_L3 t105 x58_2) x70_3) : Int) := of_decide_eq_true tc1_
                           have q134 : (rd (rd_L3 t105 x58_2) x70_3) < ((rd_L3 t102 x58_2).length : Int) := of_decide_eq_true tc1_
                           obtain ⟨ad134, e134, hx134_0⟩ := Kd.at_int (by repeat (first | (with_reducible exact HR133_0.out) | (with_reducible refine Kd.C_alloc ?_ _) | (with_reducible refine Kd.C_drewN ?_ _) | (with_reducible refine Kd.C_drew ?_) | exact HR133_0.out)) (rd (rd_L3 t105 x58_2) x70_3) p134 q134
                           cases e134
                           replace p134 := eq_true p134
                           replace q134 := eq_true q134
                           go_wp2
                           repeat (go_quiet (fail); try go_wp2)
                           (try subst hji35)
                           (try subst hji43)
                           go_roundg kj27
                           case measure => have := HJ7.out; have := HK2.out; have := HK3.out; have := HJ27.out; omega
                           case rel => exact ⟨(wrap64 (x70_3 + 1)), tc6_, H', ⟨by have := HJ7.out; have := HK2.out; have := HK3.out; have := HJ27.out; omega⟩, ⟨by (with_reducible repeat (first | apply Kd.S_alloc | apply Kd.S_drewN | apply Kd.S_drew)); exact HO_5.out⟩, ⟨by (with_reducible repeat (first | apply Kd.S_alloc | apply Kd.S_drewN | apply Kd.S_drew)); exact HO_6.out⟩, ⟨by (with_reducible repeat (first | apply Kd.S_alloc | apply Kd.S_drewN | apply Kd.S_drew)); exact HO_56.out⟩, ⟨by repeat (first | (with_reducible exact HR114_0.out) | (with_reducible refine Kd.C_alloc ?_ _) | (with_reducible refine Kd.C_drewN ?_ _) | (with_reducible refine Kd.C_drew ?_) | exact HR114_0.out)⟩, ⟨by repeat (first | (with_reducible first | exact HB.out | apply below_alloc | apply pw_below_drewN | apply below_drew1) | exact HB.out)⟩⟩
                          ·rw [if_neg c69] at H
                           exact absurd (H.trans (congrArg some HR_.out)) (by simp)
                         ·rw [if_neg c68] at H
                          exact absurd H (by simp)
                        ·rw [if_neg c67] at H
                         exact absurd H (by simp)
                       ·rw [if_neg c66] at H
                        exact absurd H (by simp)
                      ·rw [if_neg c65] at H
                       exact absurd H (by simp)
                 ·rw [if_neg c27] at H
                  exact absurd H (by simp)
                ·rw [if_neg c26] at H
                 exact absurd H (by simp)
               ·rw [if_neg c25] at H
                have c25b0 : decide (x70_3 < ((rd_L3 t105 x58_2).length : Int)) = false := decide_eq_false c25
                clear c25
                have H' := am_ H
                clear H
                go_wp2
                repeat (go_quiet (fail); try go_wp2)
                (try subst hji35)
                (try subst hji43)
                go_roundg k3
                case measure => have := HJ7.out; have := HK2.out; have := HK3.out; omega
                case rel => exact ⟨(wrap64 (x58_2 + 1)), tc6_, H', ⟨by have := HJ7.out; have := HK2.out; have := HK3.out; omega⟩, ⟨by (with_reducible repeat (first | apply Kd.S_alloc | apply Kd.S_drewN | apply Kd.S_drew)); exact HO_5.out⟩, ⟨by (with_reducible repeat (first | apply Kd.S_alloc | apply Kd.S_drewN | apply Kd.S_drew)); exact HO_6.out⟩, ⟨by (with_reducible repeat (first | apply Kd.S_alloc | apply Kd.S_drewN | apply Kd.S_drew)); exact HO_56.out⟩, ⟨by repeat (first | (with_reducible first | exact HB.out | apply below_alloc | apply pw_below_drewN | apply below_drew1) | exact HB.out)⟩⟩
            ·rw [if_neg c24] at H
             have c24b0 : (((rd_L3 t105 x58_2).length : Int) == (wrap64 (x58_2 + 1))) = false := beq_eq_false_iff_ne.mpr c24
             have c24b1 : (((rd_L3 t105 x58_2).length : Int) != (wrap64 (x58_2 + 1))) = true := bne_iff_ne.mpr c24
             obtain rfl := Option.some.inj H
             have p114 : 0 ≤ (x58_2 : Int) := of_decide_eq_true tc1_
             have q114 : x58_2 < (t105.length : Int) := of_decide_eq_true tc1_
             obtain ⟨ad114, A114_0, c114_0, e114, hx114_0, hl114_0, hi114_0⟩ := at_L3 (Kd.S_reads' HO_56.out).2.2 x58_2 p114 q114
             cases e114
             obtain ⟨ce114, hce114, hMe114, hcc114⟩ := Kd.S_get HO_56.out [] x58_2 p114 (by first | exact q114 | exact of_decide_eq_true tc1_ | (have e_ := (Kd.S_reads' HO_56.out).1; omega))
             obtain ⟨ve114_0, rfl, ge114_0⟩ := hMe114
             have hv114_0 := hcc114 0 _ rfl
             rw [Nat.add_zero, show ((Kd.slice 3 (Kd.int .i64))).sz = 1 from rfl, Nat.mul_one] at hv114_0
             replace hv114_0 := Option.some.inj (hv114_0.symm.trans hx114_0)
             rw [hv114_0] at ge114_0
             have HL114_0 := am_ (show Kd.R (Kd.int .i64) 3 _ _ _ _ (rd_L3 t105 x58_2) from ge114_0)
             clear hv114_0 ge114_0
             clear hcc114 hce114
             have HR114_0 := am_ hi114_0
             have HC114_0 := am_ hl114_0
             clear hi114_0 hl114_0
             replace p114 := eq_true p114
             replace q114 := eq_true q114
             go_wp2
             repeat (go_quiet (fail); try go_wp2)
             go_ret
             exact ⟨by first | rfl | (simp [errW_none, errW_some] <;> rfl) | (simp [*, errW_none, errW_some] <;> rfl), by repeat (first | (with_reducible first | exact HB.out | apply below_alloc | apply pw_below_drewN | apply below_drew1) | exact HB.out)⟩
           ·rw [if_neg c23] at H
            exact absurd H (by simp)
          ·rw [if_neg c22] at H
           exact absurd H (by simp)
         ·rw [if_neg c21] at H
          have c21b0 : decide (x58_2 < (t105.length : Int)) = false := decide_eq_false c21
          clear c21
          (first | rw [c21b0] | (simp only [i64_w, i32_w]; rw [c21b0]) | skip)
          have H' := am_ H
          clear H
          go_wp2
          repeat (go_quiet (fail); try go_wp2)
          (try subst hji35)
          (try subst hji43)
          go_meet
          case rel => exact ⟨_, H', ⟨by have := HJ7.out; have := HK2.out; first | omega | exact Nat.le_refl _⟩, ⟨by repeat (first | (with_reducible first | exact HB.out | apply below_alloc | apply pw_below_drewN | apply below_drew1) | exact HB.out)⟩⟩
      ·replace c19 := Bool.eq_false_iff.mpr c19
       subst c19
       have H1 : (laws_FnRowSets.j4 kj7 l1) = some r := by rw [if_neg (show ¬ (false = true) by decide)] at H; exact H
       clear H
       have H := H1
       clear H1
       have H' := am_ H
       clear H
       go_wp2
       repeat (go_quiet (fail); try go_wp2)
       (try subst hji35)
       (try subst hji43)
       go_meet
       case rel => exact ⟨_, H', ⟨by have := HJ7.out; first | omega | exact Nat.le_refl _⟩, ⟨by repeat (first | (with_reducible first | exact HB.out | apply below_alloc | apply pw_below_drewN | apply below_drew1) | exact HB.out)⟩⟩
     case rest => as_aux_lemma =>
      clear HC18
      try clear c1
      try clear p1
      try clear q1
      try clear hx1
      try clear c2
      try clear p2
      try clear c3
      try clear c4
      try clear c5
      try clear c6
      try clear p6
      try clear c11
      try clear p11
      try clear q11
      try clear hx11
      try clear c12
      try clear p12
      try clear q12
      try clear hx12
      try clear c13
      try clear c13b0
      try clear c13b1
      try clear c13b2
      try clear p13
      try clear q13
      try clear hx13
      try clear c17
      try clear c19
      try clear c21
      try clear c21b0
      try clear c22
      try clear c22b0
      try clear c23
      try clear c23b0
      try clear c24
      try clear c24b0
      try clear c24b1
      try clear c25
      try clear c25b0
      try clear c26
      try clear c26b0
      try clear c27
      try clear c27b0
      try clear c29
      try clear c29b0
      try clear c31
      try clear c31b0
      try clear c32
      try clear c32b0
      try clear c33
      try clear c33b0
      try clear c34
      try clear c34b0
      try clear c36
      try clear c36b0
      try clear c37
      try clear c37b0
      try clear c38
      try clear c38b0
      try clear c40
      try clear c40b0
      try clear c41
      try clear c41b0
      try clear c42
      try clear c42b0
      try clear c44
      try clear c44b0
      try clear c45
      try clear c45b0
      try clear c46
      try clear c46b0
      try clear c48
      try clear c48b0
      try clear c49
      try clear c49b0
      try clear c50
      try clear c51
      try clear c51b0
      try clear c53
      try clear c53b0
      try clear c54
      try clear c54b0
      try clear c56
      try clear c56b0
      try clear c57
      try clear c57b0
      try clear c58
      try clear c58b0
      try clear c59
      try clear c59b0
      try clear c60
      try clear c60b0
      try clear c60b1
      try clear c61
      try clear c62
      try clear c62b0
      try clear c62b1
      try clear c63
      try clear c64
      try clear c64b0
      try clear c64b1
      try clear p64
      try clear c65
      try clear c65b0
      try clear c66
      try clear c66b0
      try clear c67
      try clear c67b0
      try clear c68
      try clear c68b0
      try clear c69
      try clear c69b0
      try clear c69b1
      try clear hx114_0
      try clear hx115_0
      try clear hx116_0
      try clear hx117_0
      try clear hx118_0
      try clear hx119_0
      try clear hx120_0
      try clear hx121_0
      try clear hx122_0
      try clear hx123_0
      try clear hx124_0
      try clear hx125_0
      try clear hx127_0
      try clear hx128_0
      try clear hx129_0
      try clear hx130_0
      try clear hx131_0
      try clear hx132_0
      try clear hx133_0
      try clear hx134_0
      try clear p1
      try clear p11
      try clear p114
      try clear p115
      try clear p116
      try clear p117
      try clear p118
      try clear p119
      try clear p12
      try clear p120
      try clear p121
      try clear p122
      try clear p123
      try clear p124
      try clear p125
      try clear p127
      try clear p128
      try clear p129
      try clear p130
      try clear p131
      try clear p132
      try clear p133
      try clear p134
      try clear p2
      try clear p6
      try clear q1
      try clear q11
      try clear q114
      try clear q115
      try clear q116
      try clear q117
      try clear q118
      try clear q119
      try clear q12
      try clear q120
      try clear q121
      try clear q122
      try clear q123
      try clear q124
      try clear q125
      try clear q127
      try clear q128
      try clear q129
      try clear q130
      try clear q131
      try clear q132
      try clear q133
      try clear q134
      obtain ⟨kq, HA, HJ17, HB⟩ := hcut
      cases kq with
      | zero => exact absurd HA.out (by simp [laws_FnRowSets.j4])
      | succ kj17 =>
       have H := HA.out
       clear HA
       simp only [laws_FnRowSets.j4] at H
       replace H := Option.bind_eq_some_iff.mp H
       obtain ⟨⟨t135, t136, t137⟩, A700, H⟩ := H
       replace H : ((impl_SetWeight.f kj17 t135 t136 t137).bind fun bt142 => ((spec_SetWeight.f kj17 t135 t136 t137).bind fun bt144 => (if (bt142.2 != bt144.2) = true then (laws_FnRowSets.j5 kj17 l1 true) else (laws_FnRowSets.j5 kj17 l1 (bt142.1 != bt144.1))))) = some r := H
       have A70 := am_ A700
       clear A700
       replace H := Option.bind_eq_some_iff.mp H
       obtain ⟨⟨t142, t143⟩, A710, H⟩ := H
       replace H : ((spec_SetWeight.f kj17 t135 t136 t137).bind fun bt144 => (if (t143 != bt144.2) = true then (laws_FnRowSets.j5 kj17 l1 true) else (laws_FnRowSets.j5 kj17 l1 (t142 != bt144.1)))) = some r := H
       have A71 := am_ A710
       clear A710
       replace H := Option.bind_eq_some_iff.mp H
       obtain ⟨⟨t144, t145⟩, A720, H⟩ := H
       replace H : (if (t143 != t145) = true then (laws_FnRowSets.j5 kj17 l1 true) else (laws_FnRowSets.j5 kj17 l1 (t142 != t144))) = some r := H
       have A72 := am_ A720
       clear A720
       have HC73 := am_ H
       clear H
       go_upto_region 27 with (first | (go_at_call 23; (with_reducible refine (spec_DrawSetWeight.calls kj17 _ _ l1 t135 t136 t137 _ ?side1 ?side2 A70.out).mono ?_); (case side1 => exact tc12_); (case side2 => exact HC1.out); rintro e w74 ⟨v138, v140, rfl, ho0, ho1, hb⟩; have n0_ := am_ (Kd.S_lower ho0 (below_size tc0_)); have n1_ := am_ (Kd.R_lower ho1 (below_size tc0_)); have n2_ := am_ (below_step tc0_ hb); clear HB; have HO139 := n0_; have HO141 := n1_; have HB := n2_; clear n0_ n1_ n2_; (try clear hb ho0 ho1); obtain ⟨Ao75, co75, eo75⟩ := Kd.S_slice HO139.out; subst eo75; obtain ⟨Ao76, co76, eo76⟩ := Kd.R_slice HO141.out; subst eo76) | (go_at_call 24; (with_reducible refine (impl_SetWeight.calls kj17 _ _ t135 _ _ t136 t137 t142 t143 _ ?side1 ?side2 ?side3 ?side4 A71.out).mono ?_); (case side1 => exact tc28_); (case side2 => exact (Kd.S_reads' HO139.out).2.1); (case side3 => exact tc29_); (case side4 => exact (Kd.R_reads' HO141.out).2.1); rintro e w77 ⟨rfl, hb⟩; have n0_ := am_ (Kd.S_below tc43_ hb); have n1_ := am_ (Kd.R_below tc44_ hb); have n2_ := am_ (below_step tc0_ hb); clear HO139 HO141 HB; have HO139 := n0_; have HO141 := n1_; have HB := n2_; clear n0_ n1_ n2_; (try clear hb hb2 hk hi)) | (go_at_call 25; (with_reducible refine (spec_SetWeight.calls kj17 _ _ t135 _ _ t136 t137 t144 t145 _ ?side1 ?side2 ?side3 ?side4 A72.out).mono ?_); (case side1 => exact tc28_); (case side2 => exact (Kd.S_reads' HO139.out).2.1); (case side3 => exact tc29_); (case side4 => exact (Kd.R_reads' HO141.out).2.1); rintro e w78 ⟨rfl, hb⟩; have n0_ := am_ (Kd.S_below tc43_ hb); have n1_ := am_ (Kd.R_below tc44_ hb); have n2_ := am_ (below_step tc0_ hb); clear HO139 HO141 HB; have HO139 := n0_; have HO141 := n1_; have HB := n2_; clear n0_ n1_ n2_; (try clear hb hb2 hk hi)))
       repeat (go_quiet (first | (go_at_call 23; (with_reducible refine (spec_DrawSetWeight.calls kj17 _ _ l1 t135 t136 t137 _ ?side1 ?side2 A70.out).mono ?_); (case side1 => exact tc12_); (case side2 => exact HC1.out); rintro e w74 ⟨v138, v140, rfl, ho0, ho1, hb⟩; have n0_ := am_ (Kd.S_lower ho0 (below_size tc0_)); have n1_ := am_ (Kd.R_lower ho1 (below_size tc0_)); have n2_ := am_ (below_step tc0_ hb); clear HB; have HO139 := n0_; have HO141 := n1_; have HB := n2_; clear n0_ n1_ n2_; (try clear hb ho0 ho1); obtain ⟨Ao75, co75, eo75⟩ := Kd.S_slice HO139.out; subst eo75; obtain ⟨Ao76, co76, eo76⟩ := Kd.R_slice HO141.out; subst eo76) | (go_at_call 24; (with_reducible refine (impl_SetWeight.calls kj17 _ _ t135 _ _ t136 t137 t142 t143 _ ?side1 ?side2 ?side3 ?side4 A71.out).mono ?_); (case side1 => exact tc28_); (case side2 => exact (Kd.S_reads' HO139.out).2.1); (case side3 => exact tc29_); (case side4 => exact (Kd.R_reads' HO141.out).2.1); rintro e w77 ⟨rfl, hb⟩; have n0_ := am_ (Kd.S_below tc43_ hb); have n1_ := am_ (Kd.R_below tc44_ hb); have n2_ := am_ (below_step tc0_ hb); clear HO139 HO141 HB; have HO139 := n0_; have HO141 := n1_; have HB := n2_; clear n0_ n1_ n2_; (try clear hb hb2 hk hi)) | (go_at_call 25; (with_reducible refine (spec_SetWeight.calls kj17 _ _ t135 _ _ t136 t137 t144 t145 _ ?side1 ?side2 ?side3 ?side4 A72.out).mono ?_); (case side1 => exact tc28_); (case side2 => exact (Kd.S_reads' HO139.out).2.1); (case side3 => exact tc29_); (case side4 => exact (Kd.R_reads' HO141.out).2.1); rintro e w78 ⟨rfl, hb⟩; have n0_ := am_ (Kd.S_below tc43_ hb); have n1_ := am_ (Kd.R_below tc44_ hb); have n2_ := am_ (below_step tc0_ hb); clear HO139 HO141 HB; have HO139 := n0_; have HO141 := n1_; have HB := n2_; clear n0_ n1_ n2_; (try clear hb hb2 hk hi))); go_upto_region 27 with (first | (go_at_call 23; (with_reducible refine (spec_DrawSetWeight.calls kj17 _ _ l1 t135 t136 t137 _ ?side1 ?side2 A70.out).mono ?_); (case side1 => exact tc12_); (case side2 => exact HC1.out); rintro e w74 ⟨v138, v140, rfl, ho0, ho1, hb⟩; have n0_ := am_ (Kd.S_lower ho0 (below_size tc0_)); have n1_ := am_ (Kd.R_lower ho1 (below_size tc0_)); have n2_ := am_ (below_step tc0_ hb); clear HB; have HO139 := n0_; have HO141 := n1_; have HB := n2_; clear n0_ n1_ n2_; (try clear hb hb2 hk hi ho0 ho1); obtain ⟨Ao75, co75, eo75⟩ := Kd.S_slice HO139.out; subst eo75; obtain ⟨Ao76, co76, eo76⟩ := Kd.R_slice HO141.out; subst eo76) | (go_at_call 24; (with_reducible refine (impl_SetWeight.calls kj17 _ _ t135 _ _ t136 t137 t142 t143 _ ?side1 ?side2 ?side3 ?side4 A71.out).mono ?_); (case side1 => exact tc28_); (case side2 => exact (Kd.S_reads' HO139.out).2.1); (case side3 => exact tc29_); (case side4 => exact (Kd.R_reads' HO141.out).2.1); rintro e w77 ⟨rfl, hb⟩; have n0_ := am_ (Kd.S_below tc43_ hb); have n1_ := am_ (Kd.R_below tc44_ hb); have n2_ := am_ (below_step tc0_ hb); clear HO139 HO141 HB; have HO139 := n0_; have HO141 := n1_; have HB := n2_; clear n0_ n1_ n2_; (try clear hb hb2 hk hi)) | (go_at_call 25; (with_reducible refine (spec_SetWeight.calls kj17 _ _ t135 _ _ t136 t137 t144 t145 _ ?side1 ?side2 ?side3 ?side4 A72.out).mono ?_); (case side1 => exact tc28_); (case side2 => exact (Kd.S_reads' HO139.out).2.1); (case side3 => exact tc29_); (case side4 => exact (Kd.R_reads' HO141.out).2.1); rintro e w78 ⟨rfl, hb⟩; have n0_ := am_ (Kd.S_below tc43_ hb); have n1_ := am_ (Kd.R_below tc44_ hb); have n2_ := am_ (below_step tc0_ hb); clear HO139 HO141 HB; have HO139 := n0_; have HO141 := n1_; have HB := n2_; clear n0_ n1_ n2_; (try clear hb hb2 hk hi))))
       (try simp only [Act.put, List.setIfInBounds_toArray, List.set_cons_zero, List.set_cons_succ])
       go_cut [183] (fun v183 wc => ∃ (kq : Nat) (x183_72 : Bool), v183 = .bool x183_72 ∧ Aside0 (laws_FnRowSets.j5 kq l1 x183_72 = some r) ∧ Aside0 (kq ≤ kj17) ∧ Aside0 (Below w.heap.size w wc))
       case first => as_aux_lemma =>
        have H := HC73.out
        clear HC73
        by_cases c79 : (t143 != t145) = true
        ·rw [if_pos c79] at H
         exact (laws_FnRowSets.j5_dead _ _ (H.trans (congrArg some HR_.out))).elim
        ·rw [if_neg c79] at H
         have c79b0 : (t143 != t145) = false := by simpa using c79
         (try (have c79b1 : decide (t143 = t145) = true := by simpa using c79))
         (try (have c79b2 : (t143 == t145) = true := by simpa using c79))
         clear c79
         (first | rw [c79b0] | (simp only [i64_w, i32_w]; rw [c79b0]) | skip)
         have H' := am_ H
         clear H
         go_wp2
         repeat (go_quiet (fail); try go_wp2)
         (try subst hji35)
         (try subst hji43)
         go_meet
         case rel => exact ⟨_, ((t142 != t144)), tc6_, H', ⟨by have := HJ7.out; have := HJ17.out; first | omega | exact Nat.le_refl _⟩, ⟨by repeat (first | (with_reducible first | exact HB.out | apply below_alloc | apply pw_below_drewN | apply below_drew1) | exact HB.out)⟩⟩
       case rest => as_aux_lemma =>
        clear HC73
        try clear c1
        try clear p1
        try clear q1
        try clear hx1
        try clear c2
        try clear p2
        try clear c3
        try clear c4
        try clear c5
        try clear c6
        try clear p6
        try clear c7
        try clear c11
        try clear p11
        try clear q11
        try clear hx11
        try clear c12
        try clear p12
        try clear q12
        try clear hx12
        try clear c13
        try clear c13b0
        try clear c13b1
        try clear c13b2
        try clear p13
        try clear q13
        try clear hx13
        try clear c17
        try clear c19
        try clear c21
        try clear c21b0
        try clear c22
        try clear c22b0
        try clear c23
        try clear c23b0
        try clear c24
        try clear c24b0
        try clear c24b1
        try clear c25
        try clear c25b0
        try clear c26
        try clear c26b0
        try clear c27
        try clear c27b0
        try clear c29
        try clear c29b0
        try clear c31
        try clear c31b0
        try clear c32
        try clear c32b0
        try clear c33
        try clear c33b0
        try clear c34
        try clear c34b0
        try clear c36
        try clear c36b0
        try clear c37
        try clear c37b0
        try clear c38
        try clear c38b0
        try clear c40
        try clear c40b0
        try clear c41
        try clear c41b0
        try clear c42
        try clear c42b0
        try clear c44
        try clear c44b0
        try clear c45
        try clear c45b0
        try clear c46
        try clear c46b0
        try clear c48
        try clear c48b0
        try clear c49
        try clear c49b0
        try clear c50
        try clear c51
        try clear c51b0
        try clear c53
        try clear c53b0
        try clear c54
        try clear c54b0
        try clear c56
        try clear c56b0
        try clear c57
        try clear c57b0
        try clear c58
        try clear c58b0
        try clear c59
        try clear c59b0
        try clear c60
        try clear c60b0
        try clear c60b1
        try clear c61
        try clear c62
        try clear c62b0
        try clear c62b1
        try clear c63
        try clear c64
        try clear c64b0
        try clear c64b1
        try clear p64
        try clear c65
        try clear c65b0
        try clear c66
        try clear c66b0
        try clear c67
        try clear c67b0
        try clear c68
        try clear c68b0
        try clear c69
        try clear c69b0
        try clear c69b1
        try clear c79
        try clear c79b0
        try clear c79b1
        try clear c79b2
        try clear hx114_0
        try clear hx115_0
        try clear hx116_0
        try clear hx117_0
        try clear hx118_0
        try clear hx119_0
        try clear hx120_0
        try clear hx121_0
        try clear hx122_0
        try clear hx123_0
        try clear hx124_0
        try clear hx125_0
        try clear hx127_0
        try clear hx128_0
        try clear hx129_0
        try clear hx130_0
        try clear hx131_0
        try clear hx132_0
        try clear hx133_0
        try clear hx134_0
        try clear p1
        try clear p11
        try clear p114
        try clear p115
        try clear p116
        try clear p117
        try clear p118
        try clear p119
        try clear p12
        try clear p120
        try clear p121
        try clear p122
        try clear p123
        try clear p124
        try clear p125
        try clear p127
        try clear p128
        try clear p129
        try clear p13
        try clear p130
        try clear p131
        try clear p132
        try clear p133
        try clear p134
        try clear p2
        try clear p6
        try clear p64
        try clear q1
        try clear q11
        try clear q114
        try clear q115
        try clear q116
        try clear q117
        try clear q118
        try clear q119
        try clear q12
        try clear q120
        try clear q121
        try clear q122
        try clear q123
        try clear q124
        try clear q125
        try clear q127
        try clear q128
        try clear q129
        try clear q13
        try clear q130
        try clear q131
        try clear q132
        try clear q133
        try clear q134
        obtain ⟨kq, x183_72, rfl, HA, HJ72, HB⟩ := hcut
        cases kq with
        | zero => exact absurd HA.out (by simp [laws_FnRowSets.j5])
        | succ kj72 =>
         have H := HA.out
         clear HA
         simp only [laws_FnRowSets.j5] at H
         by_cases c80 : x183_72 = true
         ·subst c80
          exact absurd ((show (some false : Option Bool) = some r from (by rw [if_pos rfl] at H; exact H)).trans (congrArg some HR_.out)) (by simp)
         ·replace c80 := Bool.eq_false_iff.mpr c80
          subst c80
          have H1 : ((spec_DrawSetSum.f kj72 l1).bind fun bt146 => ((impl_SetSum.f kj72 bt146.1 bt146.2).bind fun bt150 => ((spec_SetSum.f kj72 bt146.1 bt146.2).bind fun bt152 => (if (bt150.2 != bt152.2) = true then (laws_FnRowSets.j6 kj72 bt146.1 bt146.2 bt150.1 bt150.2 true) else (laws_FnRowSets.j6 kj72 bt146.1 bt146.2 bt150.1 bt150.2 (bt150.1 != bt152.1)))))) = some r := by rw [if_neg (show ¬ (false = true) by decide)] at H; exact H
          clear H
          have H := H1
          clear H1
          replace H := Option.bind_eq_some_iff.mp H
          obtain ⟨⟨t146, t147⟩, A810, H⟩ := H
          replace H : ((impl_SetSum.f kj72 t146 t147).bind fun bt150 => ((spec_SetSum.f kj72 t146 t147).bind fun bt152 => (if (bt150.2 != bt152.2) = true then (laws_FnRowSets.j6 kj72 t146 t147 bt150.1 bt150.2 true) else (laws_FnRowSets.j6 kj72 t146 t147 bt150.1 bt150.2 (bt150.1 != bt152.1))))) = some r := H
          have A81 := am_ A810
          clear A810
          replace H := Option.bind_eq_some_iff.mp H
          obtain ⟨⟨t150, t151⟩, A820, H⟩ := H
          replace H : ((spec_SetSum.f kj72 t146 t147).bind fun bt152 => (if (t151 != bt152.2) = true then (laws_FnRowSets.j6 kj72 t146 t147 t150 t151 true) else (laws_FnRowSets.j6 kj72 t146 t147 t150 t151 (t150 != bt152.1)))) = some r := H
          have A82 := am_ A820
          clear A820
          replace H := Option.bind_eq_some_iff.mp H
          obtain ⟨⟨t152, t153⟩, A830, H⟩ := H
          replace H : (if (t151 != t153) = true then (laws_FnRowSets.j6 kj72 t146 t147 t150 t151 true) else (laws_FnRowSets.j6 kj72 t146 t147 t150 t151 (t150 != t152))) = some r := H
          have A83 := am_ A830
          clear A830
          have HC84 := am_ H
          clear H
          go_upto_region 32 with (first | (go_at_call 26; (with_reducible refine (spec_DrawSetSum.calls kj72 _ _ l1 t146 t147 _ ?side1 ?side2 A81.out).mono ?_); (case side1 => exact tc12_); (case side2 => exact HC1.out); rintro e w85 ⟨v148, rfl, ho0, hb⟩; have n0_ := am_ (Kd.R_lower ho0 (below_size tc0_)); have n1_ := am_ (below_step tc0_ hb); clear HB; have HO149 := n0_; have HB := n1_; clear n0_ n1_; (try clear hb ho0); obtain ⟨Ao86, co86, eo86⟩ := Kd.R_slice HO149.out; subst eo86) | (go_at_call 27; (with_reducible refine (impl_SetSum.calls kj72 _ _ t146 t147 t150 t151 _ ?side1 ?side2 A82.out).mono ?_); (case side1 => exact tc30_); (case side2 => exact (Kd.R_reads' HO149.out).2.1); rintro e w87 ⟨rfl, hb⟩; have n0_ := am_ (Kd.R_below tc45_ hb); have n1_ := am_ (below_step tc0_ hb); clear HO149 HB; have HO149 := n0_; have HB := n1_; clear n0_ n1_; (try clear hb hb2 hk hi)) | (go_at_call 28; (with_reducible refine (spec_SetSum.calls kj72 _ _ t146 t147 t152 t153 _ ?side1 ?side2 A83.out).mono ?_); (case side1 => exact tc30_); (case side2 => exact (Kd.R_reads' HO149.out).2.1); rintro e w88 ⟨rfl, hb⟩; have n0_ := am_ (Kd.R_below tc45_ hb); have n1_ := am_ (below_step tc0_ hb); clear HO149 HB; have HO149 := n0_; have HB := n1_; clear n0_ n1_; (try clear hb hb2 hk hi)))
          repeat (go_quiet (first | (go_at_call 26; (with_reducible refine (spec_DrawSetSum.calls kj72 _ _ l1 t146 t147 _ ?side1 ?side2 A81.out).mono ?_); (case side1 => exact tc12_); (case side2 => exact HC1.out); rintro e w85 ⟨v148, rfl, ho0, hb⟩; have n0_ := am_ (Kd.R_lower ho0 (below_size tc0_)); have n1_ := am_ (below_step tc0_ hb); clear HB; have HO149 := n0_; have HB := n1_; clear n0_ n1_; (try clear hb ho0); obtain ⟨Ao86, co86, eo86⟩ := Kd.R_slice HO149.out; subst eo86) | (go_at_call 27; (with_reducible refine (impl_SetSum.calls kj72 _ _ t146 t147 t150 t151 _ ?side1 ?side2 A82.out).mono ?_); (case side1 => exact tc30_); (case side2 => exact (Kd.R_reads' HO149.out).2.1); rintro e w87 ⟨rfl, hb⟩; have n0_ := am_ (Kd.R_below tc45_ hb); have n1_ := am_ (below_step tc0_ hb); clear HO149 HB; have HO149 := n0_; have HB := n1_; clear n0_ n1_; (try clear hb hb2 hk hi)) | (go_at_call 28; (with_reducible refine (spec_SetSum.calls kj72 _ _ t146 t147 t152 t153 _ ?side1 ?side2 A83.out).mono ?_); (case side1 => exact tc30_); (case side2 => exact (Kd.R_reads' HO149.out).2.1); rintro e w88 ⟨rfl, hb⟩; have n0_ := am_ (Kd.R_below tc45_ hb); have n1_ := am_ (below_step tc0_ hb); clear HO149 HB; have HO149 := n0_; have HB := n1_; clear n0_ n1_; (try clear hb hb2 hk hi))); go_upto_region 32 with (first | (go_at_call 26; (with_reducible refine (spec_DrawSetSum.calls kj72 _ _ l1 t146 t147 _ ?side1 ?side2 A81.out).mono ?_); (case side1 => exact tc12_); (case side2 => exact HC1.out); rintro e w85 ⟨v148, rfl, ho0, hb⟩; have n0_ := am_ (Kd.R_lower ho0 (below_size tc0_)); have n1_ := am_ (below_step tc0_ hb); clear HB; have HO149 := n0_; have HB := n1_; clear n0_ n1_; (try clear hb hb2 hk hi ho0); obtain ⟨Ao86, co86, eo86⟩ := Kd.R_slice HO149.out; subst eo86) | (go_at_call 27; (with_reducible refine (impl_SetSum.calls kj72 _ _ t146 t147 t150 t151 _ ?side1 ?side2 A82.out).mono ?_); (case side1 => exact tc30_); (case side2 => exact (Kd.R_reads' HO149.out).2.1); rintro e w87 ⟨rfl, hb⟩; have n0_ := am_ (Kd.R_below tc45_ hb); have n1_ := am_ (below_step tc0_ hb); clear HO149 HB; have HO149 := n0_; have HB := n1_; clear n0_ n1_; (try clear hb hb2 hk hi)) | (go_at_call 28; (with_reducible refine (spec_SetSum.calls kj72 _ _ t146 t147 t152 t153 _ ?side1 ?side2 A83.out).mono ?_); (case side1 => exact tc30_); (case side2 => exact (Kd.R_reads' HO149.out).2.1); rintro e w88 ⟨rfl, hb⟩; have n0_ := am_ (Kd.R_below tc45_ hb); have n1_ := am_ (below_step tc0_ hb); clear HO149 HB; have HO149 := n0_; have HB := n1_; clear n0_ n1_; (try clear hb hb2 hk hi))))
          (try simp only [Act.put, List.setIfInBounds_toArray, List.set_cons_zero, List.set_cons_succ])
          go_cut [208] (fun v208 wc => ∃ (kq : Nat) (x208_83 : Bool), v208 = .bool x208_83 ∧ Aside0 (laws_FnRowSets.j6 kq t146 t147 t150 t151 x208_83 = some r) ∧ Aside0 (kq ≤ kj72) ∧ Aside0 (Kd.R (Kd.int .i64) 3 wc w.heap.size (fun _ => True) (.slice Ao86 t146.length co86) t146) ∧ Aside0 (Below w.heap.size w wc))
          case first => as_aux_lemma =>
           have H := HC84.out
           clear HC84
           by_cases c89 : (t151 != t153) = true
           ·rw [if_pos c89] at H
            exact (laws_FnRowSets.j6_dead _ _ _ _ _ (H.trans (congrArg some HR_.out))).elim
           ·rw [if_neg c89] at H
            have c89b0 : (t151 != t153) = false := by simpa using c89
            (try (have c89b1 : decide (t151 = t153) = true := by simpa using c89))
            (try (have c89b2 : (t151 == t153) = true := by simpa using c89))
            clear c89
            (first | rw [c89b0] | (simp only [i64_w, i32_w]; rw [c89b0]) | skip)
            have H' := am_ H
            clear H
            go_wp2
            repeat (go_quiet (fail); try go_wp2)
            (try subst hji35)
            (try subst hji43)
            go_meet
            case rel => exact ⟨_, ((t150 != t152)), tc6_, H', ⟨by have := HJ7.out; have := HJ17.out; have := HJ72.out; first | omega | exact Nat.le_refl _⟩, ⟨by (with_reducible repeat (first | apply Kd.R_alloc | apply Kd.R_drewN | apply Kd.R_drew)); exact HO149.out⟩, ⟨by repeat (first | (with_reducible first | exact HB.out | apply below_alloc | apply pw_below_drewN | apply below_drew1) | exact HB.out)⟩⟩
          case rest => as_aux_lemma =>
           clear HC84
           try clear c1
           try clear p1
           try clear q1
           try clear hx1
           try clear c2
           try clear p2
           try clear c3
           try clear c4
           try clear c5
           try clear c6
           try clear p6
           try clear c7
           try clear c8
           try clear c11
           try clear p11
           try clear q11
           try clear hx11
           try clear c12
           try clear p12
           try clear q12
           try clear hx12
           try clear c13
           try clear c13b0
           try clear c13b1
           try clear c13b2
           try clear p13
           try clear q13
           try clear hx13
           try clear c17
           try clear c19
           try clear c21
           try clear c21b0
           try clear c22
           try clear c22b0
           try clear c23
           try clear c23b0
           try clear c24
           try clear c24b0
           try clear c24b1
           try clear c25
           try clear c25b0
           try clear c26
           try clear c26b0
           try clear c27
           try clear c27b0
           try clear c29
           try clear c29b0
           try clear c31
           try clear c31b0
           try clear c32
           try clear c32b0
           try clear c33
           try clear c33b0
           try clear c34
           try clear c34b0
           try clear c36
           try clear c36b0
           try clear c37
           try clear c37b0
           try clear c38
           try clear c38b0
           try clear c40
           try clear c40b0
           try clear c41
           try clear c41b0
           try clear c42
           try clear c42b0
           try clear c44
           try clear c44b0
           try clear c45
           try clear c45b0
           try clear c46
           try clear c46b0
           try clear c48
           try clear c48b0
           try clear c49
           try clear c49b0
           try clear c50
           try clear c51
           try clear c51b0
           try clear c53
           try clear c53b0
           try clear c54
           try clear c54b0
           try clear c56
           try clear c56b0
           try clear c57
           try clear c57b0
           try clear c58
           try clear c58b0
           try clear c59
           try clear c59b0
           try clear c60
           try clear c60b0
           try clear c60b1
           try clear c61
           try clear c62
           try clear c62b0
           try clear c62b1
           try clear c63
           try clear c64
           try clear c64b0
           try clear c64b1
           try clear p64
           try clear c65
           try clear c65b0
           try clear c66
           try clear c66b0
           try clear c67
           try clear c67b0
           try clear c68
           try clear c68b0
           try clear c69
           try clear c69b0
           try clear c69b1
           try clear c79
           try clear c79b0
           try clear c79b1
           try clear c79b2
           try clear c80
           try clear c89
           try clear c89b0
           try clear c89b1
           try clear c89b2
           try clear hx114_0
           try clear hx115_0
           try clear hx116_0
           try clear hx117_0
           try clear hx118_0
           try clear hx119_0
           try clear hx120_0
           try clear hx121_0
           try clear hx122_0
           try clear hx123_0
           try clear hx124_0
           try clear hx125_0
           try clear hx127_0
           try clear hx128_0
           try clear hx129_0
           try clear hx130_0
           try clear hx131_0
           try clear hx132_0
           try clear hx133_0
           try clear hx134_0
           try clear p1
           try clear p11
           try clear p114
           try clear p115
           try clear p116
           try clear p117
           try clear p118
           try clear p119
           try clear p12
           try clear p120
           try clear p121
           try clear p122
           try clear p123
           try clear p124
           try clear p125
           try clear p127
           try clear p128
           try clear p129
           try clear p13
           try clear p130
           try clear p131
           try clear p132
           try clear p133
           try clear p134
           try clear p2
           try clear p6
           try clear p64
           try clear q1
           try clear q11
           try clear q114
           try clear q115
           try clear q116
           try clear q117
           try clear q118
           try clear q119
           try clear q12
           try clear q120
           try clear q121
           try clear q122
           try clear q123
           try clear q124
           try clear q125
           try clear q127
           try clear q128
           try clear q129
           try clear q13
           try clear q130
           try clear q131
           try clear q132
           try clear q133
           try clear q134
           obtain ⟨kq, x208_83, rfl, HA, HJ83, HO_22, HB⟩ := hcut
           cases kq with
           | zero => exact absurd HA.out (by simp [laws_FnRowSets.j6])
           | succ kj83 =>
            have H := HA.out
            clear HA
            simp only [laws_FnRowSets.j6] at H
            by_cases c90 : x208_83 = true
            ·subst c90
             exact absurd ((show (some false : Option Bool) = some r from (by rw [if_pos rfl] at H; exact H)).trans (congrArg some HR_.out)) (by simp)
            ·replace c90 := Bool.eq_false_iff.mpr c90
             subst c90
             have H1 : (if t151 = true then (laws_FnRowSets.l2 kj83 t146 t147 t150 1 (t146.length : Int) 0) else (some true)) = some r := by rw [if_neg (show ¬ (false = true) by decide)] at H; exact H
             clear H
             have H := H1
             clear H1
             by_cases c91 : t151 = true
             ·subst c91
              have H1 : (laws_FnRowSets.l2 kj83 t146 t147 t150 1 (t146.length : Int) 0) = some r := by rw [if_pos rfl] at H; exact H
              clear H
              have H := H1
              clear H1
              have H' := am_ H
              clear H
              go_wp2
              repeat (go_quiet (fail); try go_wp2)
              go_loopg [28, 213] kj83 (fun kq v28 v213 w' => ∃ (x28_5 : Int) (x213_5 : Int), v28 = .int .i64 x28_5 ∧ v213 = .int .i64 x213_5 ∧ Aside0 (laws_FnRowSets.l2 kq t146 t147 t150 x28_5 (t146.length : Int) x213_5 = some r) ∧ Aside0 (kq ≤ kj83) ∧ Aside0 (Kd.R (Kd.int .i64) 3 w' w.heap.size (fun _ => True) (.slice Ao86 t146.length co86) t146) ∧ Aside0 (Below w.heap.size w w'))
              case atStart => exact ⟨(1), (0), tc6_, tc6_, H', ⟨Nat.le_refl _⟩, ⟨by (with_reducible repeat (first | apply Kd.R_alloc | apply Kd.R_drewN | apply Kd.R_drew)); exact HO_22.out⟩, ⟨by repeat (first | (with_reducible first | exact HB.out | apply below_alloc | apply pw_below_drewN | apply below_drew1) | exact HB.out)⟩⟩
              case round => as_aux_lemma =>
               clear H'
               try clear c1
               try clear p1
               try clear q1
               try clear hx1
               try clear c2
               try clear p2
               try clear c3
               try clear c4
               try clear c5
               try clear c6
               try clear p6
               try clear c7
               try clear c8
               try clear c9
               try clear c11
               try clear p11
               try clear q11
               try clear hx11
               try clear c12
               try clear p12
               try clear q12
               try clear hx12
               try clear c13
               try clear c13b0
               try clear c13b1
               try clear c13b2
               try clear p13
               try clear q13
               try clear hx13
               try clear c17
               try clear c19
               try clear c21
               try clear c21b0
               try clear c22
               try clear c22b0
               try clear c23
               try clear c23b0
               try clear c24
               try clear c24b0
               try clear c24b1
               try clear c25
               try clear c25b0
               try clear c26
               try clear c26b0
               try clear c27
               try clear c27b0
               try clear c29
               try clear c29b0
               try clear c31
               try clear c31b0
               try clear c32
               try clear c32b0
               try clear c33
               try clear c33b0
               try clear c34
               try clear c34b0
               try clear c36
               try clear c36b0
               try clear c37
               try clear c37b0
               try clear c38
               try clear c38b0
               try clear c40
               try clear c40b0
               try clear c41
               try clear c41b0
               try clear c42
               try clear c42b0
               try clear c44
               try clear c44b0
               try clear c45
               try clear c45b0
               try clear c46
               try clear c46b0
               try clear c48
               try clear c48b0
               try clear c49
               try clear c49b0
               try clear c50
               try clear c51
               try clear c51b0
               try clear c53
               try clear c53b0
               try clear c54
               try clear c54b0
               try clear c56
               try clear c56b0
               try clear c57
               try clear c57b0
               try clear c58
               try clear c58b0
               try clear c59
               try clear c59b0
               try clear c60
               try clear c60b0
               try clear c60b1
               try clear c61
               try clear c62
               try clear c62b0
               try clear c62b1
               try clear c63
               try clear c64
               try clear c64b0
               try clear c64b1
               try clear p64
               try clear c65
               try clear c65b0
               try clear c66
               try clear c66b0
               try clear c67
               try clear c67b0
               try clear c68
               try clear c68b0
               try clear c69
               try clear c69b0
               try clear c69b1
               try clear c79
               try clear c79b0
               try clear c79b1
               try clear c79b2
               try clear c80
               try clear c89
               try clear c89b0
               try clear c89b1
               try clear c89b2
               try clear c90
               try clear c91
               try clear hx114_0
               try clear hx115_0
               try clear hx116_0
               try clear hx117_0
               try clear hx118_0
               try clear hx119_0
               try clear hx120_0
               try clear hx121_0
               try clear hx122_0
               try clear hx123_0
               try clear hx124_0
               try clear hx125_0
               try clear hx127_0
               try clear hx128_0
               try clear hx129_0
               try clear hx130_0
               try clear hx131_0
               try clear hx132_0
               try clear hx133_0
               try clear hx134_0
               try clear p1
               try clear p11
               try clear p114
               try clear p115
               try clear p116
               try clear p117
               try clear p118
               try clear p119
               try clear p12
               try clear p120
               try clear p121
               try clear p122
               try clear p123
               try clear p124
               try clear p125
               try clear p127
               try clear p128
               try clear p129
               try clear p13
               try clear p130
               try clear p131
               try clear p132
               try clear p133
               try clear p134
               try clear p2
               try clear p6
               try clear p64
               try clear q1
               try clear q11
               try clear q114
               try clear q115
               try clear q116
               try clear q117
               try clear q118
               try clear q119
               try clear q12
               try clear q120
               try clear q121
               try clear q122
               try clear q123
               try clear q124
               try clear q125
               try clear q127
               try clear q128
               try clear q129
               try clear q13
               try clear q130
               try clear q131
               try clear q132
               try clear q133
               try clear q134
               obtain ⟨x28_5, x213_5, rfl, rfl, HA, HK5, HO_22, HB⟩ := hrel
               cases gk with
               | zero => exact absurd HA.out (by simp [laws_FnRowSets.l2])
               | succ k5 =>
                have H := HA.out
                clear HA
                simp only [laws_FnRowSets.l2] at H
                by_cases c92 : x213_5 < (t146.length : Int)
                ·rw [if_pos c92] at H
                 have c92b0 : decide (x213_5 < (t146.length : Int)) = true := decide_eq_true c92
                 clear c92
                 have H' := am_ H
                 clear H
                 go_wp2
                 repeat (go_quiet (fail); try go_wp2)
                 go_loopg [28, 30] k5 (fun kq v28 v30 w' => ∃ (x28_6 : Int) (x30_6 : Int), v28 = .int .i64 x28_6 ∧ v30 = .int .i64 x30_6 ∧ Aside0 (laws_FnRowSets.l3 kq t146 t147 t150 x28_6 x213_5 x30_6 (t146.length : Int) x213_5 = some r) ∧ Aside0 (kq ≤ k5) ∧ Aside0 (Kd.R (Kd.int .i64) 3 w' w.heap.size (fun _ => True) (.slice Ao86 t146.length co86) t146) ∧ Aside0 (Below w.heap.size w w'))
                 case atStart => exact ⟨(x28_5), (wrap64 (x213_5 + 1)), tc6_, tc6_, H', ⟨Nat.le_refl _⟩, ⟨by (with_reducible repeat (first | apply Kd.R_alloc | apply Kd.R_drewN | apply Kd.R_drew)); exact HO_22.out⟩, ⟨by repeat (first | (with_reducible first | exact HB.out | apply below_alloc | apply pw_below_drewN | apply below_drew1) | exact HB.out)⟩⟩
                 case round => as_aux_lemma =>
                  clear H'
                  try clear c1
                  try clear p1
                  try clear q1
                  try clear hx1
                  try clear c2
                  try clear p2
                  try clear c3
                  try clear c4
                  try clear c5
                  try clear c6
                  try clear p6
                  try clear c7
                  try clear c8
                  try clear c9
                  try clear c11
                  try clear p11
                  try clear q11
                  try clear hx11
                  try clear c12
                  try clear p12
                  try clear q12
                  try clear hx12
                  try clear c13
                  try clear c13b0
                  try clear c13b1
                  try clear c13b2
                  try clear p13
                  try clear q13
                  try clear hx13
                  try clear c17
                  try clear c19
                  try clear c21
                  try clear c21b0
                  try clear c22
                  try clear c22b0
                  try clear c23
                  try clear c23b0
                  try clear c24
                  try clear c24b0
                  try clear c24b1
                  try clear c25
                  try clear c25b0
                  try clear c26
                  try clear c26b0
                  try clear c27
                  try clear c27b0
                  try clear c29
                  try clear c29b0
                  try clear c31
                  try clear c31b0
                  try clear c32
                  try clear c32b0
                  try clear c33
                  try clear c33b0
                  try clear c34
                  try clear c34b0
                  try clear c36
                  try clear c36b0
                  try clear c37
                  try clear c37b0
                  try clear c38
                  try clear c38b0
                  try clear c40
                  try clear c40b0
                  try clear c41
                  try clear c41b0
                  try clear c42
                  try clear c42b0
                  try clear c44
                  try clear c44b0
                  try clear c45
                  try clear c45b0
                  try clear c46
                  try clear c46b0
                  try clear c48
                  try clear c48b0
                  try clear c49
                  try clear c49b0
                  try clear c50
                  try clear c51
                  try clear c51b0
                  try clear c53
                  try clear c53b0
                  try clear c54
                  try clear c54b0
                  try clear c56
                  try clear c56b0
                  try clear c57
                  try clear c57b0
                  try clear c58
                  try clear c58b0
                  try clear c59
                  try clear c59b0
                  try clear c60
                  try clear c60b0
                  try clear c60b1
                  try clear c61
                  try clear c62
                  try clear c62b0
                  try clear c62b1
                  try clear c63
                  try clear c64
                  try clear c64b0
                  try clear c64b1
                  try clear p64
                  try clear c65
                  try clear c65b0
                  try clear c66
                  try clear c66b0
                  try clear c67
                  try clear c67b0
                  try clear c68
                  try clear c68b0
                  try clear c69
                  try clear c69b0
                  try clear c69b1
                  try clear c79
                  try clear c79b0
                  try clear c79b1
                  try clear c79b2
                  try clear c80
                  try clear c89
                  try clear c89b0
                  try clear c89b1
                  try clear c89b2
                  try clear c90
                  try clear c91
                  try clear c92
                  try clear c92b0
                  try clear hx114_0
                  try clear hx115_0
                  try clear hx116_0
                  try clear hx117_0
                  try clear hx118_0
                  try clear hx119_0
                  try clear hx120_0
                  try clear hx121_0
                  try clear hx122_0
                  try clear hx123_0
                  try clear hx124_0
                  try clear hx125_0
                  try clear hx127_0
                  try clear hx128_0
                  try clear hx129_0
                  try clear hx130_0
                  try clear hx131_0
                  try clear hx132_0
                  try clear hx133_0
                  try clear hx134_0
                  try clear p1
                  try clear p11
                  try clear p114
                  try clear p115
                  try clear p116
                  try clear p117
                  try clear p118
                  try clear p119
                  try clear p12
                  try clear p120
                  try clear p121
                  try clear p122
                  try clear p123
                  try clear p124
                  try clear p125
                  try clear p127
                  try clear p128
                  try clear p129
                  try clear p13
                  try clear p130
                  try clear p131
                  try clear p132
                  try clear p133
                  try clear p134
                  try clear p2
                  try clear p6
                  try clear p64
                  try clear q1
                  try clear q11
                  try clear q114
                  try clear q115
                  try clear q116
                  try clear q117
                  try clear q118
                  try clear q119
                  try clear q12
                  try clear q120
                  try clear q121
                  try clear q122
                  try clear q123
                  try clear q124
                  try clear q125
                  try clear q127
                  try clear q128
                  try clear q129
                  try clear q13
                  try clear q130
                  try clear q131
                  try clear q132
                  try clear q133
                  try clear q134
                  obtain ⟨x28_6, x30_6, rfl, rfl, HA, HK6, HO_22, HB⟩ := hrel
                  cases gk with
                  | zero => exact absurd HA.out (by simp [laws_FnRowSets.l3])
                  | succ k6 =>
                   have H := HA.out
                   clear HA
                   simp only [laws_FnRowSets.l3] at H
                   by_cases c93 : x30_6 < (t146.length : Int)
                   ·rw [if_pos c93] at H
                    have c93b0 : decide (x30_6 < (t146.length : Int)) = true := decide_eq_true c93
                    clear c93
                    by_cases c94 : 0 ≤ x213_5
                    ·rw [if_pos c94] at H
                     have c94b0 : decide (0 ≤ x213_5) = true := decide_eq_true c94
                     clear c94
                     by_cases c95 : x213_5 < (t146.length : Int)
                     ·rw [if_pos c95] at H
                      have c95b0 : decide (x213_5 < (t146.length : Int)) = true := decide_eq_true c95
                      clear c95
                      by_cases c96 : 0 ≤ x30_6
                      ·rw [if_pos c96] at H
                       have c96b0 : decide (0 ≤ x30_6) = true := decide_eq_true c96
                       clear c96
                       have H' := am_ H
                       clear H
                       have p154 : 0 ≤ (x213_5 : Int) := of_decide_eq_true tc1_
                       have q154 : x213_5 < (t146.length : Int) := of_decide_eq_true tc1_
                       obtain ⟨ad154, e154, hx154_0⟩ := Kd.at_int (Kd.R_reads' HO_22.out).2.2 x213_5 p154 q154
                       cases e154
                       replace p154 := eq_true p154
                       replace q154 := eq_true q154
                       have p155 : 0 ≤ (x30_6 : Int) := of_decide_eq_true tc1_
                       have q155 : x30_6 < (t146.length : Int) := of_decide_eq_true tc1_
                       obtain ⟨ad155, e155, hx155_0⟩ := Kd.at_int (Kd.R_reads' HO_22.out).2.2 x30_6 p155 q155
                       obtain rfl : ad154 = ad155 := (by injection e155)
                       replace p155 := eq_true p155
                       replace q155 := eq_true q155
                       go_wp2
                       repeat (go_quiet (fail); try go_wp2)
                       (try subst hji35)
                       (try subst hji43)
                       go_roundg k6
                       case measure => have := HJ7.out; have := HJ17.out; have := HJ72.out; have := HJ83.out; have := HK5.out; have := HK6.out; omega
                       case rel => exact ⟨(wrap64 (x28_6 * (wrap64 ((rd t146 x213_5) + (wrap64 (t147 * (rd t146 x30_6))))))), (wrap64 (x30_6 + 1)), tc6_, tc6_, H', ⟨by have := HJ7.out; have := HJ17.out; have := HJ72.out; have := HJ83.out; have := HK5.out; have := HK6.out; omega⟩, ⟨by (with_reducible repeat (first | apply Kd.R_alloc | apply Kd.R_drewN | apply Kd.R_drew)); exact HO_22.out⟩, ⟨by repeat (first | (with_reducible first | exact HB.out | apply below_alloc | apply pw_below_drewN | apply below_drew1) | exact HB.out)⟩⟩
                      ·rw [if_neg c96] at H
                       exact absurd H (by simp)
                     ·rw [if_neg c95] at H
                      exact absurd H (by simp)
                    ·rw [if_neg c94] at H
                     exact absurd H (by simp)
                   ·rw [if_neg c93] at H
                    have c93b0 : decide (x30_6 < (t146.length : Int)) = false := decide_eq_false c93
                    clear c93
                    have H' := am_ H
                    clear H
                    go_wp2
                    repeat (go_quiet (fail); try go_wp2)
                    (try subst hji35)
                    (try subst hji43)
                    go_roundg k6
                    case measure => have := HJ7.out; have := HJ17.out; have := HJ72.out; have := HJ83.out; have := HK5.out; have := HK6.out; omega
                    case rel => exact ⟨(x28_6), (wrap64 (x213_5 + 1)), tc6_, tc6_, H', ⟨by have := HJ7.out; have := HJ17.out; have := HJ72.out; have := HJ83.out; have := HK5.out; have := HK6.out; omega⟩, ⟨by (with_reducible repeat (first | apply Kd.R_alloc | apply Kd.R_drewN | apply Kd.R_drew)); exact HO_22.out⟩, ⟨by repeat (first | (with_reducible first | exact HB.out | apply below_alloc | apply pw_below_drewN | apply below_drew1) | exact HB.out)⟩⟩
                ·rw [if_neg c92] at H
                 have c92b0 : decide (x213_5 < (t146.length : Int)) = false := decide_eq_false c92
                 clear c92
                 obtain rfl := Option.some.inj H
                 go_wp2
                 repeat (go_quiet (fail); try go_wp2)
                 go_ret
                 exact ⟨by first | rfl | (simp [errW_none, errW_some] <;> rfl) | (simp [*, errW_none, errW_some] <;> rfl), by repeat (first | (with_reducible first | exact HB.out | apply below_alloc | apply pw_below_drewN | apply below_drew1) | exact HB.out)⟩
             ·replace c91 := Bool.eq_false_iff.mpr c91
              subst c91
              have H1 : (some true) = some r := by rw [if_neg (show ¬ (false = true) by decide)] at H; exact H
              clear H
              have H := H1
              clear H1
              obtain rfl := Option.some.inj H
              go_wp2
              repeat (go_quiet (fail); try go_wp2)
              go_ret
              exact ⟨by first | rfl | (simp [errW_none, errW_some] <;> rfl) | (simp [*, errW_none, errW_some] <;> rfl), by repeat (first | (with_reducible first | exact HB.out | apply below_alloc | apply pw_below_drewN | apply below_drew1) | exact HB.out)⟩

/-- THE ONE PURE STATEMENT of laws_FnRowSets: yours. -/

def laws_FnRowSets.Pure : Prop := ∀ (l0 : List Int) (l1 : List Int), l0.length ≤ maxLen → l0.length * 1 ≤ 140737488351232 → (∀ x ∈ l0, (Lit.int .u8 x).wf = true) → l1.length ≤ maxLen → l1.length * 1 ≤ 140737488351232 → (∀ x ∈ l1, (Lit.int .u8 x).wf = true) → ∃ k, laws_FnRowSets.f k l0 l1 = some true
theorem laws_FnRowSets.walk (P : laws_FnRowSets.Pure) (a0 : Option Addr) (len0 cap0 : Nat) (z0 : List Int) (a1 : Option Addr) (len1 cap1 : Nat) (z1 : List Int) (w : World) (w0 : (a0 = none ∧ len0 = 0 ∧ cap0 = 0 ∧ z0 = []) ∨ ∃ x, a0 = some x ∧ len0 ≤ cap0 ∧ cap0 ≤ maxLen ∧ z0.length = cap0 ∧ (∀ i, i < z0.length → w.cell? (x.add i) = some (.int .u8 (z0.getD i 0))) ∧ ∀ n ∈ z0, (Lit.int .u8 n).wf = true) (y0 : len0 * 1 ≤ 140737488351232) (w1 : (a1 = none ∧ len1 = 0 ∧ cap1 = 0 ∧ z1 = []) ∨ ∃ x, a1 = some x ∧ len1 ≤ cap1 ∧ cap1 ≤ maxLen ∧ z1.length = cap1 ∧ (∀ i, i < z1.length → w.cell? (x.add i) = some (.int .u8 (z1.getD i 0))) ∧ ∀ n ∈ z1, (Lit.int .u8 n).wf = true) (y1 : len1 * 1 ≤ 140737488351232) :
  Calls Try.prog 4 #[.slice a0 len0 cap0, .slice a1 len1 cap1] w fun e w' => e = .returned (.bool true) ∧ Below w.heap.size w w' := by
 obtain ⟨l0, rfl, hr0, hm0, hw0, hc0⟩ := ReadsInt.ofRowC w0
 obtain ⟨l1, rfl, hr1, hm1, hw1, hc1⟩ := ReadsInt.ofRowC w1
 obtain ⟨k, h⟩ := P l0 l1 hm0 y0 hw0 hm1 y1 hw1
 refine (laws_FnRowSets.calls k _ _ l0 _ _ l1 true w rfl (Kd.C_of_reads (d := (0 : Int)) (h1 := fun _ => rfl) hr0) hc0 (Kd.C_of_reads (d := (0 : Int)) (h1 := fun _ => rfl) hr1) hc1 h).mono ?_
 rintro e w' ⟨rfl, hd⟩
 exact ⟨rfl, hd⟩

end Go.Proofs.Ytkagefbncfkjnaa.X
